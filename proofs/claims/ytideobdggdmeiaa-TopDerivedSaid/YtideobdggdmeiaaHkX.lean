/- HKDF: Expand, Key. -/
import Derived.Test.YtideobdggdmeiaaHkE
namespace Go.Proofs.Ytideobdggdmeiaa
open Go.RowKit
set_option maxRecDepth 100000
set_option linter.unusedVariables false
set_option linter.unusedSimpArgs false
attribute [local go_sem] Oper.semAt_some
theorem Bs.headB {w : World} {ao : Option Addr} {m cap : Nat} {l : List UInt8} (h : Bs w (.slice ao m cap) l) (k : Nat) (hk : k ≤ l.length) : Bs w (.slice ao k cap) (l.take k) := by
  obtain ⟨ao', cap', hv, h1, h2, h3, h4⟩ := h.form
  injection hv with r1 r2 r3
  subst r1 r3
  have hl : (l.take k).length = k := by rw [List.length_take]; omega
  refine ⟨⟨ao, cap, by rw [hl], by rw [hl]; omega, h2, h3, ?_⟩⟩
  intro j hj
  rw [hl] at hj
  obtain ⟨b, off, hb, hc⟩ := h4 j (by omega)
  refine ⟨b, off, hb, ?_⟩
  rw [hc, List.getD_eq_getElem?_getD, List.getD_eq_getElem?_getD, List.getElem?_take_of_lt hj]
set_option maxHeartbeats 4000000 in
theorem expand_any (g : Bool) (w : World) (up ui : Value) (prk info : List UInt8) (hup : Bs w up prk) (hui : Bs w ui info) (hkl : prk.length ≤ 1000000) (hil : info.length ≤ 1000000) (n : Nat) (hn0 : 0 < n) (hn : n ≤ 255 * szN g) :
    Calls Try.prog 16 #[.pointer none, .int .u8 (algN g), up, ui, .int .i64 (n : Int)] w fun e w' => ∃ v J, e = .returned (.tuple #[v, .int .i64 0]) ∧ n ≤ (hkAll g prk info J).length ∧ OB w' v ((hkAll g prk info J).take n) ∧ (∀ x, fpv v x → w.heap.size ≤ x) ∧ Below w.heap.size w w' := by
  have HUP := Lib.hid hup
  have HUI := Lib.hid hui
  have HII := Lib.hid hui.inside
  have HKL := Lib.hid hkl
  have HIL := Lib.hid hil
  have HN := Lib.hid hn
  obtain ⟨ao, cap, rfl, hform⟩ := hui.form
  have hnb : n ≤ 16320 := by have := szN_le g; omega
  clear hup hui hkl hil hform hn
  refine callsIn_wide.1 (callsIn_of_wp_marks (n := 3) Try.func16 rfl trivial (wpIn_wide.2 ?_) rfl)
  simp only [Try.ntmps16, List.size_toArray, List.length_cons, List.length_nil, Nat.reduceAdd, Nat.reduceSub, Array.replicate_succ, Array.replicate_zero, List.push_toArray, List.append_toArray, List.nil_append, List.cons_append]
  go_wp2_with fail
  obtain ⟨bn, hbn⟩ : ∃ x, w.heap.size = x := ⟨_, rfl⟩
  have HBN : Hid (w.heap.size = bn) := hbn
  rw [hbn]
  obtain ⟨w1, hw1⟩ : ∃ y, w.alloc (.cells #[.int .i64 (n : Int)] 3) = y := ⟨_, rfl⟩
  have H1 : Hid (Below w.heap.size w w1 ∧ Blk w1 bn 3 #[.int .i64 (n : Int)]) := by
    rw [← hw1]
    exact Lib.hid ⟨(Below.refl _ w).alloc (Nat.le_refl _) _, Blk.at hbn.symm rfl⟩
  rw [hw1]
  clear hw1 hbn
  refine (may_any g n HN.out w1).mono ?_
  rintro e w2 ⟨rfl, hb2⟩
  have HB2 := Lib.hid hb2
  have H2 : Hid (Below w.heap.size w w2 ∧ Blk w2 bn 3 #[.int .i64 (n : Int)]) := Lib.hid ⟨H1.out.1.trans (hb2.mono H1.out.1.size), H1.out.2.below hb2 H1.out.2.lt⟩
  clear hb2 H1
  go_wp2_with fail
  refine (hnew_any g w2 up prk (HUP.out.grow H2.out.1) (by have := HKL.out; omega)).mono ?_
  rintro e w3 ⟨b, bi, bo, bf, rfl, p1, p2, p3, p4, p5, p6⟩
  have HM := Lib.hid p5
  have HB3 := Lib.hid p6
  have HP := Lib.hid (And.intro p1 (And.intro p2 (And.intro p3 p4)))
  have H3 : Hid (Below w.heap.size w w3 ∧ Blk w3 bn 3 #[.int .i64 (n : Int)]) := Lib.hid ⟨H2.out.1.trans (p6.mono H2.out.1.size), H2.out.2.below p6 H2.out.2.lt⟩
  have c9 : w3.cell? ⟨bn, 0, none⟩ = some (.int .i64 (n : Int)) := H3.out.2.cellAt 0 rfl
  have t1 : ((n : Int) == 0) = false := by rw [beq_eq_false_iff_ne]; omega
  clear p1 p2 p3 p4 p5 p6
  go_wp2_with fail
  clear c9 t1
  obtain ⟨ob, hob⟩ : ∃ x, w3.heap.size = x := ⟨_, rfl⟩
  have HOB : Hid (w3.heap.size = ob) := hob
  rw [hob]
  obtain ⟨w4, hw4⟩ : ∃ y, w3.alloc (.cells #[.slice none 0 0] 22) = y := ⟨_, rfl⟩
  have H4 : Hid (Below w3.heap.size w3 w4 ∧ Blk w4 ob 22 #[.slice none 0 0]) := by
    rw [← hw4]
    exact Lib.hid ⟨(Below.refl _ w3).alloc (Nat.le_refl _) _, Blk.at hob.symm rfl⟩
  rw [hw4]
  clear hw4 hob
  refine (blocks_any b ao info.length cap w4).mono ?_
  rintro e w5 ⟨bl, bm, bI, rfl, q1, q2, q3, q4, q5, q6, q7⟩
  obtain ⟨p, hpd⟩ : ∃ p : HF, p = { g := g, w0 := w, L1 := w5.heap.size, bm := bm, bl := bl, bI := bI, bn := bn, ob := ob, b := b, bo := bo, bf := bf, k := prk, info := info, ui := .slice ao info.length cap, n := n } := ⟨_, rfl⟩
  have HPD := Lib.hid hpd
  have HPK : Hid p.Ok := by
    have l3 := H3.out.1.size
    have l4 := H4.out.1.size
    have l5 := q7.size
    have k1 := q4.lt
    have k2 := q5.lt
    have k3 := q6.lt
    have k4 := H3.out.2.lt
    have k5 := H4.out.2.lt
    have k6 := HM.out.blk.lt
    have k7 := HM.out.out.lt
    have k8 := HM.out.fst.lt
    have k9 := HOB.out
    have k10 := HBN.out
    have k11 := HP.out
    have k12 := H2.out.2.lt
    have k13 := H2.out.1.size
    have k14 := H2.out.1.size
    subst hpd
    exact Lib.hid ⟨by dsimp only; omega, by dsimp only; omega, by dsimp only; omega, by dsimp only; omega, HII.out, HIL.out⟩
  have HC0 : Hid (HC p 0 (.slice none 0 0) w5) := by
    have B35 : Below w3.heap.size w3 w5 := H4.out.1.trans (q7.mono H4.out.1.size)
    have BB : Below w.heap.size w w5 := H3.out.1.trans (B35.mono H3.out.1.size)
    have k5 := H4.out.2.lt
    have k9 := HOB.out
    have hi := HM.out.inn.lt
    have hm := HM.out.below B35
    have hn3 := (H3.out.2.below B35 H3.out.2.lt)
    subst hpd
    exact Lib.hid ⟨⟨bi, _, .slice none 0 0, q4, q5, q6, hn3, HUI.out.grow BB, Bs.nil _, fun x hx => by simp [Value.ownBlock] at hx, hm, H4.out.2.below q7 k5, OB.nil _, fun x hx => by simp [fpv, Value.ownBlock] at hx, by dsimp only; omega, BB, Nat.le_refl _⟩, by dsimp only; omega⟩
  have HW5 : Hid (w5.heap.size = p.L1) := Lib.hid (by rw [hpd])
  have HNN : Hid (p.n = n ∧ p.g = g ∧ p.k = prk ∧ p.info = info ∧ p.w0 = w) := Lib.hid (by rw [hpd]; exact ⟨rfl, rfl, rfl, rfl, rfl⟩)
  have e1 : bm = p.bm := by rw [hpd]
  have e2 : bl = p.bl := by rw [hpd]
  have e3 : bI = p.bI := by rw [hpd]
  have e4 : ob = p.ob := by rw [hpd]
  have e5 : bn = p.bn := by rw [hpd]
  rw [e1, e2, e3, e4, e5]
  clear q1 q2 q3 q4 q5 q6 q7 e1 e2 e3 e4 e5 hpd H3 H4 H2 HM HB2 HB3 HP HUP HUI HII HKL HIL
  go_wp2_with fail
  have HL : Hid (p.w0.heap.size ≤ p.L1) := Lib.hid HPK.out.lt.2.2.2.2.2.2.2.2
  refine wpIn_wide.1 (wpIn_rangeFunc_fused (F := Fence.wide) (n := 3) (id := 0) (gf := 33) (lb := #[.pointer (some ⟨p.bm, 0, none⟩), .pointer (some ⟨p.bl, 0, none⟩), .pointer (some ⟨p.bI, 0, none⟩)]) rfl (by omega) rfl trivial (enters_of Try.func33 (by kernel_rfl) rfl)
    (HC p) (HY p) (HXx p) ?hC ?hY ?hX (.slice none 0 0) HC0.out ?hseq ?hround ?hstop)
  case hC =>
    rw [HW5.out]
    exact fun j v W W' row h hg hr => ⟨HS.own HL.out _ _ v W W' row h.1 hg hr, h.2⟩
  case hY =>
    rw [HW5.out]
    exact fun j v W W' row h hg hr => ⟨HS.own HL.out _ _ v W W' row h.1 hg hr, h.2⟩
  case hX =>
    rw [HW5.out]
    exact HXx.own HL.out
  case hseq =>
    intro l G Gx W hG hGx hy h0 hg0
    exact iter_any p HPK.out (by rw [HNN.out.1, HNN.out.2.1]; exact HN.out) w5 HW5.out (HXx p) l G Gx W hG hGx hy h0 hg0
  case hround =>
    intro l j v W K hK
    have HK := Lib.hid hK
    clear hK HC0
    have e : ∀ t0 : Array Value, (#[41].zip #[v]).foldl (fun t (x : Nat × Value) => t.setIfInBounds x.1 x.2) t0 = t0.setIfInBounds 41 v := fun t0 => by simp
    rw [e]
    simp only [List.setIfInBounds_toArray, List.set_cons_succ, List.set_cons_zero]
    clear e
    gi_wp2
    refine HK.out _ (fun W' hy => ?_)
    obtain ⟨⟨bi', s', ov, hx⟩, hjn⟩ := hy
    obtain ⟨oa, ocap, rfl⟩ := hx.row.any
    rw [hkAll_len] at hx
    have HX := Lib.hid hx
    have HJN := Lib.hid hjn
    obtain ⟨m, hm⟩ : ∃ m, szN p.g * j = m := ⟨_, rfl⟩
    rw [hm] at HX HJN
    have HM := Lib.hid hm
    obtain ⟨sz, hsz⟩ : ∃ sz, szN p.g = sz := ⟨_, rfl⟩
    have HSZ : Hid (szN p.g = sz) := hsz
    have hsz1 : 32 ≤ sz ∧ sz ≤ 64 := by rw [← hsz]; cases p.g <;> decide
    have hmn : m < n := by rw [← HNN.out.1]; exact HJN.out
    have c15 : W'.cell? ⟨p.ob, 0, none⟩ = some (.slice oa m ocap) := HX.out.ob.cellAt 0 rfl
    have c9 : W'.cell? ⟨p.bn, 0, none⟩ = some (.int .i64 (n : Int)) := by
      have h := HX.out.cn
      rw [HNN.out.1] at h
      exact h.cellAt 0 rfl
    have hown : W'.ownsRow 0 5 1 (.slice oa m ocap) m ((hkAll p.g p.k p.info j).map B) := by
      have h := HX.out.row
      unfold OB at h
      rw [hkAll_len, HM.out] at h
      exact h
    have hy : Sl W' 1 v sz ((hkT p.g p.k p.info (j + 1)).map B) := by
      have h := Sl.of_bytes HX.out.t
      rw [hkT_len, HSZ.out] at h
      exact h
    obtain ⟨i0, hi, hz0, hz1, hz2⟩ := info_parts info8
    have hbd1 : m + sz ≤ maxLen := by unfold maxLen; omega
    have hbd2 : (m + sz) * 1 ≤ 140737488355328 := by omega
    clear hx hjn hm hsz HK
    gi_wp2_with ((with_reducible change wpListIn _ _ _ _ _ (Oper.mk _ (Op.call { callee := .builtin .append, args := _, argTypes := _ }) _ _ _ _ :: _) _ _); refine wpListIn_append_sl rfl _ _ 22 rfl 5 i0 _ 1 1 Try.underlying22 hi hz0 hz1 hz2 rfl (by decide) (.slice oa m ocap) m ((hkAll p.g p.k p.info j).map B) rfl hown v sz ((hkT p.g p.k p.info (j + 1)).map B) rfl hy hbd1 hbd2 ?_)
    intro ov' W1 hown1 hgrow hat
    obtain ⟨q, hq⟩ : ∃ q, m + sz = q := ⟨_, rfl⟩
    have hr : OB W1 ov' (hkAll p.g p.k p.info (j + 1)) := by
      unfold OB
      rw [hkAll_len, Nat.mul_add, HSZ.out, ← HSZ.out, HM.out, HSZ.out, Nat.mul_one, hkAll, List.map_append]
      exact hown1
    obtain ⟨oa', ocap', rfl⟩ := hr.any
    have ho : Only (fpv (.slice oa m ocap)) W' W1 := (Only.refl _ W').grown hgrow (fun k hk => .inl hk)
    have hlq : (hkAll p.g p.k p.info (j + 1)).length = q := by rw [hkAll_len, Nat.mul_add, Nat.mul_one, HM.out, HSZ.out, hq]
    rw [hlq] at hr hat ⊢
    obtain ⟨hx2, hk2⟩ := HX.out.out HPK.out ho hr (fun x hx => by
      have hx' : (Value.slice oa' q ocap').ownBlock = some x := hx
      rcases hat with hat | hat
      · rw [hat] at hx'; exact .inl hx'
      · rw [hat] at hx'; injection hx' with hx'; exact .inr hx'.symm)
    have HX2 := Lib.hid hx2
    have HK2 := Lib.hid hk2
    have HQ : Hid (m + sz = q) := hq
    have c1 : W1.cell? ⟨p.ob, 0, none⟩ = some (.slice oa m ocap) := (HX.out.ob.only ho (fun hh => by have := (HX.out.ap _ hh).1; have := HPK.out.lt; omega)).cellAt 0 rfl
    have f1 := (HX.out.ob.only ho (fun hh => by have := (HX.out.ap _ hh).1; have := HPK.out.lt; omega)).unfrozen 0
    have d1 : (W1.setCell ⟨p.ob, 0, none⟩ (.slice oa' q ocap')).cell? ⟨p.ob, 0, none⟩ = some (.slice oa' q ocap') := HX2.out.ob.cellAt 0 rfl
    have d2 : (W1.setCell ⟨p.ob, 0, none⟩ (.slice oa' q ocap')).cell? ⟨p.bn, 0, none⟩ = some (.int .i64 (n : Int)) := by
      have h := HX2.out.cn
      rw [HNN.out.1] at h
      exact h.cellAt 0 rfl
    have HS1 := Lib.hid hsz1
    have HMN := Lib.hid hmn
    obtain ⟨nI, hnI⟩ : ∃ x : Int, (n : Int) = x := ⟨_, rfl⟩
    rw [hnI] at d2
    have HNI := Lib.hid hnI
    clear hnI hown1 hgrow hat hq hr ho hlq hx2 hk2 hown hy hi hz0 hz1 hz2 hbd1 hbd2 c15 c9 hsz1 hmn
    by_cases hge : n ≤ q
    · have t1 : decide (nI ≤ (q : Int)) = true := by rw [decide_eq_true_eq]; have := HNI.out; omega
      have HXX : Hid (HXx p (W1.setCell ⟨p.ob, 0, none⟩ (.slice oa' q ocap'))) := by
        refine Lib.hid ⟨j + 1, _, ?_, ?_, HX2.out.ob, HX2.out.row, HX2.out.cn, HX2.out.below⟩
        · rw [HNN.out.1, Nat.mul_add, HM.out, HSZ.out, Nat.mul_one, HQ.out]; exact hge
        · rw [HNN.out.1, Nat.mul_add, HM.out, HSZ.out, Nat.mul_one]; have := HS1.out; have := HMN.out; omega
      clear hge
      gi_wp2
      exact ⟨rfl, by rw [HW5.out]; exact HK2.out, HXX.out⟩
    · have t1 : decide (nI ≤ (q : Int)) = false := by rw [decide_eq_false_iff_not]; have := HNI.out; omega
      have HCC : Hid (HC p (j + 1) v (W1.setCell ⟨p.ob, 0, none⟩ (.slice oa' q ocap'))) := by
        refine Lib.hid ⟨⟨_, _, _, HX2.out⟩, ?_⟩
        rw [HNN.out.1, Nat.mul_add, HM.out, HSZ.out, Nat.mul_one, HQ.out]
        omega
      clear hge
      gi_wp2
      exact ⟨by rw [HW5.out]; exact HK2.out, HCC.out⟩
  case hstop =>
    intro D W hD hx hdf
    obtain ⟨J, ov, x1, x1', x2, x3, x4, x5⟩ := hx
    obtain ⟨oa, ocap, rfl⟩ := x3.any
    rw [HNN.out.1, HNN.out.2.1] at x1
    have hlen : (hkAll p.g p.k p.info J).length = szN g * J := by rw [hkAll_len, HNN.out.2.1]
    obtain ⟨L, hL⟩ : ∃ L, szN g * J = L := ⟨_, rfl⟩
    rw [hL] at x1 hlen
    rw [hlen] at x2 x3
    have HLEN := Lib.hid hlen
    have h0 : 0 < (hkAll p.g p.k p.info J).length := by rw [hlen]; omega
    obtain ⟨ga, gcap, hga⟩ := OB.form (v := .slice oa L ocap) x3 h0
    injection hga with r1 r2 r3
    subst r1
    have hcap : L ≤ ocap := by
      obtain ⟨_, _, hv, h1, _⟩ := x3.rd.form
      injection hv with _ _ h3
      rw [hlen] at h1
      omega
    have hnc : n ≤ ocap := by omega
    have c15 : W.cell? ⟨p.ob, 0, none⟩ = some (.slice (some ⟨ga, 0, none⟩) L ocap) := x2.cellAt 0 rfl
    rw [HNN.out.1] at x4
    have c9 : W.cell? ⟨p.bn, 0, none⟩ = some (.int .i64 (n : Int)) := x4.cellAt 0 rfl
    have hF : Bs W (.slice (some ⟨ga, 0, none⟩) n ocap) ((hkAll p.g p.k p.info J).take n) := x3.rd.headB n (by rw [hlen]; exact x1)
    have hy : Sl W 1 (.slice (some ⟨ga, 0, none⟩) n ocap) n (((hkAll p.g p.k p.info J).take n).map B) := by
      have h := Sl.of_bytes hF
      rw [show ((hkAll p.g p.k p.info J).take n).length = n from by rw [List.length_take, hlen]; omega] at h
      exact h
    have hown0 : W.ownsRow 0 5 1 (.slice none 0 0) 0 [] := World.ownsRow_nil W 0 _ 1
    obtain ⟨i0, hi, hz0, hz1, hz2⟩ := info_parts info8
    have hbd1 : 0 + n ≤ maxLen := by unfold maxLen; omega
    have hbd2 : (0 + n) * 1 ≤ 140737488355328 := by omega
    have X5 := Lib.hid x5
    have X1 := Lib.hid x1
    have HD := Lib.hid hdf
    have HD2 : Hid (p.L1 ≤ D) := by rw [← HW5.out]; exact Lib.hid hD
    clear x1 x1' x2 x3 x4 x5 hL hlen h0 r2 r3 hcap hF hdf hD HC0
    refine wpIn_wide.2 ?_
    go_wp2_with (at_builtin; refine wpList_append_sl _ rfl _ _ 22 rfl 5 i0 _ 1 1 Try.underlying22 hi hz0 hz1 hz2 rfl (by decide) (.slice none 0 0) 0 [] rfl hown0 (.slice (some ⟨ga, 0, none⟩) n ocap) n (((hkAll p.g p.k p.info J).take n).map B) rfl hy hbd1 hbd2 ?_)
    intro v' w6 hown hgrow hat
    have ho : Only (fun _ => False) W w6 := (Only.refl _ W).grown hgrow (fun k hk => by simp [Value.ownBlock] at hk)
    have hd6 : w6.heap[D]? = some (.deferred (some [])) := (ho.block D (Array.getElem?_eq_some_iff.1 HD.out).1 (fun h => h)).trans HD.out
    have hOB : OB w6 v' ((hkAll p.g p.k p.info J).take n) := by
      unfold OB
      rw [show ((hkAll p.g p.k p.info J).take n).length = n from by rw [List.length_take, HLEN.out]; have := X1.out; omega]
      simpa using hown
    obtain ⟨go, gn⟩ := grown_noC (B := 0) (grownBy_putObj' w6 D (.deferred none)) (fun r e => by cases e; exact ⟨Nat.zero_le _, _, hd6, rfl⟩)
    have HFIN : Hid (n ≤ (hkAll g prk info J).length ∧ OB (w6.putObj D (.deferred none)) v' ((hkAll g prk info J).take n) ∧ (∀ x, fpv v' x → w.heap.size ≤ x) ∧ Below w.heap.size w (w6.putObj D (.deferred none))) := by
      have e : hkAll p.g p.k p.info J = hkAll g prk info J := by rw [HNN.out.2.1, HNN.out.2.2.1, HNN.out.2.2.2.1]
      have b5 : Below w.heap.size w W := by have h := X5.out; rw [HNN.out.2.2.2.2] at h; exact h
      have hll : w.heap.size ≤ p.L1 := by have h := HL.out; rw [HNN.out.2.2.2.2] at h; exact h
      have hd2 := HD2.out
      refine Lib.hid ⟨?_, ?_, fun x hx => ?_, (b5.trans (ho.below0 (fun _ _ h => h) b5.size)).trans (go.below0 (fun x hx h => by injection h with h; omega) (Nat.le_trans b5.size ho.size))⟩
      · rw [← e, HLEN.out]; exact X1.out
      · rw [← e]; exact hOB.keepN go gn
      · have hx' : v'.ownBlock = some x := hx
        rcases hat with hat | hat
        · rw [hat] at hx'; simp [Value.ownBlock] at hx'
        · rw [hat] at hx'; injection hx' with hx'; have := b5.size; omega
    have HD6 := Lib.hid hd6
    clear hown hgrow hat ho hd6 hOB go gn hy hown0 hi hz0 hz1 hz2 hbd1 hbd2 c15 c9
    go_wp2
    refine ⟨by simp, .inl ⟨_, _, rfl, run_takeDeferred HD6.out, ?_⟩⟩
    exact ⟨_, results_tmp2 rfl _ _ _, v', J, rfl, HFIN.out⟩
theorem extract_any (g : Bool) (w : World) (us uk : Value) (salt key : List UInt8) (hs : Bs w us salt) (hk : Bs w uk key) (hsl : salt.length ≤ 1000000) (hkl : key.length ≤ 1000000) :
    Calls Try.prog 15 #[.pointer none, .int .u8 (algN g), us, uk] w (NewBytesE ((HA g).tag salt key) w) := by
  have H := Lib.hid (htag_any g w us uk salt key hs hk (by omega) (by omega))
  clear hs hk hsl hkl
  go_enter Try.func15, Try.ntmps15
  go_wp2_with fail
  refine H.out.mono ?_
  rintro e w1 ⟨v, rfl, q⟩
  have HN : Hid (NewBytesE ((HA g).tag salt key) w (.returned (.tuple #[v, .int .i64 0])) w1) := Lib.hid ⟨v, rfl, q⟩
  clear q
  go_wp2_with fail
  go_ret2
  exact HN.out
set_option maxHeartbeats 1000000 in
theorem hkey_any (g : Bool) (w : World) (uk us ui : Value) (key salt info : List UInt8) (huk : Bs w uk key) (hus : Bs w us salt) (hui : Bs w ui info) (hkl : key.length ≤ 1000000) (hsl : salt.length ≤ 1000000) (hil : info.length ≤ 1000000) (n : Nat) (hn0 : 0 < n) (hn : n ≤ 255 * szN g) :
    Calls Try.prog 9 #[.pointer none, .int .u8 (algN g), uk, us, ui, .int .i64 (n : Int)] w fun e w' => ∃ v J, e = .returned (.tuple #[v, .int .i64 0]) ∧ n ≤ (hkAll g ((HA g).tag salt key) info J).length ∧ OB w' v ((hkAll g ((HA g).tag salt key) info J).take n) ∧ (∀ x, fpv v x → w.heap.size ≤ x) ∧ Below w.heap.size w w' := by
  have HUK := Lib.hid huk
  have HUS := Lib.hid hus
  have HUI := Lib.hid hui
  have HL := Lib.hid (And.intro hkl (And.intro hsl hil))
  have HNN := Lib.hid (And.intro hn0 hn)
  clear huk hus hui hkl hsl hil hn0 hn
  go_enter Try.func9, Try.ntmps9
  go_wp2_with fail
  refine (may_any g n HNN.out.2 w).mono ?_
  rintro e w1 ⟨rfl, hb1⟩
  have HB1 := Lib.hid hb1
  clear hb1
  go_wp2_with fail
  refine (extract_any g w1 us uk salt key (HUS.out.grow HB1.out) (HUK.out.grow HB1.out) HL.out.2.1 HL.out.1).mono ?_
  rintro e w2 ⟨v2, rfl, q1, q2, q3⟩
  have HV2 := Lib.hid q1.rd
  have HB2 : Hid (Below w.heap.size w w2) := Lib.hid (HB1.out.trans (q2.mono HB1.out.size))
  clear q1 q2 q3
  go_wp2_with fail
  refine (expand_any g w2 v2 ui _ info HV2.out (HUI.out.grow HB2.out) (by rw [tag_len]; have := szN_le g; omega) HL.out.2.2 n HNN.out.1 HNN.out.2).mono ?_
  rintro e w3 ⟨v3, J, rfl, r1, r2, r3, r4⟩
  have HN : Hid (n ≤ (hkAll g ((HA g).tag salt key) info J).length ∧ OB w3 v3 ((hkAll g ((HA g).tag salt key) info J).take n) ∧ (∀ x, fpv v3 x → w.heap.size ≤ x) ∧ Below w.heap.size w w3) :=
    Lib.hid ⟨r1, r2, fun x hx => Nat.le_trans HB2.out.size (r3 x hx), HB2.out.trans (r4.mono HB2.out.size)⟩
  clear r1 r2 r3 r4
  go_wp2_with fail
  go_ret2
  exact ⟨v3, J, rfl, HN.out⟩
end Go.Proofs.Ytideobdggdmeiaa
