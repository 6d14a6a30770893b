/- The chapter 22's counts: what the program's small functions answer. -/
import Derived.Test.YtkidijjhedjifaaRows
import Derived.Deep.DeepCutAuto
import Derived.Deep.CutBlock
import Derived.Test.YtkidijjhedjifaaQB0
import Derived.Test.YtkidijjhedjifaaQB1
import Derived.Test.YtkidijjhedjifaaQB2
/- Join: the program's and the document's. Conditions: the two lists have at most 4000000 runs together; counts are int values. -/
namespace Go.Proofs.Ytkidijjhedjifaa
open Go.RowKit
set_option maxRecDepth 100000
set_option linter.unusedVariables false
set_option linter.unusedSimpArgs false
def joinS (out : List Rn) (r : Rn) : List Rn :=
  if r.c < 1 then out else match out.getLast? with
    | some x => if eqE2 x.k x.s r.k r.s = true then out.dropLast ++ [⟨x.k, x.s, sat x.c r.c⟩] else out ++ [r]
    | none => [r]
def joinL (a b : List Rn) : List Rn := (a ++ b).foldl joinS []
theorem joinS_off {out : List Rn} {r : Rn} (h : r.c < 1) : joinS out r = out := by unfold joinS; rw [if_pos h]
theorem joinS_nil {r : Rn} (h : ¬ r.c < 1) : joinS [] r = [r] := by unfold joinS; rw [if_neg h]; rfl
theorem joinS_same {out : List Rn} {x r : Rn} (h : ¬ r.c < 1) (he : eqE2 x.k x.s r.k r.s = true) : joinS (out ++ [x]) r = out ++ [⟨x.k, x.s, sat x.c r.c⟩] := by
  unfold joinS
  rw [if_neg h]
  simp [he]
theorem joinS_other {out : List Rn} {x r : Rn} (h : ¬ r.c < 1) (he : eqE2 x.k x.s r.k r.s = false) : joinS (out ++ [x]) r = out ++ [x] ++ [r] := by
  unfold joinS
  rw [if_neg h]
  simp [he]
/-- counts from 0 on, int values -/
def okJ (l : List Rn) : Prop := ∀ r ∈ l, 0 ≤ r.c ∧ r.c ≤ 9223372036854775807
theorem okJ.app {l : List Rn} {r : Rn} (h : okJ l) (h1 : 0 ≤ r.c) (h2 : r.c ≤ 9223372036854775807) : okJ (l ++ [r]) := fun x hx => by
  rcases List.mem_append.1 hx with hx | hx
  · exact h x hx
  · simp at hx; subst hx; exact ⟨h1, h2⟩
theorem okJ.init {l : List Rn} {r : Rn} (h : okJ (l ++ [r])) : okJ l := fun x hx => h x (List.mem_append_left _ hx)
theorem okJ.last {l : List Rn} {r : Rn} (h : okJ (l ++ [r])) : 0 ≤ r.c ∧ r.c ≤ 9223372036854775807 := h r (by simp)
/-- the last run's count is put anew -/
theorem Knd.Mk.last {w w1 : World} {g cap N : Nat} {l : List Rn} {x : Rn} (c : Int) (h : KN.Mk (l ++ [x]) w (.slice (some ⟨g, 0, none⟩) N cap) w1) {off : Nat} (hoff : off = l.length * 3 + 2) :
    KN.Mk (l ++ [⟨x.k, x.s, c⟩]) w (.slice (some ⟨g, 0, none⟩) N cap) (w1.setCells g off [.int .i64 c]) := by
  subst hoff
  obtain ⟨h1, h2, h3⟩ := h
  have hN : N = l.length + 1 := by
    rcases h1.2 with ⟨hv, _⟩ | ⟨g', cap', cur, hv, _⟩
    · simp at hv
    · injection hv with _ e _; simpa using e
  subst hN
  have hg : w.heap.size ≤ g := h3 g rfl
  have hw : Only (fpv (.slice (some ⟨g, 0, none⟩) (l.length + 1) cap)) w1 (w1.setCells g (l.length * 3 + 2) [.int .i64 c]) := Only.sets (S := fpv (.slice (some ⟨g, 0, none⟩) (l.length + 1) cap)) (.inl rfl) [.int .i64 c] (l.length * 3 + 2) w1 (Only.refl _ _)
  refine ⟨?_, h2.trans (hw.below0 (fun x hx hs => ?_) h2.size), h3⟩
  · unfold Knd.O at *
    rw [show (l ++ [x]).length = l.length + 1 from by simp] at h1
    rw [show (l ++ [(⟨x.k, x.s, c⟩ : Rn)]).length = l.length + 1 from by simp]
    have q := ownsRow_setCells [.int .i64 c] w1 (KN.fl (l ++ [x])) (l.length * 3 + 2) h1
    have e1 : KN.fl (l ++ [x]) = (KN.fl l ++ [.int .u8 x.k, .int .i64 x.s]) ++ [.int .i64 x.c] := by rw [KN.fl_app, KN.fl_one]; simp [KN]
    have e2 : KN.fl (l ++ [(⟨x.k, x.s, c⟩ : Rn)]) = (KN.fl l ++ [.int .u8 x.k, .int .i64 x.s]) ++ [.int .i64 c] := by rw [KN.fl_app, KN.fl_one]; simp [KN]
    have e3 : (KN.fl l ++ [Value.int .u8 x.k, .int .i64 x.s]).length = l.length * 3 + 2 := by rw [List.length_append, KN.fl_len]; rfl
    have e4 := putAt_app [.int .i64 c] (KN.fl l ++ [.int .u8 x.k, .int .i64 x.s]) [.int .i64 x.c] (by simp)
    have e5 : putAt ((KN.fl l ++ [.int .u8 x.k, .int .i64 x.s]) ++ [.int .i64 x.c]) (l.length * 3 + 2) [.int .i64 c] = (KN.fl l ++ [.int .u8 x.k, .int .i64 x.s]) ++ [.int .i64 c] := by rw [← e3, e4]; simp
    rw [e1, e5] at q
    rw [e2]
    exact q
  · have := h3 x hs
    omega
theorem joinS_len (out : List Rn) (r : Rn) : (joinS out r).length ≤ out.length + 1 := by
  unfold joinS
  split
  · omega
  · split
    · rename_i x hx
      have : out ≠ [] := by rintro rfl; simp at hx
      have hp := List.length_pos_iff.2 this
      split <;> simp <;> omega
    · simp
theorem fold_len : ∀ (l z : List Rn), (l.foldl joinS z).length ≤ z.length + l.length
  | [], z => by simp
  | x :: l, z => by
    have h1 := fold_len l (joinS z x)
    have h2 := joinS_len z x
    rw [List.foldl_cons, List.length_cons]
    omega
theorem joinS_ok {z : List Rn} {r : Rn} (h : okJ z) (hr : r.c ≤ 9223372036854775807) : okJ (joinS z r) := by
  by_cases hc : r.c < 1
  · rw [joinS_off hc]; exact h
  · rcases List.eq_nil_or_concat z with rfl | ⟨z0, x, rfl⟩
    · rw [joinS_nil hc]
      intro y hy
      simp at hy
      subst hy
      omega
    · rw [List.concat_eq_append] at *
      cases he : eqE2 x.k x.s r.k r.s with
      | true =>
        rw [joinS_same hc he]
        obtain ⟨h1, h2⟩ := h.last
        obtain ⟨h3, h4⟩ := sat_rng h1 (show 0 ≤ r.c by omega) hr
        exact h.init.app h3 h4
      | false =>
        rw [joinS_other hc he]
        exact h.app (by omega) hr
theorem fold_ok : ∀ (l z : List Rn), okC l → okJ z → okJ (l.foldl joinS z)
  | [], z, _, h => h
  | x :: l, z, hl, h => fold_ok l (joinS z x) (fun y hy => hl y (List.mem_cons_of_mem _ hy)) (joinS_ok h (hl x (by simp)).2)
theorem okC_take {l : List Rn} (h : okC l) (k : Nat) : okC (l.take k) := fun x hx => h x (List.mem_of_mem_take hx)
theorem okJ_nil : okJ [] := fun _ h => by cases h
/-- the outer loop's condition -/
def JInv (a b : List Rn) (w : World) (o i : Value) (w2 : World) : Prop := ∃ lo, ((i = .int .i64 0 ∧ lo = []) ∨ (i = .int .i64 1 ∧ lo = a.foldl joinS []) ∨ (i = .int .i64 2 ∧ lo = (a ++ b).foldl joinS [])) ∧ KN.Mk lo w o w2
theorem ix0 (ao bo : Option Addr) (n m c d : Nat) (w : World) : (Instr.index 80 (.agg #[.slice ao n c, .slice bo m d]) (.int .i64 0)).run Try.prog w = .ok (.slice ao n c) w := by kernel_rfl
theorem ix1 (ao bo : Option Addr) (n m c d : Nat) (w : World) : (Instr.index 80 (.agg #[.slice ao n c, .slice bo m d]) (.int .i64 1)).run Try.prog w = .ok (.slice bo m d) w := by kernel_rfl
set_option maxHeartbeats 4000000 in
theorem join_any (u v : Value) (a b : List Rn) (w : World) (hu : KN.R w u a) (hv : KN.R w v b) (ha : okC a) (hb : okC b) (hn : a.length + b.length ≤ 4000000) : Calls Try.prog 27 #[u, v] w (KN.New (joinL a b) w) := by
  have HU := Lib.hid hu
  have HV := Lib.hid hv
  have HA := Lib.hid ha
  have HB := Lib.hid hb
  obtain ⟨ao, acap, rfl, _, _, _⟩ := hu.any
  obtain ⟨bo, bcap, rfl, _, _, _⟩ := hv.any
  obtain ⟨i0, hi, hz0, hz1, hz2⟩ := info_parts infoN
  have HI := Lib.hid (And.intro hi (And.intro hz0 (And.intro hz1 hz2)))
  clear hu hv ha hb hi hz0 hz1 hz2
  go_enter Try.func27, Try.ntmps27
  go_wp2_with fail
  go_loopw [5, 14] (fun o i w2 => Hid (JInv a b w o i w2) ∧ (i = .int .i64 0 ∨ i = .int .i64 1 ∨ i = .int .i64 2)) (fun _ i _ => 2 - (intOf i).toNat)
  case atStart => exact ⟨Lib.hid ⟨[], .inl ⟨rfl, rfl⟩, Knd.Mk.nil KN w⟩, .inl rfl⟩
  case round =>
    obtain ⟨HJ, rfl | rfl | rfl⟩ := hrel
    · obtain ⟨z, hz⟩ : ∃ z : List Rn, z = [] := ⟨_, rfl⟩
      have HZ : Hid (KN.Mk z w u5 wr) := by
        obtain ⟨lo, h, hm⟩ := HJ.out
        rcases h with ⟨_, rfl⟩ | ⟨h, _⟩ | ⟨h, _⟩
        · rw [hz]; exact Lib.hid hm
        all_goals simp at h
      have HE : Hid (∀ o w2, KN.Mk (a.foldl joinS z) w o w2 → JInv a b w o (.int .i64 1) w2) := Lib.hid (fun o w2 h => ⟨_, .inr (.inl ⟨rfl, rfl⟩), by rw [← hz]; exact h⟩)
      have hzl : z.length + a.length ≤ 4000000 := by rw [hz]; simp; omega
      have HZO : Hid (okJ z) := by rw [hz]; exact Lib.hid okJ_nil
      clear hz HJ HV HB
      have hix := ix0 ao bo a.length b.length acap bcap
      go_wp2_with fail
      go_loopw [5, 19] (fun o i w2 => ∃ (j : Nat), j ≤ a.length ∧ i = .int .i64 (j : Int) ∧ Hid (KN.Mk ((a.take j).foldl joinS z) w o w2)) (fun _ i _ => a.length - (intOf i).toNat)
      case atStart => exact ⟨0, Nat.zero_le _, rfl, HZ⟩
      case round =>
        clear HZ
        obtain ⟨j, hj, rfl, HR⟩ := hrel
        by_cases hlt : j < a.length
        · obtain ⟨⟨rk, rsz, rc⟩, hx⟩ : ∃ x, a[j]? = some x := ⟨_, List.getElem?_eq_getElem hlt⟩
          obtain ⟨g, off, rfl, hg, d1, d2, d3⟩ := runCells HU.out HR.out.2.1 hx
          have hgr : g < wr.heap.size := Nat.lt_of_lt_of_le hg HR.out.2.1.size
          obtain ⟨r1, r2⟩ := HA.out _ (List.mem_of_getElem? hx)
          dsimp only at r1 r2
          have hs := fold_step joinS z hx
          obtain ⟨lo, hlo⟩ : ∃ lo, (a.take j).foldl joinS z = lo := ⟨_, rfl⟩
          have hll := fold_len (a.take j) z
          have hlk := fold_ok (a.take j) z (okC_take HA.out j) HZO.out
          rw [hlo] at hs hll hlk HR
          rw [List.length_take] at hll
          have HM : Hid (KN.Mk lo w u5 (wr.alloc (.cells #[.int .u8 rk, .int .i64 rsz, .int .i64 rc] 51))) := Lib.hid (HR.out.below ((Below.refl _ _).alloc (Nat.le_refl _) _))
          obtain ⟨L, hL⟩ : ∃ L, lo.length = L := ⟨_, rfl⟩
          have hLb : L ≤ 4000000 := by omega
          clear hx HR hlo hll
          have HL := Lib.hid hL
          by_cases hc : rc < 1
          · rw [joinS_off hc] at hs
            have HS : Hid (KN.Mk ((a.take (j + 1)).foldl joinS z) w u5 (wr.alloc (.cells #[.int .u8 rk, .int .i64 rsz, .int .i64 rc] 51))) := by rw [hs]; exact HM
            have hcb : decide (rc < 1) = true := by simpa using hc
            clear hs hlk HM hL HL
            go_wp2_with fail
            go_roundw
            case rel => exact ⟨j + 1, by omega, by go_num, HS⟩
            case measure => simp [intOf]; omega
          · have hcb : decide (rc < 1) = false := by simpa using hc
            rcases List.eq_nil_or_concat lo with rfl | ⟨l0, ⟨yk, ys, yc⟩, rfl⟩
            · obtain ⟨oo, ocap, hu5⟩ := HM.out.1.any
              rw [hL] at hu5
              subst hu5
              rw [joinS_nil hc] at hs
              have hL0 : L = 0 := by rw [← hL]; rfl
              have hLd : decide (0 < L) = false := by rw [hL0]; rfl
              have HS := Lib.hid hs
              clear hs hlk hL hL0
              go_wp2_with fail
              go_quiet (fail)
              obtain ⟨wq, hwq⟩ : ∃ wq, wq = (wr.alloc (.cells #[.int .u8 rk, .int .i64 rsz, .int .i64 rc] 51)).drewN nq := ⟨_, rfl⟩
              have HMq : Hid (KN.Mk ([]) w (.slice oo L ocap) wq) := by rw [hwq]; exact Lib.hid (HM.out.draw nq)
              have t0 : wq.cell? ⟨wr.heap.size, 0, none⟩ = some (.int .u8 rk) := by rw [hwq]; exact World.cell?_alloc_new wr _ _ 0
              have t1 : wq.cell? ⟨wr.heap.size, 1, none⟩ = some (.int .i64 rsz) := by rw [hwq]; exact World.cell?_alloc_new wr _ _ 1
              have t2 : wq.cell? ⟨wr.heap.size, 2, none⟩ = some (.int .i64 rc) := by rw [hwq]; exact World.cell?_alloc_new wr _ _ 2
              rw [← hwq]
              clear hwq HM
              have HOWN := HMq.out.alloc (.cells #[.int .u8 rk, .int .i64 rsz, .int .i64 rc] 51) (N := L) (by rw [HL.out])
              obtain ⟨hi, hz0, hz1, hz2⟩ := HI.out
              go_wp2_with (at_builtin; refine wpList_append_keep _ rfl _ _ 31 rfl 51 i0 _ 3 24 Try.underlying31 hi hz0 hz1 hz2 rfl (by decide) (.slice oo L ocap) L (KN.fl ([])) rfl HOWN ⟨wq.heap.size, 0, none⟩ 1 1 [.int .u8 rk, .int .i64 rsz, .int .i64 rc] rfl rfl (World.news_of_block (heap_alloc_new _ _)) (KN.one ⟨rk, rsz, rc⟩) (by unfold maxLen; omega) (by omega) (by decide) ?_)
              intro v' w2 hown hgrow hat hne
              have hat2 : v'.ownBlock = (Value.slice oo L ocap).ownBlock ∨ v'.ownBlock = some (wq.heap.size + 1) := by
                rcases hat with hat | hat
                · exact .inl hat
                · exact .inr (by simpa using hat.1)
              have HN : Hid (KN.Mk ((a.take (j + 1)).foldl joinS z) w v' w2) := by
                rw [HS.out]
                exact Lib.hid (HMq.out.more (by rw [HL.out]) rfl hown hgrow hat2)
              clear hown hgrow hat hne hat2 HOWN hi hz0 hz1 hz2 t0 t1 t2 HMq
              go_wp2
              go_roundw
              case rel => exact ⟨j + 1, by omega, by go_num, HN⟩
              case measure => simp [intOf]; omega
            · rw [List.concat_eq_append] at *
              obtain ⟨g2, ocap, hu5⟩ := HM.out.1.form (by simp)
              rw [hL] at hu5
              subst hu5
              obtain ⟨y1, y2⟩ := hlk.last
              dsimp only at y1 y2
              obtain ⟨n1, hn1⟩ : ∃ n1, l0.length = n1 := ⟨_, rfl⟩
              have hLn : L = n1 + 1 := by rw [← hL, ← hn1]; simp
              have hLd : decide (0 < L) = true := by rw [hLn]; simp
              have hn1l : n1 < L := by omega
              have hj1 : IntKind.i64.wrap ((L : Int) - 1) = (n1 : Int) := by rw [IntWalk.i64_in _ (by omega)]; omega
              have hget : (l0 ++ [(⟨yk, ys, yc⟩ : Rn)])[n1]? = some ⟨yk, ys, yc⟩ := by rw [← hn1]; simp
              have e1 : (wr.alloc (.cells #[.int .u8 rk, .int .i64 rsz, .int .i64 rc] 51)).cell? ⟨g2, n1 * 3, none⟩ = some (.int .u8 yk) := HM.out.1.get hget 0 _ rfl
              have e2 : (wr.alloc (.cells #[.int .u8 rk, .int .i64 rsz, .int .i64 rc] 51)).cell? ⟨g2, n1 * 3 + 1, none⟩ = some (.int .i64 ys) := HM.out.1.get hget 1 _ rfl
              have e3 : (wr.alloc (.cells #[.int .u8 rk, .int .i64 rsz, .int .i64 rc] 51)).cell? ⟨g2, n1 * 3 + 2, none⟩ = some (.int .i64 yc) := HM.out.1.get hget 2 _ rfl
              have FRZ := Lib.hid (HM.out.1.frozen (n1 * 3 + 2))
              have HN1 := Lib.hid hn1
              have hsat := sat_rng y1 (show 0 ≤ rc by omega) r2
              rcases eqcE yk ys rk rsz with ⟨b1, b2, he⟩ | ⟨b1, he⟩ | ⟨b1, b2, he⟩
              · rw [joinS_same hc he] at hs
                have HS := Lib.hid hs
                clear hs hlk hL hget hLn hn1
                go_wp2_with fail
                go_quiet (fail)
                obtain ⟨wq, hwq⟩ : ∃ wq, wq = (wr.alloc (.cells #[.int .u8 rk, .int .i64 rsz, .int .i64 rc] 51)).drewN nq := ⟨_, rfl⟩
                have HMq : Hid (KN.Mk (l0 ++ [⟨yk, ys, yc⟩]) w (.slice (some ⟨g2, 0, none⟩) L ocap) (wq.drewN 1)) := by rw [hwq]; exact Lib.hid ((HM.out.draw nq).draw 1)
                have T2 : ∀ w', w' = wq.drewN 1 → w'.cell? ⟨wr.heap.size, 2, none⟩ = some (.int .i64 rc) := by rintro _ rfl; rw [hwq]; exact World.cell?_alloc_new wr _ _ 2
                have E3 : ∀ w', w' = wq.drewN 1 → w'.cell? ⟨g2, n1 * 3 + 2, none⟩ = some (.int .i64 yc) := by rintro _ rfl; rw [hwq]; exact e3
                have F3 : ∀ w', w' = wq.drewN 1 → w'.frozen? ⟨g2, n1 * 3 + 2, none⟩ = false := by rintro _ rfl; rw [hwq]; exact FRZ.out
                rw [← hwq]
                clear hwq HM e1 e2 e3 FRZ
                go_wp2_with fail
                have c5 := E3 _ rfl
                have f5 := F3 _ rfl
                have c6 := T2 _ rfl
                clear T2 E3 F3
                refine hd_start (fun _ => True) (by kernel_rfl) ?_
                intro w5 hw'
                have hw2 : wq.drewN 1 = w5 := hw'.symm
                rw [hw2] at HMq c5 f5 c6
                clear hw' hw2
                refine hd_take (v := ?_) 0 rfl (by kernel_rfl) (fun _ _ d _ _ h => (by cases d <;> exact h)) (by kernel_rfl) trivial (fun w' hS => ?_) ?_
                rotate_left
                focus (clear hS; go_simp; try rfl; done)
                simp only [List.getElem_toArray, List.getElem_cons_succ, List.getElem_cons_zero, Act.put, List.setIfInBounds_toArray, List.set_cons_zero, List.set_cons_succ]
                refine hd_take (v := ?_) 1 rfl (by kernel_rfl) (fun _ _ d _ _ h => (by cases d <;> exact h)) (by kernel_rfl) trivial (fun w' hS => ?_) ?_
                rotate_left
                focus (clear hS; go_simp; try rfl; done)
                simp only [List.getElem_toArray, List.getElem_cons_succ, List.getElem_cons_zero, Act.put, List.setIfInBounds_toArray, List.set_cons_zero, List.set_cons_succ]
                refine hd_take (v := ?_) 2 rfl (by kernel_rfl) (fun _ _ d _ _ h => (by cases d <;> exact h)) (by kernel_rfl) trivial (fun w' hS => ?_) ?_
                rotate_left
                focus (clear hS; go_simp; try rfl; done)
                simp only [List.getElem_toArray, List.getElem_cons_succ, List.getElem_cons_zero, Act.put, List.setIfInBounds_toArray, List.set_cons_zero, List.set_cons_succ]
                refine hd_take (v := ?_) 3 rfl (by kernel_rfl) (fun _ _ d _ _ h => (by cases d <;> exact h)) (by kernel_rfl) trivial (fun w' hS => ?_) ?_
                rotate_left
                focus (clear hS; go_simp; try rfl; done)
                simp only [List.getElem_toArray, List.getElem_cons_succ, List.getElem_cons_zero, Act.put, List.setIfInBounds_toArray, List.set_cons_zero, List.set_cons_succ]
                refine hd_take (v := ?_) 4 rfl (by kernel_rfl) (fun _ _ d _ _ h => (by cases d <;> exact h)) (by kernel_rfl) trivial (fun w' hS => ?_) ?_
                rotate_left
                focus (clear hS; go_simp; try rfl; done)
                simp only [List.getElem_toArray, List.getElem_cons_succ, List.getElem_cons_zero, Act.put, List.setIfInBounds_toArray, List.set_cons_zero, List.set_cons_succ]
                refine hd_take (v := ?_) 5 rfl (by kernel_rfl) (fun _ _ d _ _ h => (by cases d <;> exact h)) (by kernel_rfl) trivial (fun w' hS => ?_) ?_
                rotate_left
                focus (clear hS; go_simp; try rfl; done)
                simp only [List.getElem_toArray, List.getElem_cons_succ, List.getElem_cons_zero, Act.put, List.setIfInBounds_toArray, List.set_cons_zero, List.set_cons_succ]
                refine hd_take (v := ?_) 6 rfl (by kernel_rfl) (fun _ _ d _ _ h => (by cases d <;> exact h)) (by kernel_rfl) trivial (fun w' hS => ?_) ?_
                rotate_left
                focus (clear hS; go_simp; try rfl; done)
                simp only [List.getElem_toArray, List.getElem_cons_succ, List.getElem_cons_zero, Act.put, List.setIfInBounds_toArray, List.set_cons_zero, List.set_cons_succ]
                refine hd_take (v := ?_) 7 rfl (by kernel_rfl) (fun _ _ d _ _ h => (by cases d <;> exact h)) (by kernel_rfl) trivial (fun w' hS => ?_) ?_
                rotate_left
                focus (clear hS; go_simp; try rfl; done)
                simp only [List.getElem_toArray, List.getElem_cons_succ, List.getElem_cons_zero, Act.put, List.setIfInBounds_toArray, List.set_cons_zero, List.set_cons_succ]
                refine hd_take (v := ?_) 9 rfl (by kernel_rfl) (fun _ _ d _ _ h => (by cases d <;> exact h)) (by kernel_rfl) trivial (fun w' hS => ?_) ?_
                rotate_left
                focus (clear hS; go_simp; try rfl; done)
                simp only [List.getElem_toArray, List.getElem_cons_succ, List.getElem_cons_zero, Act.put, List.setIfInBounds_toArray, List.set_cons_zero, List.set_cons_succ]
                refine hd_two 8 10 (by kernel_rfl) ?_ ?_
                refine op_run rfl (by kernel_rfl) (by go_simp; first | done | exact ⟨rfl, rfl⟩ | rfl) ?_
                refine ⟨trivial, ?_⟩
                simp only [List.getElem_toArray, List.getElem_cons_succ, List.getElem_cons_zero, Act.put, List.setIfInBounds_toArray, List.set_cons_zero, List.set_cons_succ]
                refine hd_one 10 (by kernel_rfl) ?_
                refine op_run rfl (by kernel_rfl) (by go_simp; first | done | exact ⟨rfl, rfl⟩ | rfl) ?_
                refine ⟨trivial, ?_⟩
                simp only [List.getElem_toArray, List.getElem_cons_succ, List.getElem_cons_zero, Act.put, List.setIfInBounds_toArray, List.set_cons_zero, List.set_cons_succ]
                rotate_left
                refine op_run rfl (by kernel_rfl) (by go_simp; first | done | exact ⟨rfl, rfl⟩ | rfl) ?_
                refine ⟨trivial, ?_⟩
                simp only [List.getElem_toArray, List.getElem_cons_succ, List.getElem_cons_zero, Act.put, List.setIfInBounds_toArray, List.set_cons_zero, List.set_cons_succ]
                refine hd_one 8 (by kernel_rfl) ?_
                refine op_run rfl (by kernel_rfl) (by go_simp; first | done | exact ⟨rfl, rfl⟩ | rfl) ?_
                refine ⟨trivial, ?_⟩
                simp only [List.getElem_toArray, List.getElem_cons_succ, List.getElem_cons_zero, Act.put, List.setIfInBounds_toArray, List.set_cons_zero, List.set_cons_succ]
                all_goals
                  refine hd_one 11 (by kernel_rfl) ?_
                  refine op_call rfl (by kernel_rfl) (by go_simp; first | exact ⟨rfl, rfl⟩ | rfl) ?_
                  refine (plus_any yc rc _ y1 y2 (by omega) r2).mono ?_
                  rintro e w6 ⟨rfl, hw⟩
                  subst hw
                  have hS2 := True.intro
                  refine ⟨_, rfl, hS2, ?_⟩
                  simp only [List.getElem_toArray, List.getElem_cons_succ, List.getElem_cons_zero, Act.put, List.setIfInBounds_toArray, List.set_cons_zero, List.set_cons_succ]
                  obtain ⟨sc, hsc⟩ : ∃ sc, sat yc rc = sc := ⟨_, rfl⟩
                  rw [hsc] at HS hsat
                  have HN : Hid (KN.Mk ((a.take (j + 1)).foldl joinS z) w (.slice (some ⟨g2, 0, none⟩) L ocap) (w5.setCells g2 (n1 * 3 + 2) [.int .i64 sc])) := by
                    rw [HS.out]
                    exact Lib.hid (Knd.Mk.last (x := ⟨yk, ys, yc⟩) sc HMq.out (by rw [HN1.out]))
                  rw [hsc]
                  clear hsc HMq
                  refine hd_take (v := ?_) 12 rfl (by kernel_rfl) (fun _ _ d _ _ h => (by cases d <;> exact h)) (by kernel_rfl) trivial (fun w' hS => ?_) ?_
                  rotate_left
                  focus (clear hS; go_simp; try rfl; done)
                  simp only [List.getElem_toArray, List.getElem_cons_succ, List.getElem_cons_zero, Act.put, List.setIfInBounds_toArray, List.set_cons_zero, List.set_cons_succ]
                  refine hd_take (v := ?_) 13 rfl (by kernel_rfl) (fun _ _ d _ _ h => (by cases d <;> exact h)) (by kernel_rfl) trivial (fun w' hS => ?_) ?_
                  rotate_left
                  focus (clear hS; go_simp; try rfl; done)
                  simp only [List.getElem_toArray, List.getElem_cons_succ, List.getElem_cons_zero, Act.put, List.setIfInBounds_toArray, List.set_cons_zero, List.set_cons_succ]
                  refine hd_one 14 (by kernel_rfl) ?_
                  refine op_skip rfl (by kernel_rfl) (by go_simp; first | done | rfl) ?_
                  refine ⟨trivial, ?_⟩
                  simp only [List.getElem_toArray, List.getElem_cons_succ, List.getElem_cons_zero, Act.put, List.setIfInBounds_toArray, List.set_cons_zero, List.set_cons_succ]
                  refine hd_done (by kernel_rfl) ?_
                  clear c5 f5 c6
                  go_wp2
                  go_roundw
                  case rel => exact ⟨j + 1, by omega, by go_num, HN⟩
                  case measure => simp [intOf]; omega
              all_goals
                rw [joinS_other hc he] at hs
                have HS := Lib.hid hs
                clear hs hlk hL hget hLn hn1 FRZ
                go_wp2_with fail
                go_quiet (fail)
                obtain ⟨wq, hwq⟩ : ∃ wq, wq = (wr.alloc (.cells #[.int .u8 rk, .int .i64 rsz, .int .i64 rc] 51)).drewN nq := ⟨_, rfl⟩
                have HMq : Hid (KN.Mk (l0 ++ [⟨yk, ys, yc⟩]) w (.slice (some ⟨g2, 0, none⟩) L ocap) wq) := by rw [hwq]; exact Lib.hid (HM.out.draw nq)
                have t0 : wq.cell? ⟨wr.heap.size, 0, none⟩ = some (.int .u8 rk) := by rw [hwq]; exact World.cell?_alloc_new wr _ _ 0
                have t1 : wq.cell? ⟨wr.heap.size, 1, none⟩ = some (.int .i64 rsz) := by rw [hwq]; exact World.cell?_alloc_new wr _ _ 1
                have t2 : wq.cell? ⟨wr.heap.size, 2, none⟩ = some (.int .i64 rc) := by rw [hwq]; exact World.cell?_alloc_new wr _ _ 2
                rw [← hwq]
                clear hwq HM
                clear e1 e2 e3
                have HOWN := HMq.out.alloc (.cells #[.int .u8 rk, .int .i64 rsz, .int .i64 rc] 51) (N := L) (by rw [HL.out])
                obtain ⟨hi, hz0, hz1, hz2⟩ := HI.out
                go_wp2_with (at_builtin; refine wpList_append_keep _ rfl _ _ 31 rfl 51 i0 _ 3 24 Try.underlying31 hi hz0 hz1 hz2 rfl (by decide) (.slice (some ⟨g2, 0, none⟩) L ocap) L (KN.fl (l0 ++ [(⟨yk, ys, yc⟩ : Rn)])) rfl HOWN ⟨wq.heap.size, 0, none⟩ 1 1 [.int .u8 rk, .int .i64 rsz, .int .i64 rc] rfl rfl (World.news_of_block (heap_alloc_new _ _)) (KN.one ⟨rk, rsz, rc⟩) (by unfold maxLen; omega) (by omega) (by decide) ?_)
                intro v' w2 hown hgrow hat hne
                have hat2 : v'.ownBlock = (Value.slice (some ⟨g2, 0, none⟩) L ocap).ownBlock ∨ v'.ownBlock = some (wq.heap.size + 1) := by
                  rcases hat with hat | hat
                  · exact .inl hat
                  · exact .inr (by simpa using hat.1)
                have HN : Hid (KN.Mk ((a.take (j + 1)).foldl joinS z) w v' w2) := by
                  rw [HS.out]
                  exact Lib.hid (HMq.out.more (by rw [HL.out]) rfl hown hgrow hat2)
                clear hown hgrow hat hne hat2 HOWN hi hz0 hz1 hz2 t0 t1 t2 HMq
                go_wp2
                go_roundw
                case rel => exact ⟨j + 1, by omega, by go_num, HN⟩
                case measure => simp [intOf]; omega
        · obtain rfl : j = a.length := by omega
          have HN := HE.out _ _ (by have h := HR.out; rw [List.take_length] at h; exact h)
          have HNN := Lib.hid HN
          clear HN HR
          go_wp2_with fail
          go_roundw
          case rel => exact ⟨HNN, by simp⟩
          case measure => simp [intOf]
    · obtain ⟨z, hz⟩ : ∃ z : List Rn, z = a.foldl joinS [] := ⟨_, rfl⟩
      have HZ : Hid (KN.Mk z w u5 wr) := by
        obtain ⟨lo, h, hm⟩ := HJ.out
        rcases h with ⟨h, _⟩ | ⟨_, rfl⟩ | ⟨h, _⟩
        · simp at h
        · rw [hz]; exact Lib.hid hm
        · simp at h
      have HE : Hid (∀ o w2, KN.Mk (b.foldl joinS z) w o w2 → JInv a b w o (.int .i64 2) w2) := Lib.hid (fun o w2 h => ⟨_, .inr (.inr ⟨rfl, rfl⟩), by rw [List.foldl_append, ← hz]; exact h⟩)
      have hzl : z.length + b.length ≤ 4000000 := by
        have h := fold_len a []
        rw [← hz] at h
        simp at h
        omega
      have HZO : Hid (okJ z) := by rw [hz]; exact Lib.hid (fold_ok a [] HA.out okJ_nil)
      clear hz HJ HU HA
      have hix := ix1 ao bo a.length b.length acap bcap
      go_wp2_with fail
      go_loopw [5, 19] (fun o i w2 => ∃ (j : Nat), j ≤ b.length ∧ i = .int .i64 (j : Int) ∧ Hid (KN.Mk ((b.take j).foldl joinS z) w o w2)) (fun _ i _ => b.length - (intOf i).toNat)
      case atStart => exact ⟨0, Nat.zero_le _, rfl, HZ⟩
      case round =>
        clear HZ
        obtain ⟨j, hj, rfl, HR⟩ := hrel
        by_cases hlt : j < b.length
        · obtain ⟨⟨rk, rsz, rc⟩, hx⟩ : ∃ x, b[j]? = some x := ⟨_, List.getElem?_eq_getElem hlt⟩
          obtain ⟨g, off, rfl, hg, d1, d2, d3⟩ := runCells HV.out HR.out.2.1 hx
          have hgr : g < wr.heap.size := Nat.lt_of_lt_of_le hg HR.out.2.1.size
          obtain ⟨r1, r2⟩ := HB.out _ (List.mem_of_getElem? hx)
          dsimp only at r1 r2
          have hs := fold_step joinS z hx
          obtain ⟨lo, hlo⟩ : ∃ lo, (b.take j).foldl joinS z = lo := ⟨_, rfl⟩
          have hll := fold_len (b.take j) z
          have hlk := fold_ok (b.take j) z (okC_take HB.out j) HZO.out
          rw [hlo] at hs hll hlk HR
          rw [List.length_take] at hll
          have HM : Hid (KN.Mk lo w u5 (wr.alloc (.cells #[.int .u8 rk, .int .i64 rsz, .int .i64 rc] 51))) := Lib.hid (HR.out.below ((Below.refl _ _).alloc (Nat.le_refl _) _))
          obtain ⟨L, hL⟩ : ∃ L, lo.length = L := ⟨_, rfl⟩
          have hLb : L ≤ 4000000 := by omega
          clear hx HR hlo hll
          have HL := Lib.hid hL
          by_cases hc : rc < 1
          · rw [joinS_off hc] at hs
            have HS : Hid (KN.Mk ((b.take (j + 1)).foldl joinS z) w u5 (wr.alloc (.cells #[.int .u8 rk, .int .i64 rsz, .int .i64 rc] 51))) := by rw [hs]; exact HM
            have hcb : decide (rc < 1) = true := by simpa using hc
            clear hs hlk HM hL HL
            go_wp2_with fail
            go_roundw
            case rel => exact ⟨j + 1, by omega, by go_num, HS⟩
            case measure => simp [intOf]; omega
          · have hcb : decide (rc < 1) = false := by simpa using hc
            rcases List.eq_nil_or_concat lo with rfl | ⟨l0, ⟨yk, ys, yc⟩, rfl⟩
            · obtain ⟨oo, ocap, hu5⟩ := HM.out.1.any
              rw [hL] at hu5
              subst hu5
              rw [joinS_nil hc] at hs
              have hL0 : L = 0 := by rw [← hL]; rfl
              have hLd : decide (0 < L) = false := by rw [hL0]; rfl
              have HS := Lib.hid hs
              clear hs hlk hL hL0
              go_wp2_with fail
              go_quiet (fail)
              obtain ⟨wq, hwq⟩ : ∃ wq, wq = (wr.alloc (.cells #[.int .u8 rk, .int .i64 rsz, .int .i64 rc] 51)).drewN nq := ⟨_, rfl⟩
              have HMq : Hid (KN.Mk ([]) w (.slice oo L ocap) wq) := by rw [hwq]; exact Lib.hid (HM.out.draw nq)
              have t0 : wq.cell? ⟨wr.heap.size, 0, none⟩ = some (.int .u8 rk) := by rw [hwq]; exact World.cell?_alloc_new wr _ _ 0
              have t1 : wq.cell? ⟨wr.heap.size, 1, none⟩ = some (.int .i64 rsz) := by rw [hwq]; exact World.cell?_alloc_new wr _ _ 1
              have t2 : wq.cell? ⟨wr.heap.size, 2, none⟩ = some (.int .i64 rc) := by rw [hwq]; exact World.cell?_alloc_new wr _ _ 2
              rw [← hwq]
              clear hwq HM
              have HOWN := HMq.out.alloc (.cells #[.int .u8 rk, .int .i64 rsz, .int .i64 rc] 51) (N := L) (by rw [HL.out])
              obtain ⟨hi, hz0, hz1, hz2⟩ := HI.out
              go_wp2_with (at_builtin; refine wpList_append_keep _ rfl _ _ 31 rfl 51 i0 _ 3 24 Try.underlying31 hi hz0 hz1 hz2 rfl (by decide) (.slice oo L ocap) L (KN.fl ([])) rfl HOWN ⟨wq.heap.size, 0, none⟩ 1 1 [.int .u8 rk, .int .i64 rsz, .int .i64 rc] rfl rfl (World.news_of_block (heap_alloc_new _ _)) (KN.one ⟨rk, rsz, rc⟩) (by unfold maxLen; omega) (by omega) (by decide) ?_)
              intro v' w2 hown hgrow hat hne
              have hat2 : v'.ownBlock = (Value.slice oo L ocap).ownBlock ∨ v'.ownBlock = some (wq.heap.size + 1) := by
                rcases hat with hat | hat
                · exact .inl hat
                · exact .inr (by simpa using hat.1)
              have HN : Hid (KN.Mk ((b.take (j + 1)).foldl joinS z) w v' w2) := by
                rw [HS.out]
                exact Lib.hid (HMq.out.more (by rw [HL.out]) rfl hown hgrow hat2)
              clear hown hgrow hat hne hat2 HOWN hi hz0 hz1 hz2 t0 t1 t2 HMq
              go_wp2
              go_roundw
              case rel => exact ⟨j + 1, by omega, by go_num, HN⟩
              case measure => simp [intOf]; omega
            · rw [List.concat_eq_append] at *
              obtain ⟨g2, ocap, hu5⟩ := HM.out.1.form (by simp)
              rw [hL] at hu5
              subst hu5
              obtain ⟨y1, y2⟩ := hlk.last
              dsimp only at y1 y2
              obtain ⟨n1, hn1⟩ : ∃ n1, l0.length = n1 := ⟨_, rfl⟩
              have hLn : L = n1 + 1 := by rw [← hL, ← hn1]; simp
              have hLd : decide (0 < L) = true := by rw [hLn]; simp
              have hn1l : n1 < L := by omega
              have hj1 : IntKind.i64.wrap ((L : Int) - 1) = (n1 : Int) := by rw [IntWalk.i64_in _ (by omega)]; omega
              have hget : (l0 ++ [(⟨yk, ys, yc⟩ : Rn)])[n1]? = some ⟨yk, ys, yc⟩ := by rw [← hn1]; simp
              have e1 : (wr.alloc (.cells #[.int .u8 rk, .int .i64 rsz, .int .i64 rc] 51)).cell? ⟨g2, n1 * 3, none⟩ = some (.int .u8 yk) := HM.out.1.get hget 0 _ rfl
              have e2 : (wr.alloc (.cells #[.int .u8 rk, .int .i64 rsz, .int .i64 rc] 51)).cell? ⟨g2, n1 * 3 + 1, none⟩ = some (.int .i64 ys) := HM.out.1.get hget 1 _ rfl
              have e3 : (wr.alloc (.cells #[.int .u8 rk, .int .i64 rsz, .int .i64 rc] 51)).cell? ⟨g2, n1 * 3 + 2, none⟩ = some (.int .i64 yc) := HM.out.1.get hget 2 _ rfl
              have FRZ := Lib.hid (HM.out.1.frozen (n1 * 3 + 2))
              have HN1 := Lib.hid hn1
              have hsat := sat_rng y1 (show 0 ≤ rc by omega) r2
              rcases eqcE yk ys rk rsz with ⟨b1, b2, he⟩ | ⟨b1, he⟩ | ⟨b1, b2, he⟩
              · rw [joinS_same hc he] at hs
                have HS := Lib.hid hs
                clear hs hlk hL hget hLn hn1
                go_wp2_with fail
                go_quiet (fail)
                obtain ⟨wq, hwq⟩ : ∃ wq, wq = (wr.alloc (.cells #[.int .u8 rk, .int .i64 rsz, .int .i64 rc] 51)).drewN nq := ⟨_, rfl⟩
                have HMq : Hid (KN.Mk (l0 ++ [⟨yk, ys, yc⟩]) w (.slice (some ⟨g2, 0, none⟩) L ocap) (wq.drewN 1)) := by rw [hwq]; exact Lib.hid ((HM.out.draw nq).draw 1)
                have T2 : ∀ w', w' = wq.drewN 1 → w'.cell? ⟨wr.heap.size, 2, none⟩ = some (.int .i64 rc) := by rintro _ rfl; rw [hwq]; exact World.cell?_alloc_new wr _ _ 2
                have E3 : ∀ w', w' = wq.drewN 1 → w'.cell? ⟨g2, n1 * 3 + 2, none⟩ = some (.int .i64 yc) := by rintro _ rfl; rw [hwq]; exact e3
                have F3 : ∀ w', w' = wq.drewN 1 → w'.frozen? ⟨g2, n1 * 3 + 2, none⟩ = false := by rintro _ rfl; rw [hwq]; exact FRZ.out
                rw [← hwq]
                clear hwq HM e1 e2 e3 FRZ
                go_wp2_with fail
                have c5 := E3 _ rfl
                have f5 := F3 _ rfl
                have c6 := T2 _ rfl
                clear T2 E3 F3
                refine hd_start (fun _ => True) (by kernel_rfl) ?_
                intro w5 hw'
                have hw2 : wq.drewN 1 = w5 := hw'.symm
                rw [hw2] at HMq c5 f5 c6
                clear hw' hw2
                refine hd_take (v := ?_) 0 rfl (by kernel_rfl) (fun _ _ d _ _ h => (by cases d <;> exact h)) (by kernel_rfl) trivial (fun w' hS => ?_) ?_
                rotate_left
                focus (clear hS; go_simp; try rfl; done)
                simp only [List.getElem_toArray, List.getElem_cons_succ, List.getElem_cons_zero, Act.put, List.setIfInBounds_toArray, List.set_cons_zero, List.set_cons_succ]
                refine hd_take (v := ?_) 1 rfl (by kernel_rfl) (fun _ _ d _ _ h => (by cases d <;> exact h)) (by kernel_rfl) trivial (fun w' hS => ?_) ?_
                rotate_left
                focus (clear hS; go_simp; try rfl; done)
                simp only [List.getElem_toArray, List.getElem_cons_succ, List.getElem_cons_zero, Act.put, List.setIfInBounds_toArray, List.set_cons_zero, List.set_cons_succ]
                refine hd_take (v := ?_) 2 rfl (by kernel_rfl) (fun _ _ d _ _ h => (by cases d <;> exact h)) (by kernel_rfl) trivial (fun w' hS => ?_) ?_
                rotate_left
                focus (clear hS; go_simp; try rfl; done)
                simp only [List.getElem_toArray, List.getElem_cons_succ, List.getElem_cons_zero, Act.put, List.setIfInBounds_toArray, List.set_cons_zero, List.set_cons_succ]
                refine hd_take (v := ?_) 3 rfl (by kernel_rfl) (fun _ _ d _ _ h => (by cases d <;> exact h)) (by kernel_rfl) trivial (fun w' hS => ?_) ?_
                rotate_left
                focus (clear hS; go_simp; try rfl; done)
                simp only [List.getElem_toArray, List.getElem_cons_succ, List.getElem_cons_zero, Act.put, List.setIfInBounds_toArray, List.set_cons_zero, List.set_cons_succ]
                refine hd_take (v := ?_) 4 rfl (by kernel_rfl) (fun _ _ d _ _ h => (by cases d <;> exact h)) (by kernel_rfl) trivial (fun w' hS => ?_) ?_
                rotate_left
                focus (clear hS; go_simp; try rfl; done)
                simp only [List.getElem_toArray, List.getElem_cons_succ, List.getElem_cons_zero, Act.put, List.setIfInBounds_toArray, List.set_cons_zero, List.set_cons_succ]
                refine hd_take (v := ?_) 5 rfl (by kernel_rfl) (fun _ _ d _ _ h => (by cases d <;> exact h)) (by kernel_rfl) trivial (fun w' hS => ?_) ?_
                rotate_left
                focus (clear hS; go_simp; try rfl; done)
                simp only [List.getElem_toArray, List.getElem_cons_succ, List.getElem_cons_zero, Act.put, List.setIfInBounds_toArray, List.set_cons_zero, List.set_cons_succ]
                refine hd_take (v := ?_) 6 rfl (by kernel_rfl) (fun _ _ d _ _ h => (by cases d <;> exact h)) (by kernel_rfl) trivial (fun w' hS => ?_) ?_
                rotate_left
                focus (clear hS; go_simp; try rfl; done)
                simp only [List.getElem_toArray, List.getElem_cons_succ, List.getElem_cons_zero, Act.put, List.setIfInBounds_toArray, List.set_cons_zero, List.set_cons_succ]
                refine hd_take (v := ?_) 7 rfl (by kernel_rfl) (fun _ _ d _ _ h => (by cases d <;> exact h)) (by kernel_rfl) trivial (fun w' hS => ?_) ?_
                rotate_left
                focus (clear hS; go_simp; try rfl; done)
                simp only [List.getElem_toArray, List.getElem_cons_succ, List.getElem_cons_zero, Act.put, List.setIfInBounds_toArray, List.set_cons_zero, List.set_cons_succ]
                refine hd_take (v := ?_) 9 rfl (by kernel_rfl) (fun _ _ d _ _ h => (by cases d <;> exact h)) (by kernel_rfl) trivial (fun w' hS => ?_) ?_
                rotate_left
                focus (clear hS; go_simp; try rfl; done)
                simp only [List.getElem_toArray, List.getElem_cons_succ, List.getElem_cons_zero, Act.put, List.setIfInBounds_toArray, List.set_cons_zero, List.set_cons_succ]
                refine hd_two 8 10 (by kernel_rfl) ?_ ?_
                refine op_run rfl (by kernel_rfl) (by go_simp; first | done | exact ⟨rfl, rfl⟩ | rfl) ?_
                refine ⟨trivial, ?_⟩
                simp only [List.getElem_toArray, List.getElem_cons_succ, List.getElem_cons_zero, Act.put, List.setIfInBounds_toArray, List.set_cons_zero, List.set_cons_succ]
                refine hd_one 10 (by kernel_rfl) ?_
                refine op_run rfl (by kernel_rfl) (by go_simp; first | done | exact ⟨rfl, rfl⟩ | rfl) ?_
                refine ⟨trivial, ?_⟩
                simp only [List.getElem_toArray, List.getElem_cons_succ, List.getElem_cons_zero, Act.put, List.setIfInBounds_toArray, List.set_cons_zero, List.set_cons_succ]
                rotate_left
                refine op_run rfl (by kernel_rfl) (by go_simp; first | done | exact ⟨rfl, rfl⟩ | rfl) ?_
                refine ⟨trivial, ?_⟩
                simp only [List.getElem_toArray, List.getElem_cons_succ, List.getElem_cons_zero, Act.put, List.setIfInBounds_toArray, List.set_cons_zero, List.set_cons_succ]
                refine hd_one 8 (by kernel_rfl) ?_
                refine op_run rfl (by kernel_rfl) (by go_simp; first | done | exact ⟨rfl, rfl⟩ | rfl) ?_
                refine ⟨trivial, ?_⟩
                simp only [List.getElem_toArray, List.getElem_cons_succ, List.getElem_cons_zero, Act.put, List.setIfInBounds_toArray, List.set_cons_zero, List.set_cons_succ]
                all_goals
                  refine hd_one 11 (by kernel_rfl) ?_
                  refine op_call rfl (by kernel_rfl) (by go_simp; first | exact ⟨rfl, rfl⟩ | rfl) ?_
                  refine (plus_any yc rc _ y1 y2 (by omega) r2).mono ?_
                  rintro e w6 ⟨rfl, hw⟩
                  subst hw
                  have hS2 := True.intro
                  refine ⟨_, rfl, hS2, ?_⟩
                  simp only [List.getElem_toArray, List.getElem_cons_succ, List.getElem_cons_zero, Act.put, List.setIfInBounds_toArray, List.set_cons_zero, List.set_cons_succ]
                  obtain ⟨sc, hsc⟩ : ∃ sc, sat yc rc = sc := ⟨_, rfl⟩
                  rw [hsc] at HS hsat
                  have HN : Hid (KN.Mk ((b.take (j + 1)).foldl joinS z) w (.slice (some ⟨g2, 0, none⟩) L ocap) (w5.setCells g2 (n1 * 3 + 2) [.int .i64 sc])) := by
                    rw [HS.out]
                    exact Lib.hid (Knd.Mk.last (x := ⟨yk, ys, yc⟩) sc HMq.out (by rw [HN1.out]))
                  rw [hsc]
                  clear hsc HMq
                  refine hd_take (v := ?_) 12 rfl (by kernel_rfl) (fun _ _ d _ _ h => (by cases d <;> exact h)) (by kernel_rfl) trivial (fun w' hS => ?_) ?_
                  rotate_left
                  focus (clear hS; go_simp; try rfl; done)
                  simp only [List.getElem_toArray, List.getElem_cons_succ, List.getElem_cons_zero, Act.put, List.setIfInBounds_toArray, List.set_cons_zero, List.set_cons_succ]
                  refine hd_take (v := ?_) 13 rfl (by kernel_rfl) (fun _ _ d _ _ h => (by cases d <;> exact h)) (by kernel_rfl) trivial (fun w' hS => ?_) ?_
                  rotate_left
                  focus (clear hS; go_simp; try rfl; done)
                  simp only [List.getElem_toArray, List.getElem_cons_succ, List.getElem_cons_zero, Act.put, List.setIfInBounds_toArray, List.set_cons_zero, List.set_cons_succ]
                  refine hd_one 14 (by kernel_rfl) ?_
                  refine op_skip rfl (by kernel_rfl) (by go_simp; first | done | rfl) ?_
                  refine ⟨trivial, ?_⟩
                  simp only [List.getElem_toArray, List.getElem_cons_succ, List.getElem_cons_zero, Act.put, List.setIfInBounds_toArray, List.set_cons_zero, List.set_cons_succ]
                  refine hd_done (by kernel_rfl) ?_
                  clear c5 f5 c6
                  go_wp2
                  go_roundw
                  case rel => exact ⟨j + 1, by omega, by go_num, HN⟩
                  case measure => simp [intOf]; omega
              all_goals
                rw [joinS_other hc he] at hs
                have HS := Lib.hid hs
                clear hs hlk hL hget hLn hn1 FRZ
                go_wp2_with fail
                go_quiet (fail)
                obtain ⟨wq, hwq⟩ : ∃ wq, wq = (wr.alloc (.cells #[.int .u8 rk, .int .i64 rsz, .int .i64 rc] 51)).drewN nq := ⟨_, rfl⟩
                have HMq : Hid (KN.Mk (l0 ++ [⟨yk, ys, yc⟩]) w (.slice (some ⟨g2, 0, none⟩) L ocap) wq) := by rw [hwq]; exact Lib.hid (HM.out.draw nq)
                have t0 : wq.cell? ⟨wr.heap.size, 0, none⟩ = some (.int .u8 rk) := by rw [hwq]; exact World.cell?_alloc_new wr _ _ 0
                have t1 : wq.cell? ⟨wr.heap.size, 1, none⟩ = some (.int .i64 rsz) := by rw [hwq]; exact World.cell?_alloc_new wr _ _ 1
                have t2 : wq.cell? ⟨wr.heap.size, 2, none⟩ = some (.int .i64 rc) := by rw [hwq]; exact World.cell?_alloc_new wr _ _ 2
                rw [← hwq]
                clear hwq HM
                clear e1 e2 e3
                have HOWN := HMq.out.alloc (.cells #[.int .u8 rk, .int .i64 rsz, .int .i64 rc] 51) (N := L) (by rw [HL.out])
                obtain ⟨hi, hz0, hz1, hz2⟩ := HI.out
                go_wp2_with (at_builtin; refine wpList_append_keep _ rfl _ _ 31 rfl 51 i0 _ 3 24 Try.underlying31 hi hz0 hz1 hz2 rfl (by decide) (.slice (some ⟨g2, 0, none⟩) L ocap) L (KN.fl (l0 ++ [(⟨yk, ys, yc⟩ : Rn)])) rfl HOWN ⟨wq.heap.size, 0, none⟩ 1 1 [.int .u8 rk, .int .i64 rsz, .int .i64 rc] rfl rfl (World.news_of_block (heap_alloc_new _ _)) (KN.one ⟨rk, rsz, rc⟩) (by unfold maxLen; omega) (by omega) (by decide) ?_)
                intro v' w2 hown hgrow hat hne
                have hat2 : v'.ownBlock = (Value.slice (some ⟨g2, 0, none⟩) L ocap).ownBlock ∨ v'.ownBlock = some (wq.heap.size + 1) := by
                  rcases hat with hat | hat
                  · exact .inl hat
                  · exact .inr (by simpa using hat.1)
                have HN : Hid (KN.Mk ((b.take (j + 1)).foldl joinS z) w v' w2) := by
                  rw [HS.out]
                  exact Lib.hid (HMq.out.more (by rw [HL.out]) rfl hown hgrow hat2)
                clear hown hgrow hat hne hat2 HOWN hi hz0 hz1 hz2 t0 t1 t2 HMq
                go_wp2
                go_roundw
                case rel => exact ⟨j + 1, by omega, by go_num, HN⟩
                case measure => simp [intOf]; omega
        · obtain rfl : j = b.length := by omega
          have HN := HE.out _ _ (by have h := HR.out; rw [List.take_length] at h; exact h)
          have HNN := Lib.hid HN
          clear HN HR
          go_wp2_with fail
          go_roundw
          case rel => exact ⟨HNN, by simp⟩
          case measure => simp [intOf]
    · obtain ⟨lo, h, hm⟩ := HJ.out
      have HN : Hid (KN.New (joinL a b) w (.returned u5) wr) := by
        rcases h with ⟨h, _⟩ | ⟨h, _⟩ | ⟨_, rfl⟩
        · simp at h
        · simp at h
        · exact Lib.hid hm.new
      clear hm h HJ
      go_wp2
      go_ret
      exact HN.out
end Go.Proofs.Ytkidijjhedjifaa
/- The plain law of LedgerMarks: what is noted from a mark on is what Since tells; joined with what was there it is all; counts of all kinds make the whole. No program in sight. -/
namespace Go.Proofs.Ytkidijjhedjifaa
open Go.RowKit
set_option maxRecDepth 100000
set_option linter.unusedVariables false
set_option linter.unusedSimpArgs false

/-- one note, so many times -/
def noteT (a : List Rn) (x : Rn) : List Rn := if x.c < 1 then a else noteL a x.k x.s x.c
def noteAll (a : List Rn) (l : List Rn) : List Rn := l.foldl noteT a
/-- runs as a ledger's may be: counts from 1 on, neighbours unlike -/
def Nrm : List Rn → Prop
  | [] => True
  | [r] => 1 ≤ r.c
  | r :: q :: rs => 1 ≤ r.c ∧ ¬ (r.k = q.k ∧ r.s = q.s) ∧ Nrm (q :: rs)
theorem Nrm.posi : ∀ {l : List Rn}, Nrm l → Posi l
  | [], _ => Posi.nil
  | [r], h => fun x hx => by simp at hx; subst hx; exact h
  | r :: q :: rs, h => fun x hx => by
    rcases List.mem_cons.1 hx with rfl | hx
    · exact h.1
    · exact Nrm.posi h.2.2 x hx
theorem Nrm.tail {r : Rn} {l : List Rn} (h : Nrm (r :: l)) : Nrm l := by
  cases l with
  | nil => trivial
  | cons q l => exact h.2.2
/-- behind one another -/
theorem Nrm.snoc : ∀ {l : List Rn} {r : Rn}, Nrm l → 1 ≤ r.c → (∀ x, l.getLast? = some x → ¬ (x.k = r.k ∧ x.s = r.s)) → Nrm (l ++ [r])
  | [], r, _, h1, _ => h1
  | [x], r, h, h1, h2 => ⟨h, h2 x rfl, h1⟩
  | x :: q :: l, r, h, h1, h2 => ⟨h.1, h.2.1, Nrm.snoc (l := q :: l) h.2.2 h1 (fun y hy => h2 y (by simpa using hy))⟩
theorem Nrm.count : ∀ {l : List Rn} {r : Rn} {c : Int}, Nrm (l ++ [r]) → 1 ≤ c → Nrm (l ++ [⟨r.k, r.s, c⟩])
  | [], _, _, _, h => h
  | [x], r, c, h, hc => ⟨h.1, h.2.1, hc⟩
  | x :: q :: l, r, c, h, hc => ⟨h.1, h.2.1, Nrm.count (l := q :: l) h.2.2 hc⟩
theorem Nrm.note {l : List Rn} (h : Nrm l) (k s n : Int) (hn : 1 ≤ n) : Nrm (noteL l k s n) := by
  rcases List.eq_nil_or_concat l with rfl | ⟨l0, r, rfl⟩
  · exact hn
  · rw [List.concat_eq_append] at h ⊢
    by_cases he : r.k = k ∧ r.s = s
    · obtain ⟨rfl, rfl⟩ := he
      rw [noteL_same]
      have := h.posi r (by simp)
      exact h.count (by omega)
    · rw [noteL_other _ _ _ _ _ he]
      refine h.snoc hn (fun x hx => ?_)
      simp at hx
      subst hx
      exact he
theorem Nrm.all : ∀ (l : List Rn) {a : List Rn}, Nrm a → Nrm (noteAll a l)
  | [], _, h => h
  | x :: l, a, h => by
    show Nrm (noteAll (noteT a x) l)
    refine Nrm.all l ?_
    unfold noteT
    split
    · exact h
    · exact h.note _ _ _ (by omega)
/-- runs noted behind others -/
def glue (a : List Rn) : List Rn → List Rn
  | [] => a
  | x :: r => noteL a x.k x.s x.c ++ r
theorem noteL_last (a : List Rn) (k s n : Int) : ∃ l c, noteL a k s n = l ++ [⟨k, s, c⟩] := by
  rcases List.eq_nil_or_concat a with rfl | ⟨l0, r, rfl⟩
  · exact ⟨[], n, rfl⟩
  · rw [List.concat_eq_append]
    by_cases he : r.k = k ∧ r.s = s
    · obtain ⟨rfl, rfl⟩ := he
      exact ⟨l0, _, noteL_same _ _ _⟩
    · exact ⟨_, n, noteL_other _ _ _ _ _ he⟩
theorem noteL_twice (a : List Rn) (k s n m : Int) : noteL (noteL a k s n) k s m = noteL a k s (n + m) := by
  rcases List.eq_nil_or_concat a with rfl | ⟨l0, r, rfl⟩
  · simp [noteL]
  · rw [List.concat_eq_append]
    by_cases he : r.k = k ∧ r.s = s
    · obtain ⟨rfl, rfl⟩ := he
      have h1 := noteL_same l0 ⟨r.k, r.s, r.c + n⟩ m
      simp only at h1
      rw [noteL_same l0 r n, h1, noteL_same l0 r (n + m), Int.add_assoc]
    · rw [noteL_other _ _ _ _ _ he, noteL_other _ _ _ _ _ he]
      have := noteL_same (l0 ++ [r]) ⟨k, s, n⟩ m
      exact this
theorem glue_note (a b : List Rn) (k s n : Int) : noteL (glue a b) k s n = glue a (noteL b k s n) := by
  rcases List.eq_nil_or_concat b with rfl | ⟨l0, r, rfl⟩
  · simp [glue, noteL_nil]
  · rw [List.concat_eq_append]
    cases l0 with
    | nil =>
      simp only [List.nil_append, glue, List.append_nil]
      by_cases he : r.k = k ∧ r.s = s
      · obtain ⟨rfl, rfl⟩ := he
        rw [noteL_twice, show noteL [r] r.k r.s n = [⟨r.k, r.s, r.c + n⟩] from noteL_same [] r n]
        simp [glue]
      · rw [show noteL [r] k s n = [r] ++ [⟨k, s, n⟩] from noteL_other [] r k s n he]
        obtain ⟨l, c, hl⟩ := noteL_last a r.k r.s r.c
        rw [hl, noteL_other l ⟨r.k, r.s, c⟩ k s n he]
        simp [glue, hl]
    | cons x l =>
      simp only [List.cons_append, glue]
      by_cases he : r.k = k ∧ r.s = s
      · obtain ⟨rfl, rfl⟩ := he
        rw [← List.append_assoc, noteL_same, ← List.cons_append, noteL_same]
        simp [glue]
      · rw [← List.append_assoc, noteL_other _ _ _ _ _ he, ← List.cons_append, noteL_other _ _ _ _ _ he]
        simp [glue]
theorem glue_all : ∀ (l a b : List Rn), noteAll (glue a b) l = glue a (noteAll b l)
  | [], _, _ => rfl
  | x :: l, a, b => by
    show noteAll (noteT (glue a b) x) l = glue a (noteAll (noteT b x) l)
    unfold noteT
    split
    · exact glue_all l a b
    · rw [glue_note]
      exact glue_all l a _
/-- from the mark on -/
theorem since_glue (a b : List Rn) (ha : Nrm a) (hb : Nrm b) : sinceL (glue a b) (tot a) = b := by
  cases b with
  | nil => exact since_high a (tot a) ha.posi (Int.le_refl _)
  | cons x r =>
    have hx := hb.posi x (by simp)
    have hr := hb.tail.posi
    have hp : Posi (glue a (x :: r)) := by
      intro y hy
      rcases List.mem_append.1 hy with hy | hy
      · exact (ha.note x.k x.s x.c hx).posi y hy
      · exact hr y hy
    rcases List.eq_nil_or_concat a with rfl | ⟨l0, q, rfl⟩
    · exact since_low _ _ (Int.le_refl _)
    · rw [List.concat_eq_append] at *
      have hq := ha.posi q (by simp)
      rw [show glue (l0 ++ [q]) (x :: r) = noteL (l0 ++ [q]) x.k x.s x.c ++ r from rfl] at hp ⊢
      by_cases he : q.k = x.k ∧ q.s = x.s
      · have hn : noteL (l0 ++ [q]) x.k x.s x.c = l0 ++ [⟨x.k, x.s, q.c + x.c⟩] := by rw [← he.1, ← he.2]; exact noteL_same _ _ _
        rw [hn] at hp ⊢
        rw [List.append_assoc] at hp ⊢
        have e1 : (l0 ++ ([(⟨x.k, x.s, q.c + x.c⟩ : Rn)] ++ r))[l0.length]? = some (⟨x.k, x.s, q.c + x.c⟩ : Rn) := by simp
        have e2 : (l0 ++ ([(⟨x.k, x.s, q.c + x.c⟩ : Rn)] ++ r)).take l0.length = l0 := by simp
        have e3 : (l0 ++ ([(⟨x.k, x.s, q.c + x.c⟩ : Rn)] ++ r)).drop l0.length = (⟨x.k, x.s, q.c + x.c⟩ : Rn) :: r := by simp
        have := since_at _ (tot (l0 ++ [q])) l0.length _ hp e1 (by rw [e2, tot_append, tot_one]; omega) (by rw [e2, tot_append, tot_one]; simp only; omega)
        rw [e2, e3, tot_append, tot_one] at this
        rw [tot_append, tot_one, this]
        show (if tot l0 < tot l0 + q.c then (⟨x.k, x.s, q.c + x.c - (tot l0 + q.c - tot l0)⟩ : Rn) else ⟨x.k, x.s, q.c + x.c⟩) :: r = x :: r
        rw [if_pos (by omega)]
        have : q.c + x.c - (tot l0 + q.c - tot l0) = x.c := by omega
        simp only [this]
      · rw [noteL_other _ _ _ _ _ he] at hp ⊢
        have e0 : l0 ++ [q] ++ [⟨x.k, x.s, x.c⟩] ++ r = (l0 ++ [q]) ++ (x :: r) := by simp
        rw [e0] at hp ⊢
        have e1 : ((l0 ++ [q]) ++ (x :: r))[(l0 ++ [q]).length]? = some x := by rw [List.getElem?_append_right (Nat.le_refl _), Nat.sub_self]; rfl
        have e2 : ((l0 ++ [q]) ++ (x :: r)).take (l0 ++ [q]).length = l0 ++ [q] := List.take_left
        have e3 : ((l0 ++ [q]) ++ (x :: r)).drop (l0 ++ [q]).length = x :: r := List.drop_left
        have := since_at _ (tot (l0 ++ [q])) (l0 ++ [q]).length x hp e1 (by rw [e2]; exact Int.le_refl _) (by rw [e2]; omega)
        rw [e2, e3] at this
        rw [this]
        show (if tot (l0 ++ [q]) < tot (l0 ++ [q]) then (⟨x.k, x.s, x.c - (tot (l0 ++ [q]) - tot (l0 ++ [q]))⟩ : Rn) else x) :: r = x :: r
        rw [if_neg (by omega)]
/-- joining puts unlike runs behind -/
theorem eqE2_iff (a b c d : Int) : eqE2 a b c d = true ↔ (a = c ∧ b = d) := by unfold eqE2; simp
theorem join_rest : ∀ (b z : List Rn), Nrm b → (∀ x y, z.getLast? = some x → b.head? = some y → ¬ (x.k = y.k ∧ x.s = y.s)) → b.foldl joinS z = z ++ b
  | [], z, _, _ => by simp
  | y :: b, z, hb, hz => by
    have hy := hb.posi y (by simp)
    have e : joinS z y = z ++ [y] := by
      rcases List.eq_nil_or_concat z with rfl | ⟨l0, x, rfl⟩
      · rw [joinS_nil (by omega)]; rfl
      · rw [List.concat_eq_append] at *
        rw [joinS_other (by omega)]
        cases h : eqE2 x.k x.s y.k y.s with
        | false => rfl
        | true => exact absurd ((eqE2_iff _ _ _ _).1 h) (hz x y (by simp) rfl)
    rw [List.foldl_cons, e, join_rest b (z ++ [y]) hb.tail]
    · simp
    · intro x q hx hq
      simp at hx
      subst hx
      cases b with
      | nil => cases hq
      | cons q' b => injection hq with hq; subst hq; exact hb.2.1
theorem join_glue (a b : List Rn) (ha : Nrm a) (hb : Nrm b) (ht : tot a + tot b < 9223372036854775808) : joinL a b = glue a b := by
  unfold joinL
  rw [List.foldl_append, join_rest a [] ha (fun x y hx => by simp at hx), List.nil_append]
  cases b with
  | nil => rfl
  | cons x r =>
    have hx := hb.posi x (by simp)
    have hrt := tot_nonneg r hb.tail.posi
    rw [tot_cons] at ht
    have e : joinS a x = noteL a x.k x.s x.c := by
      rcases List.eq_nil_or_concat a with rfl | ⟨l0, q, rfl⟩
      · rw [joinS_nil (by omega)]; rfl
      · rw [List.concat_eq_append] at *
        have hq := ha.posi q (by simp)
        have h0 := tot_nonneg l0 (fun y hy => ha.posi y (by simp [hy]))
        rw [tot_append, tot_one] at ht
        by_cases he : q.k = x.k ∧ q.s = x.s
        · rw [joinS_same (by omega) ((eqE2_iff _ _ _ _).2 he)]
          have hs : sat q.c x.c = q.c + x.c := by unfold sat; rw [if_neg (by omega)]
          rw [hs, ← he.1, ← he.2, noteL_same]
        · rw [noteL_other _ _ _ _ _ he, joinS_other (by omega)]
          cases h : eqE2 q.k q.s x.k x.s with
          | false => rfl
          | true => exact absurd ((eqE2_iff _ _ _ _).1 h) he
    rw [List.foldl_cons, e]
    unfold glue
    refine join_rest r _ hb.tail (fun y q hy hq => ?_)
    obtain ⟨l, c, hl⟩ := noteL_last a x.k x.s x.c
    rw [hl] at hy
    simp at hy
    subst hy
    cases r with
    | nil => cases hq
    | cons q' r => injection hq with hq; subst hq; exact hb.2.1
/-- such runs may be a ledger's -/
theorem Nrm.at : ∀ {l : List Rn}, Nrm l → ∀ (k : Nat) (r q : Rn), l[k]? = some r → l[k + 1]? = some q → ¬ (r.k = q.k ∧ r.s = q.s)
  | [], _, k, r, q, h, _ => by simp at h
  | [x], _, k, r, q, _, h => by simp at h
  | x :: y :: l, h, 0, r, q, h1, h2 => by
    simp at h1 h2
    subst h1; subst h2
    exact h.2.1
  | x :: y :: l, h, k + 1, r, q, h1, h2 => Nrm.at (l := y :: l) h.2.2 k r q (by simpa using h1) (by simpa using h2)
theorem chkF_zero (rs : List Rn) (h : Nrm rs) : ∀ (n k : Nat), chkF rs n k = 0
  | 0, _ => rfl
  | n + 1, k => by
    rw [chkF]
    cases hr : rs[k]? with
    | none => rfl
    | some r =>
      have hp := h.posi r (List.mem_of_getElem? hr)
      simp only
      rw [if_neg (by omega)]
      cases k with
      | zero => exact chkF_zero rs h n 1
      | succ j =>
        simp only
        cases hq : rs[j]? with
        | none => rfl
        | some p =>
          simp only
          have hne : ¬ eqE2 r.k r.s p.k p.s = true := fun he => by
            have := (eqE2_iff _ _ _ _).1 he
            exact h.at j p r hq hr ⟨this.1.symm, this.2.symm⟩
          rw [if_neg hne]
          exact chkF_zero rs h n (j + 2)
theorem chkL_zero (rs : List Rn) (h : Nrm rs) : chkL rs = 0 := chkF_zero rs h _ _
theorem totL_tot : ∀ (l : List Rn) (z : Int), Posi l → 0 ≤ z → z + tot l < 9223372036854775808 → l.foldl totS z = z + tot l
  | [], z, _, _, _ => by simp [tot]
  | r :: l, z, hp, hz, ht => by
    have h1 := hp r (by simp)
    have h2 := tot_nonneg l (fun x hx => hp x (by simp [hx]))
    rw [tot_cons] at ht ⊢
    have e : totS z r = z + r.c := by unfold totS sat; rw [if_neg (by omega), if_neg (by omega)]
    rw [List.foldl_cons, e, totL_tot l (z + r.c) (fun x hx => hp x (by simp [hx])) (by omega) (by omega)]
    omega
theorem totL_is (l : List Rn) (hp : Posi l) (ht : tot l < 9223372036854775808) : totL l = tot l := by
  have := totL_tot l 0 hp (Int.le_refl _) (by omega)
  unfold totL
  omega
/-- counts of all kinds below e -/
def sumC (rs : List Rn) : Nat → Int
  | 0 => 0
  | e + 1 => sumC rs e + cnt rs (e : Int)
def sumTo (rs : List Rn) (j : Nat) : Nat → Int
  | 0 => 0
  | e + 1 => sumTo rs j e + cntTo rs (e : Int) j
theorem sumTo_succ (rs : List Rn) (j : Nat) : ∀ (e : Nat), 0 ≤ (rs.getD j ⟨0, 0, 0⟩).k → sumTo rs (j + 1) e = sumTo rs j e + (if (rs.getD j ⟨0, 0, 0⟩).k < e then (rs.getD j ⟨0, 0, 0⟩).c else 0)
  | 0, h => by rw [sumTo, sumTo, if_neg (by omega)]; rfl
  | e + 1, h => by
    rw [sumTo, sumTo, sumTo_succ rs j e h, cntTo]
    generalize (rs.getD j ⟨0, 0, 0⟩).k = k at *
    generalize (rs.getD j ⟨0, 0, 0⟩).c = c at *
    by_cases h1 : k < (e : Int)
    · rw [if_pos h1, if_neg (by omega), if_pos (by omega)]; omega
    · rw [if_neg h1]
      by_cases h2 : k = (e : Int)
      · rw [if_pos h2, if_pos (by omega)]; omega
      · rw [if_neg h2, if_neg (by omega)]; omega
theorem sumTo_tot (rs : List Rn) (hk : ∀ r ∈ rs, 0 ≤ r.k ∧ r.k ≤ 255) : ∀ (j : Nat), j ≤ rs.length → sumTo rs j 256 = tot (rs.take j)
  | 0, _ => by
    have : ∀ e, sumTo rs 0 e = 0 := fun e => by induction e with
      | zero => rfl
      | succ e ih => rw [sumTo, ih]; rfl
    rw [this]; simp [tot]
  | j + 1, hj => by
    have hg : rs.getD j ⟨0, 0, 0⟩ = rs[j] := by rw [List.getD_eq_getElem?_getD, List.getElem?_eq_getElem (by omega)]; rfl
    have hb := hk rs[j] (List.getElem_mem _)
    rw [sumTo_succ rs j 256 (by rw [hg]; exact hb.1), sumTo_tot rs hk j (by omega), hg, if_pos (by omega), List.take_add_one, List.getElem?_eq_getElem (by omega), tot_append]
    simp only [Option.toList_some, tot_one]
theorem sumC_all (rs : List Rn) (hk : ∀ r ∈ rs, 0 ≤ r.k ∧ r.k ≤ 255) : sumC rs 256 = tot rs := by
  have h : ∀ e, sumC rs e = sumTo rs rs.length e := fun e => by induction e with
    | zero => rfl
    | succ e ih => rw [sumC, sumTo, ih]; rfl
  rw [h, sumTo_tot rs hk rs.length (Nat.le_refl _), List.take_length]
theorem sumC_rng (rs : List Rn) (hp : Posi rs) : ∀ e, 0 ≤ sumC rs e
  | 0 => Int.le_refl _
  | e + 1 => by
    have h1 := sumC_rng rs hp e
    have h2 := (cntTo_bound rs (e : Int) hp rs.length (Nat.le_refl _)).1
    show 0 ≤ sumC rs e + cnt rs (e : Int)
    unfold cnt
    omega
theorem sumC_mono (rs : List Rn) (hp : Posi rs) (e : Nat) : ∀ d, sumC rs e ≤ sumC rs (e + d)
  | 0 => Int.le_refl _
  | d + 1 => by
    have h1 := sumC_mono rs hp e d
    have h2 := (cntTo_bound rs ((e + d : Nat) : Int) hp rs.length (Nat.le_refl _)).1
    show sumC rs e ≤ sumC rs (e + d) + cnt rs ((e + d : Nat) : Int)
    unfold cnt
    omega
/-- kinds stay within theirs -/
theorem noteL_kinds {a : List Rn} (h : ∀ r ∈ a, 0 ≤ r.k ∧ r.k ≤ 255) (k s n : Int) (hk : 0 ≤ k ∧ k ≤ 255) : ∀ r ∈ noteL a k s n, 0 ≤ r.k ∧ r.k ≤ 255 := by
  rcases List.eq_nil_or_concat a with rfl | ⟨l0, r, rfl⟩
  · intro r hr; simp [noteL_nil] at hr; subst hr; exact hk
  · rw [List.concat_eq_append] at *
    by_cases he : r.k = k ∧ r.s = s
    · obtain ⟨rfl, rfl⟩ := he
      rw [noteL_same]
      intro x hx
      rcases List.mem_append.1 hx with hx | hx
      · exact h x (by simp [hx])
      · simp at hx; subst hx; exact hk
    · rw [noteL_other _ _ _ _ _ he]
      intro x hx
      rcases List.mem_append.1 hx with hx | hx
      · exact h x hx
      · simp at hx; subst hx; exact hk
end Go.Proofs.Ytkidijjhedjifaa
/- The chapter 22's plain law: the document's way to count is the program's; what an operation records is bounded and framed. No program in sight. -/
namespace Go.Proofs.Ytkidijjhedjifaa
set_option linter.unusedVariables false
set_option linter.unusedSimpArgs false
/-! ### the document's counts -/
def bA (a : Int) : Int := 2 * hashA a
def lastR (a n : Int) : Int := if n % bA a + 1 + bA a / 8 ≤ bA a then 1 else 2
def fullR (b n m : Int) : Int := (n + m) / b - n / b
def keyedR (a key : Int) : Int := if bA a < key then fullR (bA a) 0 key + lastR a key + 2 else 2
def taggedR (a n : Int) : Int := lastR a (bA a + n) + lastR a (bA a + hashA a)
def hmacR (a n : Int) : Int := fullR (bA a) 0 n + taggedR a n
theorem bA_one : bA 1 = 64 := rfl
theorem bA_two : bA 2 = 128 := rfl
theorem wideA_one : wideA 1 = 64 := rfl
theorem wideA_two : wideA 2 = 128 := rfl
theorem hashA_one : hashA 1 = 32 := rfl
theorem hashA_two : hashA 2 = 64 := rfl
theorem bA_wide {a : Int} (ha : a = 1 ∨ a = 2) : bA a = wideA a := by rcases ha with rfl | rfl <;> rfl
theorem keyedR_is {a n : Int} (ha : a = 1 ∨ a = 2) (hn : 0 ≤ n) : keyedR a n = keyB a n := by
  unfold keyedR keyB lastR fullR blocksA
  rcases ha with rfl | rfl
  · rw [bA_one, wideA_one]; split
    · split <;> omega
    · rfl
  · rw [bA_two, wideA_two]; split
    · split <;> omega
    · rfl
theorem taggedR_is {a n : Int} (ha : a = 1 ∨ a = 2) (hn : 0 ≤ n) : taggedR a n = blocksA a n - n / wideA a + 1 := by
  unfold taggedR lastR blocksA
  rcases ha with rfl | rfl
  · rw [bA_one, wideA_one, hashA_one]; split <;> split <;> omega
  · rw [bA_two, wideA_two, hashA_two]; split <;> split <;> omega
theorem hmacR_is {a n : Int} (ha : a = 1 ∨ a = 2) (hn : 0 ≤ n) : hmacR a n = tagB a n := by
  unfold hmacR tagB
  rw [taggedR_is ha hn, bA_wide ha]
  unfold fullR
  rcases ha with rfl | rfl
  · rw [wideA_one]; omega
  · rw [wideA_two]; omega
/-! ### bounds of the counts -/
theorem keyB_rng {a n : Int} (hn : 0 ≤ n) : 2 ≤ keyB a n ∧ keyB a n ≤ n / 64 + 5 := by
  unfold keyB blocksA wideA
  split <;> split <;> omega
theorem blocksA_rng {a n : Int} (hn : 0 ≤ n) : 1 ≤ blocksA a n ∧ blocksA a n ≤ n / 64 + 2 := by
  unfold blocksA wideA
  split <;> omega
theorem tagB_rng {a n : Int} (hn : 0 ≤ n) : 2 ≤ tagB a n ∧ tagB a n ≤ n / 64 + 3 := by
  have := blocksA_rng (a := a) hn
  unfold tagB
  omega
theorem tagB_hash {a : Int} (ha : a = 1 ∨ a = 2) : tagB a (hashA a) = 2 := by rcases ha with rfl | rfl <;> rfl
theorem rateA_two (a : Int) : rateA a = 168 ∨ rateA a = 136 := by
  unfold rateA
  split
  · exact .inl rfl
  · exact .inr rfl
theorem paddedA_rng {n r : Int} (hr : r = 168 ∨ r = 136) (hn : 0 ≤ n) : 1 ≤ paddedA n r ∧ paddedA n r ≤ n / 136 + 2 := by
  unfold paddedA
  rcases hr with rfl | rfl <;> omega
theorem codedA_rng {n : Int} (hn : 0 ≤ n) : 2 + n ≤ codedA n ∧ codedA n ≤ 3 + n := by
  unfold codedA
  split <;> omega
theorem takenA_rng {t : Th} {a b : Int} (ha : 0 ≤ a) (hab : a ≤ b) : 0 ≤ takenA t a b ∧ takenA t a b ≤ (b - a) / 16 + 1 := by
  unfold takenA
  split
  · unfold lastM
    split <;> split <;> omega
  split
  · rcases rateA_two t.alg with e | e <;> rw [e] <;> omega
  · unfold wideA
    split <;> omega
theorem endA_rng (t : Th) : 2 ≤ endA t ∧ endA t ≤ 3 := by
  unfold endA
  split <;> omega
theorem summedA_rng {m : Int} {t : Th} (h : OKt m t) : 1 ≤ summedA t ∧ summedA t ≤ 4 := by
  have hm := h.m0
  unfold summedA
  split
  · omega
  split
  · have h1 := endA_rng t
    have h2 := takenA_rng (t := t) (a := t.msg) (b := t.msg + endA t) hm (by omega)
    omega
  · unfold blocksA wideA
    split <;> omega
theorem hashA_alg {a : Int} (ha : a = 1 ∨ a = 2) : hashA a = 32 ∨ hashA a = 64 := by rcases ha with rfl | rfl <;> decide
theorem hk0_rng {m : Int} {t : Th} {s : Sk} (ht : OKt m t) (ha : s.alg = 1 ∨ s.alg = 2) (hd : 0 ≤ s.data) (hd2 : s.data ≤ 65536) : 6 ≤ hk0 t s ∧ hk0 t s ≤ s.data / 64 + t.key / 64 + 15 := by
  have h0 := hashA_alg ha
  have e : 0 ≤ saltA s ∧ saltA s ≤ s.data + 64 := by
    unfold saltA
    split <;> omega
  have h1 := keyB_rng (a := s.alg) (n := saltA s) e.1
  have h2 := tagB_rng (a := s.alg) (n := t.key) ht.k0
  have h3 : keyB s.alg (hashA s.alg) = 2 := by rcases ha with e | e <;> rw [e] <;> rfl
  unfold hk0
  omega
theorem hkR_rng {s : Sk} (ha : s.alg = 1 ∨ s.alg = 2) (hm : 0 ≤ s.more) (i : Nat) : 2 ≤ hkR s i ∧ hkR s i ≤ (s.more + 65) / 64 + 3 := by
  have h0 := hashA_alg ha
  unfold hkR
  split
  · have := tagB_rng (a := s.alg) (n := 0 + s.more + 1) (by omega)
    omega
  · have := tagB_rng (a := s.alg) (n := hashA s.alg + s.more + 1) (by omega)
    omega
theorem hkTo_rng {s : Sk} (ha : s.alg = 1 ∨ s.alg = 2) (hm : 0 ≤ s.more) : ∀ n : Nat, 0 ≤ hkTo s n ∧ hkTo s n ≤ (n : Int) * ((s.more + 65) / 64 + 3)
  | 0 => by simp [hkTo]
  | n + 1 => by
    have h1 := hkTo_rng ha hm n
    have h2 := hkR_rng ha hm n
    have e : ((n + 1 : Nat) : Int) * ((s.more + 65) / 64 + 3) = (n : Int) * ((s.more + 65) / 64 + 3) + ((s.more + 65) / 64 + 3) := by
      rw [Int.natCast_add, Int.add_mul]; simp
    unfold hkTo
    rw [e]
    omega
theorem hkN_rng {s : Sk} (ha : s.alg = 1 ∨ s.alg = 2) (h1 : 1 ≤ s.out) (h2 : s.out ≤ 512) : 1 ≤ hkN s ∧ (hkN s : Int) = (s.out + hashA s.alg - 1) / hashA s.alg ∧ (hkN s : Int) ≤ s.out / 32 + 1 ∧ (hkN s : Int) ≤ 16 := by
  unfold hkN
  rcases hashA_alg ha with e | e <;> rw [e] <;> omega
/-! ### the document's codes -/
theorem fitB_zero (n : Int) (s : Sk) (r : Int) : fitB n s r = if fitB n s 0 = 0 then r else fitB n s 0 := by
  unfold fitB
  split
  · rfl
  split
  · rfl
  split
  · rfl
  split
  · rfl
  split
  · rfl
  · rfl
def derR (s : Sk) : Int :=
  if hashA s.alg = 0 then 4 else if 65536 < s.data then 9
  else if (s.kind = 7 ∧ (65536 < s.more ∨ 255 * hashA s.alg < s.out)) ∨ (s.kind = 8 ∧ 4294967295 * hashA s.alg < s.out) then 9
  else if s.kind = 8 ∧ (s.count < 1 ∨ 1048576 < s.count) then 10 else if s.out < 1 ∨ 512 < s.out then 7 else 0
def fitsR (t : Th) (s : Sk) : Int :=
  if s.kind = 2 then (if t.alg = 0 then fitB t.key s 0 else 6)
  else if s.kind = 3 then (if t.alg = 0 then 6 else if 65536 < s.data then 9 else 0)
  else if s.kind = 4 then (if t.alg = 0 then 6 else 0)
  else if s.kind = 5 then (if t.alg = 0 then 6 else if s.data = t.out then 0 else 11)
  else if s.kind = 7 ∨ s.kind = 8 then (if t.alg = 0 then derR s else 6)
  else if s.kind = 9 then (if t.alg = 0 then 0 else 6)
  else 0
def takesR (k : Int) : Bool := k == 1 || k == 2 || k == 6 || k == 7 || k == 8
def restR (σ : Hs) (s : Sk) : Int := if takesR s.kind = true ∧ freeH σ = none then 8 else 0
def codeR (σ : Hs) (s : Sk) : Int :=
  if s.kind < 1 ∨ 10 < s.kind then 3
  else if s.kind = 1 then (if 512 < s.data then 7 else restR σ s)
  else match σ s.handle with
    | none => 5
    | some t => if fitsR t s = 0 then restR σ s else fitsR t s
theorem room_rest (σ : Hs) (s : Sk) (h : takesR s.kind = true) : restR σ s = roomC σ := by
  unfold restR roomC
  by_cases e : cntH σ = 64
  · rw [if_pos ⟨h, (full_free σ).1 e⟩, if_pos e]
  · rw [if_neg (fun h => e ((full_free σ).2 h.2)), if_neg e]
theorem rest_not (σ : Hs) (s : Sk) (h : takesR s.kind = false) : restR σ s = 0 := by
  unfold restR
  rw [if_neg (by rw [h]; simp)]
theorem derR_hk (σ : Hs) (s : Sk) (t : Th) (ht : σ s.handle = some t) (h0 : t.alg = 0) (hk : s.kind = 7) : (if derR s = 0 then roomC σ else derR s) = hkdfC σ s := by
  by_cases e : hashA s.alg = 0
  · simp [derR, hkdfC, derC, ht, h0, e]
  by_cases e1 : 65536 < s.data
  · simp [derR, hkdfC, derC, ht, h0, e, e1]
  by_cases e2 : 65536 < s.more ∨ 255 * hashA s.alg < s.out
  · simp [derR, hkdfC, derC, ht, h0, e, e1, e2, hk]
  by_cases e3 : s.out < 1 ∨ 512 < s.out
  · simp [derR, hkdfC, derC, keyedC, ht, h0, e, e1, e2, hk, e3]
  · simp [derR, hkdfC, derC, keyedC, ht, h0, e, e1, e2, hk, e3]
theorem derR_pb (σ : Hs) (s : Sk) (t : Th) (ht : σ s.handle = some t) (h0 : t.alg = 0) (hk : s.kind = 8) : (if derR s = 0 then roomC σ else derR s) = pbkC σ s := by
  by_cases e : hashA s.alg = 0
  · simp [derR, pbkC, derC, ht, h0, e]
  by_cases e1 : 65536 < s.data
  · simp [derR, pbkC, derC, ht, h0, e, e1]
  by_cases e2 : 4294967295 * hashA s.alg < s.out
  · simp [derR, pbkC, derC, ht, h0, e, e1, e2, hk]
  by_cases e4 : s.count < 1 ∨ 1048576 < s.count
  · simp [derR, pbkC, derC, keyedC, ht, h0, e, e1, e2, hk, e4]
  by_cases e3 : s.out < 1 ∨ 512 < s.out
  · simp [derR, pbkC, derC, keyedC, ht, h0, e, e1, e2, hk, e4, e3]
  · simp [derR, pbkC, derC, keyedC, ht, h0, e, e1, e2, hk, e4, e3]
theorem codeR_is (σ : Hs) (s : Sk) : codeR σ s = codeS σ s := by
  unfold codeR
  by_cases e : s.kind < 1 ∨ 10 < s.kind
  · rw [if_pos e]
    unfold codeS
    rw [if_neg (by omega), if_neg (by omega), if_neg (by omega), if_neg (by omega), if_neg (by omega), if_neg (by omega), if_neg (by omega), if_neg (by omega), if_neg (by omega), if_neg (by omega)]
  rw [if_neg e]
  have hk : s.kind = 1 ∨ s.kind = 2 ∨ s.kind = 3 ∨ s.kind = 4 ∨ s.kind = 5 ∨ s.kind = 6 ∨ s.kind = 7 ∨ s.kind = 8 ∨ s.kind = 9 ∨ s.kind = 10 := by omega
  rcases hk with k | k | k | k | k | k | k | k | k | k
  · have ht : takesR s.kind = true := by rw [k]; rfl
    simp only [codeS, k, cputC, room_rest σ s ht]
    rfl
  · have ht : takesR s.kind = true := by rw [k]; rfl
    have e2 : codeS σ s = beginC σ s := by simp only [codeS, k]; rfl
    rw [if_neg (by omega), e2, beginC]
    cases h : σ s.handle with
    | none => rfl
    | some t =>
      have e3 : fitsR t s = if t.alg = 0 then fitB t.key s 0 else 6 := by simp only [fitsR, k]; rfl
      simp only [e3, room_rest σ s ht]
      by_cases h0 : t.alg = 0
      · rw [if_pos h0, if_pos h0, fitB_zero t.key s (roomC σ)]
      · rw [if_neg h0, if_neg h0, if_neg (by decide)]
  · have ht : takesR s.kind = false := by rw [k]; rfl
    have e2 : codeS σ s = updC σ s := by simp only [codeS, k]; rfl
    rw [if_neg (by omega), e2, updC]
    cases h : σ s.handle with
    | none => rfl
    | some t =>
      have e3 : fitsR t s = if t.alg = 0 then 6 else if 65536 < s.data then 9 else 0 := by simp only [fitsR, k]; rfl
      simp only [e3, rest_not σ s ht]
      by_cases h0 : t.alg = 0
      · rw [if_pos h0, if_neg (by decide)]
      · rw [if_neg h0]
        by_cases h1 : 65536 < s.data
        · rw [if_pos h1, if_neg (by decide)]
        · rw [if_neg h1, if_pos rfl]
  · have ht : takesR s.kind = false := by rw [k]; rfl
    have e2 : codeS σ s = sesC σ s := by simp only [codeS, k]; rfl
    rw [if_neg (by omega), e2, sesC]
    cases h : σ s.handle with
    | none => rfl
    | some t =>
      have e3 : fitsR t s = if t.alg = 0 then 6 else 0 := by simp only [fitsR, k]; rfl
      simp only [e3, rest_not σ s ht]
      by_cases h0 : t.alg = 0
      · rw [if_pos h0, if_neg (by decide)]
      · rw [if_neg h0, if_pos rfl]
  · have ht : takesR s.kind = false := by rw [k]; rfl
    have e2 : codeS σ s = verC σ s := by simp only [codeS, k]; rfl
    rw [if_neg (by omega), e2, verC]
    cases h : σ s.handle with
    | none => rfl
    | some t =>
      have e3 : fitsR t s = if t.alg = 0 then 6 else if s.data = t.out then 0 else 11 := by simp only [fitsR, k]; rfl
      simp only [e3, rest_not σ s ht]
      by_cases h0 : t.alg = 0
      · rw [if_pos h0, if_neg (by decide)]
      · rw [if_neg h0]
        by_cases h1 : s.data = t.out
        · rw [if_pos h1, if_pos rfl]
        · rw [if_neg h1, if_neg (by decide)]
  · have ht : takesR s.kind = true := by rw [k]; rfl
    have e2 : codeS σ s = cloC σ s := by simp only [codeS, k]; rfl
    rw [if_neg (by omega), e2, cloC]
    cases h : σ s.handle with
    | none => rfl
    | some t =>
      have e3 : fitsR t s = 0 := by simp only [fitsR, k]; rfl
      simp only [e3, room_rest σ s ht]
      rfl
  · have ht : takesR s.kind = true := by rw [k]; rfl
    have e2 : codeS σ s = hkdfC σ s := by simp only [codeS, k]; rfl
    rw [if_neg (by omega), e2]
    cases h : σ s.handle with
    | none =>
      unfold hkdfC derC
      rw [h]
      rfl
    | some t =>
      have e3 : fitsR t s = if t.alg = 0 then derR s else 6 := by simp only [fitsR, k]; rfl
      simp only [e3, room_rest σ s ht]
      by_cases h0 : t.alg = 0
      · rw [if_pos h0, derR_hk σ s t h h0 k]
      · rw [if_neg h0, if_neg (by decide)]
        unfold hkdfC derC
        rw [h]
        simp only [if_neg h0]
        rfl
  · have ht : takesR s.kind = true := by rw [k]; rfl
    have e2 : codeS σ s = pbkC σ s := by simp only [codeS, k]; rfl
    rw [if_neg (by omega), e2]
    cases h : σ s.handle with
    | none =>
      unfold pbkC derC
      rw [h]
      rfl
    | some t =>
      have e3 : fitsR t s = if t.alg = 0 then derR s else 6 := by simp only [fitsR, k]; rfl
      simp only [e3, room_rest σ s ht]
      by_cases h0 : t.alg = 0
      · rw [if_pos h0, derR_pb σ s t h h0 k]
      · rw [if_neg h0, if_neg (by decide)]
        unfold pbkC derC
        rw [h]
        simp only [if_neg h0]
        rfl
  · have ht : takesR s.kind = false := by rw [k]; rfl
    have e2 : codeS σ s = keyC σ s := by simp only [codeS, k]; rfl
    rw [if_neg (by omega), e2, keyC]
    cases h : σ s.handle with
    | none => rfl
    | some t =>
      have e3 : fitsR t s = if t.alg = 0 then 0 else 6 := by simp only [fitsR, k]; rfl
      simp only [e3, rest_not σ s ht]
      by_cases h0 : t.alg = 0
      · rw [if_pos h0, if_pos rfl]
      · rw [if_neg h0, if_neg (by decide)]
  · have ht : takesR s.kind = false := by rw [k]; rfl
    have e2 : codeS σ s = anyC σ s := by simp only [codeS, k]; rfl
    rw [if_neg (by omega), e2, anyC]
    cases h : σ s.handle with
    | none => rfl
    | some t =>
      have e3 : fitsR t s = 0 := by simp only [fitsR, k]; rfl
      simp only [e3, rest_not σ s ht]
      rfl
end Go.Proofs.Ytkidijjhedjifaa
namespace Go.Proofs.Ytkidijjhedjifaa
open Go.RowKit
set_option maxRecDepth 100000
set_option linter.unusedVariables false
set_option linter.unusedSimpArgs false
attribute [local go_sem] Oper.semAt_some
section
variable {w : World}
/-- what a function answers; the world: nothing of it turned -/
def Told (v : Value) (w : World) (e : Ending) (w' : World) : Prop := e = .returned v ∧ Below w.heap.size w w'
theorem below_draw {B : Nat} {a w : World} (h : Below B a w) (n : Nat) : Below B a (w.drewN n) := ⟨h.os, h.tape, h.output, h.size, h.block⟩
theorem below_refl : Below w.heap.size w w := Below.refl _ _
theorem load_ev {w : World} {b : Nat} {k s : Value} (h0 : w.cell? ⟨b, 0, none⟩ = some k) (h1 : w.cell? ⟨b, 1, none⟩ = some s) : (loadVar 49 ⟨b, 0, none⟩).run Try.prog w = .ok (.agg #[k, s]) w := by
  go_simp
theorem results_cell_tmp {fn : Func} {t u : Tmp} {T : TypeId} (h : fn.results = #[.cell t T, .tmp u]) {tmps : Array Value} {w : World} {b : Nat} {v : Value} (hp : tmps.getD t undef = .pointer (some ⟨b, 0, none⟩)) (hv : (loadVar T ⟨b, 0, none⟩).run Try.prog w = .ok v w) :
    (results fn tmps).run Try.prog w = .ok (.tuple #[v, tmps.getD u undef]) w := by
  have hp' : tmps[t]?.getD undef = .pointer (some ⟨b, 0, none⟩) := by simpa using hp
  simp [results, h, hp', asAddr, hv]
theorem results_cell {fn : Func} {t : Tmp} {T : TypeId} (h : fn.results = #[.cell t T]) {tmps : Array Value} {w : World} {b : Nat} {v : Value} (hp : tmps.getD t undef = .pointer (some ⟨b, 0, none⟩)) (hv : (loadVar T ⟨b, 0, none⟩).run Try.prog w = .ok v w) :
    (results fn tmps).run Try.prog w = .ok v w := by
  have hp' : tmps[t]?.getD undef = .pointer (some ⟨b, 0, none⟩) := by simpa using hp
  simp [results, h, hp', asAddr, hv]
theorem most_any (a : Int) (w : World) : Calls Try.prog 99 #[.int .u8 a] w fun e w' => e = .returned (.int .i64 (mostA a)) ∧ w = w' := by
  unfold mostA
  by_cases h1 : a = 1
  · have t1 : (a == (1 : Int)) = true := by rw [h1]; rfl
    rw [if_pos h1]
    clear h1
    go_enter Try.func99, Try.ntmps99
    go_wp2
    go_ret
    exact ⟨rfl, rfl⟩
  have t1 : (a == (1 : Int)) = false := by rw [beq_eq_false_iff_ne]; exact h1
  rw [if_neg h1]
  clear h1
  by_cases h2 : a = 3
  · have t2 : (a == (3 : Int)) = true := by rw [h2]; rfl
    rw [if_pos h2]
    clear h2
    go_enter Try.func99, Try.ntmps99
    go_wp2
    go_ret
    exact ⟨rfl, rfl⟩
  · have t2 : (a == (3 : Int)) = false := by rw [beq_eq_false_iff_ne]; exact h2
    rw [if_neg h2]
    clear h2
    go_enter Try.func99, Try.ntmps99
    go_wp2
    go_ret
    exact ⟨rfl, rfl⟩
theorem hash_any (a : Int) (w : World) : Calls Try.prog 108 #[.int .u8 a] w fun e w' => e = .returned (.int .i64 (hashA a)) ∧ w = w' := by
  unfold hashA
  by_cases h1 : a = 1
  · have t1 : (a == (1 : Int)) = true := by rw [h1]; rfl
    rw [if_pos h1]
    clear h1
    go_enter Try.func108, Try.ntmps108
    go_wp2
    go_ret
    exact ⟨rfl, rfl⟩
  have t1 : (a == (1 : Int)) = false := by rw [beq_eq_false_iff_ne]; exact h1
  rw [if_neg h1]
  clear h1
  by_cases h2 : a = 2
  · have t2 : (a == (2 : Int)) = true := by rw [h2]; rfl
    rw [if_pos h2]
    clear h2
    go_enter Try.func108, Try.ntmps108
    go_wp2
    go_ret
    exact ⟨rfl, rfl⟩
  · have t2 : (a == (2 : Int)) = false := by rw [beq_eq_false_iff_ne]; exact h2
    rw [if_neg h2]
    clear h2
    go_enter Try.func108, Try.ntmps108
    go_wp2
    go_ret
    exact ⟨rfl, rfl⟩
theorem rate_any (a : Int) (w : World) : Calls Try.prog 101 #[.int .u8 a] w fun e w' => e = .returned (.int .i64 (rateA a)) ∧ w = w' := by
  unfold rateA
  by_cases h1 : a = 4
  · have t1 : (a == (4 : Int)) = true := by rw [h1]; rfl
    rw [if_pos (.inl h1)]
    clear h1
    go_enter Try.func101, Try.ntmps101
    go_wp2
    go_ret
    exact ⟨rfl, rfl⟩
  have t1 : (a == (4 : Int)) = false := by rw [beq_eq_false_iff_ne]; exact h1
  by_cases h2 : a = 6
  · have t2 : (a == (6 : Int)) = true := by rw [h2]; rfl
    rw [if_pos (.inr h2)]
    clear h1 h2
    go_enter Try.func101, Try.ntmps101
    go_wp2
    go_ret
    exact ⟨rfl, rfl⟩
  · have t2 : (a == (6 : Int)) = false := by rw [beq_eq_false_iff_ne]; exact h2
    rw [if_neg (by omega)]
    clear h1 h2
    go_enter Try.func101, Try.ntmps101
    go_wp2
    go_ret
    exact ⟨rfl, rfl⟩
theorem event_any (a : Int) (w : World) : Calls Try.prog 110 #[.int .u8 a] w (Told (.tuple #[.agg #[.int .u8 (evkA a), .int .i64 (wideA a)], .int .i64 (wideA a)]) w) := by
  unfold evkA wideA
  by_cases h1 : a = 2
  · have t1 : (a == (2 : Int)) = true := by rw [h1]; rfl
    rw [if_pos h1, if_pos h1]
    clear h1
    go_enter Try.func110, Try.ntmps110
    go_wp2
    refine bodyPost_ret (results_cell_tmp rfl (b := w.heap.size) rfl (load_ev (k := .int .u8 2) (s := .int .i64 128) ?_ ?_)) rfl ⟨rfl, ?_⟩
    · go_simp
    · go_simp
    · exact (Below.refl _ _).alloc (Nat.le_refl _) _
  · have t1 : (a == (2 : Int)) = false := by rw [beq_eq_false_iff_ne]; exact h1
    rw [if_neg h1, if_neg h1]
    clear h1
    go_enter Try.func110, Try.ntmps110
    go_wp2
    refine bodyPost_ret (results_cell_tmp rfl (b := w.heap.size) rfl (load_ev (k := .int .u8 1) (s := .int .i64 64) ?_ ?_)) rfl ⟨rfl, ?_⟩
    · go_simp
    · go_simp
    · exact (Below.refl _ _).alloc (Nat.le_refl _) _
theorem wide_two (a : Int) : wideA a = 64 ∨ wideA a = 128 := by
  unfold wideA
  split
  · exact .inr rfl
  · exact .inl rfl
theorem blocks_any (a n : Int) (w : World) (h0 : 0 ≤ n) (h1 : n ≤ 1000000000) : Calls Try.prog 131 #[.int .u8 a, .int .i64 n] w (Told (.int .i64 (blocksA a n)) w) := by
  unfold blocksA
  rcases wide_two a with e | e <;>
  · rw [e]
    go_enter Try.func131, Try.ntmps131
    go_wp2_with fail
    refine (event_any a w).mono ?_
    rintro e' w1 ⟨rfl, hb⟩
    have HB := Lib.hid hb
    clear hb
    rw [e]
    go_wp2_with fail
    go_ret
    exact ⟨rfl, HB.out.alloc HB.out.size _⟩
theorem keyBlocks_any (a n : Int) (w : World) (h0 : 0 ≤ n) (h1 : n ≤ 1000000000) : Calls Try.prog 104 #[.int .u8 a, .int .i64 n] w (Told (.int .i64 (keyB a n)) w) := by
  have hr := blocksA_rng (a := a) h0
  unfold keyB
  obtain ⟨W, hW⟩ : ∃ W, wideA a = W := ⟨_, rfl⟩
  have HW := Lib.hid hW
  rw [hW]
  have hw2 : W = 64 ∨ W = 128 := by rw [← hW]; exact wide_two a
  clear hW
  by_cases hc : W < n
  · rw [if_pos hc]
    have t1 : decide (W < n) = true := decide_eq_true hc
    clear hc hw2
    go_enter Try.func104, Try.ntmps104
    go_wp2_with fail
    refine (event_any a w).mono ?_
    rintro e' w1 ⟨rfl, hb⟩
    have HB := Lib.hid hb
    clear hb
    rw [HW.out]
    go_wp2_with fail
    refine (blocks_any a n _ h0 h1).mono ?_
    rintro e' w2 ⟨rfl, hb⟩
    have HB2 := Lib.hid hb
    clear hb
    have hw1 : IntKind.i64.wrap (blocksA a n + 2) = blocksA a n + 2 := IntWalk.i64_in _ (by omega)
    go_wp2_with fail
    go_ret
    exact ⟨rfl, (HB.out.alloc HB.out.size _).trans (HB2.out.mono (by have := HB.out.size; simp; omega))⟩
  · rw [if_neg hc]
    have t1 : decide (W < n) = false := decide_eq_false hc
    clear hc hw2
    go_enter Try.func104, Try.ntmps104
    go_wp2_with fail
    refine (event_any a w).mono ?_
    rintro e' w1 ⟨rfl, hb⟩
    have HB := Lib.hid hb
    clear hb
    rw [HW.out]
    go_wp2_with fail
    go_ret
    exact ⟨rfl, HB.out.alloc HB.out.size _⟩
theorem tagBlocks_any (a n : Int) (w : World) (h0 : 0 ≤ n) (h1 : n ≤ 1000000000) : Calls Try.prog 111 #[.int .u8 a, .int .i64 n] w (Told (.int .i64 (tagB a n)) w) := by
  have hr := blocksA_rng (a := a) h0
  unfold tagB
  have hw1 : IntKind.i64.wrap (blocksA a n + 1) = blocksA a n + 1 := IntWalk.i64_in _ (by omega)
  go_enter Try.func111, Try.ntmps111
  go_wp2_with fail
  refine (blocks_any a n _ h0 h1).mono ?_
  rintro e' w2 ⟨rfl, hb⟩
  have HB2 := Lib.hid hb
  clear hb
  go_wp2_with fail
  go_ret
  exact ⟨rfl, HB2.out⟩
theorem padded_any (n r : Int) (w : World) (h0 : 0 ≤ n) (h1 : n ≤ 1000000000) (hr : r = 168 ∨ r = 136) : Calls Try.prog 102 #[.int .i64 n, .int .i64 r] w fun e w' => e = .returned (.int .i64 (paddedA n r)) ∧ w = w' := by
  unfold paddedA
  rcases hr with rfl | rfl <;>
  · go_enter Try.func102, Try.ntmps102
    go_wp2_with fail
    go_ret
    exact ⟨rfl, rfl⟩
theorem coded_any (n : Int) (w : World) (h0 : 0 ≤ n) (h1 : n ≤ 8000) : Calls Try.prog 103 #[.int .i64 n] w fun e w' => e = .returned (.int .i64 (codedA n)) ∧ w = w' := by
  go_enter Try.func103, Try.ntmps103
  go_wp2_with fail
  go_loopw [3, 4] (fun m x wx => wx = w ∧ ∃ q : Int, x = .int .i64 q ∧ 0 ≤ q ∧ ((m = .int .i64 1 ∧ q = 8 * n / 256) ∨ (m = .int .i64 2 ∧ q = 0 ∧ 32 ≤ n))) (fun _ x _ => (intOf x).toNat)
  case atStart => exact ⟨rfl, _, rfl, by omega, .inl ⟨rfl, rfl⟩⟩
  case round =>
    obtain ⟨rfl, q, rfl, hq0, hq⟩ := hrel
    rcases hq with ⟨rfl, hq⟩ | ⟨rfl, rfl, h32⟩
    · by_cases hp : 0 < q
      · have t1 : decide (0 < q) = true := decide_eq_true hp
        have h32 : 32 ≤ n := by omega
        have hz : q / 256 = 0 := by omega
        clear hq
        go_wp2_with fail
        refine ⟨⟨trivial, 0, by first | rfl | (rw [hz]), by omega, .inr ⟨rfl, rfl, h32⟩⟩, ?_⟩
        simp only [intOf]
        omega
      · have t1 : decide (0 < q) = false := decide_eq_false hp
        have hc : codedA n = 2 + n := by unfold codedA; rw [if_neg (by omega)]
        have hw1 : IntKind.i64.wrap (2 + n) = 2 + n := IntWalk.i64_in _ (by omega)
        have HC := Lib.hid hc
        clear hq hc
        go_wp2_with fail
        go_ret
        exact ⟨by rw [HC.out]; rfl, rfl⟩
    · have hc : codedA n = 3 + n := by unfold codedA; rw [if_pos h32]
      have hw1 : IntKind.i64.wrap (3 + n) = 3 + n := IntWalk.i64_in _ (by omega)
      have HC := Lib.hid hc
      clear hc h32
      go_wp2_with fail
      go_ret
      exact ⟨by rw [HC.out]; rfl, rfl⟩
structure SBox (b : Nat) (t : Th) (W : World) : Prop where
  c0 : W.cell? ⟨b, 0, none⟩ = some (.int .u8 t.alg)
  c1 : W.cell? ⟨b, 1, none⟩ = some (.int .i64 t.out)
  c2 : W.cell? ⟨b, 2, none⟩ = some (.int .i64 t.key)
  c3 : W.cell? ⟨b, 3, none⟩ = some (.int .i64 t.custom)
  c4 : W.cell? ⟨b, 4, none⟩ = some (.int .i64 t.msg)
theorem SBox.f0 {b : Nat} {t : Th} (W : World) (h : SBox b t W) : W.cell? ⟨b, 0, none⟩ = some (.int .u8 t.alg) := h.c0
theorem SBox.f1 {b : Nat} {t : Th} (W : World) (h : SBox b t W) : W.cell? ⟨b, 1, none⟩ = some (.int .i64 t.out) := h.c1
theorem SBox.f2 {b : Nat} {t : Th} (W : World) (h : SBox b t W) : W.cell? ⟨b, 2, none⟩ = some (.int .i64 t.key) := h.c2
theorem SBox.f3 {b : Nat} {t : Th} (W : World) (h : SBox b t W) : W.cell? ⟨b, 3, none⟩ = some (.int .i64 t.custom) := h.c3
theorem SBox.f4 {b : Nat} {t : Th} (W : World) (h : SBox b t W) : W.cell? ⟨b, 4, none⟩ = some (.int .i64 t.msg) := h.c4
theorem SBox.new (w : World) (t : Th) : SBox w.heap.size t (w.alloc (.cells #[.int .u8 t.alg, .int .i64 t.out, .int .i64 t.key, .int .i64 t.custom, .int .i64 t.msg] 130)) := by
  have h := Blk.new w 130 #[.int .u8 t.alg, .int .i64 t.out, .int .i64 t.key, .int .i64 t.custom, .int .i64 t.msg]
  exact ⟨h.cellAt 0 rfl, h.cellAt 1 rfl, h.cellAt 2 rfl, h.cellAt 3 rfl, h.cellAt 4 rfl⟩
theorem SBox.below {b : Nat} {t : Th} {w w' : World} (h : SBox b t w) (hb : Below w.heap.size w w') : SBox b t w' := by
  have hl : b < w.heap.size := World.block_lt_of_cell? w _ h.c0
  exact ⟨(hb.cell hl).trans h.c0, (hb.cell hl).trans h.c1, (hb.cell hl).trans h.c2, (hb.cell hl).trans h.c3, (hb.cell hl).trans h.c4⟩
set_option maxHeartbeats 1000000 in
theorem taken_any (t : Th) (a b : Int) (w : World) (ha : 0 ≤ a) (ha' : a ≤ 1000000000) (hb : 0 ≤ b) (hb' : b ≤ 1000000000) :
    Calls Try.prog 105 #[.agg #[.int .u8 t.alg, .int .i64 t.out, .int .i64 t.key, .int .i64 t.custom, .int .i64 t.msg], .int .i64 a, .int .i64 b] w (Told (.int .i64 (takenA t a b)) w) := by
  have HS := Lib.hid (SBox.new w t)
  obtain ⟨T, hT⟩ : ∃ T, t = T := ⟨_, rfl⟩
  have HT := Lib.hid hT
  clear hT
  obtain ⟨al, ou, ke, cu, ms⟩ := t
  unfold takenA
  simp only at HS ⊢
  by_cases h3 : al = 3
  · have t1 : (al == (3 : Int)) = true := by rw [h3]; rfl
    rw [if_pos h3]
    clear h3
    go_enter Try.func105, Try.ntmps105
    go_wp2_with fail
    all_goals (go_ret; refine ⟨?_, (Below.refl _ _).alloc (Nat.le_refl _) _⟩; show Ending.returned (.int .i64 _) = .returned (.int .i64 _); congr 2; unfold lastM; split <;> split <;> omega)
  · have t1 : (al == (3 : Int)) = false := by rw [beq_eq_false_iff_ne]; exact h3
    rw [if_neg h3]
    clear h3
    by_cases h4 : 4 ≤ al
    · have t2 : decide (4 ≤ al) = true := decide_eq_true h4
      rw [if_pos h4]
      clear h4
      go_enter Try.func105, Try.ntmps105
      go_upto_region 4 with fail
      obtain ⟨B, hB⟩ : ∃ B, w.heap.size = B := ⟨_, rfl⟩
      obtain ⟨w1, hw1⟩ : ∃ y, w.alloc (.cells #[.int .u8 al, .int .i64 ou, .int .i64 ke, .int .i64 cu, .int .i64 ms] 130) = y := ⟨_, rfl⟩
      have HB : Hid (Below w.heap.size w w1) := by rw [← hw1]; exact Lib.hid ((Below.refl _ _).alloc (Nat.le_refl _) _)
      have hs := HS.out
      rw [hw1, hB] at hs
      try rw [hw1]
      try rw [hB]
      clear hw1 hB HS
      obtain ⟨r, hr⟩ : ∃ r, rateA al = r := ⟨_, rfl⟩
      have hr2 : r = 168 ∨ r = 136 := by rw [← hr]; exact rateA_two al
      have HR := Lib.hid hr
      rw [hr]
      clear hr
      refine hd_start (SBox B ⟨al, ou, ke, cu, ms⟩) (by kernel_rfl) ?_
      intro w2 hw'
      have S2 : SBox B ⟨al, ou, ke, cu, ms⟩ w2 := by rw [hw']; exact hs.below (below_draw (Below.refl _ _) 1)
      have HB2 : Hid (Below w.heap.size w w2) := by rw [hw']; exact Lib.hid (below_draw HB.out 1)
      clear hw' hs HB
      refine hd_take (v := ?_) 0 rfl (by kernel_rfl) (fun _ _ d _ _ h => (by cases d <;> exact h)) (by kernel_rfl) S2 (fun w' hS => ?_) ?_
      rotate_left
      focus (have q0 := SBox.f0 w' hS; clear hS; go_simp; try rfl; done)
      simp only [List.getElem_toArray, List.getElem_cons_succ, List.getElem_cons_zero, Act.put, List.setIfInBounds_toArray, List.set_cons_zero, List.set_cons_succ]
      refine hd_take (v := ?_) 1 rfl (by kernel_rfl) (fun _ _ d _ _ h => (by cases d <;> exact h)) (by kernel_rfl) S2 (fun w' hS => ?_) ?_
      rotate_left
      focus (have q0 := SBox.f0 w' hS; clear hS; go_simp; try rfl; done)
      simp only [List.getElem_toArray, List.getElem_cons_succ, List.getElem_cons_zero, Act.put, List.setIfInBounds_toArray, List.set_cons_zero, List.set_cons_succ]
      refine hd_take (v := ?_) 2 rfl (by kernel_rfl) (fun _ _ d _ _ h => (by cases d <;> exact h)) (by kernel_rfl) S2 (fun w' hS => ?_) ?_
      rotate_left
      focus (have q0 := SBox.f0 w' hS; clear hS; go_simp; try rfl; done)
      simp only [List.getElem_toArray, List.getElem_cons_succ, List.getElem_cons_zero, Act.put, List.setIfInBounds_toArray, List.set_cons_zero, List.set_cons_succ]
      refine hd_take (v := ?_) 5 rfl (by kernel_rfl) (fun _ _ d _ _ h => (by cases d <;> exact h)) (by kernel_rfl) S2 (fun w' hS => ?_) ?_
      rotate_left
      focus (have q0 := SBox.f0 w' hS; clear hS; go_simp; try rfl; done)
      simp only [List.getElem_toArray, List.getElem_cons_succ, List.getElem_cons_zero, Act.put, List.setIfInBounds_toArray, List.set_cons_zero, List.set_cons_succ]
      refine hd_take (v := ?_) 6 rfl (by kernel_rfl) (fun _ _ d _ _ h => (by cases d <;> exact h)) (by kernel_rfl) S2 (fun w' hS => ?_) ?_
      rotate_left
      focus (have q0 := SBox.f0 w' hS; clear hS; go_simp; try rfl; done)
      simp only [List.getElem_toArray, List.getElem_cons_succ, List.getElem_cons_zero, Act.put, List.setIfInBounds_toArray, List.set_cons_zero, List.set_cons_succ]
      refine hd_take (v := ?_) 7 rfl (by kernel_rfl) (fun _ _ d _ _ h => (by cases d <;> exact h)) (by kernel_rfl) S2 (fun w' hS => ?_) ?_
      rotate_left
      focus (have q0 := SBox.f0 w' hS; clear hS; go_simp; try rfl; done)
      simp only [List.getElem_toArray, List.getElem_cons_succ, List.getElem_cons_zero, Act.put, List.setIfInBounds_toArray, List.set_cons_zero, List.set_cons_succ]
      refine hd_one 3 (by kernel_rfl) ?_
      refine op_call rfl (by kernel_rfl) (by go_simp; first | exact ⟨rfl, rfl⟩ | rfl) ?_
      refine (rate_any al w2).mono ?_
      rintro e w3 ⟨he, hw⟩
      rw [HR.out] at he
      subst he
      subst hw
      have hS2 := S2
      refine ⟨_, rfl, hS2, ?_⟩
      simp only [List.getElem_toArray, List.getElem_cons_succ, List.getElem_cons_zero, Act.put, List.setIfInBounds_toArray, List.set_cons_zero, List.set_cons_succ]
      rcases hr2 with rfl | rfl
      · skip
        refine hd_take (v := ?_) 4 rfl (by kernel_rfl) (fun _ _ d _ _ h => (by cases d <;> exact h)) (by kernel_rfl) S2 (fun w' hS => ?_) ?_
        rotate_left
        focus (clear hS; go_simp; try rfl; done)
        simp only [List.getElem_toArray, List.getElem_cons_succ, List.getElem_cons_zero, Act.put, List.setIfInBounds_toArray, List.set_cons_zero, List.set_cons_succ]
        refine hd_one 8 (by kernel_rfl) ?_
        refine op_call rfl (by kernel_rfl) (by go_simp; first | exact ⟨rfl, rfl⟩ | rfl) ?_
        refine (rate_any al w2).mono ?_
        rintro e w3 ⟨he, hw⟩
        rw [HR.out] at he
        subst he
        subst hw
        have hS2 := S2
        refine ⟨_, rfl, hS2, ?_⟩
        simp only [List.getElem_toArray, List.getElem_cons_succ, List.getElem_cons_zero, Act.put, List.setIfInBounds_toArray, List.set_cons_zero, List.set_cons_succ]
        refine hd_take (v := ?_) 9 rfl (by kernel_rfl) (fun _ _ d _ _ h => (by cases d <;> exact h)) (by kernel_rfl) S2 (fun w' hS => ?_) ?_
        rotate_left
        focus (clear hS; go_simp; try rfl; done)
        simp only [List.getElem_toArray, List.getElem_cons_succ, List.getElem_cons_zero, Act.put, List.setIfInBounds_toArray, List.set_cons_zero, List.set_cons_succ]
        refine hd_take (v := ?_) 10 rfl (by kernel_rfl) (fun _ _ d _ _ h => (by cases d <;> exact h)) (by kernel_rfl) S2 (fun w' hS => ?_) ?_
        rotate_left
        focus (clear hS; go_simp; try rfl; done)
        simp only [List.getElem_toArray, List.getElem_cons_succ, List.getElem_cons_zero, Act.put, List.setIfInBounds_toArray, List.set_cons_zero, List.set_cons_succ]
        refine hd_take (v := ?_) 11 rfl (by kernel_rfl) (fun _ _ d _ _ h => (by cases d <;> exact h)) (by kernel_rfl) S2 (fun w' hS => ?_) ?_
        rotate_left
        focus (clear hS; go_simp; try rfl; done)
        simp only [List.getElem_toArray, List.getElem_cons_succ, List.getElem_cons_zero, Act.put, List.setIfInBounds_toArray, List.set_cons_zero, List.set_cons_succ]
        refine hd_done (by kernel_rfl) ?_
        go_wp2_with fail
        go_ret
        have q1 : IntKind.i64.wrap (IntKind.i64.wrap (b.tdiv 168) - IntKind.i64.wrap (a.tdiv 168)) = b / 168 - a / 168 := by
          rw [Int.tdiv_eq_ediv_of_nonneg hb, Int.tdiv_eq_ediv_of_nonneg ha, IntWalk.i64_in (b / 168) (by omega), IntWalk.i64_in (a / 168) (by omega), IntWalk.i64_in _ (by omega)]
        exact ⟨congrArg (fun z => Ending.returned (.int .i64 z)) (q1.trans (by rw [HR.out])), HB2.out⟩
      · skip
        refine hd_take (v := ?_) 4 rfl (by kernel_rfl) (fun _ _ d _ _ h => (by cases d <;> exact h)) (by kernel_rfl) S2 (fun w' hS => ?_) ?_
        rotate_left
        focus (clear hS; go_simp; try rfl; done)
        simp only [List.getElem_toArray, List.getElem_cons_succ, List.getElem_cons_zero, Act.put, List.setIfInBounds_toArray, List.set_cons_zero, List.set_cons_succ]
        refine hd_one 8 (by kernel_rfl) ?_
        refine op_call rfl (by kernel_rfl) (by go_simp; first | exact ⟨rfl, rfl⟩ | rfl) ?_
        refine (rate_any al w2).mono ?_
        rintro e w3 ⟨he, hw⟩
        rw [HR.out] at he
        subst he
        subst hw
        have hS2 := S2
        refine ⟨_, rfl, hS2, ?_⟩
        simp only [List.getElem_toArray, List.getElem_cons_succ, List.getElem_cons_zero, Act.put, List.setIfInBounds_toArray, List.set_cons_zero, List.set_cons_succ]
        refine hd_take (v := ?_) 9 rfl (by kernel_rfl) (fun _ _ d _ _ h => (by cases d <;> exact h)) (by kernel_rfl) S2 (fun w' hS => ?_) ?_
        rotate_left
        focus (clear hS; go_simp; try rfl; done)
        simp only [List.getElem_toArray, List.getElem_cons_succ, List.getElem_cons_zero, Act.put, List.setIfInBounds_toArray, List.set_cons_zero, List.set_cons_succ]
        refine hd_take (v := ?_) 10 rfl (by kernel_rfl) (fun _ _ d _ _ h => (by cases d <;> exact h)) (by kernel_rfl) S2 (fun w' hS => ?_) ?_
        rotate_left
        focus (clear hS; go_simp; try rfl; done)
        simp only [List.getElem_toArray, List.getElem_cons_succ, List.getElem_cons_zero, Act.put, List.setIfInBounds_toArray, List.set_cons_zero, List.set_cons_succ]
        refine hd_take (v := ?_) 11 rfl (by kernel_rfl) (fun _ _ d _ _ h => (by cases d <;> exact h)) (by kernel_rfl) S2 (fun w' hS => ?_) ?_
        rotate_left
        focus (clear hS; go_simp; try rfl; done)
        simp only [List.getElem_toArray, List.getElem_cons_succ, List.getElem_cons_zero, Act.put, List.setIfInBounds_toArray, List.set_cons_zero, List.set_cons_succ]
        refine hd_done (by kernel_rfl) ?_
        go_wp2_with fail
        go_ret
        have q1 : IntKind.i64.wrap (IntKind.i64.wrap (b.tdiv 136) - IntKind.i64.wrap (a.tdiv 136)) = b / 136 - a / 136 := by
          rw [Int.tdiv_eq_ediv_of_nonneg hb, Int.tdiv_eq_ediv_of_nonneg ha, IntWalk.i64_in (b / 136) (by omega), IntWalk.i64_in (a / 136) (by omega), IntWalk.i64_in _ (by omega)]
        exact ⟨congrArg (fun z => Ending.returned (.int .i64 z)) (q1.trans (by rw [HR.out])), HB2.out⟩
    · have t2 : decide (4 ≤ al) = false := decide_eq_false h4
      rw [if_neg h4]
      clear h4
      obtain ⟨W, hW⟩ : ∃ W, wideA al = W := ⟨_, rfl⟩
      have HW := Lib.hid hW
      rw [hW]
      have hw2 : W = 64 ∨ W = 128 := by rw [← hW]; exact wide_two al
      clear hW
      rcases hw2 with rfl | rfl <;>
      · go_enter Try.func105, Try.ntmps105
        go_wp2_with fail
        refine (event_any al _).mono ?_
        rintro e' w1 ⟨rfl, hb1⟩
        have HB : Hid (Below w.heap.size w w1) := Lib.hid (((Below.refl _ _).alloc (Nat.le_refl _) _).trans (hb1.mono (by simp)))
        clear hb1
        rw [HW.out]
        go_upto_region 6 with fail
        go_region
        all_goals go_wp2_with fail
        all_goals (go_ret; exact ⟨rfl, below_draw (HB.out.alloc HB.out.size _) 1⟩)
set_option maxHeartbeats 1000000 in
theorem works_any (t : Th) (w : World) : Calls Try.prog 100 #[.agg #[.int .u8 t.alg, .int .i64 t.out, .int .i64 t.key, .int .i64 t.custom, .int .i64 t.msg]] w (Told (.agg #[.int .u8 (wkK t), .int .i64 (wkS t)]) w) := by
  obtain ⟨al, ou, ke, cu, ms⟩ := t
  unfold wkK wkS
  simp only
  by_cases h3 : al = 3
  · have t1 : (al == (3 : Int)) = true := by rw [h3]; rfl
    rw [if_pos h3, if_pos h3]
    clear h3
    go_enter Try.func100, Try.ntmps100
    go_wp2_with fail
    refine bodyPost_ret (results_cell rfl (b := w.heap.size + 1) rfl (load_ev (k := .int .u8 5) (s := .int .i64 ke) ?_ ?_)) rfl ⟨rfl, ?_⟩
    · go_simp
    · go_simp
    · exact ((Below.refl _ _).alloc (Nat.le_refl _) _).alloc (by simp) _
  have t1 : (al == (3 : Int)) = false := by rw [beq_eq_false_iff_ne]; exact h3
  rw [if_neg h3, if_neg h3]
  clear h3
  by_cases h4 : 4 ≤ al
  · have t2 : decide (4 ≤ al) = true := decide_eq_true h4
    rw [if_pos h4, if_pos h4]
    clear h4
    go_enter Try.func100, Try.ntmps100
    go_wp2_with fail
    refine bodyPost_ret (results_cell rfl (b := w.heap.size + 1) rfl (load_ev (k := .int .u8 3) (s := .int .i64 200) ?_ ?_)) rfl ⟨rfl, ?_⟩
    · go_simp
    · go_simp
    · exact ((Below.refl _ _).alloc (Nat.le_refl _) _).alloc (by simp) _
  · have t2 : decide (4 ≤ al) = false := decide_eq_false h4
    rw [if_neg h4, if_neg h4]
    clear h4
    obtain ⟨K, hK⟩ : ∃ K, evkA al = K := ⟨_, rfl⟩
    obtain ⟨W, hW⟩ : ∃ W, wideA al = W := ⟨_, rfl⟩
    have HW := Lib.hid (And.intro hK hW)
    rw [hK, hW]
    clear hK hW
    go_enter Try.func100, Try.ntmps100
    go_wp2_with fail
    obtain ⟨w1, hw1⟩ : ∃ y, (w.alloc (.cells #[.int .u8 al, .int .i64 ou, .int .i64 ke, .int .i64 cu, .int .i64 ms] 130)).alloc (.cells #[.int .u8 0, .int .i64 0] 49) = y := ⟨_, rfl⟩
    have HB : Hid (Below w.heap.size w w1) := by rw [← hw1]; exact Lib.hid (((Below.refl _ _).alloc (Nat.le_refl _) _).alloc (by simp) _)
    have hblk : Blk w1 (w.heap.size + 1) 49 #[.int .u8 0, .int .i64 0] := by
      rw [← hw1]
      have := Blk.new (w.alloc (.cells #[.int .u8 al, .int .i64 ou, .int .i64 ke, .int .i64 cu, .int .i64 ms] 130)) 49 #[.int .u8 0, .int .i64 0]
      rw [show (w.alloc (.cells #[.int .u8 al, .int .i64 ou, .int .i64 ke, .int .i64 cu, .int .i64 ms] 130)).heap.size = w.heap.size + 1 from by simp] at this
      exact this
    have HBLK := Lib.hid hblk
    rw [hw1]
    clear hw1 hblk
    refine (event_any al w1).mono ?_
    rintro e' w2 ⟨rfl, hb1⟩
    rw [HW.out.1, HW.out.2]
    have hlt := HBLK.out.lt
    have b2 : Blk w2 (w.heap.size + 1) 49 #[.int .u8 0, .int .i64 0] := HBLK.out.only (Only.nothing hb1) (fun h => h)
    have c0 := b2.cellAt 0 rfl
    have c1 := b2.cellAt 1 rfl
    have f0 := b2.unfrozen 0
    have f1 := b2.unfrozen 1
    have hs2 : w.heap.size + 1 < w2.heap.size := b2.lt
    have HB2 : Hid (Below w.heap.size w w2) := Lib.hid (HB.out.trans (hb1.mono HB.out.size))
    clear b2 hb1
    go_wp2_with fail
    refine bodyPost_ret (results_cell rfl (b := w.heap.size + 1) rfl (load_ev (k := .int .u8 K) (s := .int .i64 W) ?_ ?_)) rfl ⟨rfl, ?_⟩
    · go_simp
    · go_simp
    · have h1 := (HB2.out.setCell (p := ⟨w.heap.size + 1, 0, none⟩) (by simp) (.int .u8 K)).setCell (p := ⟨w.heap.size + 1, 1, none⟩) (by simp) (.int .i64 W)
      exact h1.alloc h1.size _
set_option maxHeartbeats 1000000 in
theorem summed_any {m : Int} (t : Th) (h : OKt m t) (hm : m ≤ 900000000) (w : World) : Calls Try.prog 106 #[.agg #[.int .u8 t.alg, .int .i64 t.out, .int .i64 t.key, .int .i64 t.custom, .int .i64 t.msg]] w (Told (.int .i64 (summedA t)) w) := by
  have hm0 := h.m0
  have hm1 := h.m1
  have hrng := takenA_rng (t := t) (a := t.msg) (b := t.msg + endA t) hm0 (by have := endA_rng t; omega)
  have hend := endA_rng t
  have hblk := blocksA_rng (a := t.alg) hm0
  have HS := Lib.hid (SBox.new w t)
  have HTK : Hid (∀ w', Calls Try.prog 105 #[.agg #[.int .u8 t.alg, .int .i64 t.out, .int .i64 t.key, .int .i64 t.custom, .int .i64 t.msg], .int .i64 t.msg, .int .i64 (t.msg + endA t)] w' (Told (.int .i64 (takenA t t.msg (t.msg + endA t))) w')) := Lib.hid (fun w' => taken_any t _ _ w' hm0 (by omega) (by omega) (by omega))
  unfold summedA
  obtain ⟨K, hK⟩ : ∃ K, takenA t t.msg (t.msg + endA t) = K := ⟨_, rfl⟩
  rw [hK] at hrng HTK ⊢
  obtain ⟨E, hE⟩ : ∃ E, endA t = E := ⟨_, rfl⟩
  rw [hE] at hend HTK hrng
  have hE' : (if t.alg ≤ 5 ∧ 32 ≤ t.out then (3 : Int) else 2) = E := hE
  clear hK hE
  obtain ⟨al, ou, ke, cu, ms⟩ := t
  simp only at *
  by_cases h3 : al = 3
  · have t1 : (al == (3 : Int)) = true := by rw [h3]; rfl
    rw [if_pos h3]
    clear h3
    go_enter Try.func106, Try.ntmps106
    go_wp2_with fail
    go_ret
    exact ⟨rfl, (Below.refl _ _).alloc (Nat.le_refl _) _⟩
  have t1 : (al == (3 : Int)) = false := by rw [beq_eq_false_iff_ne]; exact h3
  rw [if_neg h3]
  clear h3
  by_cases h4 : 4 ≤ al
  · have t2 : decide (4 ≤ al) = true := decide_eq_true h4
    rw [if_pos h4]
    clear h4 hblk
    have hw1 : IntKind.i64.wrap (ms + E) = ms + E := IntWalk.i64_in _ (by omega)
    have hw2 : IntKind.i64.wrap (K + 1) = K + 1 := IntWalk.i64_in _ (by omega)
    by_cases h5 : al ≤ 5
    · have t3 : decide (al ≤ 5) = true := decide_eq_true h5
      by_cases h6 : 32 ≤ ou
      · have t4 : decide (32 ≤ ou) = true := decide_eq_true h6
        rw [if_pos ⟨h5, h6⟩] at hE'
        subst hE'
        clear h5 h6
        go_enter Try.func106, Try.ntmps106
        go_wp2_with fail
        refine (HTK.out _).mono ?_
        rintro e' w2 ⟨rfl, hb1⟩
        have HB : Hid (Below w.heap.size w w2) := Lib.hid (((Below.refl _ _).alloc (Nat.le_refl _) _).trans (hb1.mono (by simp)))
        clear hb1
        go_wp2_with fail
        go_ret
        exact ⟨rfl, HB.out⟩
      · have t4 : decide (32 ≤ ou) = false := decide_eq_false h6
        rw [if_neg (by omega)] at hE'
        subst hE'
        clear h5 h6
        go_enter Try.func106, Try.ntmps106
        go_wp2_with fail
        refine (HTK.out _).mono ?_
        rintro e' w2 ⟨rfl, hb1⟩
        have HB : Hid (Below w.heap.size w w2) := Lib.hid (((Below.refl _ _).alloc (Nat.le_refl _) _).trans (hb1.mono (by simp)))
        clear hb1
        go_wp2_with fail
        go_ret
        exact ⟨rfl, HB.out⟩
    · have t3 : decide (al ≤ 5) = false := decide_eq_false h5
      rw [if_neg (by omega)] at hE'
      subst hE'
      clear h5
      go_enter Try.func106, Try.ntmps106
      go_wp2_with fail
      refine (HTK.out _).mono ?_
      rintro e' w2 ⟨rfl, hb1⟩
      have HB : Hid (Below w.heap.size w w2) := Lib.hid (((Below.refl _ _).alloc (Nat.le_refl _) _).trans (hb1.mono (by simp)))
      clear hb1
      go_wp2_with fail
      go_ret
      exact ⟨rfl, HB.out⟩
  · have t2 : decide (4 ≤ al) = false := decide_eq_false h4
    rw [if_neg h4]
    clear h4 HTK hE' hrng hend
    have hs := HS.out
    obtain ⟨W, hW⟩ : ∃ W, wideA al = W := ⟨_, rfl⟩
    have HW := Lib.hid hW
    rw [hW]
    have hw2 : W = 64 ∨ W = 128 := by rw [← hW]; exact wide_two al
    clear hW
    obtain ⟨N, hN⟩ : ∃ N, blocksA al ms = N := ⟨_, rfl⟩
    have HN := Lib.hid hN
    rw [hN] at hblk ⊢
    clear hN
    go_enter Try.func106, Try.ntmps106
    go_wp2_with fail
    obtain ⟨w1, hw1⟩ : ∃ y, w.alloc (.cells #[.int .u8 al, .int .i64 ou, .int .i64 ke, .int .i64 cu, .int .i64 ms] 130) = y := ⟨_, rfl⟩
    have HB : Hid (Below w.heap.size w w1) := by rw [← hw1]; exact Lib.hid ((Below.refl _ _).alloc (Nat.le_refl _) _)
    rw [hw1] at hs ⊢
    clear hw1 HS
    have HS := Lib.hid hs
    clear hs
    refine (event_any al _).mono ?_
    rintro e' w2 ⟨rfl, hb1⟩
    rw [HW.out]
    obtain ⟨B, hB⟩ : ∃ B, w.heap.size = B := ⟨_, rfl⟩
    rw [hB]
    have hs2 := HS.out.below hb1
    rw [hB] at hs2
    have HB2 : Hid (Below w.heap.size w w2) := Lib.hid (HB.out.trans (hb1.mono HB.out.size))
    clear hb1 HS HB hB
    go_upto_region 9 with fail
    obtain ⟨w3, hw3⟩ : ∃ y, w2.alloc (.cells #[.int .u8 (evkA al), .int .i64 W] 49) = y := ⟨_, rfl⟩
    have hs3 : SBox B ⟨al, ou, ke, cu, ms⟩ w3 := by rw [← hw3]; exact hs2.below ((Below.refl _ _).alloc (Nat.le_refl _) _)
    have HB3 : Hid (Below w.heap.size w w3) := by rw [← hw3]; exact Lib.hid (HB2.out.alloc HB2.out.size _)
    try rw [hw3]
    clear hw3 HB2 hs2
    refine hd_start (SBox B ⟨al, ou, ke, cu, ms⟩) (by kernel_rfl) ?_
    intro w4 hw'
    have S4 : SBox B ⟨al, ou, ke, cu, ms⟩ w4 := by rw [hw']; exact hs3.below (below_draw (Below.refl _ _) 1)
    have HB4 : Hid (Below w.heap.size w w4) := by rw [hw']; exact Lib.hid (below_draw HB3.out 1)
    clear hw' hs3 HB3
    refine hd_take (v := ?_) 0 rfl (by kernel_rfl) (fun _ _ d _ _ h => (by cases d <;> exact h)) (by kernel_rfl) S4 (fun w' hS => ?_) ?_
    rotate_left
    focus (have q0 := SBox.f0 w' hS; have q1 := SBox.f4 w' hS; clear hS; go_simp; try rfl; done)
    simp only [List.getElem_toArray, List.getElem_cons_succ, List.getElem_cons_zero, Act.put, List.setIfInBounds_toArray, List.set_cons_zero, List.set_cons_succ]
    refine hd_take (v := ?_) 1 rfl (by kernel_rfl) (fun _ _ d _ _ h => (by cases d <;> exact h)) (by kernel_rfl) S4 (fun w' hS => ?_) ?_
    rotate_left
    focus (have q0 := SBox.f0 w' hS; have q1 := SBox.f4 w' hS; clear hS; go_simp; try rfl; done)
    simp only [List.getElem_toArray, List.getElem_cons_succ, List.getElem_cons_zero, Act.put, List.setIfInBounds_toArray, List.set_cons_zero, List.set_cons_succ]
    refine hd_take (v := ?_) 2 rfl (by kernel_rfl) (fun _ _ d _ _ h => (by cases d <;> exact h)) (by kernel_rfl) S4 (fun w' hS => ?_) ?_
    rotate_left
    focus (have q0 := SBox.f0 w' hS; have q1 := SBox.f4 w' hS; clear hS; go_simp; try rfl; done)
    simp only [List.getElem_toArray, List.getElem_cons_succ, List.getElem_cons_zero, Act.put, List.setIfInBounds_toArray, List.set_cons_zero, List.set_cons_succ]
    refine hd_take (v := ?_) 3 rfl (by kernel_rfl) (fun _ _ d _ _ h => (by cases d <;> exact h)) (by kernel_rfl) S4 (fun w' hS => ?_) ?_
    rotate_left
    focus (have q0 := SBox.f0 w' hS; have q1 := SBox.f4 w' hS; clear hS; go_simp; try rfl; done)
    simp only [List.getElem_toArray, List.getElem_cons_succ, List.getElem_cons_zero, Act.put, List.setIfInBounds_toArray, List.set_cons_zero, List.set_cons_succ]
    refine hd_take (v := ?_) 5 rfl (by kernel_rfl) (fun _ _ d _ _ h => (by cases d <;> exact h)) (by kernel_rfl) S4 (fun w' hS => ?_) ?_
    rotate_left
    focus (have q0 := SBox.f0 w' hS; have q1 := SBox.f4 w' hS; clear hS; go_simp; try rfl; done)
    simp only [List.getElem_toArray, List.getElem_cons_succ, List.getElem_cons_zero, Act.put, List.setIfInBounds_toArray, List.set_cons_zero, List.set_cons_succ]
    refine hd_take (v := ?_) 6 rfl (by kernel_rfl) (fun _ _ d _ _ h => (by cases d <;> exact h)) (by kernel_rfl) S4 (fun w' hS => ?_) ?_
    rotate_left
    focus (have q0 := SBox.f0 w' hS; have q1 := SBox.f4 w' hS; clear hS; go_simp; try rfl; done)
    simp only [List.getElem_toArray, List.getElem_cons_succ, List.getElem_cons_zero, Act.put, List.setIfInBounds_toArray, List.set_cons_zero, List.set_cons_succ]
    refine hd_take (v := ?_) 7 rfl (by kernel_rfl) (fun _ _ d _ _ h => (by cases d <;> exact h)) (by kernel_rfl) S4 (fun w' hS => ?_) ?_
    rotate_left
    focus (have q0 := SBox.f0 w' hS; have q1 := SBox.f4 w' hS; clear hS; go_simp; try rfl; done)
    simp only [List.getElem_toArray, List.getElem_cons_succ, List.getElem_cons_zero, Act.put, List.setIfInBounds_toArray, List.set_cons_zero, List.set_cons_succ]
    rcases hw2 with rfl | rfl
    · skip
      refine hd_take (v := ?_) 8 rfl (by kernel_rfl) (fun _ _ d _ _ h => (by cases d <;> exact h)) (by kernel_rfl) S4 (fun w' hS => ?_) ?_
      rotate_left
      focus (clear hS; go_simp; try rfl; done)
      simp only [List.getElem_toArray, List.getElem_cons_succ, List.getElem_cons_zero, Act.put, List.setIfInBounds_toArray, List.set_cons_zero, List.set_cons_succ]
      refine hd_one 4 (by kernel_rfl) ?_
      refine op_call rfl (by kernel_rfl) (by go_simp; first | exact ⟨rfl, rfl⟩ | rfl) ?_
      refine (blocks_any al ms w4 (by omega) (by omega)).mono ?_
      rintro e w5 ⟨he, hb⟩
      rw [HN.out] at he
      subst he
      have hS2 := S4.below hb
      have S5 := hS2
      have HB5 : Hid (Below w.heap.size w w5) := Lib.hid (HB4.out.trans (hb.mono HB4.out.size))
      clear hb
      refine ⟨_, rfl, hS2, ?_⟩
      simp only [List.getElem_toArray, List.getElem_cons_succ, List.getElem_cons_zero, Act.put, List.setIfInBounds_toArray, List.set_cons_zero, List.set_cons_succ]
      refine hd_take (v := ?_) 9 rfl (by kernel_rfl) (fun _ _ d _ _ h => (by cases d <;> exact h)) (by kernel_rfl) S5 (fun w' hS => ?_) ?_
      rotate_left
      focus (clear hS; go_simp; try rfl; done)
      simp only [List.getElem_toArray, List.getElem_cons_succ, List.getElem_cons_zero, Act.put, List.setIfInBounds_toArray, List.set_cons_zero, List.set_cons_succ]
      refine hd_take (v := ?_) 10 rfl (by kernel_rfl) (fun _ _ d _ _ h => (by cases d <;> exact h)) (by kernel_rfl) S5 (fun w' hS => ?_) ?_
      rotate_left
      focus (clear hS; go_simp; try rfl; done)
      simp only [List.getElem_toArray, List.getElem_cons_succ, List.getElem_cons_zero, Act.put, List.setIfInBounds_toArray, List.set_cons_zero, List.set_cons_succ]
      refine hd_take (v := ?_) 11 rfl (by kernel_rfl) (fun _ _ d _ _ h => (by cases d <;> exact h)) (by kernel_rfl) S5 (fun w' hS => ?_) ?_
      rotate_left
      focus (clear hS; go_simp; try rfl; done)
      simp only [List.getElem_toArray, List.getElem_cons_succ, List.getElem_cons_zero, Act.put, List.setIfInBounds_toArray, List.set_cons_zero, List.set_cons_succ]
      refine hd_done (by kernel_rfl) ?_
      go_wp2_with fail
      go_ret
      have q1 : IntKind.i64.wrap (IntKind.i64.wrap (N - IntKind.i64.wrap (ms.tdiv 64)) + 1) = N - ms / 64 + 1 := by
        rw [Int.tdiv_eq_ediv_of_nonneg hm0, IntWalk.i64_in (ms / 64) (by omega), IntWalk.i64_in (N - ms / 64) (by omega), IntWalk.i64_in _ (by omega)]
      exact ⟨congrArg (fun z => Ending.returned (.int .i64 z)) q1, HB5.out⟩
    · skip
      refine hd_take (v := ?_) 8 rfl (by kernel_rfl) (fun _ _ d _ _ h => (by cases d <;> exact h)) (by kernel_rfl) S4 (fun w' hS => ?_) ?_
      rotate_left
      focus (clear hS; go_simp; try rfl; done)
      simp only [List.getElem_toArray, List.getElem_cons_succ, List.getElem_cons_zero, Act.put, List.setIfInBounds_toArray, List.set_cons_zero, List.set_cons_succ]
      refine hd_one 4 (by kernel_rfl) ?_
      refine op_call rfl (by kernel_rfl) (by go_simp; first | exact ⟨rfl, rfl⟩ | rfl) ?_
      refine (blocks_any al ms w4 (by omega) (by omega)).mono ?_
      rintro e w5 ⟨he, hb⟩
      rw [HN.out] at he
      subst he
      have hS2 := S4.below hb
      have S5 := hS2
      have HB5 : Hid (Below w.heap.size w w5) := Lib.hid (HB4.out.trans (hb.mono HB4.out.size))
      clear hb
      refine ⟨_, rfl, hS2, ?_⟩
      simp only [List.getElem_toArray, List.getElem_cons_succ, List.getElem_cons_zero, Act.put, List.setIfInBounds_toArray, List.set_cons_zero, List.set_cons_succ]
      refine hd_take (v := ?_) 9 rfl (by kernel_rfl) (fun _ _ d _ _ h => (by cases d <;> exact h)) (by kernel_rfl) S5 (fun w' hS => ?_) ?_
      rotate_left
      focus (clear hS; go_simp; try rfl; done)
      simp only [List.getElem_toArray, List.getElem_cons_succ, List.getElem_cons_zero, Act.put, List.setIfInBounds_toArray, List.set_cons_zero, List.set_cons_succ]
      refine hd_take (v := ?_) 10 rfl (by kernel_rfl) (fun _ _ d _ _ h => (by cases d <;> exact h)) (by kernel_rfl) S5 (fun w' hS => ?_) ?_
      rotate_left
      focus (clear hS; go_simp; try rfl; done)
      simp only [List.getElem_toArray, List.getElem_cons_succ, List.getElem_cons_zero, Act.put, List.setIfInBounds_toArray, List.set_cons_zero, List.set_cons_succ]
      refine hd_take (v := ?_) 11 rfl (by kernel_rfl) (fun _ _ d _ _ h => (by cases d <;> exact h)) (by kernel_rfl) S5 (fun w' hS => ?_) ?_
      rotate_left
      focus (clear hS; go_simp; try rfl; done)
      simp only [List.getElem_toArray, List.getElem_cons_succ, List.getElem_cons_zero, Act.put, List.setIfInBounds_toArray, List.set_cons_zero, List.set_cons_succ]
      refine hd_done (by kernel_rfl) ?_
      go_wp2_with fail
      go_ret
      have q1 : IntKind.i64.wrap (IntKind.i64.wrap (N - IntKind.i64.wrap (ms.tdiv 128)) + 1) = N - ms / 128 + 1 := by
        rw [Int.tdiv_eq_ediv_of_nonneg hm0, IntWalk.i64_in (ms / 128) (by omega), IntWalk.i64_in (N - ms / 128) (by omega), IntWalk.i64_in _ (by omega)]
      exact ⟨congrArg (fun z => Ending.returned (.int .i64 z)) q1, HB5.out⟩
end
end Go.Proofs.Ytkidijjhedjifaa
