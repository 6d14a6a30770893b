/- Join: the program's and the document's. Conditions: the two lists have at most 4000000 runs together; counts are int values. -/
import Derived.Test.YtmdfmkdhfhbkjaaRows
import Derived.Test.YtmdfmkdhfhbkjaaChk
import Derived.Test.YtmdfmkdhfhbkjaaKeep
import Derived.Test.YtmdfmkdhfhbkjaaHeld
namespace Go.Proofs.Ytmdfmkdhfhbkjaa
open Go.RowKit
set_option maxRecDepth 100000
set_option linter.unusedVariables false
set_option linter.unusedSimpArgs false
def joinS (out : List Rn) (r : Rn) : List Rn :=
  if r.c < 1 then out else match out.getLast? with
    | some x => if eqE2 x.k x.s r.k r.s = true then out.dropLast ++ [⟨x.k, x.s, sat x.c r.c⟩] else out ++ [r]
    | none => [r]
def joinL (a b : List Rn) : List Rn := (a ++ b).foldl joinS []
theorem joinS_off {out : List Rn} {r : Rn} (h : r.c < 1) : joinS out r = out := by unfold joinS; rw [if_pos h]
theorem joinS_nil {r : Rn} (h : ¬ r.c < 1) : joinS [] r = [r] := by unfold joinS; rw [if_neg h]; rfl
theorem joinS_same {out : List Rn} {x r : Rn} (h : ¬ r.c < 1) (he : eqE2 x.k x.s r.k r.s = true) : joinS (out ++ [x]) r = out ++ [⟨x.k, x.s, sat x.c r.c⟩] := by
  unfold joinS
  rw [if_neg h]
  simp [he]
theorem joinS_other {out : List Rn} {x r : Rn} (h : ¬ r.c < 1) (he : eqE2 x.k x.s r.k r.s = false) : joinS (out ++ [x]) r = out ++ [x] ++ [r] := by
  unfold joinS
  rw [if_neg h]
  simp [he]
/-- counts from 0 on, int values -/
def okJ (l : List Rn) : Prop := ∀ r ∈ l, 0 ≤ r.c ∧ r.c ≤ 9223372036854775807
theorem okJ.app {l : List Rn} {r : Rn} (h : okJ l) (h1 : 0 ≤ r.c) (h2 : r.c ≤ 9223372036854775807) : okJ (l ++ [r]) := fun x hx => by
  rcases List.mem_append.1 hx with hx | hx
  · exact h x hx
  · simp at hx; subst hx; exact ⟨h1, h2⟩
theorem okJ.init {l : List Rn} {r : Rn} (h : okJ (l ++ [r])) : okJ l := fun x hx => h x (List.mem_append_left _ hx)
theorem okJ.last {l : List Rn} {r : Rn} (h : okJ (l ++ [r])) : 0 ≤ r.c ∧ r.c ≤ 9223372036854775807 := h r (by simp)
/-- the last run's count is put anew -/
theorem Knd.Mk.last {w w1 : World} {g cap N : Nat} {l : List Rn} {x : Rn} (c : Int) (h : KN.Mk (l ++ [x]) w (.slice (some ⟨g, 0, none⟩) N cap) w1) {off : Nat} (hoff : off = l.length * 3 + 2) :
    KN.Mk (l ++ [⟨x.k, x.s, c⟩]) w (.slice (some ⟨g, 0, none⟩) N cap) (w1.setCells g off [.int .i64 c]) := by
  subst hoff
  obtain ⟨h1, h2, h3⟩ := h
  have hN : N = l.length + 1 := by
    rcases h1.2 with ⟨hv, _⟩ | ⟨g', cap', cur, hv, _⟩
    · simp at hv
    · injection hv with _ e _; simpa using e
  subst hN
  have hg : w.heap.size ≤ g := h3 g rfl
  have hw : Only (fpv (.slice (some ⟨g, 0, none⟩) (l.length + 1) cap)) w1 (w1.setCells g (l.length * 3 + 2) [.int .i64 c]) := Only.sets (S := fpv (.slice (some ⟨g, 0, none⟩) (l.length + 1) cap)) (.inl rfl) [.int .i64 c] (l.length * 3 + 2) w1 (Only.refl _ _)
  refine ⟨?_, h2.trans (hw.below0 (fun x hx hs => ?_) h2.size), h3⟩
  · unfold Knd.O at *
    rw [show (l ++ [x]).length = l.length + 1 from by simp] at h1
    rw [show (l ++ [(⟨x.k, x.s, c⟩ : Rn)]).length = l.length + 1 from by simp]
    have q := ownsRow_setCells [.int .i64 c] w1 (KN.fl (l ++ [x])) (l.length * 3 + 2) h1
    have e1 : KN.fl (l ++ [x]) = (KN.fl l ++ [.int .u8 x.k, .int .i64 x.s]) ++ [.int .i64 x.c] := by rw [KN.fl_app, KN.fl_one]; simp [KN]
    have e2 : KN.fl (l ++ [(⟨x.k, x.s, c⟩ : Rn)]) = (KN.fl l ++ [.int .u8 x.k, .int .i64 x.s]) ++ [.int .i64 c] := by rw [KN.fl_app, KN.fl_one]; simp [KN]
    have e3 : (KN.fl l ++ [Value.int .u8 x.k, .int .i64 x.s]).length = l.length * 3 + 2 := by rw [List.length_append, KN.fl_len]; rfl
    have e4 := putAt_app [.int .i64 c] (KN.fl l ++ [.int .u8 x.k, .int .i64 x.s]) [.int .i64 x.c] (by simp)
    have e5 : putAt ((KN.fl l ++ [.int .u8 x.k, .int .i64 x.s]) ++ [.int .i64 x.c]) (l.length * 3 + 2) [.int .i64 c] = (KN.fl l ++ [.int .u8 x.k, .int .i64 x.s]) ++ [.int .i64 c] := by rw [← e3, e4]; simp
    rw [e1, e5] at q
    rw [e2]
    exact q
  · have := h3 x hs
    omega
theorem joinS_len (out : List Rn) (r : Rn) : (joinS out r).length ≤ out.length + 1 := by
  unfold joinS
  split
  · omega
  · split
    · rename_i x hx
      have : out ≠ [] := by rintro rfl; simp at hx
      have hp := List.length_pos_iff.2 this
      split <;> simp <;> omega
    · simp
theorem fold_len : ∀ (l z : List Rn), (l.foldl joinS z).length ≤ z.length + l.length
  | [], z => by simp
  | x :: l, z => by
    have h1 := fold_len l (joinS z x)
    have h2 := joinS_len z x
    rw [List.foldl_cons, List.length_cons]
    omega
theorem joinS_ok {z : List Rn} {r : Rn} (h : okJ z) (hr : r.c ≤ 9223372036854775807) : okJ (joinS z r) := by
  by_cases hc : r.c < 1
  · rw [joinS_off hc]; exact h
  · rcases List.eq_nil_or_concat z with rfl | ⟨z0, x, rfl⟩
    · rw [joinS_nil hc]
      intro y hy
      simp at hy
      subst hy
      omega
    · rw [List.concat_eq_append] at *
      cases he : eqE2 x.k x.s r.k r.s with
      | true =>
        rw [joinS_same hc he]
        obtain ⟨h1, h2⟩ := h.last
        obtain ⟨h3, h4⟩ := sat_rng h1 (show 0 ≤ r.c by omega) hr
        exact h.init.app h3 h4
      | false =>
        rw [joinS_other hc he]
        exact h.app (by omega) hr
theorem fold_ok : ∀ (l z : List Rn), okC l → okJ z → okJ (l.foldl joinS z)
  | [], z, _, h => h
  | x :: l, z, hl, h => fold_ok l (joinS z x) (fun y hy => hl y (List.mem_cons_of_mem _ hy)) (joinS_ok h (hl x (by simp)).2)
theorem okC_take {l : List Rn} (h : okC l) (k : Nat) : okC (l.take k) := fun x hx => h x (List.mem_of_mem_take hx)
theorem okJ_nil : okJ [] := fun _ h => by cases h
/-- the outer loop's condition -/
def JInv (a b : List Rn) (w : World) (o i : Value) (w2 : World) : Prop := ∃ lo, ((i = .int .i64 0 ∧ lo = []) ∨ (i = .int .i64 1 ∧ lo = a.foldl joinS []) ∨ (i = .int .i64 2 ∧ lo = (a ++ b).foldl joinS [])) ∧ KN.Mk lo w o w2
theorem ix0 (ao bo : Option Addr) (n m c d : Nat) (w : World) : (Instr.index 76 (.agg #[.slice ao n c, .slice bo m d]) (.int .i64 0)).run Try.prog w = .ok (.slice ao n c) w := by kernel_rfl
theorem ix1 (ao bo : Option Addr) (n m c d : Nat) (w : World) : (Instr.index 76 (.agg #[.slice ao n c, .slice bo m d]) (.int .i64 1)).run Try.prog w = .ok (.slice bo m d) w := by kernel_rfl
set_option maxHeartbeats 4000000 in
theorem join_any (u v : Value) (a b : List Rn) (w : World) (hu : KN.R w u a) (hv : KN.R w v b) (ha : okC a) (hb : okC b) (hn : a.length + b.length ≤ 4000000) : Calls Try.prog 26 #[u, v] w (KN.New (joinL a b) w) := by
  have HU := Lib.hid hu
  have HV := Lib.hid hv
  have HA := Lib.hid ha
  have HB := Lib.hid hb
  obtain ⟨ao, acap, rfl, _, _, _⟩ := hu.any
  obtain ⟨bo, bcap, rfl, _, _, _⟩ := hv.any
  obtain ⟨i0, hi, hz0, hz1, hz2⟩ := info_parts infoN
  have HI := Lib.hid (And.intro hi (And.intro hz0 (And.intro hz1 hz2)))
  clear hu hv ha hb hi hz0 hz1 hz2
  go_enter Try.func26, Try.ntmps26
  go_wp2_with fail
  go_loopw [5, 14] (fun o i w2 => Hid (JInv a b w o i w2) ∧ (i = .int .i64 0 ∨ i = .int .i64 1 ∨ i = .int .i64 2)) (fun _ i _ => 2 - (intOf i).toNat)
  case atStart => exact ⟨Lib.hid ⟨[], .inl ⟨rfl, rfl⟩, Knd.Mk.nil KN w⟩, .inl rfl⟩
  case round =>
    obtain ⟨HJ, rfl | rfl | rfl⟩ := hrel
    · obtain ⟨z, hz⟩ : ∃ z : List Rn, z = [] := ⟨_, rfl⟩
      have HZ : Hid (KN.Mk z w u5 wr) := by
        obtain ⟨lo, h, hm⟩ := HJ.out
        rcases h with ⟨_, rfl⟩ | ⟨h, _⟩ | ⟨h, _⟩
        · rw [hz]; exact Lib.hid hm
        all_goals simp at h
      have HE : Hid (∀ o w2, KN.Mk (a.foldl joinS z) w o w2 → JInv a b w o (.int .i64 1) w2) := Lib.hid (fun o w2 h => ⟨_, .inr (.inl ⟨rfl, rfl⟩), by rw [← hz]; exact h⟩)
      have hzl : z.length + a.length ≤ 4000000 := by rw [hz]; simp; omega
      have HZO : Hid (okJ z) := by rw [hz]; exact Lib.hid okJ_nil
      clear hz HJ HV HB
      have hix := ix0 ao bo a.length b.length acap bcap
      go_wp2_with fail
      go_loopw [5, 19] (fun o i w2 => ∃ (j : Nat), j ≤ a.length ∧ i = .int .i64 (j : Int) ∧ Hid (KN.Mk ((a.take j).foldl joinS z) w o w2)) (fun _ i _ => a.length - (intOf i).toNat)
      case atStart => exact ⟨0, Nat.zero_le _, rfl, HZ⟩
      case round =>
        clear HZ
        obtain ⟨j, hj, rfl, HR⟩ := hrel
        by_cases hlt : j < a.length
        · obtain ⟨⟨rk, rsz, rc⟩, hx⟩ : ∃ x, a[j]? = some x := ⟨_, List.getElem?_eq_getElem hlt⟩
          obtain ⟨g, off, rfl, hg, d1, d2, d3⟩ := runCells HU.out HR.out.2.1 hx
          have hgr : g < wr.heap.size := Nat.lt_of_lt_of_le hg HR.out.2.1.size
          obtain ⟨r1, r2⟩ := HA.out _ (List.mem_of_getElem? hx)
          dsimp only at r1 r2
          have hs := fold_step joinS z hx
          obtain ⟨lo, hlo⟩ : ∃ lo, (a.take j).foldl joinS z = lo := ⟨_, rfl⟩
          have hll := fold_len (a.take j) z
          have hlk := fold_ok (a.take j) z (okC_take HA.out j) HZO.out
          rw [hlo] at hs hll hlk HR
          rw [List.length_take] at hll
          have HM : Hid (KN.Mk lo w u5 (wr.alloc (.cells #[.int .u8 rk, .int .i64 rsz, .int .i64 rc] 61))) := Lib.hid (HR.out.below ((Below.refl _ _).alloc (Nat.le_refl _) _))
          obtain ⟨L, hL⟩ : ∃ L, lo.length = L := ⟨_, rfl⟩
          have hLb : L ≤ 4000000 := by omega
          clear hx HR hlo hll
          have HL := Lib.hid hL
          by_cases hc : rc < 1
          · rw [joinS_off hc] at hs
            have HS : Hid (KN.Mk ((a.take (j + 1)).foldl joinS z) w u5 (wr.alloc (.cells #[.int .u8 rk, .int .i64 rsz, .int .i64 rc] 61))) := by rw [hs]; exact HM
            have hcb : decide (rc < 1) = true := by simpa using hc
            clear hs hlk HM hL HL
            go_wp2_with fail
            go_roundw
            case rel => exact ⟨j + 1, by omega, by go_num, HS⟩
            case measure => simp [intOf]; omega
          · have hcb : decide (rc < 1) = false := by simpa using hc
            rcases List.eq_nil_or_concat lo with rfl | ⟨l0, ⟨yk, ys, yc⟩, rfl⟩
            · obtain ⟨oo, ocap, hu5⟩ := HM.out.1.any
              rw [hL] at hu5
              subst hu5
              rw [joinS_nil hc] at hs
              have hL0 : L = 0 := by rw [← hL]; rfl
              have hLd : decide (0 < L) = false := by rw [hL0]; rfl
              have HS := Lib.hid hs
              clear hs hlk hL hL0
              go_wp2_with fail
              go_quiet (fail)
              obtain ⟨wq, hwq⟩ : ∃ wq, wq = (wr.alloc (.cells #[.int .u8 rk, .int .i64 rsz, .int .i64 rc] 61)).drewN nq := ⟨_, rfl⟩
              have HMq : Hid (KN.Mk ([]) w (.slice oo L ocap) wq) := by rw [hwq]; exact Lib.hid (HM.out.draw nq)
              have t0 : wq.cell? ⟨wr.heap.size, 0, none⟩ = some (.int .u8 rk) := by rw [hwq]; exact World.cell?_alloc_new wr _ _ 0
              have t1 : wq.cell? ⟨wr.heap.size, 1, none⟩ = some (.int .i64 rsz) := by rw [hwq]; exact World.cell?_alloc_new wr _ _ 1
              have t2 : wq.cell? ⟨wr.heap.size, 2, none⟩ = some (.int .i64 rc) := by rw [hwq]; exact World.cell?_alloc_new wr _ _ 2
              rw [← hwq]
              clear hwq HM
              have HOWN := HMq.out.alloc (.cells #[.int .u8 rk, .int .i64 rsz, .int .i64 rc] 61) (N := L) (by rw [HL.out])
              obtain ⟨hi, hz0, hz1, hz2⟩ := HI.out
              go_wp2_with (at_builtin; refine wpList_append_keep _ rfl _ _ 32 rfl 61 i0 _ 3 24 Try.underlying32 hi hz0 hz1 hz2 rfl (by decide) (.slice oo L ocap) L (KN.fl ([])) rfl HOWN ⟨wq.heap.size, 0, none⟩ 1 1 [.int .u8 rk, .int .i64 rsz, .int .i64 rc] rfl rfl (World.news_of_block (heap_alloc_new _ _)) (KN.one ⟨rk, rsz, rc⟩) (by unfold maxLen; omega) (by omega) (by decide) ?_)
              intro v' w2 hown hgrow hat hne
              have hat2 : v'.ownBlock = (Value.slice oo L ocap).ownBlock ∨ v'.ownBlock = some (wq.heap.size + 1) := by
                rcases hat with hat | hat
                · exact .inl hat
                · exact .inr (by simpa using hat.1)
              have HN : Hid (KN.Mk ((a.take (j + 1)).foldl joinS z) w v' w2) := by
                rw [HS.out]
                exact Lib.hid (HMq.out.more (by rw [HL.out]) rfl hown hgrow hat2)
              clear hown hgrow hat hne hat2 HOWN hi hz0 hz1 hz2 t0 t1 t2 HMq
              go_wp2
              go_roundw
              case rel => exact ⟨j + 1, by omega, by go_num, HN⟩
              case measure => simp [intOf]; omega
            · rw [List.concat_eq_append] at *
              obtain ⟨g2, ocap, hu5⟩ := HM.out.1.form (by simp)
              rw [hL] at hu5
              subst hu5
              obtain ⟨y1, y2⟩ := hlk.last
              dsimp only at y1 y2
              obtain ⟨n1, hn1⟩ : ∃ n1, l0.length = n1 := ⟨_, rfl⟩
              have hLn : L = n1 + 1 := by rw [← hL, ← hn1]; simp
              have hLd : decide (0 < L) = true := by rw [hLn]; simp
              have hn1l : n1 < L := by omega
              have hj1 : IntKind.i64.wrap ((L : Int) - 1) = (n1 : Int) := by rw [IntWalk.i64_in _ (by omega)]; omega
              have hget : (l0 ++ [(⟨yk, ys, yc⟩ : Rn)])[n1]? = some ⟨yk, ys, yc⟩ := by rw [← hn1]; simp
              have e1 : (wr.alloc (.cells #[.int .u8 rk, .int .i64 rsz, .int .i64 rc] 61)).cell? ⟨g2, n1 * 3, none⟩ = some (.int .u8 yk) := HM.out.1.get hget 0 _ rfl
              have e2 : (wr.alloc (.cells #[.int .u8 rk, .int .i64 rsz, .int .i64 rc] 61)).cell? ⟨g2, n1 * 3 + 1, none⟩ = some (.int .i64 ys) := HM.out.1.get hget 1 _ rfl
              have e3 : (wr.alloc (.cells #[.int .u8 rk, .int .i64 rsz, .int .i64 rc] 61)).cell? ⟨g2, n1 * 3 + 2, none⟩ = some (.int .i64 yc) := HM.out.1.get hget 2 _ rfl
              have FRZ := Lib.hid (HM.out.1.frozen (n1 * 3 + 2))
              have HN1 := Lib.hid hn1
              have hsat := sat_rng y1 (show 0 ≤ rc by omega) r2
              rcases eqcE yk ys rk rsz with ⟨b1, b2, he⟩ | ⟨b1, he⟩ | ⟨b1, b2, he⟩
              · rw [joinS_same hc he] at hs
                have HS := Lib.hid hs
                clear hs hlk hL hget hLn hn1
                go_wp2_with fail
                go_quiet (fail)
                obtain ⟨wq, hwq⟩ : ∃ wq, wq = (wr.alloc (.cells #[.int .u8 rk, .int .i64 rsz, .int .i64 rc] 61)).drewN nq := ⟨_, rfl⟩
                have HMq : Hid (KN.Mk (l0 ++ [⟨yk, ys, yc⟩]) w (.slice (some ⟨g2, 0, none⟩) L ocap) (wq.drewN 1)) := by rw [hwq]; exact Lib.hid ((HM.out.draw nq).draw 1)
                have T2 : ∀ w', w' = wq.drewN 1 → w'.cell? ⟨wr.heap.size, 2, none⟩ = some (.int .i64 rc) := by rintro _ rfl; rw [hwq]; exact World.cell?_alloc_new wr _ _ 2
                have E3 : ∀ w', w' = wq.drewN 1 → w'.cell? ⟨g2, n1 * 3 + 2, none⟩ = some (.int .i64 yc) := by rintro _ rfl; rw [hwq]; exact e3
                have F3 : ∀ w', w' = wq.drewN 1 → w'.frozen? ⟨g2, n1 * 3 + 2, none⟩ = false := by rintro _ rfl; rw [hwq]; exact FRZ.out
                rw [← hwq]
                clear hwq HM e1 e2 e3 FRZ
                go_wp2_with fail
                have c5 := E3 _ rfl
                have f5 := F3 _ rfl
                have c6 := T2 _ rfl
                clear T2 E3 F3
                refine hd_start (fun _ => True) (by kernel_rfl) ?_
                intro w5 hw'
                have hw2 : wq.drewN 1 = w5 := hw'.symm
                rw [hw2] at HMq c5 f5 c6
                clear hw' hw2
                refine hd_take (v := ?_) 0 rfl (by kernel_rfl) (fun _ _ d _ _ h => (by cases d <;> exact h)) (by kernel_rfl) trivial (fun w' hS => ?_) ?_
                rotate_left
                focus (clear hS; go_simp; try rfl; done)
                simp only [List.getElem_toArray, List.getElem_cons_succ, List.getElem_cons_zero, Act.put, List.setIfInBounds_toArray, List.set_cons_zero, List.set_cons_succ]
                refine hd_take (v := ?_) 1 rfl (by kernel_rfl) (fun _ _ d _ _ h => (by cases d <;> exact h)) (by kernel_rfl) trivial (fun w' hS => ?_) ?_
                rotate_left
                focus (clear hS; go_simp; try rfl; done)
                simp only [List.getElem_toArray, List.getElem_cons_succ, List.getElem_cons_zero, Act.put, List.setIfInBounds_toArray, List.set_cons_zero, List.set_cons_succ]
                refine hd_take (v := ?_) 2 rfl (by kernel_rfl) (fun _ _ d _ _ h => (by cases d <;> exact h)) (by kernel_rfl) trivial (fun w' hS => ?_) ?_
                rotate_left
                focus (clear hS; go_simp; try rfl; done)
                simp only [List.getElem_toArray, List.getElem_cons_succ, List.getElem_cons_zero, Act.put, List.setIfInBounds_toArray, List.set_cons_zero, List.set_cons_succ]
                refine hd_take (v := ?_) 3 rfl (by kernel_rfl) (fun _ _ d _ _ h => (by cases d <;> exact h)) (by kernel_rfl) trivial (fun w' hS => ?_) ?_
                rotate_left
                focus (clear hS; go_simp; try rfl; done)
                simp only [List.getElem_toArray, List.getElem_cons_succ, List.getElem_cons_zero, Act.put, List.setIfInBounds_toArray, List.set_cons_zero, List.set_cons_succ]
                refine hd_take (v := ?_) 4 rfl (by kernel_rfl) (fun _ _ d _ _ h => (by cases d <;> exact h)) (by kernel_rfl) trivial (fun w' hS => ?_) ?_
                rotate_left
                focus (clear hS; go_simp; try rfl; done)
                simp only [List.getElem_toArray, List.getElem_cons_succ, List.getElem_cons_zero, Act.put, List.setIfInBounds_toArray, List.set_cons_zero, List.set_cons_succ]
                refine hd_take (v := ?_) 5 rfl (by kernel_rfl) (fun _ _ d _ _ h => (by cases d <;> exact h)) (by kernel_rfl) trivial (fun w' hS => ?_) ?_
                rotate_left
                focus (clear hS; go_simp; try rfl; done)
                simp only [List.getElem_toArray, List.getElem_cons_succ, List.getElem_cons_zero, Act.put, List.setIfInBounds_toArray, List.set_cons_zero, List.set_cons_succ]
                refine hd_take (v := ?_) 6 rfl (by kernel_rfl) (fun _ _ d _ _ h => (by cases d <;> exact h)) (by kernel_rfl) trivial (fun w' hS => ?_) ?_
                rotate_left
                focus (clear hS; go_simp; try rfl; done)
                simp only [List.getElem_toArray, List.getElem_cons_succ, List.getElem_cons_zero, Act.put, List.setIfInBounds_toArray, List.set_cons_zero, List.set_cons_succ]
                refine hd_take (v := ?_) 7 rfl (by kernel_rfl) (fun _ _ d _ _ h => (by cases d <;> exact h)) (by kernel_rfl) trivial (fun w' hS => ?_) ?_
                rotate_left
                focus (clear hS; go_simp; try rfl; done)
                simp only [List.getElem_toArray, List.getElem_cons_succ, List.getElem_cons_zero, Act.put, List.setIfInBounds_toArray, List.set_cons_zero, List.set_cons_succ]
                refine hd_take (v := ?_) 9 rfl (by kernel_rfl) (fun _ _ d _ _ h => (by cases d <;> exact h)) (by kernel_rfl) trivial (fun w' hS => ?_) ?_
                rotate_left
                focus (clear hS; go_simp; try rfl; done)
                simp only [List.getElem_toArray, List.getElem_cons_succ, List.getElem_cons_zero, Act.put, List.setIfInBounds_toArray, List.set_cons_zero, List.set_cons_succ]
                refine hd_two 8 10 (by kernel_rfl) ?_ ?_
                refine op_run rfl (by kernel_rfl) (by go_simp; first | done | exact ⟨rfl, rfl⟩ | rfl) ?_
                refine ⟨trivial, ?_⟩
                simp only [List.getElem_toArray, List.getElem_cons_succ, List.getElem_cons_zero, Act.put, List.setIfInBounds_toArray, List.set_cons_zero, List.set_cons_succ]
                refine hd_one 10 (by kernel_rfl) ?_
                refine op_run rfl (by kernel_rfl) (by go_simp; first | done | exact ⟨rfl, rfl⟩ | rfl) ?_
                refine ⟨trivial, ?_⟩
                simp only [List.getElem_toArray, List.getElem_cons_succ, List.getElem_cons_zero, Act.put, List.setIfInBounds_toArray, List.set_cons_zero, List.set_cons_succ]
                rotate_left
                refine op_run rfl (by kernel_rfl) (by go_simp; first | done | exact ⟨rfl, rfl⟩ | rfl) ?_
                refine ⟨trivial, ?_⟩
                simp only [List.getElem_toArray, List.getElem_cons_succ, List.getElem_cons_zero, Act.put, List.setIfInBounds_toArray, List.set_cons_zero, List.set_cons_succ]
                refine hd_one 8 (by kernel_rfl) ?_
                refine op_run rfl (by kernel_rfl) (by go_simp; first | done | exact ⟨rfl, rfl⟩ | rfl) ?_
                refine ⟨trivial, ?_⟩
                simp only [List.getElem_toArray, List.getElem_cons_succ, List.getElem_cons_zero, Act.put, List.setIfInBounds_toArray, List.set_cons_zero, List.set_cons_succ]
                all_goals
                  refine hd_one 11 (by kernel_rfl) ?_
                  refine op_call rfl (by kernel_rfl) (by go_simp; first | exact ⟨rfl, rfl⟩ | rfl) ?_
                  refine (plus_any yc rc _ y1 y2 (by omega) r2).mono ?_
                  rintro e w6 ⟨rfl, hw⟩
                  subst hw
                  have hS2 := True.intro
                  refine ⟨_, rfl, hS2, ?_⟩
                  simp only [List.getElem_toArray, List.getElem_cons_succ, List.getElem_cons_zero, Act.put, List.setIfInBounds_toArray, List.set_cons_zero, List.set_cons_succ]
                  obtain ⟨sc, hsc⟩ : ∃ sc, sat yc rc = sc := ⟨_, rfl⟩
                  rw [hsc] at HS hsat
                  have HN : Hid (KN.Mk ((a.take (j + 1)).foldl joinS z) w (.slice (some ⟨g2, 0, none⟩) L ocap) (w5.setCells g2 (n1 * 3 + 2) [.int .i64 sc])) := by
                    rw [HS.out]
                    exact Lib.hid (Knd.Mk.last (x := ⟨yk, ys, yc⟩) sc HMq.out (by rw [HN1.out]))
                  rw [hsc]
                  clear hsc HMq
                  refine hd_take (v := ?_) 12 rfl (by kernel_rfl) (fun _ _ d _ _ h => (by cases d <;> exact h)) (by kernel_rfl) trivial (fun w' hS => ?_) ?_
                  rotate_left
                  focus (clear hS; go_simp; try rfl; done)
                  simp only [List.getElem_toArray, List.getElem_cons_succ, List.getElem_cons_zero, Act.put, List.setIfInBounds_toArray, List.set_cons_zero, List.set_cons_succ]
                  refine hd_take (v := ?_) 13 rfl (by kernel_rfl) (fun _ _ d _ _ h => (by cases d <;> exact h)) (by kernel_rfl) trivial (fun w' hS => ?_) ?_
                  rotate_left
                  focus (clear hS; go_simp; try rfl; done)
                  simp only [List.getElem_toArray, List.getElem_cons_succ, List.getElem_cons_zero, Act.put, List.setIfInBounds_toArray, List.set_cons_zero, List.set_cons_succ]
                  refine hd_one 14 (by kernel_rfl) ?_
                  refine op_skip rfl (by kernel_rfl) (by go_simp; first | done | rfl) ?_
                  refine ⟨trivial, ?_⟩
                  simp only [List.getElem_toArray, List.getElem_cons_succ, List.getElem_cons_zero, Act.put, List.setIfInBounds_toArray, List.set_cons_zero, List.set_cons_succ]
                  refine hd_done (by kernel_rfl) ?_
                  clear c5 f5 c6
                  go_wp2
                  go_roundw
                  case rel => exact ⟨j + 1, by omega, by go_num, HN⟩
                  case measure => simp [intOf]; omega
              all_goals
                rw [joinS_other hc he] at hs
                have HS := Lib.hid hs
                clear hs hlk hL hget hLn hn1 FRZ
                go_wp2_with fail
                go_quiet (fail)
                obtain ⟨wq, hwq⟩ : ∃ wq, wq = (wr.alloc (.cells #[.int .u8 rk, .int .i64 rsz, .int .i64 rc] 61)).drewN nq := ⟨_, rfl⟩
                have HMq : Hid (KN.Mk (l0 ++ [⟨yk, ys, yc⟩]) w (.slice (some ⟨g2, 0, none⟩) L ocap) wq) := by rw [hwq]; exact Lib.hid (HM.out.draw nq)
                have t0 : wq.cell? ⟨wr.heap.size, 0, none⟩ = some (.int .u8 rk) := by rw [hwq]; exact World.cell?_alloc_new wr _ _ 0
                have t1 : wq.cell? ⟨wr.heap.size, 1, none⟩ = some (.int .i64 rsz) := by rw [hwq]; exact World.cell?_alloc_new wr _ _ 1
                have t2 : wq.cell? ⟨wr.heap.size, 2, none⟩ = some (.int .i64 rc) := by rw [hwq]; exact World.cell?_alloc_new wr _ _ 2
                rw [← hwq]
                clear hwq HM
                clear e1 e2 e3
                have HOWN := HMq.out.alloc (.cells #[.int .u8 rk, .int .i64 rsz, .int .i64 rc] 61) (N := L) (by rw [HL.out])
                obtain ⟨hi, hz0, hz1, hz2⟩ := HI.out
                go_wp2_with (at_builtin; refine wpList_append_keep _ rfl _ _ 32 rfl 61 i0 _ 3 24 Try.underlying32 hi hz0 hz1 hz2 rfl (by decide) (.slice (some ⟨g2, 0, none⟩) L ocap) L (KN.fl (l0 ++ [(⟨yk, ys, yc⟩ : Rn)])) rfl HOWN ⟨wq.heap.size, 0, none⟩ 1 1 [.int .u8 rk, .int .i64 rsz, .int .i64 rc] rfl rfl (World.news_of_block (heap_alloc_new _ _)) (KN.one ⟨rk, rsz, rc⟩) (by unfold maxLen; omega) (by omega) (by decide) ?_)
                intro v' w2 hown hgrow hat hne
                have hat2 : v'.ownBlock = (Value.slice (some ⟨g2, 0, none⟩) L ocap).ownBlock ∨ v'.ownBlock = some (wq.heap.size + 1) := by
                  rcases hat with hat | hat
                  · exact .inl hat
                  · exact .inr (by simpa using hat.1)
                have HN : Hid (KN.Mk ((a.take (j + 1)).foldl joinS z) w v' w2) := by
                  rw [HS.out]
                  exact Lib.hid (HMq.out.more (by rw [HL.out]) rfl hown hgrow hat2)
                clear hown hgrow hat hne hat2 HOWN hi hz0 hz1 hz2 t0 t1 t2 HMq
                go_wp2
                go_roundw
                case rel => exact ⟨j + 1, by omega, by go_num, HN⟩
                case measure => simp [intOf]; omega
        · obtain rfl : j = a.length := by omega
          have HN := HE.out _ _ (by have h := HR.out; rw [List.take_length] at h; exact h)
          have HNN := Lib.hid HN
          clear HN HR
          go_wp2_with fail
          go_roundw
          case rel => exact ⟨HNN, by simp⟩
          case measure => simp [intOf]
    · obtain ⟨z, hz⟩ : ∃ z : List Rn, z = a.foldl joinS [] := ⟨_, rfl⟩
      have HZ : Hid (KN.Mk z w u5 wr) := by
        obtain ⟨lo, h, hm⟩ := HJ.out
        rcases h with ⟨h, _⟩ | ⟨_, rfl⟩ | ⟨h, _⟩
        · simp at h
        · rw [hz]; exact Lib.hid hm
        · simp at h
      have HE : Hid (∀ o w2, KN.Mk (b.foldl joinS z) w o w2 → JInv a b w o (.int .i64 2) w2) := Lib.hid (fun o w2 h => ⟨_, .inr (.inr ⟨rfl, rfl⟩), by rw [List.foldl_append, ← hz]; exact h⟩)
      have hzl : z.length + b.length ≤ 4000000 := by
        have h := fold_len a []
        rw [← hz] at h
        simp at h
        omega
      have HZO : Hid (okJ z) := by rw [hz]; exact Lib.hid (fold_ok a [] HA.out okJ_nil)
      clear hz HJ HU HA
      have hix := ix1 ao bo a.length b.length acap bcap
      go_wp2_with fail
      go_loopw [5, 19] (fun o i w2 => ∃ (j : Nat), j ≤ b.length ∧ i = .int .i64 (j : Int) ∧ Hid (KN.Mk ((b.take j).foldl joinS z) w o w2)) (fun _ i _ => b.length - (intOf i).toNat)
      case atStart => exact ⟨0, Nat.zero_le _, rfl, HZ⟩
      case round =>
        clear HZ
        obtain ⟨j, hj, rfl, HR⟩ := hrel
        by_cases hlt : j < b.length
        · obtain ⟨⟨rk, rsz, rc⟩, hx⟩ : ∃ x, b[j]? = some x := ⟨_, List.getElem?_eq_getElem hlt⟩
          obtain ⟨g, off, rfl, hg, d1, d2, d3⟩ := runCells HV.out HR.out.2.1 hx
          have hgr : g < wr.heap.size := Nat.lt_of_lt_of_le hg HR.out.2.1.size
          obtain ⟨r1, r2⟩ := HB.out _ (List.mem_of_getElem? hx)
          dsimp only at r1 r2
          have hs := fold_step joinS z hx
          obtain ⟨lo, hlo⟩ : ∃ lo, (b.take j).foldl joinS z = lo := ⟨_, rfl⟩
          have hll := fold_len (b.take j) z
          have hlk := fold_ok (b.take j) z (okC_take HB.out j) HZO.out
          rw [hlo] at hs hll hlk HR
          rw [List.length_take] at hll
          have HM : Hid (KN.Mk lo w u5 (wr.alloc (.cells #[.int .u8 rk, .int .i64 rsz, .int .i64 rc] 61))) := Lib.hid (HR.out.below ((Below.refl _ _).alloc (Nat.le_refl _) _))
          obtain ⟨L, hL⟩ : ∃ L, lo.length = L := ⟨_, rfl⟩
          have hLb : L ≤ 4000000 := by omega
          clear hx HR hlo hll
          have HL := Lib.hid hL
          by_cases hc : rc < 1
          · rw [joinS_off hc] at hs
            have HS : Hid (KN.Mk ((b.take (j + 1)).foldl joinS z) w u5 (wr.alloc (.cells #[.int .u8 rk, .int .i64 rsz, .int .i64 rc] 61))) := by rw [hs]; exact HM
            have hcb : decide (rc < 1) = true := by simpa using hc
            clear hs hlk HM hL HL
            go_wp2_with fail
            go_roundw
            case rel => exact ⟨j + 1, by omega, by go_num, HS⟩
            case measure => simp [intOf]; omega
          · have hcb : decide (rc < 1) = false := by simpa using hc
            rcases List.eq_nil_or_concat lo with rfl | ⟨l0, ⟨yk, ys, yc⟩, rfl⟩
            · obtain ⟨oo, ocap, hu5⟩ := HM.out.1.any
              rw [hL] at hu5
              subst hu5
              rw [joinS_nil hc] at hs
              have hL0 : L = 0 := by rw [← hL]; rfl
              have hLd : decide (0 < L) = false := by rw [hL0]; rfl
              have HS := Lib.hid hs
              clear hs hlk hL hL0
              go_wp2_with fail
              go_quiet (fail)
              obtain ⟨wq, hwq⟩ : ∃ wq, wq = (wr.alloc (.cells #[.int .u8 rk, .int .i64 rsz, .int .i64 rc] 61)).drewN nq := ⟨_, rfl⟩
              have HMq : Hid (KN.Mk ([]) w (.slice oo L ocap) wq) := by rw [hwq]; exact Lib.hid (HM.out.draw nq)
              have t0 : wq.cell? ⟨wr.heap.size, 0, none⟩ = some (.int .u8 rk) := by rw [hwq]; exact World.cell?_alloc_new wr _ _ 0
              have t1 : wq.cell? ⟨wr.heap.size, 1, none⟩ = some (.int .i64 rsz) := by rw [hwq]; exact World.cell?_alloc_new wr _ _ 1
              have t2 : wq.cell? ⟨wr.heap.size, 2, none⟩ = some (.int .i64 rc) := by rw [hwq]; exact World.cell?_alloc_new wr _ _ 2
              rw [← hwq]
              clear hwq HM
              have HOWN := HMq.out.alloc (.cells #[.int .u8 rk, .int .i64 rsz, .int .i64 rc] 61) (N := L) (by rw [HL.out])
              obtain ⟨hi, hz0, hz1, hz2⟩ := HI.out
              go_wp2_with (at_builtin; refine wpList_append_keep _ rfl _ _ 32 rfl 61 i0 _ 3 24 Try.underlying32 hi hz0 hz1 hz2 rfl (by decide) (.slice oo L ocap) L (KN.fl ([])) rfl HOWN ⟨wq.heap.size, 0, none⟩ 1 1 [.int .u8 rk, .int .i64 rsz, .int .i64 rc] rfl rfl (World.news_of_block (heap_alloc_new _ _)) (KN.one ⟨rk, rsz, rc⟩) (by unfold maxLen; omega) (by omega) (by decide) ?_)
              intro v' w2 hown hgrow hat hne
              have hat2 : v'.ownBlock = (Value.slice oo L ocap).ownBlock ∨ v'.ownBlock = some (wq.heap.size + 1) := by
                rcases hat with hat | hat
                · exact .inl hat
                · exact .inr (by simpa using hat.1)
              have HN : Hid (KN.Mk ((b.take (j + 1)).foldl joinS z) w v' w2) := by
                rw [HS.out]
                exact Lib.hid (HMq.out.more (by rw [HL.out]) rfl hown hgrow hat2)
              clear hown hgrow hat hne hat2 HOWN hi hz0 hz1 hz2 t0 t1 t2 HMq
              go_wp2
              go_roundw
              case rel => exact ⟨j + 1, by omega, by go_num, HN⟩
              case measure => simp [intOf]; omega
            · rw [List.concat_eq_append] at *
              obtain ⟨g2, ocap, hu5⟩ := HM.out.1.form (by simp)
              rw [hL] at hu5
              subst hu5
              obtain ⟨y1, y2⟩ := hlk.last
              dsimp only at y1 y2
              obtain ⟨n1, hn1⟩ : ∃ n1, l0.length = n1 := ⟨_, rfl⟩
              have hLn : L = n1 + 1 := by rw [← hL, ← hn1]; simp
              have hLd : decide (0 < L) = true := by rw [hLn]; simp
              have hn1l : n1 < L := by omega
              have hj1 : IntKind.i64.wrap ((L : Int) - 1) = (n1 : Int) := by rw [IntWalk.i64_in _ (by omega)]; omega
              have hget : (l0 ++ [(⟨yk, ys, yc⟩ : Rn)])[n1]? = some ⟨yk, ys, yc⟩ := by rw [← hn1]; simp
              have e1 : (wr.alloc (.cells #[.int .u8 rk, .int .i64 rsz, .int .i64 rc] 61)).cell? ⟨g2, n1 * 3, none⟩ = some (.int .u8 yk) := HM.out.1.get hget 0 _ rfl
              have e2 : (wr.alloc (.cells #[.int .u8 rk, .int .i64 rsz, .int .i64 rc] 61)).cell? ⟨g2, n1 * 3 + 1, none⟩ = some (.int .i64 ys) := HM.out.1.get hget 1 _ rfl
              have e3 : (wr.alloc (.cells #[.int .u8 rk, .int .i64 rsz, .int .i64 rc] 61)).cell? ⟨g2, n1 * 3 + 2, none⟩ = some (.int .i64 yc) := HM.out.1.get hget 2 _ rfl
              have FRZ := Lib.hid (HM.out.1.frozen (n1 * 3 + 2))
              have HN1 := Lib.hid hn1
              have hsat := sat_rng y1 (show 0 ≤ rc by omega) r2
              rcases eqcE yk ys rk rsz with ⟨b1, b2, he⟩ | ⟨b1, he⟩ | ⟨b1, b2, he⟩
              · rw [joinS_same hc he] at hs
                have HS := Lib.hid hs
                clear hs hlk hL hget hLn hn1
                go_wp2_with fail
                go_quiet (fail)
                obtain ⟨wq, hwq⟩ : ∃ wq, wq = (wr.alloc (.cells #[.int .u8 rk, .int .i64 rsz, .int .i64 rc] 61)).drewN nq := ⟨_, rfl⟩
                have HMq : Hid (KN.Mk (l0 ++ [⟨yk, ys, yc⟩]) w (.slice (some ⟨g2, 0, none⟩) L ocap) (wq.drewN 1)) := by rw [hwq]; exact Lib.hid ((HM.out.draw nq).draw 1)
                have T2 : ∀ w', w' = wq.drewN 1 → w'.cell? ⟨wr.heap.size, 2, none⟩ = some (.int .i64 rc) := by rintro _ rfl; rw [hwq]; exact World.cell?_alloc_new wr _ _ 2
                have E3 : ∀ w', w' = wq.drewN 1 → w'.cell? ⟨g2, n1 * 3 + 2, none⟩ = some (.int .i64 yc) := by rintro _ rfl; rw [hwq]; exact e3
                have F3 : ∀ w', w' = wq.drewN 1 → w'.frozen? ⟨g2, n1 * 3 + 2, none⟩ = false := by rintro _ rfl; rw [hwq]; exact FRZ.out
                rw [← hwq]
                clear hwq HM e1 e2 e3 FRZ
                go_wp2_with fail
                have c5 := E3 _ rfl
                have f5 := F3 _ rfl
                have c6 := T2 _ rfl
                clear T2 E3 F3
                refine hd_start (fun _ => True) (by kernel_rfl) ?_
                intro w5 hw'
                have hw2 : wq.drewN 1 = w5 := hw'.symm
                rw [hw2] at HMq c5 f5 c6
                clear hw' hw2
                refine hd_take (v := ?_) 0 rfl (by kernel_rfl) (fun _ _ d _ _ h => (by cases d <;> exact h)) (by kernel_rfl) trivial (fun w' hS => ?_) ?_
                rotate_left
                focus (clear hS; go_simp; try rfl; done)
                simp only [List.getElem_toArray, List.getElem_cons_succ, List.getElem_cons_zero, Act.put, List.setIfInBounds_toArray, List.set_cons_zero, List.set_cons_succ]
                refine hd_take (v := ?_) 1 rfl (by kernel_rfl) (fun _ _ d _ _ h => (by cases d <;> exact h)) (by kernel_rfl) trivial (fun w' hS => ?_) ?_
                rotate_left
                focus (clear hS; go_simp; try rfl; done)
                simp only [List.getElem_toArray, List.getElem_cons_succ, List.getElem_cons_zero, Act.put, List.setIfInBounds_toArray, List.set_cons_zero, List.set_cons_succ]
                refine hd_take (v := ?_) 2 rfl (by kernel_rfl) (fun _ _ d _ _ h => (by cases d <;> exact h)) (by kernel_rfl) trivial (fun w' hS => ?_) ?_
                rotate_left
                focus (clear hS; go_simp; try rfl; done)
                simp only [List.getElem_toArray, List.getElem_cons_succ, List.getElem_cons_zero, Act.put, List.setIfInBounds_toArray, List.set_cons_zero, List.set_cons_succ]
                refine hd_take (v := ?_) 3 rfl (by kernel_rfl) (fun _ _ d _ _ h => (by cases d <;> exact h)) (by kernel_rfl) trivial (fun w' hS => ?_) ?_
                rotate_left
                focus (clear hS; go_simp; try rfl; done)
                simp only [List.getElem_toArray, List.getElem_cons_succ, List.getElem_cons_zero, Act.put, List.setIfInBounds_toArray, List.set_cons_zero, List.set_cons_succ]
                refine hd_take (v := ?_) 4 rfl (by kernel_rfl) (fun _ _ d _ _ h => (by cases d <;> exact h)) (by kernel_rfl) trivial (fun w' hS => ?_) ?_
                rotate_left
                focus (clear hS; go_simp; try rfl; done)
                simp only [List.getElem_toArray, List.getElem_cons_succ, List.getElem_cons_zero, Act.put, List.setIfInBounds_toArray, List.set_cons_zero, List.set_cons_succ]
                refine hd_take (v := ?_) 5 rfl (by kernel_rfl) (fun _ _ d _ _ h => (by cases d <;> exact h)) (by kernel_rfl) trivial (fun w' hS => ?_) ?_
                rotate_left
                focus (clear hS; go_simp; try rfl; done)
                simp only [List.getElem_toArray, List.getElem_cons_succ, List.getElem_cons_zero, Act.put, List.setIfInBounds_toArray, List.set_cons_zero, List.set_cons_succ]
                refine hd_take (v := ?_) 6 rfl (by kernel_rfl) (fun _ _ d _ _ h => (by cases d <;> exact h)) (by kernel_rfl) trivial (fun w' hS => ?_) ?_
                rotate_left
                focus (clear hS; go_simp; try rfl; done)
                simp only [List.getElem_toArray, List.getElem_cons_succ, List.getElem_cons_zero, Act.put, List.setIfInBounds_toArray, List.set_cons_zero, List.set_cons_succ]
                refine hd_take (v := ?_) 7 rfl (by kernel_rfl) (fun _ _ d _ _ h => (by cases d <;> exact h)) (by kernel_rfl) trivial (fun w' hS => ?_) ?_
                rotate_left
                focus (clear hS; go_simp; try rfl; done)
                simp only [List.getElem_toArray, List.getElem_cons_succ, List.getElem_cons_zero, Act.put, List.setIfInBounds_toArray, List.set_cons_zero, List.set_cons_succ]
                refine hd_take (v := ?_) 9 rfl (by kernel_rfl) (fun _ _ d _ _ h => (by cases d <;> exact h)) (by kernel_rfl) trivial (fun w' hS => ?_) ?_
                rotate_left
                focus (clear hS; go_simp; try rfl; done)
                simp only [List.getElem_toArray, List.getElem_cons_succ, List.getElem_cons_zero, Act.put, List.setIfInBounds_toArray, List.set_cons_zero, List.set_cons_succ]
                refine hd_two 8 10 (by kernel_rfl) ?_ ?_
                refine op_run rfl (by kernel_rfl) (by go_simp; first | done | exact ⟨rfl, rfl⟩ | rfl) ?_
                refine ⟨trivial, ?_⟩
                simp only [List.getElem_toArray, List.getElem_cons_succ, List.getElem_cons_zero, Act.put, List.setIfInBounds_toArray, List.set_cons_zero, List.set_cons_succ]
                refine hd_one 10 (by kernel_rfl) ?_
                refine op_run rfl (by kernel_rfl) (by go_simp; first | done | exact ⟨rfl, rfl⟩ | rfl) ?_
                refine ⟨trivial, ?_⟩
                simp only [List.getElem_toArray, List.getElem_cons_succ, List.getElem_cons_zero, Act.put, List.setIfInBounds_toArray, List.set_cons_zero, List.set_cons_succ]
                rotate_left
                refine op_run rfl (by kernel_rfl) (by go_simp; first | done | exact ⟨rfl, rfl⟩ | rfl) ?_
                refine ⟨trivial, ?_⟩
                simp only [List.getElem_toArray, List.getElem_cons_succ, List.getElem_cons_zero, Act.put, List.setIfInBounds_toArray, List.set_cons_zero, List.set_cons_succ]
                refine hd_one 8 (by kernel_rfl) ?_
                refine op_run rfl (by kernel_rfl) (by go_simp; first | done | exact ⟨rfl, rfl⟩ | rfl) ?_
                refine ⟨trivial, ?_⟩
                simp only [List.getElem_toArray, List.getElem_cons_succ, List.getElem_cons_zero, Act.put, List.setIfInBounds_toArray, List.set_cons_zero, List.set_cons_succ]
                all_goals
                  refine hd_one 11 (by kernel_rfl) ?_
                  refine op_call rfl (by kernel_rfl) (by go_simp; first | exact ⟨rfl, rfl⟩ | rfl) ?_
                  refine (plus_any yc rc _ y1 y2 (by omega) r2).mono ?_
                  rintro e w6 ⟨rfl, hw⟩
                  subst hw
                  have hS2 := True.intro
                  refine ⟨_, rfl, hS2, ?_⟩
                  simp only [List.getElem_toArray, List.getElem_cons_succ, List.getElem_cons_zero, Act.put, List.setIfInBounds_toArray, List.set_cons_zero, List.set_cons_succ]
                  obtain ⟨sc, hsc⟩ : ∃ sc, sat yc rc = sc := ⟨_, rfl⟩
                  rw [hsc] at HS hsat
                  have HN : Hid (KN.Mk ((b.take (j + 1)).foldl joinS z) w (.slice (some ⟨g2, 0, none⟩) L ocap) (w5.setCells g2 (n1 * 3 + 2) [.int .i64 sc])) := by
                    rw [HS.out]
                    exact Lib.hid (Knd.Mk.last (x := ⟨yk, ys, yc⟩) sc HMq.out (by rw [HN1.out]))
                  rw [hsc]
                  clear hsc HMq
                  refine hd_take (v := ?_) 12 rfl (by kernel_rfl) (fun _ _ d _ _ h => (by cases d <;> exact h)) (by kernel_rfl) trivial (fun w' hS => ?_) ?_
                  rotate_left
                  focus (clear hS; go_simp; try rfl; done)
                  simp only [List.getElem_toArray, List.getElem_cons_succ, List.getElem_cons_zero, Act.put, List.setIfInBounds_toArray, List.set_cons_zero, List.set_cons_succ]
                  refine hd_take (v := ?_) 13 rfl (by kernel_rfl) (fun _ _ d _ _ h => (by cases d <;> exact h)) (by kernel_rfl) trivial (fun w' hS => ?_) ?_
                  rotate_left
                  focus (clear hS; go_simp; try rfl; done)
                  simp only [List.getElem_toArray, List.getElem_cons_succ, List.getElem_cons_zero, Act.put, List.setIfInBounds_toArray, List.set_cons_zero, List.set_cons_succ]
                  refine hd_one 14 (by kernel_rfl) ?_
                  refine op_skip rfl (by kernel_rfl) (by go_simp; first | done | rfl) ?_
                  refine ⟨trivial, ?_⟩
                  simp only [List.getElem_toArray, List.getElem_cons_succ, List.getElem_cons_zero, Act.put, List.setIfInBounds_toArray, List.set_cons_zero, List.set_cons_succ]
                  refine hd_done (by kernel_rfl) ?_
                  clear c5 f5 c6
                  go_wp2
                  go_roundw
                  case rel => exact ⟨j + 1, by omega, by go_num, HN⟩
                  case measure => simp [intOf]; omega
              all_goals
                rw [joinS_other hc he] at hs
                have HS := Lib.hid hs
                clear hs hlk hL hget hLn hn1 FRZ
                go_wp2_with fail
                go_quiet (fail)
                obtain ⟨wq, hwq⟩ : ∃ wq, wq = (wr.alloc (.cells #[.int .u8 rk, .int .i64 rsz, .int .i64 rc] 61)).drewN nq := ⟨_, rfl⟩
                have HMq : Hid (KN.Mk (l0 ++ [⟨yk, ys, yc⟩]) w (.slice (some ⟨g2, 0, none⟩) L ocap) wq) := by rw [hwq]; exact Lib.hid (HM.out.draw nq)
                have t0 : wq.cell? ⟨wr.heap.size, 0, none⟩ = some (.int .u8 rk) := by rw [hwq]; exact World.cell?_alloc_new wr _ _ 0
                have t1 : wq.cell? ⟨wr.heap.size, 1, none⟩ = some (.int .i64 rsz) := by rw [hwq]; exact World.cell?_alloc_new wr _ _ 1
                have t2 : wq.cell? ⟨wr.heap.size, 2, none⟩ = some (.int .i64 rc) := by rw [hwq]; exact World.cell?_alloc_new wr _ _ 2
                rw [← hwq]
                clear hwq HM
                clear e1 e2 e3
                have HOWN := HMq.out.alloc (.cells #[.int .u8 rk, .int .i64 rsz, .int .i64 rc] 61) (N := L) (by rw [HL.out])
                obtain ⟨hi, hz0, hz1, hz2⟩ := HI.out
                go_wp2_with (at_builtin; refine wpList_append_keep _ rfl _ _ 32 rfl 61 i0 _ 3 24 Try.underlying32 hi hz0 hz1 hz2 rfl (by decide) (.slice (some ⟨g2, 0, none⟩) L ocap) L (KN.fl (l0 ++ [(⟨yk, ys, yc⟩ : Rn)])) rfl HOWN ⟨wq.heap.size, 0, none⟩ 1 1 [.int .u8 rk, .int .i64 rsz, .int .i64 rc] rfl rfl (World.news_of_block (heap_alloc_new _ _)) (KN.one ⟨rk, rsz, rc⟩) (by unfold maxLen; omega) (by omega) (by decide) ?_)
                intro v' w2 hown hgrow hat hne
                have hat2 : v'.ownBlock = (Value.slice (some ⟨g2, 0, none⟩) L ocap).ownBlock ∨ v'.ownBlock = some (wq.heap.size + 1) := by
                  rcases hat with hat | hat
                  · exact .inl hat
                  · exact .inr (by simpa using hat.1)
                have HN : Hid (KN.Mk ((b.take (j + 1)).foldl joinS z) w v' w2) := by
                  rw [HS.out]
                  exact Lib.hid (HMq.out.more (by rw [HL.out]) rfl hown hgrow hat2)
                clear hown hgrow hat hne hat2 HOWN hi hz0 hz1 hz2 t0 t1 t2 HMq
                go_wp2
                go_roundw
                case rel => exact ⟨j + 1, by omega, by go_num, HN⟩
                case measure => simp [intOf]; omega
        · obtain rfl : j = b.length := by omega
          have HN := HE.out _ _ (by have h := HR.out; rw [List.take_length] at h; exact h)
          have HNN := Lib.hid HN
          clear HN HR
          go_wp2_with fail
          go_roundw
          case rel => exact ⟨HNN, by simp⟩
          case measure => simp [intOf]
    · obtain ⟨lo, h, hm⟩ := HJ.out
      have HN : Hid (KN.New (joinL a b) w (.returned u5) wr) := by
        rcases h with ⟨h, _⟩ | ⟨h, _⟩ | ⟨_, rfl⟩
        · simp at h
        · simp at h
        · exact Lib.hid hm.new
      clear hm h HJ
      go_wp2
      go_ret
      exact HN.out
set_option maxHeartbeats 4000000 in
theorem rjoin_any (u v : Value) (a b : List Rn) (w : World) (hu : KN.R w u a) (hv : KN.R w v b) (ha : okC a) (hb : okC b) (hn : a.length + b.length ≤ 4000000) : Calls Try.prog 27 #[u, v] w (KN.New (joinL a b) w) := by
  have HU := Lib.hid hu
  have HV := Lib.hid hv
  have HA := Lib.hid ha
  have HB := Lib.hid hb
  obtain ⟨ao, acap, rfl, _, _, _⟩ := hu.any
  obtain ⟨bo, bcap, rfl, _, _, _⟩ := hv.any
  obtain ⟨i0, hi, hz0, hz1, hz2⟩ := info_parts infoN
  have HI := Lib.hid (And.intro hi (And.intro hz0 (And.intro hz1 hz2)))
  obtain ⟨N, hN⟩ : ∃ N, a.length + b.length = N := ⟨_, rfl⟩
  have hwN : IntKind.i64.wrap ((a.length : Int) + (b.length : Int)) = (N : Int) := by rw [IntWalk.i64_in _ (by omega)]; omega
  have hab : okC (a ++ b) := fun x hx => by
    rcases List.mem_append.1 hx with hx | hx
    · exact ha x hx
    · exact hb x hx
  have HAB := Lib.hid hab
  clear hu hv ha hb hi hz0 hz1 hz2 hab
  go_enter Try.func27, Try.ntmps27
  go_wp2_with fail
  go_loopw [5, 6] (fun o i w2 => ∃ (j : Nat), j ≤ N ∧ i = .int .i64 (j : Int) ∧ Hid (KN.Mk (((a ++ b).take j).foldl joinS []) w o w2)) (fun _ i _ => N - (intOf i).toNat)
  case atStart => exact ⟨0, Nat.zero_le _, rfl, Lib.hid (Knd.Mk.nil KN w)⟩
  case round =>
    obtain ⟨j, hj, rfl, HR⟩ := hrel
    by_cases hlt : j < N
    · by_cases hja : j < a.length
      · obtain ⟨⟨rk, rsz, rc⟩, hx⟩ : ∃ x, a[j]? = some x := ⟨_, List.getElem?_eq_getElem hja⟩
        obtain ⟨g, off, rfl, hg, d1, d2, d3⟩ := runCells HU.out HR.out.2.1 hx
        have hgr : g < wr.heap.size := Nat.lt_of_lt_of_le hg HR.out.2.1.size
        obtain ⟨r1, r2⟩ := HA.out _ (List.mem_of_getElem? hx)
        dsimp only at r1 r2
        rw [← List.getElem?_append_left (l₂ := b) hja] at hx
        have hs := fold_step joinS [] hx
        obtain ⟨lo, hlo⟩ : ∃ lo, ((a ++ b).take j).foldl joinS [] = lo := ⟨_, rfl⟩
        have hll := fold_len ((a ++ b).take j) []
        have hlk := fold_ok ((a ++ b).take j) [] (okC_take HAB.out j) okJ_nil
        rw [hlo] at hs hll hlk HR
        rw [List.length_take] at hll
        have HM : Hid (KN.Mk lo w u5 (wr.alloc (.cells #[.int .u8 rk, .int .i64 rsz, .int .i64 rc] 61))) := Lib.hid (HR.out.below ((Below.refl _ _).alloc (Nat.le_refl _) _))
        obtain ⟨L, hL⟩ : ∃ L, lo.length = L := ⟨_, rfl⟩
        have hLb : L ≤ 4000000 := by rw [List.length_nil] at hll; rw [← hL]; omega
        clear hx HR hlo hll
        have HL := Lib.hid hL
        by_cases hc : rc < 1
        · rw [joinS_off hc] at hs
          have HS : Hid (KN.Mk (((a ++ b).take (j + 1)).foldl joinS []) w u5 (wr.alloc (.cells #[.int .u8 rk, .int .i64 rsz, .int .i64 rc] 61))) := by rw [hs]; exact HM
          have hcb : decide (rc < 1) = true := by simpa using hc
          obtain ⟨oo, ocap, hu5⟩ := HM.out.1.any
          rw [hL] at hu5
          subst hu5
          obtain ⟨n1, hj1⟩ : ∃ n1, IntKind.i64.wrap ((L : Int) - 1) = n1 := ⟨_, rfl⟩
          clear hs hlk HM hL HL
          go_wp2_with fail
          go_roundw
          case rel => exact ⟨j + 1, by omega, by go_num, HS⟩
          case measure => simp [intOf]; omega
        · have hcb : decide (rc < 1) = false := by simpa using hc
          rcases List.eq_nil_or_concat lo with rfl | ⟨l0, ⟨yk, ys, yc⟩, rfl⟩
          · obtain ⟨oo, ocap, hu5⟩ := HM.out.1.any
            rw [hL] at hu5
            subst hu5
            rw [joinS_nil hc] at hs
            have hL0 : L = 0 := by rw [← hL]; rfl
            have hj1 : IntKind.i64.wrap ((L : Int) - 1) = -1 := by rw [hL0]; decide
            have HS := Lib.hid hs
            clear hs hlk hL hL0
            go_wp2_with fail
            go_quiet (fail)
            obtain ⟨wq, hwq⟩ : ∃ wq, wq = (wr.alloc (.cells #[.int .u8 rk, .int .i64 rsz, .int .i64 rc] 61)).drewN nq := ⟨_, rfl⟩
            have HMq : Hid (KN.Mk ([]) w (.slice oo L ocap) wq) := by rw [hwq]; exact Lib.hid (HM.out.draw nq)
            have t0 : wq.cell? ⟨wr.heap.size, 0, none⟩ = some (.int .u8 rk) := by rw [hwq]; exact World.cell?_alloc_new wr _ _ 0
            have t1 : wq.cell? ⟨wr.heap.size, 1, none⟩ = some (.int .i64 rsz) := by rw [hwq]; exact World.cell?_alloc_new wr _ _ 1
            have t2 : wq.cell? ⟨wr.heap.size, 2, none⟩ = some (.int .i64 rc) := by rw [hwq]; exact World.cell?_alloc_new wr _ _ 2
            rw [← hwq]
            clear hwq HM
            have HOWN := HMq.out.alloc (.cells #[.int .u8 rk, .int .i64 rsz, .int .i64 rc] 61) (N := L) (by rw [HL.out])
            obtain ⟨hi, hz0, hz1, hz2⟩ := HI.out
            go_wp2_with (at_builtin; refine wpList_append_keep _ rfl _ _ 32 rfl 61 i0 _ 3 24 Try.underlying32 hi hz0 hz1 hz2 rfl (by decide) (.slice oo L ocap) L (KN.fl ([])) rfl HOWN ⟨wq.heap.size, 0, none⟩ 1 1 [.int .u8 rk, .int .i64 rsz, .int .i64 rc] rfl rfl (World.news_of_block (heap_alloc_new _ _)) (KN.one ⟨rk, rsz, rc⟩) (by unfold maxLen; omega) (by omega) (by decide) ?_)
            intro v' w2 hown hgrow hat hne
            have hat2 : v'.ownBlock = (Value.slice oo L ocap).ownBlock ∨ v'.ownBlock = some (wq.heap.size + 1) := by
              rcases hat with hat | hat
              · exact .inl hat
              · exact .inr (by simpa using hat.1)
            have HN : Hid (KN.Mk (((a ++ b).take (j + 1)).foldl joinS []) w v' w2) := by
              rw [HS.out]
              exact Lib.hid (HMq.out.more (by rw [HL.out]) rfl hown hgrow hat2)
            clear hown hgrow hat hne hat2 HOWN hi hz0 hz1 hz2 t0 t1 t2 HMq
            go_wp2
            go_roundw
            case rel => exact ⟨j + 1, by omega, by go_num, HN⟩
            case measure => simp [intOf]; omega
          · rw [List.concat_eq_append] at *
            obtain ⟨g2, ocap, hu5⟩ := HM.out.1.form (by simp)
            rw [hL] at hu5
            subst hu5
            obtain ⟨y1, y2⟩ := hlk.last
            dsimp only at y1 y2
            obtain ⟨n1, hn1⟩ : ∃ n1, l0.length = n1 := ⟨_, rfl⟩
            have hLn : L = n1 + 1 := by rw [← hL, ← hn1]; simp
            have hn1l : n1 < L := by omega
            have hj1 : IntKind.i64.wrap ((L : Int) - 1) = (n1 : Int) := by rw [IntWalk.i64_in _ (by omega)]; omega
            have hget : (l0 ++ [(⟨yk, ys, yc⟩ : Rn)])[n1]? = some ⟨yk, ys, yc⟩ := by rw [← hn1]; simp
            have e1 : (wr.alloc (.cells #[.int .u8 rk, .int .i64 rsz, .int .i64 rc] 61)).cell? ⟨g2, n1 * 3, none⟩ = some (.int .u8 yk) := HM.out.1.get hget 0 _ rfl
            have e2 : (wr.alloc (.cells #[.int .u8 rk, .int .i64 rsz, .int .i64 rc] 61)).cell? ⟨g2, n1 * 3 + 1, none⟩ = some (.int .i64 ys) := HM.out.1.get hget 1 _ rfl
            have e3 : (wr.alloc (.cells #[.int .u8 rk, .int .i64 rsz, .int .i64 rc] 61)).cell? ⟨g2, n1 * 3 + 2, none⟩ = some (.int .i64 yc) := HM.out.1.get hget 2 _ rfl
            have FRZ := Lib.hid (HM.out.1.frozen (n1 * 3 + 2))
            have HN1 := Lib.hid hn1
            have hsat := sat_rng y1 (show 0 ≤ rc by omega) r2
            rcases eqcE yk ys rk rsz with ⟨b1, b2, he⟩ | ⟨b1, he⟩ | ⟨b1, b2, he⟩
            · rw [joinS_same hc he] at hs
              have HS := Lib.hid hs
              clear hs hlk hL hget hLn hn1
              go_wp2_with fail
              go_quiet (fail)
              obtain ⟨wq, hwq⟩ : ∃ wq, wq = (wr.alloc (.cells #[.int .u8 rk, .int .i64 rsz, .int .i64 rc] 61)).drewN nq := ⟨_, rfl⟩
              have HMq : Hid (KN.Mk (l0 ++ [⟨yk, ys, yc⟩]) w (.slice (some ⟨g2, 0, none⟩) L ocap) (wq.drewN 1)) := by rw [hwq]; exact Lib.hid ((HM.out.draw nq).draw 1)
              have T2 : ∀ w', w' = wq.drewN 1 → w'.cell? ⟨wr.heap.size, 2, none⟩ = some (.int .i64 rc) := by rintro _ rfl; rw [hwq]; exact World.cell?_alloc_new wr _ _ 2
              have E3 : ∀ w', w' = wq.drewN 1 → w'.cell? ⟨g2, n1 * 3 + 2, none⟩ = some (.int .i64 yc) := by rintro _ rfl; rw [hwq]; exact e3
              have F3 : ∀ w', w' = wq.drewN 1 → w'.frozen? ⟨g2, n1 * 3 + 2, none⟩ = false := by rintro _ rfl; rw [hwq]; exact FRZ.out
              rw [← hwq]
              clear hwq HM e1 e2 e3 FRZ
              go_wp2_with fail
              have c5 := E3 _ rfl
              have f5 := F3 _ rfl
              have c6 := T2 _ rfl
              clear T2 E3 F3
              refine hd_start (fun _ => True) (by kernel_rfl) ?_
              intro w5 hw'
              have hw2 : wq.drewN 1 = w5 := hw'.symm
              rw [hw2] at HMq c5 f5 c6
              clear hw' hw2
              refine hd_take (v := ?_) 0 rfl (by kernel_rfl) (fun _ _ d _ _ h => (by cases d <;> exact h)) (by kernel_rfl) trivial (fun w' hS => ?_) ?_
              rotate_left
              focus (clear hS; go_simp; try rfl; done)
              simp only [List.getElem_toArray, List.getElem_cons_succ, List.getElem_cons_zero, Act.put, List.setIfInBounds_toArray, List.set_cons_zero, List.set_cons_succ]
              refine hd_take (v := ?_) 1 rfl (by kernel_rfl) (fun _ _ d _ _ h => (by cases d <;> exact h)) (by kernel_rfl) trivial (fun w' hS => ?_) ?_
              rotate_left
              focus (clear hS; go_simp; try rfl; done)
              simp only [List.getElem_toArray, List.getElem_cons_succ, List.getElem_cons_zero, Act.put, List.setIfInBounds_toArray, List.set_cons_zero, List.set_cons_succ]
              refine hd_take (v := ?_) 2 rfl (by kernel_rfl) (fun _ _ d _ _ h => (by cases d <;> exact h)) (by kernel_rfl) trivial (fun w' hS => ?_) ?_
              rotate_left
              focus (clear hS; go_simp; try rfl; done)
              simp only [List.getElem_toArray, List.getElem_cons_succ, List.getElem_cons_zero, Act.put, List.setIfInBounds_toArray, List.set_cons_zero, List.set_cons_succ]
              refine hd_take (v := ?_) 3 rfl (by kernel_rfl) (fun _ _ d _ _ h => (by cases d <;> exact h)) (by kernel_rfl) trivial (fun w' hS => ?_) ?_
              rotate_left
              focus (clear hS; go_simp; try rfl; done)
              simp only [List.getElem_toArray, List.getElem_cons_succ, List.getElem_cons_zero, Act.put, List.setIfInBounds_toArray, List.set_cons_zero, List.set_cons_succ]
              refine hd_take (v := ?_) 4 rfl (by kernel_rfl) (fun _ _ d _ _ h => (by cases d <;> exact h)) (by kernel_rfl) trivial (fun w' hS => ?_) ?_
              rotate_left
              focus (clear hS; go_simp; try rfl; done)
              simp only [List.getElem_toArray, List.getElem_cons_succ, List.getElem_cons_zero, Act.put, List.setIfInBounds_toArray, List.set_cons_zero, List.set_cons_succ]
              refine hd_take (v := ?_) 5 rfl (by kernel_rfl) (fun _ _ d _ _ h => (by cases d <;> exact h)) (by kernel_rfl) trivial (fun w' hS => ?_) ?_
              rotate_left
              focus (clear hS; go_simp; try rfl; done)
              simp only [List.getElem_toArray, List.getElem_cons_succ, List.getElem_cons_zero, Act.put, List.setIfInBounds_toArray, List.set_cons_zero, List.set_cons_succ]
              refine hd_take (v := ?_) 7 rfl (by kernel_rfl) (fun _ _ d _ _ h => (by cases d <;> exact h)) (by kernel_rfl) trivial (fun w' hS => ?_) ?_
              rotate_left
              focus (clear hS; go_simp; try rfl; done)
              simp only [List.getElem_toArray, List.getElem_cons_succ, List.getElem_cons_zero, Act.put, List.setIfInBounds_toArray, List.set_cons_zero, List.set_cons_succ]
              refine hd_two 6 8 (by kernel_rfl) ?_ ?_
              refine op_run rfl (by kernel_rfl) (by go_simp; first | done | exact ⟨rfl, rfl⟩ | rfl) ?_
              refine ⟨trivial, ?_⟩
              simp only [List.getElem_toArray, List.getElem_cons_succ, List.getElem_cons_zero, Act.put, List.setIfInBounds_toArray, List.set_cons_zero, List.set_cons_succ]
              refine hd_one 8 (by kernel_rfl) ?_
              refine op_run rfl (by kernel_rfl) (by go_simp; first | done | exact ⟨rfl, rfl⟩ | rfl) ?_
              refine ⟨trivial, ?_⟩
              simp only [List.getElem_toArray, List.getElem_cons_succ, List.getElem_cons_zero, Act.put, List.setIfInBounds_toArray, List.set_cons_zero, List.set_cons_succ]
              rotate_left
              refine op_run rfl (by kernel_rfl) (by go_simp; first | done | exact ⟨rfl, rfl⟩ | rfl) ?_
              refine ⟨trivial, ?_⟩
              simp only [List.getElem_toArray, List.getElem_cons_succ, List.getElem_cons_zero, Act.put, List.setIfInBounds_toArray, List.set_cons_zero, List.set_cons_succ]
              refine hd_one 6 (by kernel_rfl) ?_
              refine op_run rfl (by kernel_rfl) (by go_simp; first | done | exact ⟨rfl, rfl⟩ | rfl) ?_
              refine ⟨trivial, ?_⟩
              simp only [List.getElem_toArray, List.getElem_cons_succ, List.getElem_cons_zero, Act.put, List.setIfInBounds_toArray, List.set_cons_zero, List.set_cons_succ]
              all_goals
                refine hd_one 9 (by kernel_rfl) ?_
                refine op_call rfl (by kernel_rfl) (by go_simp; first | exact ⟨rfl, rfl⟩ | rfl) ?_
                refine (rsum_any yc rc _ y1 y2 (by omega) r2).mono ?_
                rintro e w6 ⟨rfl, hw⟩
                subst hw
                have hS2 := True.intro
                refine ⟨_, rfl, hS2, ?_⟩
                simp only [List.getElem_toArray, List.getElem_cons_succ, List.getElem_cons_zero, Act.put, List.setIfInBounds_toArray, List.set_cons_zero, List.set_cons_succ]
                obtain ⟨sc, hsc⟩ : ∃ sc, sat yc rc = sc := ⟨_, rfl⟩
                rw [hsc] at HS hsat
                have HN : Hid (KN.Mk (((a ++ b).take (j + 1)).foldl joinS []) w (.slice (some ⟨g2, 0, none⟩) L ocap) (w5.setCells g2 (n1 * 3 + 2) [.int .i64 sc])) := by
                  rw [HS.out]
                  exact Lib.hid (Knd.Mk.last (x := ⟨yk, ys, yc⟩) sc HMq.out (by rw [HN1.out]))
                rw [hsc]
                clear hsc HMq
                refine hd_take (v := ?_) 10 rfl (by kernel_rfl) (fun _ _ d _ _ h => (by cases d <;> exact h)) (by kernel_rfl) trivial (fun w' hS => ?_) ?_
                rotate_left
                focus (clear hS; go_simp; try rfl; done)
                simp only [List.getElem_toArray, List.getElem_cons_succ, List.getElem_cons_zero, Act.put, List.setIfInBounds_toArray, List.set_cons_zero, List.set_cons_succ]
                refine hd_take (v := ?_) 11 rfl (by kernel_rfl) (fun _ _ d _ _ h => (by cases d <;> exact h)) (by kernel_rfl) trivial (fun w' hS => ?_) ?_
                rotate_left
                focus (clear hS; go_simp; try rfl; done)
                simp only [List.getElem_toArray, List.getElem_cons_succ, List.getElem_cons_zero, Act.put, List.setIfInBounds_toArray, List.set_cons_zero, List.set_cons_succ]
                refine hd_one 12 (by kernel_rfl) ?_
                refine op_skip rfl (by kernel_rfl) (by go_simp; first | done | rfl) ?_
                refine ⟨trivial, ?_⟩
                simp only [List.getElem_toArray, List.getElem_cons_succ, List.getElem_cons_zero, Act.put, List.setIfInBounds_toArray, List.set_cons_zero, List.set_cons_succ]
                refine hd_done (by kernel_rfl) ?_
                clear c5 f5 c6
                go_wp2
                go_roundw
                case rel => exact ⟨j + 1, by omega, by go_num, HN⟩
                case measure => simp [intOf]; omega
            all_goals
              rw [joinS_other hc he] at hs
              have HS := Lib.hid hs
              clear hs hlk hL hget hLn hn1 FRZ
              go_wp2_with fail
              go_quiet (fail)
              obtain ⟨wq, hwq⟩ : ∃ wq, wq = (wr.alloc (.cells #[.int .u8 rk, .int .i64 rsz, .int .i64 rc] 61)).drewN nq := ⟨_, rfl⟩
              have HMq : Hid (KN.Mk (l0 ++ [⟨yk, ys, yc⟩]) w (.slice (some ⟨g2, 0, none⟩) L ocap) wq) := by rw [hwq]; exact Lib.hid (HM.out.draw nq)
              have t0 : wq.cell? ⟨wr.heap.size, 0, none⟩ = some (.int .u8 rk) := by rw [hwq]; exact World.cell?_alloc_new wr _ _ 0
              have t1 : wq.cell? ⟨wr.heap.size, 1, none⟩ = some (.int .i64 rsz) := by rw [hwq]; exact World.cell?_alloc_new wr _ _ 1
              have t2 : wq.cell? ⟨wr.heap.size, 2, none⟩ = some (.int .i64 rc) := by rw [hwq]; exact World.cell?_alloc_new wr _ _ 2
              rw [← hwq]
              clear hwq HM
              clear e1 e2 e3
              have HOWN := HMq.out.alloc (.cells #[.int .u8 rk, .int .i64 rsz, .int .i64 rc] 61) (N := L) (by rw [HL.out])
              obtain ⟨hi, hz0, hz1, hz2⟩ := HI.out
              go_wp2_with (at_builtin; refine wpList_append_keep _ rfl _ _ 32 rfl 61 i0 _ 3 24 Try.underlying32 hi hz0 hz1 hz2 rfl (by decide) (.slice (some ⟨g2, 0, none⟩) L ocap) L (KN.fl (l0 ++ [(⟨yk, ys, yc⟩ : Rn)])) rfl HOWN ⟨wq.heap.size, 0, none⟩ 1 1 [.int .u8 rk, .int .i64 rsz, .int .i64 rc] rfl rfl (World.news_of_block (heap_alloc_new _ _)) (KN.one ⟨rk, rsz, rc⟩) (by unfold maxLen; omega) (by omega) (by decide) ?_)
              intro v' w2 hown hgrow hat hne
              have hat2 : v'.ownBlock = (Value.slice (some ⟨g2, 0, none⟩) L ocap).ownBlock ∨ v'.ownBlock = some (wq.heap.size + 1) := by
                rcases hat with hat | hat
                · exact .inl hat
                · exact .inr (by simpa using hat.1)
              have HN : Hid (KN.Mk (((a ++ b).take (j + 1)).foldl joinS []) w v' w2) := by
                rw [HS.out]
                exact Lib.hid (HMq.out.more (by rw [HL.out]) rfl hown hgrow hat2)
              clear hown hgrow hat hne hat2 HOWN hi hz0 hz1 hz2 t0 t1 t2 HMq
              go_wp2
              go_roundw
              case rel => exact ⟨j + 1, by omega, by go_num, HN⟩
              case measure => simp [intOf]; omega
      · obtain ⟨m, hm⟩ : ∃ m, j = a.length + m := ⟨j - a.length, by omega⟩
        have hmb : m < b.length := by omega
        have hwm : IntKind.i64.wrap ((j : Int) - (a.length : Int)) = (m : Int) := by rw [IntWalk.i64_in _ (by omega)]; omega
        obtain ⟨⟨rk, rsz, rc⟩, hx⟩ : ∃ x, b[m]? = some x := ⟨_, List.getElem?_eq_getElem hmb⟩
        obtain ⟨g, off, rfl, hg, d1, d2, d3⟩ := runCells HV.out HR.out.2.1 hx
        have hgr : g < wr.heap.size := Nat.lt_of_lt_of_le hg HR.out.2.1.size
        obtain ⟨r1, r2⟩ := HB.out _ (List.mem_of_getElem? hx)
        dsimp only at r1 r2
        replace hx : (a ++ b)[j]? = some ⟨rk, rsz, rc⟩ := by rw [List.getElem?_append_right (by omega), show j - a.length = m from by omega]; exact hx
        clear hm
        have hs := fold_step joinS [] hx
        obtain ⟨lo, hlo⟩ : ∃ lo, ((a ++ b).take j).foldl joinS [] = lo := ⟨_, rfl⟩
        have hll := fold_len ((a ++ b).take j) []
        have hlk := fold_ok ((a ++ b).take j) [] (okC_take HAB.out j) okJ_nil
        rw [hlo] at hs hll hlk HR
        rw [List.length_take] at hll
        have HM : Hid (KN.Mk lo w u5 (wr.alloc (.cells #[.int .u8 rk, .int .i64 rsz, .int .i64 rc] 61))) := Lib.hid (HR.out.below ((Below.refl _ _).alloc (Nat.le_refl _) _))
        obtain ⟨L, hL⟩ : ∃ L, lo.length = L := ⟨_, rfl⟩
        have hLb : L ≤ 4000000 := by rw [List.length_nil] at hll; rw [← hL]; omega
        clear hx HR hlo hll
        have HL := Lib.hid hL
        by_cases hc : rc < 1
        · rw [joinS_off hc] at hs
          have HS : Hid (KN.Mk (((a ++ b).take (j + 1)).foldl joinS []) w u5 (wr.alloc (.cells #[.int .u8 rk, .int .i64 rsz, .int .i64 rc] 61))) := by rw [hs]; exact HM
          have hcb : decide (rc < 1) = true := by simpa using hc
          obtain ⟨oo, ocap, hu5⟩ := HM.out.1.any
          rw [hL] at hu5
          subst hu5
          obtain ⟨n1, hj1⟩ : ∃ n1, IntKind.i64.wrap ((L : Int) - 1) = n1 := ⟨_, rfl⟩
          clear hs hlk HM hL HL
          go_wp2_with fail
          go_roundw
          case rel => exact ⟨j + 1, by omega, by go_num, HS⟩
          case measure => simp [intOf]; omega
        · have hcb : decide (rc < 1) = false := by simpa using hc
          rcases List.eq_nil_or_concat lo with rfl | ⟨l0, ⟨yk, ys, yc⟩, rfl⟩
          · obtain ⟨oo, ocap, hu5⟩ := HM.out.1.any
            rw [hL] at hu5
            subst hu5
            rw [joinS_nil hc] at hs
            have hL0 : L = 0 := by rw [← hL]; rfl
            have hj1 : IntKind.i64.wrap ((L : Int) - 1) = -1 := by rw [hL0]; decide
            have HS := Lib.hid hs
            clear hs hlk hL hL0
            go_wp2_with fail
            go_quiet (fail)
            obtain ⟨wq, hwq⟩ : ∃ wq, wq = (wr.alloc (.cells #[.int .u8 rk, .int .i64 rsz, .int .i64 rc] 61)).drewN nq := ⟨_, rfl⟩
            have HMq : Hid (KN.Mk ([]) w (.slice oo L ocap) wq) := by rw [hwq]; exact Lib.hid (HM.out.draw nq)
            have t0 : wq.cell? ⟨wr.heap.size, 0, none⟩ = some (.int .u8 rk) := by rw [hwq]; exact World.cell?_alloc_new wr _ _ 0
            have t1 : wq.cell? ⟨wr.heap.size, 1, none⟩ = some (.int .i64 rsz) := by rw [hwq]; exact World.cell?_alloc_new wr _ _ 1
            have t2 : wq.cell? ⟨wr.heap.size, 2, none⟩ = some (.int .i64 rc) := by rw [hwq]; exact World.cell?_alloc_new wr _ _ 2
            rw [← hwq]
            clear hwq HM
            have HOWN := HMq.out.alloc (.cells #[.int .u8 rk, .int .i64 rsz, .int .i64 rc] 61) (N := L) (by rw [HL.out])
            obtain ⟨hi, hz0, hz1, hz2⟩ := HI.out
            go_wp2_with (at_builtin; refine wpList_append_keep _ rfl _ _ 32 rfl 61 i0 _ 3 24 Try.underlying32 hi hz0 hz1 hz2 rfl (by decide) (.slice oo L ocap) L (KN.fl ([])) rfl HOWN ⟨wq.heap.size, 0, none⟩ 1 1 [.int .u8 rk, .int .i64 rsz, .int .i64 rc] rfl rfl (World.news_of_block (heap_alloc_new _ _)) (KN.one ⟨rk, rsz, rc⟩) (by unfold maxLen; omega) (by omega) (by decide) ?_)
            intro v' w2 hown hgrow hat hne
            have hat2 : v'.ownBlock = (Value.slice oo L ocap).ownBlock ∨ v'.ownBlock = some (wq.heap.size + 1) := by
              rcases hat with hat | hat
              · exact .inl hat
              · exact .inr (by simpa using hat.1)
            have HN : Hid (KN.Mk (((a ++ b).take (j + 1)).foldl joinS []) w v' w2) := by
              rw [HS.out]
              exact Lib.hid (HMq.out.more (by rw [HL.out]) rfl hown hgrow hat2)
            clear hown hgrow hat hne hat2 HOWN hi hz0 hz1 hz2 t0 t1 t2 HMq
            go_wp2
            go_roundw
            case rel => exact ⟨j + 1, by omega, by go_num, HN⟩
            case measure => simp [intOf]; omega
          · rw [List.concat_eq_append] at *
            obtain ⟨g2, ocap, hu5⟩ := HM.out.1.form (by simp)
            rw [hL] at hu5
            subst hu5
            obtain ⟨y1, y2⟩ := hlk.last
            dsimp only at y1 y2
            obtain ⟨n1, hn1⟩ : ∃ n1, l0.length = n1 := ⟨_, rfl⟩
            have hLn : L = n1 + 1 := by rw [← hL, ← hn1]; simp
            have hn1l : n1 < L := by omega
            have hj1 : IntKind.i64.wrap ((L : Int) - 1) = (n1 : Int) := by rw [IntWalk.i64_in _ (by omega)]; omega
            have hget : (l0 ++ [(⟨yk, ys, yc⟩ : Rn)])[n1]? = some ⟨yk, ys, yc⟩ := by rw [← hn1]; simp
            have e1 : (wr.alloc (.cells #[.int .u8 rk, .int .i64 rsz, .int .i64 rc] 61)).cell? ⟨g2, n1 * 3, none⟩ = some (.int .u8 yk) := HM.out.1.get hget 0 _ rfl
            have e2 : (wr.alloc (.cells #[.int .u8 rk, .int .i64 rsz, .int .i64 rc] 61)).cell? ⟨g2, n1 * 3 + 1, none⟩ = some (.int .i64 ys) := HM.out.1.get hget 1 _ rfl
            have e3 : (wr.alloc (.cells #[.int .u8 rk, .int .i64 rsz, .int .i64 rc] 61)).cell? ⟨g2, n1 * 3 + 2, none⟩ = some (.int .i64 yc) := HM.out.1.get hget 2 _ rfl
            have FRZ := Lib.hid (HM.out.1.frozen (n1 * 3 + 2))
            have HN1 := Lib.hid hn1
            have hsat := sat_rng y1 (show 0 ≤ rc by omega) r2
            rcases eqcE yk ys rk rsz with ⟨b1, b2, he⟩ | ⟨b1, he⟩ | ⟨b1, b2, he⟩
            · rw [joinS_same hc he] at hs
              have HS := Lib.hid hs
              clear hs hlk hL hget hLn hn1
              go_wp2_with fail
              go_quiet (fail)
              obtain ⟨wq, hwq⟩ : ∃ wq, wq = (wr.alloc (.cells #[.int .u8 rk, .int .i64 rsz, .int .i64 rc] 61)).drewN nq := ⟨_, rfl⟩
              have HMq : Hid (KN.Mk (l0 ++ [⟨yk, ys, yc⟩]) w (.slice (some ⟨g2, 0, none⟩) L ocap) (wq.drewN 1)) := by rw [hwq]; exact Lib.hid ((HM.out.draw nq).draw 1)
              have T2 : ∀ w', w' = wq.drewN 1 → w'.cell? ⟨wr.heap.size, 2, none⟩ = some (.int .i64 rc) := by rintro _ rfl; rw [hwq]; exact World.cell?_alloc_new wr _ _ 2
              have E3 : ∀ w', w' = wq.drewN 1 → w'.cell? ⟨g2, n1 * 3 + 2, none⟩ = some (.int .i64 yc) := by rintro _ rfl; rw [hwq]; exact e3
              have F3 : ∀ w', w' = wq.drewN 1 → w'.frozen? ⟨g2, n1 * 3 + 2, none⟩ = false := by rintro _ rfl; rw [hwq]; exact FRZ.out
              rw [← hwq]
              clear hwq HM e1 e2 e3 FRZ
              go_wp2_with fail
              have c5 := E3 _ rfl
              have f5 := F3 _ rfl
              have c6 := T2 _ rfl
              clear T2 E3 F3
              refine hd_start (fun _ => True) (by kernel_rfl) ?_
              intro w5 hw'
              have hw2 : wq.drewN 1 = w5 := hw'.symm
              rw [hw2] at HMq c5 f5 c6
              clear hw' hw2
              refine hd_take (v := ?_) 0 rfl (by kernel_rfl) (fun _ _ d _ _ h => (by cases d <;> exact h)) (by kernel_rfl) trivial (fun w' hS => ?_) ?_
              rotate_left
              focus (clear hS; go_simp; try rfl; done)
              simp only [List.getElem_toArray, List.getElem_cons_succ, List.getElem_cons_zero, Act.put, List.setIfInBounds_toArray, List.set_cons_zero, List.set_cons_succ]
              refine hd_take (v := ?_) 1 rfl (by kernel_rfl) (fun _ _ d _ _ h => (by cases d <;> exact h)) (by kernel_rfl) trivial (fun w' hS => ?_) ?_
              rotate_left
              focus (clear hS; go_simp; try rfl; done)
              simp only [List.getElem_toArray, List.getElem_cons_succ, List.getElem_cons_zero, Act.put, List.setIfInBounds_toArray, List.set_cons_zero, List.set_cons_succ]
              refine hd_take (v := ?_) 2 rfl (by kernel_rfl) (fun _ _ d _ _ h => (by cases d <;> exact h)) (by kernel_rfl) trivial (fun w' hS => ?_) ?_
              rotate_left
              focus (clear hS; go_simp; try rfl; done)
              simp only [List.getElem_toArray, List.getElem_cons_succ, List.getElem_cons_zero, Act.put, List.setIfInBounds_toArray, List.set_cons_zero, List.set_cons_succ]
              refine hd_take (v := ?_) 3 rfl (by kernel_rfl) (fun _ _ d _ _ h => (by cases d <;> exact h)) (by kernel_rfl) trivial (fun w' hS => ?_) ?_
              rotate_left
              focus (clear hS; go_simp; try rfl; done)
              simp only [List.getElem_toArray, List.getElem_cons_succ, List.getElem_cons_zero, Act.put, List.setIfInBounds_toArray, List.set_cons_zero, List.set_cons_succ]
              refine hd_take (v := ?_) 4 rfl (by kernel_rfl) (fun _ _ d _ _ h => (by cases d <;> exact h)) (by kernel_rfl) trivial (fun w' hS => ?_) ?_
              rotate_left
              focus (clear hS; go_simp; try rfl; done)
              simp only [List.getElem_toArray, List.getElem_cons_succ, List.getElem_cons_zero, Act.put, List.setIfInBounds_toArray, List.set_cons_zero, List.set_cons_succ]
              refine hd_take (v := ?_) 5 rfl (by kernel_rfl) (fun _ _ d _ _ h => (by cases d <;> exact h)) (by kernel_rfl) trivial (fun w' hS => ?_) ?_
              rotate_left
              focus (clear hS; go_simp; try rfl; done)
              simp only [List.getElem_toArray, List.getElem_cons_succ, List.getElem_cons_zero, Act.put, List.setIfInBounds_toArray, List.set_cons_zero, List.set_cons_succ]
              refine hd_take (v := ?_) 7 rfl (by kernel_rfl) (fun _ _ d _ _ h => (by cases d <;> exact h)) (by kernel_rfl) trivial (fun w' hS => ?_) ?_
              rotate_left
              focus (clear hS; go_simp; try rfl; done)
              simp only [List.getElem_toArray, List.getElem_cons_succ, List.getElem_cons_zero, Act.put, List.setIfInBounds_toArray, List.set_cons_zero, List.set_cons_succ]
              refine hd_two 6 8 (by kernel_rfl) ?_ ?_
              refine op_run rfl (by kernel_rfl) (by go_simp; first | done | exact ⟨rfl, rfl⟩ | rfl) ?_
              refine ⟨trivial, ?_⟩
              simp only [List.getElem_toArray, List.getElem_cons_succ, List.getElem_cons_zero, Act.put, List.setIfInBounds_toArray, List.set_cons_zero, List.set_cons_succ]
              refine hd_one 8 (by kernel_rfl) ?_
              refine op_run rfl (by kernel_rfl) (by go_simp; first | done | exact ⟨rfl, rfl⟩ | rfl) ?_
              refine ⟨trivial, ?_⟩
              simp only [List.getElem_toArray, List.getElem_cons_succ, List.getElem_cons_zero, Act.put, List.setIfInBounds_toArray, List.set_cons_zero, List.set_cons_succ]
              rotate_left
              refine op_run rfl (by kernel_rfl) (by go_simp; first | done | exact ⟨rfl, rfl⟩ | rfl) ?_
              refine ⟨trivial, ?_⟩
              simp only [List.getElem_toArray, List.getElem_cons_succ, List.getElem_cons_zero, Act.put, List.setIfInBounds_toArray, List.set_cons_zero, List.set_cons_succ]
              refine hd_one 6 (by kernel_rfl) ?_
              refine op_run rfl (by kernel_rfl) (by go_simp; first | done | exact ⟨rfl, rfl⟩ | rfl) ?_
              refine ⟨trivial, ?_⟩
              simp only [List.getElem_toArray, List.getElem_cons_succ, List.getElem_cons_zero, Act.put, List.setIfInBounds_toArray, List.set_cons_zero, List.set_cons_succ]
              all_goals
                refine hd_one 9 (by kernel_rfl) ?_
                refine op_call rfl (by kernel_rfl) (by go_simp; first | exact ⟨rfl, rfl⟩ | rfl) ?_
                refine (rsum_any yc rc _ y1 y2 (by omega) r2).mono ?_
                rintro e w6 ⟨rfl, hw⟩
                subst hw
                have hS2 := True.intro
                refine ⟨_, rfl, hS2, ?_⟩
                simp only [List.getElem_toArray, List.getElem_cons_succ, List.getElem_cons_zero, Act.put, List.setIfInBounds_toArray, List.set_cons_zero, List.set_cons_succ]
                obtain ⟨sc, hsc⟩ : ∃ sc, sat yc rc = sc := ⟨_, rfl⟩
                rw [hsc] at HS hsat
                have HN : Hid (KN.Mk (((a ++ b).take (j + 1)).foldl joinS []) w (.slice (some ⟨g2, 0, none⟩) L ocap) (w5.setCells g2 (n1 * 3 + 2) [.int .i64 sc])) := by
                  rw [HS.out]
                  exact Lib.hid (Knd.Mk.last (x := ⟨yk, ys, yc⟩) sc HMq.out (by rw [HN1.out]))
                rw [hsc]
                clear hsc HMq
                refine hd_take (v := ?_) 10 rfl (by kernel_rfl) (fun _ _ d _ _ h => (by cases d <;> exact h)) (by kernel_rfl) trivial (fun w' hS => ?_) ?_
                rotate_left
                focus (clear hS; go_simp; try rfl; done)
                simp only [List.getElem_toArray, List.getElem_cons_succ, List.getElem_cons_zero, Act.put, List.setIfInBounds_toArray, List.set_cons_zero, List.set_cons_succ]
                refine hd_take (v := ?_) 11 rfl (by kernel_rfl) (fun _ _ d _ _ h => (by cases d <;> exact h)) (by kernel_rfl) trivial (fun w' hS => ?_) ?_
                rotate_left
                focus (clear hS; go_simp; try rfl; done)
                simp only [List.getElem_toArray, List.getElem_cons_succ, List.getElem_cons_zero, Act.put, List.setIfInBounds_toArray, List.set_cons_zero, List.set_cons_succ]
                refine hd_one 12 (by kernel_rfl) ?_
                refine op_skip rfl (by kernel_rfl) (by go_simp; first | done | rfl) ?_
                refine ⟨trivial, ?_⟩
                simp only [List.getElem_toArray, List.getElem_cons_succ, List.getElem_cons_zero, Act.put, List.setIfInBounds_toArray, List.set_cons_zero, List.set_cons_succ]
                refine hd_done (by kernel_rfl) ?_
                clear c5 f5 c6
                go_wp2
                go_roundw
                case rel => exact ⟨j + 1, by omega, by go_num, HN⟩
                case measure => simp [intOf]; omega
            all_goals
              rw [joinS_other hc he] at hs
              have HS := Lib.hid hs
              clear hs hlk hL hget hLn hn1 FRZ
              go_wp2_with fail
              go_quiet (fail)
              obtain ⟨wq, hwq⟩ : ∃ wq, wq = (wr.alloc (.cells #[.int .u8 rk, .int .i64 rsz, .int .i64 rc] 61)).drewN nq := ⟨_, rfl⟩
              have HMq : Hid (KN.Mk (l0 ++ [⟨yk, ys, yc⟩]) w (.slice (some ⟨g2, 0, none⟩) L ocap) wq) := by rw [hwq]; exact Lib.hid (HM.out.draw nq)
              have t0 : wq.cell? ⟨wr.heap.size, 0, none⟩ = some (.int .u8 rk) := by rw [hwq]; exact World.cell?_alloc_new wr _ _ 0
              have t1 : wq.cell? ⟨wr.heap.size, 1, none⟩ = some (.int .i64 rsz) := by rw [hwq]; exact World.cell?_alloc_new wr _ _ 1
              have t2 : wq.cell? ⟨wr.heap.size, 2, none⟩ = some (.int .i64 rc) := by rw [hwq]; exact World.cell?_alloc_new wr _ _ 2
              rw [← hwq]
              clear hwq HM
              clear e1 e2 e3
              have HOWN := HMq.out.alloc (.cells #[.int .u8 rk, .int .i64 rsz, .int .i64 rc] 61) (N := L) (by rw [HL.out])
              obtain ⟨hi, hz0, hz1, hz2⟩ := HI.out
              go_wp2_with (at_builtin; refine wpList_append_keep _ rfl _ _ 32 rfl 61 i0 _ 3 24 Try.underlying32 hi hz0 hz1 hz2 rfl (by decide) (.slice (some ⟨g2, 0, none⟩) L ocap) L (KN.fl (l0 ++ [(⟨yk, ys, yc⟩ : Rn)])) rfl HOWN ⟨wq.heap.size, 0, none⟩ 1 1 [.int .u8 rk, .int .i64 rsz, .int .i64 rc] rfl rfl (World.news_of_block (heap_alloc_new _ _)) (KN.one ⟨rk, rsz, rc⟩) (by unfold maxLen; omega) (by omega) (by decide) ?_)
              intro v' w2 hown hgrow hat hne
              have hat2 : v'.ownBlock = (Value.slice (some ⟨g2, 0, none⟩) L ocap).ownBlock ∨ v'.ownBlock = some (wq.heap.size + 1) := by
                rcases hat with hat | hat
                · exact .inl hat
                · exact .inr (by simpa using hat.1)
              have HN : Hid (KN.Mk (((a ++ b).take (j + 1)).foldl joinS []) w v' w2) := by
                rw [HS.out]
                exact Lib.hid (HMq.out.more (by rw [HL.out]) rfl hown hgrow hat2)
              clear hown hgrow hat hne hat2 HOWN hi hz0 hz1 hz2 t0 t1 t2 HMq
              go_wp2
              go_roundw
              case rel => exact ⟨j + 1, by omega, by go_num, HN⟩
              case measure => simp [intOf]; omega
    · obtain rfl : j = N := by omega
      have HN : Hid (KN.New (joinL a b) w (.returned u5) wr) := by
        have h := HR.out
        rw [show j = (a ++ b).length from by rw [List.length_append]; omega, List.take_length] at h
        exact Lib.hid h.new
      clear HR
      go_wp2
      go_ret
      exact HN.out
end Go.Proofs.Ytmdfmkdhfhbkjaa
