/- The walk of TraceFar: how far lists are from each other. Conditions: the form's own reach. -/
import Derived.Test.YtfielodchoghlaaRows
import Derived.Test.YtfielodchoghlaaSeries
import Derived.Test.YtfielodchoghlaaTrace
import Derived.Test.YtfielodchoghlaaKenv
import Derived.Test.YtfielodchoghlaaOpenI
namespace Go.Proofs.Ytfielodchoghlaa
open Go.RowKit
set_option maxRecDepth 100000
set_option linter.unusedVariables false
set_option linter.unusedSimpArgs false
theorem run_any (k s c : Int) (w : World) : Calls Try.prog 27 #[.int .u8 k, .int .i64 s, .int .i64 c] w fun e w' => e = .returned (.agg #[.int .u8 k, .int .i64 s, .int .i64 c]) ∧ Below w.heap.size w w' := by
  go_enter Try.func27, Try.ntmps27
  go_wp2
  exact bodyPost_ret (v := .agg #[.int .u8 k, .int .i64 s, .int .i64 c]) (by simp [results, Try.results27, go_sem]) rfl ⟨rfl, (Below.refl _ _).alloc (Nat.le_refl _) _⟩
def exampleL : List Rn := [⟨11, 1, 1⟩, ⟨1, 64, 3⟩, ⟨12, 0, 1⟩, ⟨1, 64, 9⟩, ⟨11, 2, 2⟩, ⟨1, 64, 1⟩]
set_option maxHeartbeats 1000000 in
theorem example_any (w : World) : Calls Try.prog 26 #[] w (KN.New exampleL w) := by
  go_enter Try.func26, Try.ntmps26
  go_wp2_with fail
  refine (run_any _ _ _ _).mono ?_
  rintro e w1 ⟨rfl, hb⟩
  have B1 := Lib.hid hb
  clear hb
  go_wp2_with fail
  refine (run_any _ _ _ _).mono ?_
  rintro e w2 ⟨rfl, hb⟩
  have B2 := Lib.hid (B1.out.trans (hb.mono B1.out.size))
  clear hb B1
  go_wp2_with fail
  refine (run_any _ _ _ _).mono ?_
  rintro e w3 ⟨rfl, hb⟩
  have B3 := Lib.hid (B2.out.trans (hb.mono B2.out.size))
  clear hb B2
  go_wp2_with fail
  refine (run_any _ _ _ _).mono ?_
  rintro e w4 ⟨rfl, hb⟩
  have B4 := Lib.hid (B3.out.trans (hb.mono B3.out.size))
  clear hb B3
  go_wp2_with fail
  refine (run_any _ _ _ _).mono ?_
  rintro e w5 ⟨rfl, hb⟩
  have B5 := Lib.hid (B4.out.trans (hb.mono B4.out.size))
  clear hb B4
  go_wp2_with fail
  refine (run_any _ _ _ _).mono ?_
  rintro e w6 ⟨rfl, hb⟩
  have B6 := Lib.hid (B5.out.trans (hb.mono B5.out.size))
  clear hb B5
  have HN : Hid (KN.New exampleL w (.returned (.slice (some ⟨w6.heap.size, 0, none⟩) 6 6)) (w6.alloc (.cells #[.int .u8 11, .int .i64 1, .int .i64 1, .int .u8 1, .int .i64 64, .int .i64 3, .int .u8 12, .int .i64 0, .int .i64 1, .int .u8 1, .int .i64 64, .int .i64 9, .int .u8 11, .int .i64 2, .int .i64 2, .int .u8 1, .int .i64 64, .int .i64 1] 51))) := by
    obtain ⟨v, hv, h1, h2, h3⟩ := Knd.New.lit KN exampleL w6 (by decide)
    exact Lib.hid ⟨v, hv, h1, B6.out.trans (h2.mono B6.out.size), fun x hx => Nat.le_trans B6.out.size (h3 x hx)⟩
  clear B6
  go_wp2
  go_ret
  exact HN.out
set_option maxHeartbeats 4000000 in
theorem awake27_any (w : World) : Calls Try.prog 23 #[] w fun e w' => e = .returned (.bool true) ∧ Below w.heap.size w w' := by
  go_enter Try.func23, Try.ntmps23
  go_wp2_with fail
  refine (run_any _ _ _ w).mono ?_
  rintro e w1 ⟨rfl, hb⟩
  have h5 := (Env.start w).below hb
  clear hb
  have H1 := Lib.hid h5
  clear h5
  go_wp2_with fail
  refine (run_any _ _ _ w1).mono ?_
  rintro e w2 ⟨rfl, hb⟩
  have h5 := H1.out.below hb
  clear hb
  have H2 := Lib.hid h5
  clear h5 H1
  have H3 : Hid (Env w (w2.alloc (.cells #[.int .u8 1, .int .i64 64, .int .i64 2, .int .u8 8, .int .i64 3, .int .i64 1] 51)) [KN.ob (.slice (some ⟨w2.heap.size, 0, none⟩) 2 2) [⟨1, 64, 2⟩, ⟨8, 3, 1⟩]]) := by
    obtain ⟨v, hv, h5⟩ := Knd.New.env H2.out (Knd.New.lit KN [⟨1, 64, 2⟩, ⟨8, 3, 1⟩] w2 (by decide))
    injection hv with hv
    subst hv
    exact Lib.hid h5
  clear H2
  go_wp2_with fail
  refine (flat_any _ [⟨1, 64, 2⟩, ⟨8, 3, 1⟩] 3 _ (H3.out.kR 0 rfl)).mono ?_
  rintro e w4 ⟨v, he, hn⟩
  rw [show flatC [⟨1, 64, 2⟩, ⟨8, 3, 1⟩] 3 = 0 from by decide] at he
  rw [show flatV [⟨1, 64, 2⟩, ⟨8, 3, 1⟩] 3 = [⟨1, 64⟩, ⟨1, 64⟩, ⟨8, 3⟩] from by decide] at hn
  subst he
  obtain ⟨v2, hx, h5⟩ := Knd.New.env H3.out hn
  injection hx with hx
  subst hx
  clear hn
  have H4 := Lib.hid h5
  clear h5 H3
  obtain ⟨gv, cv, rfl⟩ := (H4.out.kO 1 rfl).form (by decide)
  go_wp2_with fail
  refine (example_any w4).mono ?_
  rintro e w5 hn
  obtain ⟨xe, rfl, h5⟩ := Knd.New.env H4.out hn
  clear hn
  have H5 := Lib.hid h5
  clear h5 H4
  go_wp2_with fail
  refine (series_any _ exampleL 1 w5 (H5.out.kR 2 rfl)).mono ?_
  rintro e w6 hn
  rw [show seriesL exampleL 1 = [3, 0, 1] from by decide] at hn
  obtain ⟨xs, rfl, h5⟩ := Knd.New.env H5.out hn
  clear hn
  have H6 := Lib.hid h5
  clear h5 H5
  have H7 : Hid (Env w (w6.alloc (.cells #[.int .i64 3, .int .i64 0, .int .i64 1] 3)) ([KN.ob (.slice (some ⟨w2.heap.size, 0, none⟩) 2 2) [⟨1, 64, 2⟩, ⟨8, 3, 1⟩], KE.ob (.slice (some ⟨gv, 0, none⟩) 3 cv) [⟨1, 64⟩, ⟨1, 64⟩, ⟨8, 3⟩], KN.ob xe exampleL, KI.ob xs [3, 0, 1], KI.ob (.slice (some ⟨w6.heap.size, 0, none⟩) 3 3) [3, 0, 1]])) := by
    obtain ⟨v, hv, h5⟩ := Knd.New.env H6.out (Knd.New.lit KI [3, 0, 1] w6 (by decide))
    injection hv with hv
    subst hv
    exact Lib.hid h5
  clear H6
  go_wp2_with fail
  refine (sameI_any _ _ [3, 0, 1] [3, 0, 1] _ (H7.out.kR 3 rfl) (H7.out.kR 4 rfl)).mono ?_
  rintro e w8 ⟨he, m, hw⟩
  rw [sameL_refl eqI (fun x => by simp [eqI])] at he
  subst he
  have h5 := H7.out.draw m
  rw [← hw] at h5
  clear hw
  have H8 := Lib.hid h5
  clear h5 H7
  have c1 : w8.cell? ⟨gv, 4, none⟩ = some (.int .u8 8) := (H8.out.kO 1 rfl).get (i := 2) rfl 0 _ rfl
  have c2 : w8.cell? ⟨gv, 5, none⟩ = some (.int .i64 3) := (H8.out.kO 1 rfl).get (i := 2) rfl 1 _ rfl
  have H9 : Hid (Env w ((w8.alloc (.cells #[.int .i64 1, .int .i64 2, .int .i64 3] 3)).alloc (.cells #[.int .i64 1, .int .i64 5] 3)) ([KI.ob (.slice (some ⟨w8.heap.size, 0, none⟩) 3 3) [1, 2, 3], KI.ob (.slice (some ⟨w8.heap.size + 1, 0, none⟩) 2 2) [1, 5]])) := by
    have h0 : Env w w8 [] := Env.pick H8.out (fun j => j) (fun i j hi => by simp at hi) (fun j ob hj => by simp at hj)
    obtain ⟨v, hv, h5⟩ := Knd.New.env h0 (Knd.New.lit KI [1, 2, 3] w8 (by decide))
    injection hv with hv
    subst hv
    obtain ⟨v, hv, h6⟩ := Knd.New.env h5 (Knd.New.lit KI [1, 5] _ (by decide))
    injection hv with hv
    subst hv
    have e : (w8.alloc (.cells (KI.fl [1, 2, 3]).toArray KI.e)).heap.size = w8.heap.size + 1 := by simp
    rw [e] at h6
    exact Lib.hid h6
  clear H8
  go_wp2_with fail
  refine (dist_any _ _ [1, 2, 3] [1, 5] _ (H9.out.kR 0 rfl) (H9.out.kR 1 rfl) (by decide) (by decide)).mono ?_
  rintro e w' ⟨he, rfl⟩
  rw [show distN [1, 2, 3] [1, 5] = 2 from by decide] at he
  subst he
  have H10 : Hid (Env w (((w8.alloc (.cells #[.int .i64 1, .int .i64 2, .int .i64 3] 3)).alloc (.cells #[.int .i64 1, .int .i64 5] 3)).alloc (.cells #[.int .i64 7] 3)) ([KI.ob (.slice (some ⟨w8.heap.size, 0, none⟩) 3 3) [1, 2, 3], KI.ob (.slice (some ⟨w8.heap.size + 1, 0, none⟩) 2 2) [1, 5], KI.ob (.slice (some ⟨w8.heap.size + 1 + 1, 0, none⟩) 1 1) [7]])) := by
    obtain ⟨v, hv, h6⟩ := Knd.New.env H9.out (Knd.New.lit KI [7] _ (by decide))
    injection hv with hv
    subst hv
    have e : ((w8.alloc (.cells #[.int .i64 1, .int .i64 2, .int .i64 3] 3)).alloc (.cells #[.int .i64 1, .int .i64 5] 3)).heap.size = w8.heap.size + 1 + 1 := by simp
    rw [e] at h6
    exact Lib.hid h6
  clear H9
  go_wp2_with fail
  refine (reals_any _ [7] _ (H10.out.kR 2 rfl) (by decide)).mono ?_
  rintro e w11 hn
  obtain ⟨v, rfl, h5⟩ := Knd.New.env H10.out hn
  obtain ⟨ao, cap, rfl⟩ := (Env.kO h5 3 rfl).any
  have H11 := Lib.hid h5.base
  clear hn h5 H10 c1 c2
  go_wp2
  go_ret
  exact ⟨rfl, H11.out⟩
theorem cntD_zero (a b : List Int) : ∀ k, cntD a b k = 0 ↔ ∀ j, j < k → a[j]? = b[j]?
  | 0 => by simp [cntD]
  | k + 1 => by
    rw [cntD]
    constructor
    · intro h j hj
      have h1 : cntD a b k = 0 := by omega
      by_cases e : j = k
      · subst e
        by_cases c : a[j]? = b[j]?
        · exact c
        · rw [if_neg c] at h; omega
      · exact (cntD_zero a b k).1 h1 j (by omega)
    · intro h
      rw [(cntD_zero a b k).2 (fun j hj => h j (by omega)), if_pos (h k (by omega))]
theorem distN_zero (a b : List Int) : distN a b = 0 ↔ a = b := by
  unfold distN
  rw [cntD_zero]
  constructor
  · intro h
    apply List.ext_getElem?
    intro j
    by_cases hj : j < max a.length b.length
    · exact h j hj
    · rw [List.getElem?_eq_none (by omega), List.getElem?_eq_none (by omega)]
  · rintro rfl _ _; rfl
theorem distN_comm (a b : List Int) : distN a b = distN b a := by
  unfold distN
  rw [Nat.max_comm, cntD_comm]
theorem cntD_far (a b : List Int) (N : Nat) (h : max a.length b.length ≤ N) : cntD a b N = distN a b := by
  obtain ⟨d, rfl⟩ : ∃ d, N = max a.length b.length + d := ⟨N - max a.length b.length, by omega⟩
  clear h
  induction d with
  | zero => rfl
  | succ d ih =>
    rw [← Nat.add_assoc, cntD, ih, if_pos (by rw [List.getElem?_eq_none (by omega), List.getElem?_eq_none (by omega)])]
    omega
theorem cntD_tri (a b c : List Int) : ∀ k, cntD a c k ≤ cntD a b k + cntD b c k
  | 0 => by simp [cntD]
  | k + 1 => by
    have ih := cntD_tri a b c k
    simp only [cntD]
    by_cases h1 : a[k]? = b[k]?
    · by_cases h2 : b[k]? = c[k]?
      · rw [if_pos h1, if_pos h2, if_pos (h1.trans h2)]; omega
      · rw [if_pos h1, if_neg h2, if_neg (fun h => h2 (h1 ▸ h))]; omega
    · rw [if_neg h1]
      split <;> split <;> omega
theorem distN_tri (a b c : List Int) : distN a c ≤ distN a b + distN b c := by
  have h := cntD_tri a b c (max (max a.length b.length) c.length)
  rw [cntD_far a c _ (by omega), cntD_far a b _ (by omega), cntD_far b c _ (by omega)] at h
  exact h
theorem far_same (a b : List Int) : ((distN a b : Int) == 0) = sameL eqI a b := by
  rw [Bool.eq_iff_iff, sameL_iff eqI (eqI_iff) a b, ← distN_zero a b]
  simp
set_option maxHeartbeats 4000000 in
theorem traceFar.walk {w : World} (va : Value) (a : List Int) (ha : InI w va a) (vb : Value) (b : List Int) (hb : InI w vb b) (vc : Value) (c : List Int) (hc : InI w vc c) :
    Calls Try.prog 5 #[va, vb, vc] w fun e w' => e = .returned (.bool true) ∧ Below w.heap.size w w' := by
  have la := ha.2
  have lb := hb.2
  have lc := hc.2
  have HA := Lib.hid ha.1
  have HB := Lib.hid hb.1
  have HC := Lib.hid hc.1
  obtain ⟨ao, acap, rfl, _, _, _⟩ := ha.1.any
  obtain ⟨bo, bcap, rfl, _, _, _⟩ := hb.1.any
  obtain ⟨co, ccap, rfl, _, _, _⟩ := hc.1.any
  clear ha hb hc
  obtain ⟨x, hx⟩ : ∃ x, distN a b = x := ⟨_, rfl⟩
  obtain ⟨y, hy⟩ : ∃ y, distN b c = y := ⟨_, rfl⟩
  obtain ⟨z, hz⟩ : ∃ z, distN a c = z := ⟨_, rfl⟩
  have hm := distN_le a b
  have hm2 := distN_le b c
  have htri := distN_tri a b c
  have hsm := far_same a b
  have hcm := distN_comm a b
  rw [hx] at hm htri hsm hcm
  rw [hy] at hm2 htri
  rw [hz] at htri
  obtain ⟨s, hs⟩ : ∃ s, sameL eqI a b = s := ⟨_, rfl⟩
  rw [hs] at hsm
  have HX := Lib.hid hx
  have HY := Lib.hid hy
  have HZ := Lib.hid hz
  have HS := Lib.hid hs
  have HCM := Lib.hid hcm.symm
  have HSM := Lib.hid hsm
  clear hx hy hz hs hcm hsm
  have hx0 : x ≤ 17592186043904 := by omega
  have hy0 : y ≤ 17592186043904 := by omega
  go_enter Try.func5, Try.ntmps5
  go_wp2_with fail
  refine (dist_any _ _ a b _ HA.out HB.out (by omega) (by omega)).mono ?_
  rintro e w' ⟨he, rfl⟩
  rw [HX.out] at he
  subst he
  go_wp2_with fail
  refine (dist_any _ _ b c _ HB.out HC.out (by omega) (by omega)).mono ?_
  rintro e w' ⟨he, rfl⟩
  rw [HY.out] at he
  subst he
  go_wp2_with fail
  refine (dist_any _ _ a c _ HA.out HC.out (by omega) (by omega)).mono ?_
  rintro e w' ⟨he, rfl⟩
  rw [HZ.out] at he
  subst he
  go_wp2_with fail
  refine (awake27_any w).mono ?_
  rintro e w1 ⟨rfl, hb⟩
  have h5 := (Env.start w).below hb
  clear hb
  have H1 := Lib.hid h5
  clear h5
  go_wp2_with fail
  refine (sameI_any _ _ a b w1 (H1.out.oldK HA.out) (H1.out.oldK HB.out)).mono ?_
  rintro e w2 ⟨he, m, hw⟩
  rw [HS.out] at he
  subst he
  have h5 := H1.out.draw m
  rw [← hw] at h5
  clear hw
  have H2 := Lib.hid h5
  clear h5 H1
  have hsm := HSM.out
  have hss : (s == s) = true := by cases s <;> rfl
  have ht2 : decide (z ≤ x + y) = true := by simpa using htri
  go_wp2_with fail
  refine (dist_any _ _ b a _ (H2.out.oldK HB.out) (H2.out.oldK HA.out) (by omega) (by omega)).mono ?_
  rintro e w' ⟨he, rfl⟩
  rw [HCM.out] at he
  subst he
  have hxx : ((x : Int) == (x : Int)) = true := by simp
  have H3 := Lib.hid H2.out.base
  clear H2 hm2
  rcases Nat.le_total a.length b.length with hab | hab
  · have hm3 : x ≤ b.length := by omega
    have hm4 : decide (x ≤ b.length) = true := by simpa using hm3
    have HM4 := Lib.hid hm4
    have HMa : Hid (∀ h : b.length ≤ a.length, decide (x ≤ a.length) = true) := Lib.hid (fun h => by simp; omega)
    clear hm
    go_wp2
    all_goals
      go_ret
      first | exact ⟨rfl, H3.out⟩ | exact ⟨(by show Ending.returned (.bool (decide (x ≤ b.length))) = _; rw [HM4.out]), H3.out⟩ | exact ⟨(by show Ending.returned (.bool (decide (x ≤ a.length))) = _; rw [HMa.out (by omega)]), H3.out⟩
  · have hm3 : x ≤ a.length := by omega
    have hm4 : decide (x ≤ a.length) = true := by simpa using hm3
    have HM4 := Lib.hid hm4
    clear hm
    go_wp2
    all_goals
      go_ret
      first | exact ⟨rfl, H3.out⟩ | exact ⟨(by show Ending.returned (.bool (decide (x ≤ a.length))) = _; rw [HM4.out]), H3.out⟩
end Go.Proofs.Ytfielodchoghlaa
