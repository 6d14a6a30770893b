/- The walk of TraceNames (printed by wip/mktrnames.py). -/
import Derived.Test.YtfielodchoghlaaRows
import Derived.Test.YtfielodchoghlaaSizes
import Derived.Test.YtfielodchoghlaaFar
namespace Go.Proofs.Ytfielodchoghlaa
open Go.RowKit
set_option maxRecDepth 100000
set_option linter.unusedVariables false
set_option linter.unusedSimpArgs false
def wL : List Rn := [⟨8, 1024, 1⟩, ⟨8, 312, 2⟩, ⟨8, 1024, 1⟩]
theorem okW : ∀ r ∈ wL, okRn r := by
  intro r hr
  simp [wL] at hr
  rcases hr with rfl | rfl | rfl <;> (unfold okRn; decide)
theorem histW : IsHist wL [⟨8, 312, 2⟩, ⟨8, 1024, 2⟩] := by
  refine ⟨by simp [ltR], fun x => ?_⟩
  obtain ⟨k, s, c⟩ := x
  constructor
  · intro h
    simp at h
    rcases h with ⟨rfl, rfl, rfl⟩ | ⟨rfl, rfl, rfl⟩
    · exact ⟨⟨⟨8, 312, 2⟩, by simp [wL], rfl⟩, by decide⟩
    · exact ⟨⟨⟨8, 1024, 1⟩, by simp [wL], rfl⟩, by decide⟩
  · rintro ⟨⟨r, hr, he⟩, hc⟩
    simp [wL] at hr
    rw [← he] at hc
    rcases hr with rfl | rfl | rfl <;> (simp [Rn.ev] at he; simp [cntE, wL, Rn.ev] at hc; obtain ⟨h1, h2⟩ := he; subst h1; subst h2; simp [hc])
set_option maxHeartbeats 8000000 in
theorem traceNames.walk (w : World) : Calls Try.prog 6 #[] w fun e w' => e = .returned (.bool true) ∧ Below w.heap.size w w' := by
  go_enter Try.func6, Try.ntmps6
  go_wp2_with fail
  refine (example_any _).mono ?_
  rintro e w1 hn
  obtain ⟨xe, rfl, h5⟩ := Knd.New.env (Env.start w) hn
  clear hn
  have H1 := Lib.hid h5
  clear h5
  go_wp2_with fail
  refine (series_any _ exampleL 1 _ (H1.out.kR 0 rfl)).mono ?_
  rintro e w2 hn
  rw [show seriesL exampleL 1 = [3, 0, 1] from by decide] at hn
  obtain ⟨xs, rfl, h5⟩ := Knd.New.env H1.out hn
  clear hn
  have H2 := Lib.hid h5
  clear h5 H1
  have H3 : Hid (Env w (w2.alloc (.cells #[.int .i64 3, .int .i64 0, .int .i64 1] 3)) [KN.ob xe exampleL, KI.ob xs [3, 0, 1], KI.ob (.slice (some ⟨w2.heap.size, 0, none⟩) 3 3) [3, 0, 1]]) := by
    obtain ⟨v, hv, h5⟩ := Knd.New.env H2.out (Knd.New.lit KI [3, 0, 1] _ (by decide))
    injection hv with hv
    subst hv
    exact Lib.hid h5
  clear H2
  go_wp2_with fail
  refine (sameI_any _ _ [3, 0, 1] [3, 0, 1] _ (H3.out.kR 1 rfl) (H3.out.kR 2 rfl)).mono ?_
  rintro e w4 ⟨he, m, hw⟩
  rw [sameL_refl eqI (fun x => by simp [eqI])] at he
  subst he
  have h5 := H3.out.draw m
  rw [← hw] at h5
  clear hw
  have H4 := Lib.hid h5
  clear h5 H3
  have H5 : Hid (Env w w4 []) := Lib.hid (Env.pick H4.out (fun j => j) (fun i j hi => by simp at hi) (fun j ob hj => by simp at hj))
  clear H4
  go_wp2_with fail
  refine (example_any _).mono ?_
  rintro e w6 hn
  obtain ⟨xe2, rfl, h5⟩ := Knd.New.env H5.out hn
  clear hn
  have H6 := Lib.hid h5
  clear h5 H5
  go_wp2_with fail
  refine (series_any _ exampleL 11 _ (H6.out.kR 0 rfl)).mono ?_
  rintro e w7 hn
  rw [show seriesL exampleL 11 = [0, 0, 0] from by decide] at hn
  obtain ⟨xs2, rfl, h5⟩ := Knd.New.env H6.out hn
  clear hn
  have H7 := Lib.hid h5
  clear h5 H6
  have H8 : Hid (Env w (w7.alloc (.cells #[.int .i64 0, .int .i64 0, .int .i64 0] 3)) [KN.ob xe2 exampleL, KI.ob xs2 [0, 0, 0], KI.ob (.slice (some ⟨w7.heap.size, 0, none⟩) 3 3) [0, 0, 0]]) := by
    obtain ⟨v, hv, h5⟩ := Knd.New.env H7.out (Knd.New.lit KI [0, 0, 0] _ (by decide))
    injection hv with hv
    subst hv
    exact Lib.hid h5
  clear H7
  go_wp2_with fail
  refine (sameI_any _ _ [0, 0, 0] [0, 0, 0] _ (H8.out.kR 1 rfl) (H8.out.kR 2 rfl)).mono ?_
  rintro e w9 ⟨he, m, hw⟩
  rw [sameL_refl eqI (fun x => by simp [eqI])] at he
  subst he
  have h5 := H8.out.draw m
  rw [← hw] at h5
  clear hw
  have H9 := Lib.hid h5
  clear h5 H8
  have H10 : Hid (Env w w9 []) := Lib.hid (Env.pick H9.out (fun j => j) (fun i j hi => by simp at hi) (fun j ob hj => by simp at hj))
  clear H9
  go_wp2_with fail
  refine (run_any _ _ _ _).mono ?_
  rintro e w11 ⟨rfl, hb⟩
  have h5 := H10.out.below hb
  clear hb
  have H11 := Lib.hid h5
  clear h5 H10
  go_wp2_with fail
  refine (run_any _ _ _ _).mono ?_
  rintro e w12 ⟨rfl, hb⟩
  have h5 := H11.out.below hb
  clear hb
  have H12 := Lib.hid h5
  clear h5 H11
  go_wp2_with fail
  refine (run_any _ _ _ _).mono ?_
  rintro e w13 ⟨rfl, hb⟩
  have h5 := H12.out.below hb
  clear hb
  have H13 := Lib.hid h5
  clear h5 H12
  have H14 : Hid (Env w (w13.alloc (.cells #[.int .u8 8, .int .i64 1024, .int .i64 1, .int .u8 8, .int .i64 312, .int .i64 2, .int .u8 8, .int .i64 1024, .int .i64 1] 51)) [KN.ob (.slice (some ⟨w13.heap.size, 0, none⟩) 3 3) [⟨8, 1024, 1⟩, ⟨8, 312, 2⟩, ⟨8, 1024, 1⟩]]) := by
    obtain ⟨v, hv, h5⟩ := Knd.New.env H13.out (Knd.New.lit KN [⟨8, 1024, 1⟩, ⟨8, 312, 2⟩, ⟨8, 1024, 1⟩] _ (by decide))
    injection hv with hv
    subst hv
    exact Lib.hid h5
  clear H13
  go_wp2_with fail
  refine (sizes_any _ wL 8 _ (H14.out.kR 0 rfl) (by decide) okW).mono ?_
  rintro e w15 ⟨hh, hi, hn⟩
  obtain rfl := hi.unique histW
  rw [show sizesL [⟨8, 312, 2⟩, ⟨8, 1024, 2⟩] 8 = [312, 1024] from by decide] at hn
  obtain ⟨zs, rfl, h5⟩ := Knd.New.env H14.out hn
  clear hn hi
  have H15 := Lib.hid h5
  clear h5 H14
  have H16 : Hid (Env w (w15.alloc (.cells #[.int .i64 312, .int .i64 1024] 3)) [KN.ob (.slice (some ⟨w13.heap.size, 0, none⟩) 3 3) [⟨8, 1024, 1⟩, ⟨8, 312, 2⟩, ⟨8, 1024, 1⟩], KI.ob zs [312, 1024], KI.ob (.slice (some ⟨w15.heap.size, 0, none⟩) 2 2) [312, 1024]]) := by
    obtain ⟨v, hv, h5⟩ := Knd.New.env H15.out (Knd.New.lit KI [312, 1024] _ (by decide))
    injection hv with hv
    subst hv
    exact Lib.hid h5
  clear H15
  go_wp2_with fail
  refine (sameI_any _ _ [312, 1024] [312, 1024] _ (H16.out.kR 1 rfl) (H16.out.kR 2 rfl)).mono ?_
  rintro e w17 ⟨he, m, hw⟩
  rw [sameL_refl eqI (fun x => by simp [eqI])] at he
  subst he
  have h5 := H16.out.draw m
  rw [← hw] at h5
  clear hw
  have H17 := Lib.hid h5
  clear h5 H16
  go_wp2_with fail
  refine (hist_any _ wL _ (H17.out.kR 0 rfl) (by decide) okW).mono ?_
  rintro e w18 ⟨hh, hi, hn⟩
  obtain rfl := hi.unique histW
  obtain ⟨hs, rfl, h5⟩ := Knd.New.env H17.out hn
  clear hn hi
  have H18 := Lib.hid h5
  clear h5 H17
  go_wp2_with fail
  refine (run_any _ _ _ _).mono ?_
  rintro e w19 ⟨rfl, hb⟩
  have h5 := H18.out.below hb
  clear hb
  have H19 := Lib.hid h5
  clear h5 H18
  go_wp2_with fail
  refine (run_any _ _ _ _).mono ?_
  rintro e w20 ⟨rfl, hb⟩
  have h5 := H19.out.below hb
  clear hb
  have H20 := Lib.hid h5
  clear h5 H19
  have H21 : Hid (Env w (w20.alloc (.cells #[.int .u8 8, .int .i64 312, .int .i64 2, .int .u8 8, .int .i64 1024, .int .i64 2] 51)) [KN.ob (.slice (some ⟨w13.heap.size, 0, none⟩) 3 3) [⟨8, 1024, 1⟩, ⟨8, 312, 2⟩, ⟨8, 1024, 1⟩], KI.ob zs [312, 1024], KI.ob (.slice (some ⟨w15.heap.size, 0, none⟩) 2 2) [312, 1024], KN.ob hs [⟨8, 312, 2⟩, ⟨8, 1024, 2⟩], KN.ob (.slice (some ⟨w20.heap.size, 0, none⟩) 2 2) [⟨8, 312, 2⟩, ⟨8, 1024, 2⟩]]) := by
    obtain ⟨v, hv, h5⟩ := Knd.New.env H20.out (Knd.New.lit KN [⟨8, 312, 2⟩, ⟨8, 1024, 2⟩] _ (by decide))
    injection hv with hv
    subst hv
    exact Lib.hid h5
  clear H20
  go_wp2_with fail
  refine (sameN_any _ _ [⟨8, 312, 2⟩, ⟨8, 1024, 2⟩] [⟨8, 312, 2⟩, ⟨8, 1024, 2⟩] _ (H21.out.kR 3 rfl) (H21.out.kR 4 rfl)).mono ?_
  rintro e w22 ⟨he, m, hw⟩
  rw [sameL_refl eqN (fun x => by simp [eqN])] at he
  subst he
  have h5 := H21.out.draw m
  rw [← hw] at h5
  clear hw
  have H22 := Lib.hid h5
  clear h5 H21
  have H23 : Hid (Env w w22 []) := Lib.hid (Env.pick H22.out (fun j => j) (fun i j hi => by simp at hi) (fun j ob hj => by simp at hj))
  clear H22
  go_wp2_with fail
  refine (run_any _ _ _ _).mono ?_
  rintro e w24 ⟨rfl, hb⟩
  have h5 := H23.out.below hb
  clear hb
  have H24 := Lib.hid h5
  clear h5 H23
  go_wp2_with fail
  refine (run_any _ _ _ _).mono ?_
  rintro e w25 ⟨rfl, hb⟩
  have h5 := H24.out.below hb
  clear hb
  have H25 := Lib.hid h5
  clear h5 H24
  have H26 : Hid (Env w (w25.alloc (.cells #[.int .u8 1, .int .i64 64, .int .i64 2, .int .u8 8, .int .i64 3, .int .i64 1] 51)) [KN.ob (.slice (some ⟨w25.heap.size, 0, none⟩) 2 2) [⟨1, 64, 2⟩, ⟨8, 3, 1⟩]]) := by
    obtain ⟨v, hv, h5⟩ := Knd.New.env H25.out (Knd.New.lit KN [⟨1, 64, 2⟩, ⟨8, 3, 1⟩] _ (by decide))
    injection hv with hv
    subst hv
    exact Lib.hid h5
  clear H25
  go_upto_region 7 with fail
  have H27 : Hid (Env w ((w25.alloc (.cells #[.int .u8 1, .int .i64 64, .int .i64 2, .int .u8 8, .int .i64 3, .int .i64 1] 51)).alloc (.cells #[.int .u8 1, .int .i64 64] 49)) [KN.ob (.slice (some ⟨w25.heap.size, 0, none⟩) 2 2) [⟨1, 64, 2⟩, ⟨8, 3, 1⟩], obK (w25.heap.size + 1) 49 #[.int .u8 1, .int .i64 64]]) := by
    have h5 := H26.out.newK 49 #[.int .u8 1, .int .i64 64]
    rw [show (w25.alloc (.cells #[.int .u8 1, .int .i64 64, .int .i64 2, .int .u8 8, .int .i64 3, .int .i64 1] 51)).heap.size = w25.heap.size + 1 from by simp] at h5
    exact Lib.hid h5
  clear H26
  go_wp2_with fail
  refine (flat_any _ [⟨1, 64, 2⟩, ⟨8, 3, 1⟩] 3 _ (H27.out.kR 0 rfl)).mono ?_
  rintro e w28 ⟨v2, he, hn⟩
  rw [show flatC [⟨1, 64, 2⟩, ⟨8, 3, 1⟩] 3 = 0 from by decide] at he
  rw [show flatV [⟨1, 64, 2⟩, ⟨8, 3, 1⟩] 3 = [⟨1, 64⟩, ⟨1, 64⟩, ⟨8, 3⟩] from by decide] at hn
  subst he
  obtain ⟨z, hx, h5⟩ := Knd.New.env H27.out hn
  injection hx with hx
  subst hx
  clear hn
  have H28 := Lib.hid h5
  clear h5 H27
  go_wp2_with fail
  refine (flat_any _ [⟨1, 64, 2⟩, ⟨8, 3, 1⟩] 2 _ (H28.out.kR 0 rfl)).mono ?_
  rintro e w29 ⟨v3, he, hn⟩
  rw [show flatC [⟨1, 64, 2⟩, ⟨8, 3, 1⟩] 2 = 9 from by decide] at he
  rw [show flatV [⟨1, 64, 2⟩, ⟨8, 3, 1⟩] 2 = [] from by decide] at hn
  subst he
  obtain ⟨z, hx, h5⟩ := Knd.New.env H28.out hn
  injection hx with hx
  subst hx
  clear hn
  have H29 := Lib.hid h5
  clear h5 H28
  go_wp2_with fail
  refine (flat_any _ [⟨1, 64, 2⟩, ⟨8, 3, 1⟩] (-1) _ (H29.out.kR 0 rfl)).mono ?_
  rintro e w30 ⟨v4, he, hn⟩
  rw [show flatC [⟨1, 64, 2⟩, ⟨8, 3, 1⟩] (-1) = 2 from by decide] at he
  rw [show flatV [⟨1, 64, 2⟩, ⟨8, 3, 1⟩] (-1) = [] from by decide] at hn
  subst he
  obtain ⟨z, hx, h5⟩ := Knd.New.env H29.out hn
  injection hx with hx
  subst hx
  clear hn
  have H30 := Lib.hid h5
  clear h5 H29
  have hb0 := H30.out.blk 1 rfl
  have b0 := hb0.cellAt 0 rfl
  have b1 := hb0.cellAt 1 rfl
  clear hb0
  have H31 : Hid (Env w (w30.alloc (.cells #[.int .u8 1, .int .i64 64, .int .u8 1, .int .i64 64, .int .u8 8, .int .i64 3] 49)) [KN.ob (.slice (some ⟨w25.heap.size, 0, none⟩) 2 2) [⟨1, 64, 2⟩, ⟨8, 3, 1⟩], obK (w25.heap.size + 1) 49 #[.int .u8 1, .int .i64 64], KE.ob v2 [⟨1, 64⟩, ⟨1, 64⟩, ⟨8, 3⟩], KE.ob v3 [], KE.ob v4 [], KE.ob (.slice (some ⟨w30.heap.size, 0, none⟩) 3 3) [⟨1, 64⟩, ⟨1, 64⟩, ⟨8, 3⟩]]) := by
    obtain ⟨v, hv, h5⟩ := Knd.New.env H30.out (Knd.New.lit KE [⟨1, 64⟩, ⟨1, 64⟩, ⟨8, 3⟩] _ (by decide))
    injection hv with hv
    subst hv
    exact Lib.hid h5
  clear H30
  go_wp2_with fail
  refine (sameE_any _ _ [⟨1, 64⟩, ⟨1, 64⟩, ⟨8, 3⟩] [⟨1, 64⟩, ⟨1, 64⟩, ⟨8, 3⟩] _ (H31.out.kR 2 rfl) (H31.out.kR 5 rfl)).mono ?_
  rintro e w32 ⟨he, m, hw⟩
  rw [sameL_refl eqE (fun x => by simp [eqE])] at he
  subst he
  have h5 := H31.out.draw m
  rw [← hw] at h5
  clear hw
  have H32 := Lib.hid h5
  clear h5 H31
  clear b0 b1
  have H33 : Hid (Env w w32 []) := Lib.hid (Env.pick H32.out (fun j => j) (fun i j hi => by simp at hi) (fun j ob hj => by simp at hj))
  clear H32
  go_wp2_with fail
  refine (run_any _ _ _ _).mono ?_
  rintro e w34 ⟨rfl, hb⟩
  have h5 := H33.out.below hb
  clear hb
  have H34 := Lib.hid h5
  clear h5 H33
  have H35 : Hid (Env w (w34.alloc (.cells #[.int .u8 1, .int .i64 64, .int .i64 0] 51)) [KN.ob (.slice (some ⟨w34.heap.size, 0, none⟩) 1 1) [⟨1, 64, 0⟩]]) := by
    obtain ⟨v, hv, h5⟩ := Knd.New.env H34.out (Knd.New.lit KN [⟨1, 64, 0⟩] _ (by decide))
    injection hv with hv
    subst hv
    exact Lib.hid h5
  clear H34
  go_wp2_with fail
  refine (may_any _ [⟨1, 64, 0⟩] _ (H35.out.kR 0 rfl)).mono ?_
  rintro e w36 ⟨he, hb⟩
  rw [show mayL [⟨1, 64, 0⟩] = false from by decide] at he
  subst he
  have h5 := H35.out.below hb
  clear hb
  have H36 := Lib.hid h5
  clear h5 H35
  have H37 : Hid (Env w w36 []) := Lib.hid (Env.pick H36.out (fun j => j) (fun i j hi => by simp at hi) (fun j ob hj => by simp at hj))
  clear H36
  go_wp2_with fail
  refine (run_any _ _ _ _).mono ?_
  rintro e w38 ⟨rfl, hb⟩
  have h5 := H37.out.below hb
  clear hb
  have H38 := Lib.hid h5
  clear h5 H37
  have H39 : Hid (Env w (w38.alloc (.cells #[.int .u8 1, .int .i64 64, .int .i64 4294967296] 51)) [KN.ob (.slice (some ⟨w38.heap.size, 0, none⟩) 1 1) [⟨1, 64, 4294967296⟩]]) := by
    obtain ⟨v, hv, h5⟩ := Knd.New.env H38.out (Knd.New.lit KN [⟨1, 64, 4294967296⟩] _ (by decide))
    injection hv with hv
    subst hv
    exact Lib.hid h5
  clear H38
  go_wp2_with fail
  refine (may_any _ [⟨1, 64, 4294967296⟩] _ (H39.out.kR 0 rfl)).mono ?_
  rintro e w40 ⟨he, hb⟩
  rw [show mayL [⟨1, 64, 4294967296⟩] = true from by decide] at he
  subst he
  have h5 := H39.out.below hb
  clear hb
  have H40 := Lib.hid h5
  clear h5 H39
  have H41 : Hid (Env w w40 []) := Lib.hid (Env.pick H40.out (fun j => j) (fun i j hi => by simp at hi) (fun j ob hj => by simp at hj))
  clear H40
  go_wp2_with fail
  refine (run_any _ _ _ _).mono ?_
  rintro e w42 ⟨rfl, hb⟩
  have h5 := H41.out.below hb
  clear hb
  have H42 := Lib.hid h5
  clear h5 H41
  have H43 : Hid (Env w (w42.alloc (.cells #[.int .u8 1, .int .i64 64, .int .i64 4294967297] 51)) [KN.ob (.slice (some ⟨w42.heap.size, 0, none⟩) 1 1) [⟨1, 64, 4294967297⟩]]) := by
    obtain ⟨v, hv, h5⟩ := Knd.New.env H42.out (Knd.New.lit KN [⟨1, 64, 4294967297⟩] _ (by decide))
    injection hv with hv
    subst hv
    exact Lib.hid h5
  clear H42
  go_wp2_with fail
  refine (may_any _ [⟨1, 64, 4294967297⟩] _ (H43.out.kR 0 rfl)).mono ?_
  rintro e w44 ⟨he, hb⟩
  rw [show mayL [⟨1, 64, 4294967297⟩] = false from by decide] at he
  subst he
  have h5 := H43.out.below hb
  clear hb
  have H44 := Lib.hid h5
  clear h5 H43
  have H45 : Hid (Env w w44 []) := Lib.hid (Env.pick H44.out (fun j => j) (fun i j hi => by simp at hi) (fun j ob hj => by simp at hj))
  clear H44
  go_wp2_with fail
  refine (run_any _ _ _ _).mono ?_
  rintro e w46 ⟨rfl, hb⟩
  have h5 := H45.out.below hb
  clear hb
  have H46 := Lib.hid h5
  clear h5 H45
  go_wp2_with fail
  refine (run_any _ _ _ _).mono ?_
  rintro e w47 ⟨rfl, hb⟩
  have h5 := H46.out.below hb
  clear hb
  have H47 := Lib.hid h5
  clear h5 H46
  have H48 : Hid (Env w (w47.alloc (.cells #[.int .u8 11, .int .i64 1, .int .i64 1048576, .int .u8 11, .int .i64 2, .int .i64 1] 51)) [KN.ob (.slice (some ⟨w47.heap.size, 0, none⟩) 2 2) [⟨11, 1, 1048576⟩, ⟨11, 2, 1⟩]]) := by
    obtain ⟨v, hv, h5⟩ := Knd.New.env H47.out (Knd.New.lit KN [⟨11, 1, 1048576⟩, ⟨11, 2, 1⟩] _ (by decide))
    injection hv with hv
    subst hv
    exact Lib.hid h5
  clear H47
  go_wp2_with fail
  refine (may_any _ [⟨11, 1, 1048576⟩, ⟨11, 2, 1⟩] _ (H48.out.kR 0 rfl)).mono ?_
  rintro e w49 ⟨he, hb⟩
  rw [show mayL [⟨11, 1, 1048576⟩, ⟨11, 2, 1⟩] = false from by decide] at he
  subst he
  have h5 := H48.out.below hb
  clear hb
  have H49 := Lib.hid h5
  clear h5 H48
  have H50 : Hid (Env w w49 []) := Lib.hid (Env.pick H49.out (fun j => j) (fun i j hi => by simp at hi) (fun j ob hj => by simp at hj))
  clear H49
  go_wp2_with fail
  refine (run_any _ _ _ _).mono ?_
  rintro e w51 ⟨rfl, hb⟩
  have h5 := H50.out.below hb
  clear hb
  have H51 := Lib.hid h5
  clear h5 H50
  have H52 : Hid (Env w (w51.alloc (.cells #[.int .u8 11, .int .i64 1, .int .i64 1048576] 51)) [KN.ob (.slice (some ⟨w51.heap.size, 0, none⟩) 1 1) [⟨11, 1, 1048576⟩]]) := by
    obtain ⟨v, hv, h5⟩ := Knd.New.env H51.out (Knd.New.lit KN [⟨11, 1, 1048576⟩] _ (by decide))
    injection hv with hv
    subst hv
    exact Lib.hid h5
  clear H51
  go_wp2_with fail
  refine (may_any _ [⟨11, 1, 1048576⟩] _ (H52.out.kR 0 rfl)).mono ?_
  rintro e w53 ⟨he, hb⟩
  rw [show mayL [⟨11, 1, 1048576⟩] = true from by decide] at he
  subst he
  have h5 := H52.out.below hb
  clear hb
  have H53 := Lib.hid h5
  clear h5 H52
  have H54 : Hid (Env w w53 []) := Lib.hid (Env.pick H53.out (fun j => j) (fun i j hi => by simp at hi) (fun j ob hj => by simp at hj))
  clear H53
  go_wp2_with fail
  refine (may_any (.slice none 0 0) [] _ (Knd.O.nil _).rd).mono ?_
  rintro e w55 ⟨he, hb⟩
  rw [show mayL [] = true from by decide] at he
  subst he
  have h5 := H54.out.below hb
  clear hb
  have H55 := Lib.hid h5
  clear h5 H54
  have H56 : Hid (Env w (w55.alloc (.cells #[.int .i64 1, .int .i64 2, .int .i64 3] 3)) [KI.ob (.slice (some ⟨w55.heap.size, 0, none⟩) 3 3) [1, 2, 3]]) := by
    obtain ⟨v, hv, h5⟩ := Knd.New.env H55.out (Knd.New.lit KI [1, 2, 3] _ (by decide))
    injection hv with hv
    subst hv
    exact Lib.hid h5
  clear H55
  have H57 : Hid (Env w ((w55.alloc (.cells #[.int .i64 1, .int .i64 2, .int .i64 3] 3)).alloc (.cells #[.int .i64 1, .int .i64 5] 3)) [KI.ob (.slice (some ⟨w55.heap.size, 0, none⟩) 3 3) [1, 2, 3], KI.ob (.slice (some ⟨w55.heap.size + 1, 0, none⟩) 2 2) [1, 5]]) := by
    obtain ⟨v, hv, h5⟩ := Knd.New.env H56.out (Knd.New.lit KI [1, 5] _ (by decide))
    injection hv with hv
    subst hv
    rw [show (w55.alloc (.cells #[.int .i64 1, .int .i64 2, .int .i64 3] 3)).heap.size = w55.heap.size + 1 from by simp] at h5
    exact Lib.hid h5
  clear H56
  go_wp2_with fail
  refine (dist_any _ _ [1, 2, 3] [1, 5] _ (H57.out.kR 0 rfl) (H57.out.kR 1 rfl) (by decide) (by decide)).mono ?_
  rintro e w' ⟨he, rfl⟩
  rw [show distN [1, 2, 3] [1, 5] = 2 from by decide] at he
  subst he
  go_wp2_with fail
  refine (dist_any (.slice none 0 0) (.slice none 0 0) [] [] _ (Knd.O.nil _).rd (Knd.O.nil _).rd (by decide) (by decide)).mono ?_
  rintro e w' ⟨he, rfl⟩
  rw [show distN [] [] = 0 from by decide] at he
  subst he
  go_wp2_with fail
  refine (awake27_any _).mono ?_
  rintro e w9 ⟨rfl, hb⟩
  have HX := Lib.hid (H57.out.below hb).base
  clear hb H57
  go_wp2
  go_ret
  exact ⟨rfl, HX.out⟩
end Go.Proofs.Ytfielodchoghlaa
