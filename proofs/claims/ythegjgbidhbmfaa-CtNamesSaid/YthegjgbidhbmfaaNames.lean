/- The walk of CtNames: a closed statement. -/
import Derived.Test.YthegjgbidhbmfaaRows
import Derived.Test.YthegjgbidhbmfaaReset
namespace Go.Proofs.Ythegjgbidhbmfaa
open Go.RowKit
set_option maxRecDepth 100000
set_option linter.unusedVariables false

theorem Src.nil {w0 w : World} {obs : List Ob} (i : Nat) : Src w0 w obs i (.slice none 0 0) [] := ⟨Bs.nil w, fun h => absurd rfl h⟩
set_option maxHeartbeats 8000000 in
theorem ctNames.walk (w : World) : Calls Try.prog 8 #[] w fun e w' => e = .returned (.bool true) ∧ Below w.heap.size w w' := by
  go_enter Try.func8, Try.ntmps8
  go_wp2_with fail
  refine (newP_env (Env.start w)).mono ?_
  rintro e w1 ⟨p, rfl, h1'⟩
  have H1 := Lib.hid h1'
  clear h1'
  go_wp2_with fail
  have H2 := Lib.hid ((H1.out.lit w1.heap.size rfl [1, 2] (by decide)).lit (w1.heap.size + 1) (by simp) [1, 2] (by decide))
  clear H1
  refine (equal_env H2.out 0 rfl (Room.some (by decide) (by decide)) (Src.whole H2.out 0 1 (by decide) rfl) (Src.whole H2.out 0 2 (by decide) rfl)).mono ?_
  rintro e w2 ⟨he, h5⟩
  have he' : e = .returned (.bool true) := he
  subst he'
  have H3 : Hid (Env w w2 [obP p (some [⟨6, 2, 1⟩]), obB (.slice (some ⟨w1.heap.size, 0, none⟩) 2 2) [1, 2]]) := Lib.hid (Env.drop (obs := [_, _]) h5)
  clear h5 he H2
  obtain ⟨g, hg⟩ : ∃ g, g = w1.heap.size := ⟨_, rfl⟩
  rw [← hg] at H3
  rw [← hg]
  clear hg
  go_wp2_with fail
  have H4 := Lib.hid (H3.out.lit w2.heap.size rfl [1, 3] (by decide))
  clear H3
  refine (equal_env H4.out 0 rfl (Room.some (by decide) (by decide)) (Src.whole H4.out 0 1 (by decide) rfl) (Src.whole H4.out 0 2 (by decide) rfl)).mono ?_
  rintro e w3 ⟨he, h5⟩
  have he' : e = .returned (.bool false) := he
  subst he'
  have H5 : Hid (Env w w3 [obP p (some [⟨6, 2, 2⟩]), obB (.slice (some ⟨g, 0, none⟩) 2 2) [1, 2]]) := Lib.hid (Env.drop (obs := [_, _]) h5)
  clear h5 he H4
  go_wp2_with fail
  refine (equal_env H5.out 0 rfl (Room.some (by decide) (by decide)) (Src.part H5.out 0 1 (by decide) rfl 0 1 (by decide)) (Src.whole H5.out 0 1 (by decide) rfl)).mono ?_
  rintro e w4 ⟨he, h5⟩
  have he' : e = .returned (.bool false) := he
  subst he'
  have H6 : Hid (Env w w4 [obP p (some [⟨6, 2, 2⟩]), obB (.slice (some ⟨g, 0, none⟩) 2 2) [1, 2]]) := Lib.hid h5
  clear h5 he H5
  go_wp2_with fail
  have H7 := Lib.hid (H6.out.lit w4.heap.size rfl [] (by decide))
  clear H6
  refine (equal_env H7.out 0 rfl (Room.some (by decide) (by decide)) (Src.nil 0) (Src.whole H7.out 0 2 (by decide) rfl)).mono ?_
  rintro e w5 ⟨he, h5⟩
  have he' : e = .returned (.bool true) := he
  subst he'
  have H8 : Hid (Env w w5 [obP p (some [⟨6, 2, 2⟩, ⟨6, 0, 1⟩]), obB (.slice (some ⟨g, 0, none⟩) 2 2) [1, 2]]) := Lib.hid (Env.drop (obs := [_, _]) h5)
  clear h5 he H7
  go_wp2_with fail
  refine (runsP_env H8.out 0 rfl (by simp)).mono ?_
  rintro e w6 ⟨vp, rfl, h5⟩
  have H9 := Lib.hid h5
  clear h5 H8
  go_wp2_with fail
  have H10 := Lib.hid (H9.out.litRuns w6.heap.size rfl [⟨6, 2, 2⟩, ⟨6, 0, 1⟩] (by decide))
  clear H9
  refine (sameRuns_env H10.out (H10.out.runs 2 rfl).rd (H10.out.runs 3 rfl).rd).mono ?_
  rintro e w7 ⟨he, h5⟩
  rw [decide_eq_true rfl] at he
  subst he
  have H11 : Hid (Env w w7 [obP p (some [⟨6, 2, 2⟩, ⟨6, 0, 1⟩]), obB (.slice (some ⟨g, 0, none⟩) 2 2) [1, 2]]) := Lib.hid (Env.drop (obs := [_, _]) (Env.drop (obs := [_, _, _]) h5))
  clear h5 H10
  go_wp2_with fail
  refine (resetP_env H11.out 0 rfl).mono ?_
  rintro e w8 ⟨rfl, h5⟩
  have H12 : Hid (Env w w8 [obP p (some []), obB (.slice (some ⟨g, 0, none⟩) 2 2) [1, 2]]) := Lib.hid h5
  clear h5 H11
  go_wp2_with fail
  have H13 := Lib.hid ((H12.out.lit w8.heap.size rfl [1, 255] (by decide)).lit (w8.heap.size + 1) (by simp) [2, 0] (by decide))
  clear H12
  refine (less_env H13.out 0 rfl (Room.some (by decide) (by decide)) (Src.whole H13.out 0 2 (by decide) rfl) (Src.whole H13.out 0 3 (by decide) rfl)).mono ?_
  rintro e w9 ⟨he, h5⟩
  have he' : e = .returned (.tuple #[.bool true, .int .i64 0]) := he
  subst he'
  have H14 : Hid (Env w w9 [obP p (some [⟨6, 2, 1⟩]), obB (.slice (some ⟨g, 0, none⟩) 2 2) [1, 2]]) := Lib.hid (Env.drop (obs := [_, _]) (Env.drop (obs := [_, _, _]) h5))
  clear h5 he H13
  go_wp2_with fail
  have H15 := Lib.hid ((H14.out.lit w9.heap.size rfl [2, 0] (by decide)).lit (w9.heap.size + 1) (by simp) [2, 0] (by decide))
  clear H14
  refine (less_env H15.out 0 rfl (Room.some (by decide) (by decide)) (Src.whole H15.out 0 2 (by decide) rfl) (Src.whole H15.out 0 3 (by decide) rfl)).mono ?_
  rintro e w10 ⟨he, h5⟩
  have he' : e = .returned (.tuple #[.bool false, .int .i64 0]) := he
  subst he'
  have H16 : Hid (Env w w10 [obP p (some [⟨6, 2, 2⟩]), obB (.slice (some ⟨g, 0, none⟩) 2 2) [1, 2]]) := Lib.hid (Env.drop (obs := [_, _]) (Env.drop (obs := [_, _, _]) h5))
  clear h5 he H15
  go_wp2_with fail
  have H17 := Lib.hid (H16.out.lit w10.heap.size rfl [1] (by decide))
  clear H16
  refine (less_env H17.out 0 rfl (Room.some (by decide) (by decide)) (Src.whole H17.out 0 2 (by decide) rfl) (Src.whole H17.out 0 1 (by decide) rfl)).mono ?_
  rintro e w11 ⟨he, h5⟩
  have he' : e = .returned (.tuple #[.bool false, .int .i64 2]) := he
  subst he'
  have H18 : Hid (Env w w11 [obP p (some [⟨6, 2, 2⟩]), obB (.slice (some ⟨g, 0, none⟩) 2 2) [1, 2]]) := Lib.hid (Env.drop (obs := [_, _]) h5)
  clear h5 he H17
  go_wp2_with fail
  refine (lenP_env H18.out 0 rfl).mono ?_
  rintro e w' ⟨he, rfl⟩
  have he' : e = .returned (.int .i64 2) := he
  subst he'
  clear he
  go_wp2_with fail
  have H19 := Lib.hid (H18.out.lit w11.heap.size rfl [0, 0] (by decide))
  clear H18
  refine (isZero_env H19.out 0 rfl (Room.some (by decide) (by decide)) (Src.whole H19.out 0 2 (by decide) rfl)).mono ?_
  rintro e w12 ⟨he, h5⟩
  have he' : e = .returned (.bool true) := he
  subst he'
  have H20 : Hid (Env w w12 [obP p (some [⟨6, 2, 3⟩]), obB (.slice (some ⟨g, 0, none⟩) 2 2) [1, 2]]) := Lib.hid (Env.drop (obs := [_, _]) h5)
  clear h5 he H19
  go_wp2_with fail
  have H21 := Lib.hid (H20.out.lit w12.heap.size rfl [0, 1] (by decide))
  clear H20
  refine (isZero_env H21.out 0 rfl (Room.some (by decide) (by decide)) (Src.whole H21.out 0 2 (by decide) rfl)).mono ?_
  rintro e w13 ⟨he, h5⟩
  have he' : e = .returned (.bool false) := he
  subst he'
  have H22 : Hid (Env w w13 [obP p (some [⟨6, 2, 4⟩]), obB (.slice (some ⟨g, 0, none⟩) 2 2) [1, 2]]) := Lib.hid (Env.drop (obs := [_, _]) h5)
  clear h5 he H21
  go_wp2_with fail
  refine (isZero_env H22.out 0 rfl (Room.some (by decide) (by decide)) (Src.nil 0)).mono ?_
  rintro e w14 ⟨he, h5⟩
  have he' : e = .returned (.bool true) := he
  subst he'
  have H23 : Hid (Env w w14 [obP p (some [⟨6, 2, 4⟩, ⟨6, 0, 1⟩])]) := Lib.hid (Env.drop (obs := [_]) h5)
  clear h5 he H22
  go_wp2_with fail
  refine (resetP_env H23.out 0 rfl).mono ?_
  rintro e w15 ⟨rfl, h5⟩
  have H24 : Hid (Env w w15 [obP p (some [])]) := Lib.hid h5
  clear h5 H23
  go_wp2_with fail
  have H25 := Lib.hid ((H24.out.lit w15.heap.size rfl [7] (by decide)).lit (w15.heap.size + 1) (by simp) [8] (by decide))
  clear H24
  refine (choose_env H25.out 0 rfl (Room.some (by decide) (by decide)) true (Src.whole H25.out 0 1 (by decide) rfl) (Src.whole H25.out 0 2 (by decide) rfl) rfl (by decide)).mono ?_
  rintro e w16 ⟨x, rfl, h5⟩
  obtain ⟨y1, hy1⟩ : ∃ y, y = obB (.slice (some ⟨w15.heap.size, 0, none⟩) 1 1) [7] := ⟨_, rfl⟩
  obtain ⟨y2, hy2⟩ : ∃ y, y = obB (.slice (some ⟨w15.heap.size + 1, 0, none⟩) 1 1) [8] := ⟨_, rfl⟩
  have H26 : Hid (Env w w16 [obP p (some [⟨7, 1, 1⟩]), y1, y2, obB x [7]]) := Lib.hid (by rw [hy1, hy2]; exact h5)
  clear h5 H25 hy1 hy2
  go_wp2_with fail
  have H27 := Lib.hid ((H26.out.lit w16.heap.size rfl [7] (by decide)).lit (w16.heap.size + 1) (by simp) [8] (by decide))
  clear H26
  refine (choose_env H27.out 0 rfl (Room.some (by decide) (by decide)) false (Src.whole H27.out 0 4 (by decide) rfl) (Src.whole H27.out 0 5 (by decide) rfl) rfl (by decide)).mono ?_
  rintro e w17 ⟨y, rfl, h5⟩
  obtain ⟨y3, hy3⟩ : ∃ y, y = obB (.slice (some ⟨w16.heap.size, 0, none⟩) 1 1) [7] := ⟨_, rfl⟩
  obtain ⟨y4, hy4⟩ : ∃ y, y = obB (.slice (some ⟨w16.heap.size + 1, 0, none⟩) 1 1) [8] := ⟨_, rfl⟩
  have H28 : Hid (Env w w17 [obP p (some [⟨7, 1, 2⟩]), y1, y2, obB x [7], y3, y4, obB y [8]]) := Lib.hid (by rw [hy3, hy4]; exact h5)
  clear h5 H27 hy3 hy4
  go_wp2_with fail
  have H29 := Lib.hid (H28.out.lit w17.heap.size rfl [7] (by decide))
  clear H28
  refine (choose_off_env H29.out p true (H29.out.bytes 7 rfl).rd (Bs.nil _) (by decide)).mono ?_
  rintro e w18 ⟨rfl, h5⟩
  have H30 : Hid (Env w w18 [obP p (some [⟨7, 1, 2⟩]), y1, y2, obB x [7], y3, y4, obB y [8]]) := Lib.hid (Env.drop (obs := [_, _, _, _, _, _, _]) h5)
  clear h5 H29
  go_wp2_with fail
  have H31 := Lib.hid (H30.out.lit w18.heap.size rfl [5, 6, 7] (by decide))
  clear H30
  refine (wipe_env H31.out 0 7 (by decide) rfl (Room.some (by decide) (by decide)) rfl 0 3 3 (by decide) (by decide)).mono ?_
  rintro e w19 ⟨rfl, h5⟩
  have H32 : Hid (Env w w19 [obP p (some [⟨7, 1, 2⟩, ⟨8, 3, 1⟩]), y1, y2, obB x [7], y3, y4, obB y [8], obB (.slice (some ⟨w18.heap.size, 0, none⟩) 3 3) [0, 0, 0]]) := Lib.hid h5
  clear h5 H31
  go_wp2_with fail
  have H33 := Lib.hid (H32.out.lit w19.heap.size rfl [7] (by decide))
  clear H32
  refine (sameBytes_env H33.out (H33.out.bytes 3 rfl).rd (H33.out.bytes 8 rfl).rd).mono ?_
  rintro e w20 ⟨he, h5⟩
  rw [decide_eq_true rfl] at he
  subst he
  have H34 := Lib.hid (Env.drop (obs := [_, _, _, _, _, _, _, _]) h5)
  clear h5 H33
  go_wp2_with fail
  have H35 := Lib.hid (H34.out.lit w20.heap.size rfl [8] (by decide))
  clear H34
  refine (sameBytes_env H35.out (H35.out.bytes 6 rfl).rd (H35.out.bytes 8 rfl).rd).mono ?_
  rintro e w21 ⟨he, h5⟩
  rw [decide_eq_true rfl] at he
  subst he
  have H36 := Lib.hid (Env.drop (obs := [_, _, _, _, _, _, _, _]) h5)
  clear h5 H35
  go_wp2_with fail
  have H37 := Lib.hid (H36.out.lit w21.heap.size rfl [0, 0, 0] (by decide))
  clear H36
  refine (sameBytes_env H37.out (H37.out.bytes 7 rfl).rd (H37.out.bytes 8 rfl).rd).mono ?_
  rintro e w22 ⟨he, h5⟩
  rw [decide_eq_true rfl] at he
  subst he
  have H38 := Lib.hid (Env.drop (obs := [_, _, _, _, _, _, _, _]) h5)
  clear h5 H37
  go_wp2_with fail
  refine (runsP_env H38.out 0 rfl (by simp)).mono ?_
  rintro e w23 ⟨vq, rfl, h5⟩
  have H39 := Lib.hid h5
  clear h5 H38
  go_wp2_with fail
  have H40 := Lib.hid (H39.out.litRuns w23.heap.size rfl [⟨7, 1, 2⟩, ⟨8, 3, 1⟩] (by decide))
  clear H39
  refine (sameRuns_env H40.out (H40.out.runs 8 rfl).rd (H40.out.runs 9 rfl).rd).mono ?_
  rintro e w24 ⟨he, h5⟩
  rw [decide_eq_true rfl] at he
  subst he
  have H41 := Lib.hid h5
  clear h5 H40
  go_wp2_with fail
  refine (ctAwake_any _).mono ?_
  rintro e w25 ⟨rfl, hb⟩
  have H42 := Lib.hid (H41.out.below hb)
  clear hb H41
  go_wp2
  go_ret
  exact ⟨rfl, H42.out.base⟩
end Go.Proofs.Ythegjgbidhbmfaa
