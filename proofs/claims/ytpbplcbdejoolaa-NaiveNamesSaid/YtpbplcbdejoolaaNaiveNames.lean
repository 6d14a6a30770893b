/- The walk of NaiveNames. -/
import Derived.Test.YtpbplcbdejoolaaRows
import Derived.Test.YtpbplcbdejoolaaNaiveEnv
namespace Go.Proofs.Ytpbplcbdejoolaa
open Go.RowKit
set_option maxRecDepth 100000
set_option linter.unusedVariables false
set_option linter.unusedSimpArgs false

set_option maxHeartbeats 4000000 in
theorem naiveNames.walk (w : World) : Calls Try.prog 7 #[] w fun e w' => e = .returned (.bool true) ∧ Below w.heap.size w w' := by
  go_enter Try.func7, Try.ntmps7
  go_wp2_with fail
  refine (newP_env (Env.start w)).mono ?_
  rintro e w1 ⟨l, rfl, h5⟩
  have H1 := Lib.hid h5
  clear h5
  have c1 := conv_const w1 #[.int .u8 97, .int .u8 98, .int .u8 99, .int .u8 100] 4 w1.heap.size rfl
  have c2 := conv_const (w1.alloc (.cells #[.int .u8 97, .int .u8 98, .int .u8 99, .int .u8 100] 5 (4, 5))) #[.int .u8 97, .int .u8 98, .int .u8 99] 3 (w1.heap.size + 1) (by simp)
  have hb1 : Below w1.heap.size w1 (w1.alloc (.cells #[.int .u8 97, .int .u8 98, .int .u8 99, .int .u8 100] 5 (4, 5))) := (Below.refl _ _).alloc (Nat.le_refl _) _
  have hb2 : Below (w1.alloc (.cells #[.int .u8 97, .int .u8 98, .int .u8 99, .int .u8 100] 5 (4, 5))).heap.size (w1.alloc (.cells #[.int .u8 97, .int .u8 98, .int .u8 99, .int .u8 100] 5 (4, 5))) ((w1.alloc (.cells #[.int .u8 97, .int .u8 98, .int .u8 99, .int .u8 100] 5 (4, 5))).alloc (.cells #[.int .u8 97, .int .u8 98, .int .u8 99] 5 (3, 4))) := (Below.refl _ _).alloc (Nat.le_refl _) _
  have HB := Lib.hid (hb1.trans (hb2.mono hb1.size))
  have hu : Bs ((w1.alloc (.cells #[.int .u8 97, .int .u8 98, .int .u8 99, .int .u8 100] 5 (4, 5))).alloc (.cells #[.int .u8 97, .int .u8 98, .int .u8 99] 5 (3, 4))) (.slice (some ⟨w1.heap.size, 0, none⟩) 4 4) [97, 98, 99, 100] := Bs.grow (Bs.marked w1 [97, 98, 99, 100] 5 (4, 5) (by decide) w1.heap.size rfl) hb2
  have hv : Bs ((w1.alloc (.cells #[.int .u8 97, .int .u8 98, .int .u8 99, .int .u8 100] 5 (4, 5))).alloc (.cells #[.int .u8 97, .int .u8 98, .int .u8 99] 5 (3, 4))) (.slice (some ⟨w1.heap.size + 1, 0, none⟩) 3 3) [97, 98, 99] := Bs.marked _ [97, 98, 99] 5 (3, 4) (by decide) (w1.heap.size + 1) (by simp)
  have HU := Lib.hid hu
  have HV := Lib.hid hv
  clear hu hv hb1 hb2
  go_wp2_with fail
  refine (nEqual_fresh H1.out 0 rfl HB.out HU.out HV.out (fun b hb => by simp [Value.ownBlock] at hb; omega) (fun b hb => by simp [Value.ownBlock] at hb; omega) 0 (FewO.of Few.nil) (by decide)).mono ?_
  rintro e w2 ⟨he, h5⟩
  have he' : e = .returned (.bool false) := he
  subst he'
  have H2 : Hid (Env w w2 [obP l (some [])]) := Lib.hid h5
  clear h5 he HU HV HB c1 c2 H1
  have hg : gboxI 83 = 237 := by decide +kernel
  go_wp2_with fail
  refine (box_env H2.out 0 rfl (Few.nil.room (by omega)) 83 (by omega) (by omega)).mono ?_
  rintro e w3 ⟨he, h5⟩
  rw [hg] at he
  subst he
  have H3 : Hid (Env w w3 [obP l (some [⟨10, 83, 1⟩])]) := Lib.hid h5
  clear h5 hg H2
  go_wp2_with fail
  refine (runsP_env H3.out 0 rfl (by simp)).mono ?_
  rintro e w4 ⟨v1, rfl, h5⟩
  have H4 := Lib.hid h5
  clear h5
  go_wp2_with fail
  have H5 := Lib.hid (H4.out.litRuns w4.heap.size rfl [⟨10, 83, 1⟩] (by simp))
  refine (sameRuns_env H5.out (H5.out.runs 1 rfl).rd (H5.out.runs 2 rfl).rd).mono ?_
  rintro e w5 ⟨he, h5⟩
  rw [decide_eq_true rfl] at he
  subst he
  have H6 : Hid (Env w w5 [obP l (some [⟨10, 83, 1⟩])]) := Lib.hid (Env.drop (obs := [_]) (Env.drop (obs := [_, _]) h5))
  clear h5 H5 H4 H3
  have p1 : pwN 3 5 7 = .tuple #[.int .u64 5, .int .i64 0] := by kernel_rfl
  have p2 : pwN 2 64 1 = .tuple #[.int .u64 0, .int .i64 0] := by kernel_rfl
  have p3 : pwN 0 0 5 = .tuple #[.int .u64 1, .int .i64 0] := by kernel_rfl
  have p4 : pwN 2 3 0 = .tuple #[.int .u64 0, .int .i64 2] := by kernel_rfl
  have p5 : pwN 9223372036854775808 2 18446744073709551557 = .tuple #[.int .u64 13835058055282164538, .int .i64 0] := by kernel_rfl
  have P1 := Lib.hid p1
  have P2 := Lib.hid p2
  have P3 := Lib.hid p3
  have P4 := Lib.hid p4
  have P5 := Lib.hid p5
  clear p1 p2 p3 p4 p5
  go_wp2_with fail
  refine (power_off H6.out 3 5 7 (by decide) (by decide) (by decide)).mono ?_
  rintro e w6 ⟨he, h5⟩
  rw [P1.out] at he
  subst he
  have H7 := Lib.hid h5
  clear h5 H6 P1
  go_wp2_with fail
  refine (power_off H7.out 2 64 1 (by decide) (by decide) (by decide)).mono ?_
  rintro e w7 ⟨he, h5⟩
  rw [P2.out] at he
  subst he
  have H8 := Lib.hid h5
  clear h5 H7 P2
  go_wp2_with fail
  refine (power_off H8.out 0 0 5 (by decide) (by decide) (by decide)).mono ?_
  rintro e w8 ⟨he, h5⟩
  rw [P3.out] at he
  subst he
  have H9 := Lib.hid h5
  clear h5 H8 P3
  go_wp2_with fail
  refine (power_env H9.out 0 rfl (N := 1) (FewO.of (Few.note Few.nil 10 83)) (by decide) 2 3 0 (by decide) (by decide) (by decide)).mono ?_
  rintro e w9 ⟨he, h5⟩
  rw [P4.out] at he
  subst he
  have H10 : Hid (Env w w9 [obP l (some [⟨10, 83, 1⟩])]) := Lib.hid h5
  clear h5 H9 P4
  go_wp2_with fail
  refine (power_off H10.out 9223372036854775808 2 18446744073709551557 (by decide) (by decide) (by decide)).mono ?_
  rintro e w10 ⟨he, h5⟩
  rw [P5.out] at he
  subst he
  have H11 := Lib.hid h5
  clear h5 H10 P5
  go_wp2_with fail
  refine (lenP_env H11.out 0 rfl).mono ?_
  rintro e w11 ⟨he, hw⟩
  have he' : e = .returned (.int .i64 1) := he
  subst he'
  subst hw
  clear he
  go_wp2_with fail
  refine (resetP_env H11.out 0 rfl).mono ?_
  rintro e w12 ⟨rfl, h5⟩
  have H12 : Hid (Env w w12 [obP l (some [])]) := Lib.hid h5
  clear h5 H11
  have c1 := conv_const w12 #[.int .u8 97, .int .u8 98, .int .u8 120] 3 w12.heap.size rfl
  have hb1 : Below w12.heap.size w12 (w12.alloc (.cells #[.int .u8 97, .int .u8 98, .int .u8 120] 5 (3, 4))) := (Below.refl _ _).alloc (Nat.le_refl _) _
  have HB := Lib.hid hb1
  have HU := Lib.hid (Bs.marked w12 [97, 98, 120] 5 (3, 4) (by decide) w12.heap.size rfl)
  clear hb1
  go_wp2_with fail
  refine (nFind_fresh H12.out 0 rfl HB.out 120 HU.out (fun b hb => by simp [Value.ownBlock] at hb; omega) 0 (FewO.of Few.nil) (by decide)).mono ?_
  rintro e w13 ⟨he, h5⟩
  have he' : e = .returned (.int .i64 2) := he
  subst he'
  have H13 : Hid (Env w w13 [obP l (some [⟨9, 0, 2⟩, ⟨9, 1, 1⟩])]) := Lib.hid h5
  clear h5 he HU HB c1 H12
  have c1 := conv_const w13 #[.int .u8 97, .int .u8 98] 2 w13.heap.size rfl
  have hb1 : Below w13.heap.size w13 (w13.alloc (.cells #[.int .u8 97, .int .u8 98] 5 (2, 3))) := (Below.refl _ _).alloc (Nat.le_refl _) _
  have HU := Lib.hid (Bs.marked w13 [97, 98] 5 (2, 3) (by decide) w13.heap.size rfl)
  have H14 := Lib.hid (H13.out.below hb1)
  clear hb1
  go_wp2_with fail
  refine (nFind_off H14.out 120 (by decide) HU.out).mono ?_
  rintro e w15 ⟨he, h5⟩
  have he' : e = .returned (.int .i64 (-1)) := he
  subst he'
  have H15 := Lib.hid h5
  clear h5 he HU c1 H14 H13
  go_wp2_with fail
  refine (runsP_env H15.out 0 rfl (by simp)).mono ?_
  rintro e w16 ⟨v2, rfl, h5⟩
  have H16 := Lib.hid h5
  clear h5
  go_wp2_with fail
  refine (branches_any _ [0, 0, 1] _ (Sl.ints w16 [0, 0, 1] w16.heap.size rfl (by decide)) (by decide)).mono ?_
  rintro e w17 ⟨u2, rfl, g1, g2, g3⟩
  have hb : Below w16.heap.size w16 w17 := Below.trans ((Below.refl w16.heap.size w16).alloc (Nat.le_refl _) _) (g2.mono (by simp))
  have H17 := Lib.hid (H16.out.pushRuns g1 hb (fun x hx => by have := g3 x hx; simp at this; omega))
  clear g1 g2 g3 hb H16 H15
  go_wp2_with fail
  refine (sameRuns_env H17.out (H17.out.runs 1 rfl).rd (H17.out.runs 2 rfl).rd).mono ?_
  rintro e w18 ⟨he, h5⟩
  have he' : e = .returned (.bool true) := by rw [he]; rfl
  subst he'
  have H18 : Hid (Env w w18 [obP l (some [⟨9, 0, 2⟩, ⟨9, 1, 1⟩])]) := Lib.hid (Env.drop (obs := [_]) (Env.drop (obs := [_, _]) h5))
  clear h5 he H17
  go_wp2_with fail
  refine (resetP_env H18.out 0 rfl).mono ?_
  rintro e w19 ⟨rfl, h5⟩
  have H19 : Hid (Env w w19 [obP l (some [])]) := Lib.hid h5
  clear h5 H18
  go_wp2_with fail
  have HL := H19.out.lit w19.heap.size rfl [3, 1, 2] (by decide)
  have H20 := Lib.hid HL
  have HU := Lib.hid (HL.bytes 1 rfl).rd
  clear HL H19
  refine (sort_env H20.out 0 rfl (N := 0) (FewO.of Few.nil) HU.out (by decide) (by decide)).mono ?_
  rintro e w21 ⟨s, rfl, h5⟩
  have H21 : Hid (Env w w21 [obP l (some [⟨9, 1, 2⟩, ⟨9, 0, 1⟩]), obB (.slice (some ⟨w19.heap.size, 0, none⟩) 3 3) [3, 1, 2], obB s [1, 2, 3]]) := Lib.hid h5
  clear h5 H20 HU
  go_wp2_with fail
  have HL := H21.out.lit w21.heap.size rfl [1, 2, 3] (by decide)
  have H22 := Lib.hid HL
  clear HL H21
  refine (sameBytes_env H22.out (H22.out.bytes 2 rfl).rd (H22.out.bytes 3 rfl).rd).mono ?_
  rintro e w23 ⟨he, h5⟩
  have he' : e = .returned (.bool true) := by rw [he]; rfl
  subst he'
  have H23 := Lib.hid h5
  clear h5 he H22
  go_wp2_with fail
  refine (runsP_env H23.out 0 rfl (by simp)).mono ?_
  rintro e w24 ⟨v3, rfl, h5⟩
  have H24 := Lib.hid h5
  clear h5
  go_wp2_with fail
  refine (branches_any _ [1, 1, 0] _ (Sl.ints w24 [1, 1, 0] w24.heap.size rfl (by decide)) (by decide)).mono ?_
  rintro e w25 ⟨u3, rfl, g1, g2, g3⟩
  have hb : Below w24.heap.size w24 w25 := Below.trans ((Below.refl w24.heap.size w24).alloc (Nat.le_refl _) _) (g2.mono (by simp))
  have H25 := Lib.hid (H24.out.pushRuns g1 hb (fun x hx => by have := g3 x hx; simp at this; omega))
  clear g1 g2 g3 hb H24 H23
  go_wp2_with fail
  refine (sameRuns_env H25.out (H25.out.runs 4 rfl).rd (H25.out.runs 5 rfl).rd).mono ?_
  rintro e w26 ⟨he, h5⟩
  have he' : e = .returned (.bool true) := by rw [he]; rfl
  subst he'
  have H26 := Lib.hid h5.base
  clear h5 he H25
  go_wp2_with fail
  refine (naiveLives_any w26).mono ?_
  rintro e w27 ⟨rfl, hb⟩
  have H27 := Lib.hid (H26.out.trans (hb.mono H26.out.size))
  clear hb
  go_wp2
  go_ret
  exact ⟨rfl, H27.out⟩
end Go.Proofs.Ytpbplcbdejoolaa
