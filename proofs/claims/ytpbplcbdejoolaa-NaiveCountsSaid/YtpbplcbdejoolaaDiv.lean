/- The contract of math/bits.Div64: the division of two words by one, whole. -/
import Derived.Test.YtpbplcbdejoolaaRows
import Derived.Test.YtpbplcbdejoolaaBits
import Derived.Test.YtpbplcbdejoolaaLen64
import Derived.Test.YtpbplcbdejoolaaDivPlain
import Derived.Lib.ItoaNum
import Derived.Test.YtpbplcbdejoolaaNaive
import Derived.Deep.DeepCutAuto
import Derived.Deep.CutBlock
namespace Go.Proofs.Ytpbplcbdejoolaa
open Go.RowKit
set_option linter.unusedVariables false
set_option linter.unusedSimpArgs false
set_option maxRecDepth 100000

/-- how far a number is to be shifted -/
theorem lead_spec (y : Nat) (h0 : 0 < y) (h1 : y < 18446744073709551616) : ∃ s : Nat, (64 - (Lib.bitLen y : Int)) = (s : Int) ∧ s ≤ 63 ∧ y * 2 ^ s < 18446744073709551616 ∧ 9223372036854775808 ≤ y * 2 ^ s := by
  obtain ⟨a, b, c⟩ := Lib.bitLenAux_bounds 64 y (by omega) (by omega)
  have d := Lib.bitLen_le y 64 (by omega) (by omega)
  unfold Lib.bitLen at d ⊢
  generalize Lib.bitLenAux 64 y = L at a b c d
  refine ⟨64 - L, by omega, by omega, ?_, ?_⟩
  · have : 2 ^ L * 2 ^ (64 - L) = 18446744073709551616 := by rw [← Nat.pow_add, show L + (64 - L) = 64 by omega]
    rw [← this]
    exact Nat.mul_lt_mul_of_pos_right c (Nat.two_pow_pos _)
  · have : 2 ^ (L - 1) * 2 ^ (64 - L) = 9223372036854775808 := by rw [← Nat.pow_add, show L - 1 + (64 - L) = 63 by omega]
    rw [← this]
    exact Nat.mul_le_mul_right _ b
theorem lead_any (y : Nat) (w : World) (h0 : 0 < y) (h1 : y < 18446744073709551616) :
    Calls Try.prog 55 #[.int .u64 (y : Int)] w fun e w' => ∃ s : Nat, e = .returned (.int .i64 (s : Int)) ∧ s ≤ 63 ∧ y * 2 ^ s < 18446744073709551616 ∧ 9223372036854775808 ≤ y * 2 ^ s ∧ w' = w := by
  obtain ⟨s, e, a, b, c⟩ := lead_spec y h0 h1
  refine (lead64_any (y : Int) w (by omega) (by omega)).mono ?_
  rintro _ _ ⟨rfl, rfl⟩
  exact ⟨s, by rw [Int.toNat_natCast, e], a, b, c, rfl⟩
theorem n32 (a : Nat) : IntKind.u64.wrap ((a : Int) * 4294967296) = ((a * 4294967296 % 18446744073709551616 : Nat) : Int) := by rw [IntKind.wrap_u64]; omega
theorem shlN (a s : Nat) (h : a * 2 ^ s < 18446744073709551616) : IntKind.u64.wrap ((a : Int) * 2 ^ s) = ((a * 2 ^ s : Nat) : Int) := by
  rw [← Mul64.wrapN (a * 2 ^ s) h, Int.natCast_mul, Int.natCast_pow]
  rfl
theorem shlM (a s : Nat) : IntKind.u64.wrap ((a : Int) * 2 ^ s) = ((a * 2 ^ s % 18446744073709551616 : Nat) : Int) := by
  rw [← Mul64.wrapM (a * 2 ^ s), Int.natCast_mul, Int.natCast_pow]
  rfl
theorem shrN (a s : Nat) : (a : Int) / 2 ^ s = ((a / 2 ^ s : Nat) : Int) := by
  rw [Int.natCast_ediv, Int.natCast_pow]
  rfl
theorem modN (a : Nat) : (a : Int) % 4294967296 = ((a % 4294967296 : Nat) : Int) := by omega
theorem quoN (u y1 : Nat) (hu : u < 18446744073709551616) : IntKind.u64.wrap ((u : Int) / (y1 : Int)) = ((u / y1 : Nat) : Int) := by
  rw [← Int.natCast_ediv]
  exact Mul64.wrapN _ (Nat.lt_of_le_of_lt (Nat.div_le_self _ _) hu)
theorem remN (u y1 : Nat) (hu : u < 18446744073709551616) : IntKind.u64.wrap ((u : Int) - IntKind.u64.wrap (((u / y1 : Nat) : Int) * (y1 : Int))) = ((u % y1 : Nat) : Int) := by
  have e := Nat.div_add_mod' u y1
  rw [Mul64.mulN, Mul64.wrapN (u / y1 * y1) (by omega), show (u : Int) - ((u / y1 * y1 : Nat) : Int) = ((u % y1 : Nat) : Int) by omega]
  exact Mul64.wrapN _ (by omega)
theorem un21N (u d Y Q : Nat) (h0 : 0 < Y) (hY : Y < 18446744073709551616) (hQ : Q = (u * 4294967296 + d) / Y) : IntKind.u64.wrap (IntKind.u64.wrap (IntKind.u64.wrap ((u : Int) * 4294967296) + (d : Int)) - IntKind.u64.wrap ((Q : Int) * (Y : Int))) = (((u * 4294967296 + d) % Y : Nat) : Int) := by
  have e := Nat.div_add_mod' (u * 4294967296 + d) Y
  have l := Nat.mod_lt (u * 4294967296 + d) h0
  rw [← hQ] at e
  rw [Mul64.mulN]
  generalize Q * Y = P at e
  generalize (u * 4294967296 + d) % Y = R at e l
  simp only [IntKind.wrap_u64]
  omega
set_option maxHeartbeats 2000000 in
theorem div64_any (h l y : Nat) (hh : h < y) (hl : l < 18446744073709551616) (hy : y < 18446744073709551616) (w : World) :
    Calls Try.prog 50 #[.int .u64 (h : Int), .int .u64 (l : Int), .int .u64 (y : Int)] w fun e w' => e = .returned (.tuple #[.int .u64 (((h * 18446744073709551616 + l) / y : Nat) : Int), .int .u64 (((h * 18446744073709551616 + l) % y : Nat) : Int)]) ∧ ∃ m, w' = w.drewN m := by
  have b1 : ((y : Int) == 0) = false := by simp; omega
  have b2 : decide ((y : Int) ≤ (h : Int)) = false := by simp; omega
  by_cases h0 : h = 0
  · subst h0
    have b4 : (y : Int) ≠ 0 := by omega
    have e1 : IntKind.u64.wrap ((l : Int) / (y : Int)) = ((l / y : Nat) : Int) := by
      have : l / y ≤ l := Nat.div_le_self l y
      rw [← Int.natCast_ediv]
      exact Mul64.wrapN _ (by omega)
    go_enter Try.func50, Try.ntmps50
    go_wp2_with fail
    go_region
    go_wp2
    simp only [e1, Nat.zero_mul, Nat.zero_add]
    go_ret2
    exact ⟨rfl, 1, rfl⟩
  · have b3 : ((h : Int) == 0) = false := by simp; omega
    go_enter Try.func50, Try.ntmps50
    go_wp2_with fail
    refine (lead_any y _ (by omega) hy).mono ?_
    rintro e w2 ⟨s, rfl, s1, s2, s3, rfl⟩
    have eY := shlN y s s2
    have nl := norm_lt h l y s s1 hh hl
    have na := norm_all h l s s1
    have no := norm_or h l s s1 hl
    have sd := shifted_div (h * 18446744073709551616 + l) y (2 ^ s) (Nat.two_pow_pos _)
    rw [na] at sd
    have hb : h * 2 ^ s < 18446744073709551616 := by
      refine Nat.lt_of_le_of_lt (Nat.mul_le_mul_right _ (Nat.le_of_lt hh)) s2
    have eH : bits .or .u64 (IntKind.u64.wrap ((h : Int) * 2 ^ s)) ((l : Int) / 2 ^ (64 - s)) = ((h * 2 ^ s + l / 2 ^ (64 - s) : Nat) : Int) := by
      rw [shlN h s hb, shrN, bits_or_u64_nat _ _ hb (Nat.lt_of_le_of_lt (Nat.div_le_self _ _) hl), no]
    have eT := shlM l s
    have tl : l * 2 ^ s % 18446744073709551616 < 18446744073709551616 := Nat.mod_lt _ (by omega)
    have HS : Hid (s ≤ 63) := Lib.hid s1
    clear na no hb
    generalize hY : y * 2 ^ s = Y at s2 s3 eY nl sd
    generalize hu : h * 2 ^ s + l / 2 ^ (64 - s) = u at eH nl sd
    generalize ht : l * 2 ^ s % 18446744073709551616 = t at eT sd tl
    have HYs := Lib.hid hY
    clear hY hu ht
    have q0 : ((Y : Int) / 4294967296) ≠ 0 := by omega
    have eY0 := Mul64.maskN Y s2
    have eT0 := Mul64.maskN t tl
    go_upto_block 0 with fail
    simp only [eY, eH, eT, eY0, eT0, Mul64.divN, modN, quoN u _ (Nat.lt_trans nl s2), remN u _ (Nat.lt_trans nl s2)]
    clear eY eH eT eY0 eT0 q0
    obtain ⟨y1, hy1⟩ : ∃ y1, Y / 4294967296 = y1 := ⟨_, rfl⟩
    obtain ⟨y0, hy0⟩ : ∃ y0, Y % 4294967296 = y0 := ⟨_, rfl⟩
    obtain ⟨d1, hd1⟩ : ∃ d1, t / 4294967296 = d1 := ⟨_, rfl⟩
    obtain ⟨d0, hd0⟩ : ∃ d0, t % 4294967296 = d0 := ⟨_, rfl⟩
    simp only [hy1, hy0, hd1, hd0]
    have HYd : Hid (Y = y1 * 4294967296 + y0) := Lib.hid (by omega)
    have HTd : Hid (t = d1 * 4294967296 + d0) := Lib.hid (by omega)
    have by0 : y0 < 4294967296 := by omega
    have bd0 : d0 < 4294967296 := by omega
    have bd1 : d1 < 4294967296 := by omega
    have by1 : y1 < 4294967296 := by omega
    have by2 : 2147483648 ≤ y1 := by omega
    clear hy1 hy0 hd1 hd0
    rw [HYd.out] at nl
    have SD := Lib.hid sd
    clear sd
    obtain ⟨Q, hQ⟩ : ∃ Q, Q = (u * 4294967296 + d1) / (y1 * 4294967296 + y0) := ⟨_, rfl⟩
    have D0 := DigI.start hQ by2 bd1 by0 nl
    have lQ : Q < 4294967296 := by rw [hQ]; exact dig_lt nl bd1
    have HQ := Lib.hid hQ
    clear hQ
    have ru : u % y1 < 4294967296 := Nat.lt_trans (Nat.mod_lt _ (by omega)) by1
    have HD0 := Lib.hid D0
    clear D0
    go_cut [15, 16] from 67 to 85 (fun v15 v16 wx => wx = w2 ∧ v15 = .int .u64 (Q : Int))
    case first =>
      go_wp2_with fail
      go_loopw [15, 16] (fun a b w1 => ∃ q r : Nat, a = .int .u64 (q : Int) ∧ b = .int .u64 (r : Int) ∧ Hid (DigI u y1 Q q r) ∧ r < 4294967296 ∧ q ≤ 4294967297 ∧ w1 = w2) (fun a _ _ => (intOf a).toNat)
      case atStart => exact ⟨u / y1, u % y1, rfl, rfl, HD0, ru, HD0.out.top, rfl⟩
      case round =>
        obtain ⟨q, r, rfl, rfl, HD, hr, hq, rfl⟩ := hrel
        by_cases hq2 : 4294967296 ≤ q
        · have t1 : decide ((4294967296 : Int) ≤ (q : Int)) = true := by rw [decide_eq_true_eq]; omega
          have HQq : Hid (Q < q) := Lib.hid (Nat.lt_of_lt_of_le lQ hq2)
          have HB := Lib.hid (And.intro hr hq)
          clear hr hq hq2
          obtain ⟨q1, hq1, e1⟩ : ∃ q1 : Nat, q = q1 + 1 ∧ IntKind.u64.wrap ((q : Int) - 1) = (q1 : Int) := ⟨q - 1, by have := HQq.out; omega, by have := HQq.out; have := HB.out.2; rw [IntKind.wrap_u64]; omega⟩
          obtain ⟨r1, hr1, e2⟩ : ∃ r1 : Nat, r1 = r + y1 ∧ IntKind.u64.wrap ((r : Int) + (y1 : Int)) = (r1 : Int) := ⟨r + y1, rfl, by have := HB.out.1; rw [IntKind.wrap_u64]; omega⟩
          have HD1 : Hid (DigI u y1 Q q1 r1 ∧ q = q1 + 1 ∧ r1 = r + y1) := by
            have hs := HD.out.step HQq.out
            rw [← hr1, show q - 1 = q1 by omega] at hs
            exact Lib.hid ⟨hs, hq1, hr1⟩
          clear hq1 hr1
          by_cases hb : 4294967296 ≤ r1
          · have t3 : decide ((4294967296 : Int) ≤ (r1 : Int)) = true := by rw [decide_eq_true_eq]; omega
            have HX : Hid (q1 = Q) := Lib.hid (HD1.out.1.cut HQ.out (by omega) by0 (by have := HD1.out.2.1; have := HB.out.2; omega) hb)
            clear hb
            go_wp2_with fail
            go_meet
            exact ⟨rfl, by rw [HX.out]⟩
          · have t3 : decide ((4294967296 : Int) ≤ (r1 : Int)) = false := by rw [decide_eq_false_iff_not]; omega
            have hb3 : Hid (r1 < 4294967296) := Lib.hid (by omega)
            clear hb
            go_wp2_with fail
            go_roundw
            case rel => exact ⟨q1, r1, rfl, rfl, Lib.hid HD1.out.1, hb3.out, by have := HD1.out.2.1; have := HB.out.2; omega, by first | rfl | trivial⟩
            case measure =>
              have := HD1.out.2.1
              simp [intOf]
              omega
        · have t1 : decide ((4294967296 : Int) ≤ (q : Int)) = false := by rw [decide_eq_false_iff_not]; omega
          have HB := Lib.hid (And.intro hr hq)
          obtain ⟨c, hc, ec⟩ : ∃ c : Nat, c = q * y0 ∧ IntKind.u64.wrap ((q : Int) * (y0 : Int)) = (c : Int) := ⟨q * y0, rfl, by
            rw [Mul64.mulN]
            refine Mul64.wrapN _ ?_
            have : q * y0 ≤ 4294967295 * 4294967295 := Nat.mul_le_mul (by omega) (by omega)
            omega⟩
          have e5 : IntKind.u64.wrap (4294967296 * (r : Int)) = 4294967296 * (r : Int) := by rw [IntKind.wrap_u64]; omega
          have e6 : IntKind.u64.wrap (4294967296 * (r : Int) + (d1 : Int)) = 4294967296 * (r : Int) + (d1 : Int) := by rw [IntKind.wrap_u64]; omega
          have HC := Lib.hid hc
          clear hr hq hq2 hc
          by_cases ht : 4294967296 * r + d1 < c
          · have t2 : decide (4294967296 * (r : Int) + (d1 : Int) < (c : Int)) = true := by rw [decide_eq_true_eq]; omega
            have HQq : Hid (Q < q) := Lib.hid (HD.out.big HQ.out (by omega) (by rw [← HC.out]; exact ht))
            clear ht
            obtain ⟨q1, hq1, e1⟩ : ∃ q1 : Nat, q = q1 + 1 ∧ IntKind.u64.wrap ((q : Int) - 1) = (q1 : Int) := ⟨q - 1, by have := HQq.out; omega, by have := HQq.out; have := HB.out.2; rw [IntKind.wrap_u64]; omega⟩
            obtain ⟨r1, hr1, e2⟩ : ∃ r1 : Nat, r1 = r + y1 ∧ IntKind.u64.wrap ((r : Int) + (y1 : Int)) = (r1 : Int) := ⟨r + y1, rfl, by have := HB.out.1; rw [IntKind.wrap_u64]; omega⟩
            have HD1 : Hid (DigI u y1 Q q1 r1 ∧ q = q1 + 1 ∧ r1 = r + y1) := by
              have hs := HD.out.step HQq.out
              rw [← hr1, show q - 1 = q1 by omega] at hs
              exact Lib.hid ⟨hs, hq1, hr1⟩
            clear hq1 hr1
            by_cases hb : 4294967296 ≤ r1
            · have t3 : decide ((4294967296 : Int) ≤ (r1 : Int)) = true := by rw [decide_eq_true_eq]; omega
              have HX : Hid (q1 = Q) := Lib.hid (HD1.out.1.cut HQ.out (by omega) by0 (by have := HD1.out.2.1; have := HB.out.2; omega) hb)
              clear hb
              go_wp2_with fail
              go_meet
              exact ⟨rfl, by rw [HX.out]⟩
            · have t3 : decide ((4294967296 : Int) ≤ (r1 : Int)) = false := by rw [decide_eq_false_iff_not]; omega
              have hb3 : Hid (r1 < 4294967296) := Lib.hid (by omega)
              clear hb
              go_wp2_with fail
              go_roundw
              case rel => exact ⟨q1, r1, rfl, rfl, Lib.hid HD1.out.1, hb3.out, by have := HD1.out.2.1; have := HB.out.2; omega, by first | rfl | trivial⟩
              case measure =>
                have := HD1.out.2.1
                simp [intOf]
                omega
          · have t2 : decide (4294967296 * (r : Int) + (d1 : Int) < (c : Int)) = false := by rw [decide_eq_false_iff_not]; omega
            have HX : Hid (q = Q) := Lib.hid (HD.out.exit HQ.out (by omega) (by rw [← HC.out]; omega))
            clear ht
            go_wp2_with fail
            go_meet
            exact ⟨rfl, by rw [HX.out]⟩
    case rest =>
      obtain ⟨rfl, rfl⟩ := hcut
      have e7 := un21N u d1 Y Q (by omega) s2 (HQ.out.trans (by rw [← HYd.out]))
      obtain ⟨R, hR⟩ : ∃ R, R = (u * 4294967296 + d1) % Y := ⟨_, rfl⟩
      rw [← hR] at e7
      have lR : R < Y := by rw [hR]; exact Nat.mod_lt _ (by omega)
      have e8 := quoN R y1 (Nat.lt_trans lR s2)
      have e9 := remN R y1 (Nat.lt_trans lR s2)
      rw [Int.natCast_ediv] at e9
      have HR := Lib.hid hR
      clear hR
      obtain ⟨Q0, hQ0⟩ : ∃ Q0, Q0 = (R * 4294967296 + d0) / (y1 * 4294967296 + y0) := ⟨_, rfl⟩
      have lR2 : R < y1 * 4294967296 + y0 := by rw [← HYd.out]; exact lR
      have D1 := DigI.start hQ0 by2 bd0 by0 lR2
      have lQ0 : Q0 < 4294967296 := by rw [hQ0]; exact dig_lt lR2 bd0
      have HQ0 := Lib.hid hQ0
      have HD2 := Lib.hid D1
      have rR : R % y1 < 4294967296 := Nat.lt_trans (Nat.mod_lt _ (by omega)) by1
      have q2 : (y1 : Int) ≠ 0 := by omega
      clear hQ0 D1 lR2
      go_upto_block 2 with fail
      go_cut [18, 16] from 102 to 120 (fun v15 v16 wx => wx = wc ∧ v15 = .int .u64 (Q0 : Int))
      case first =>
        go_wp2_with fail
        go_loopw [18, 16] (fun a b w1 => ∃ q r : Nat, a = .int .u64 (q : Int) ∧ b = .int .u64 (r : Int) ∧ Hid (DigI R y1 Q0 q r) ∧ r < 4294967296 ∧ q ≤ 4294967297 ∧ w1 = wc) (fun a _ _ => (intOf a).toNat)
        case atStart => exact ⟨R / y1, R % y1, rfl, rfl, HD2, rR, HD2.out.top, by first | rfl | trivial⟩
        case round =>
          obtain ⟨q, r, rfl, rfl, HD, hr, hq, rfl⟩ := hrel
          by_cases hq2 : 4294967296 ≤ q
          · have t1 : decide ((4294967296 : Int) ≤ (q : Int)) = true := by rw [decide_eq_true_eq]; omega
            have HQq : Hid (Q0 < q) := Lib.hid (Nat.lt_of_lt_of_le lQ0 hq2)
            have HB := Lib.hid (And.intro hr hq)
            clear hr hq hq2
            obtain ⟨q1, hq1, e1⟩ : ∃ q1 : Nat, q = q1 + 1 ∧ IntKind.u64.wrap ((q : Int) - 1) = (q1 : Int) := ⟨q - 1, by have := HQq.out; omega, by have := HQq.out; have := HB.out.2; rw [IntKind.wrap_u64]; omega⟩
            obtain ⟨r1, hr1, e2⟩ : ∃ r1 : Nat, r1 = r + y1 ∧ IntKind.u64.wrap ((r : Int) + (y1 : Int)) = (r1 : Int) := ⟨r + y1, rfl, by have := HB.out.1; rw [IntKind.wrap_u64]; omega⟩
            have HD1 : Hid (DigI R y1 Q0 q1 r1 ∧ q = q1 + 1 ∧ r1 = r + y1) := by
              have hs := HD.out.step HQq.out
              rw [← hr1, show q - 1 = q1 by omega] at hs
              exact Lib.hid ⟨hs, hq1, hr1⟩
            clear hq1 hr1
            by_cases hb : 4294967296 ≤ r1
            · have t3 : decide ((4294967296 : Int) ≤ (r1 : Int)) = true := by rw [decide_eq_true_eq]; omega
              have HX : Hid (q1 = Q0) := Lib.hid (HD1.out.1.cut HQ0.out (by omega) by0 (by have := HD1.out.2.1; have := HB.out.2; omega) hb)
              clear hb
              go_wp2_with fail
              go_meet
              exact ⟨rfl, by rw [HX.out]⟩
            · have t3 : decide ((4294967296 : Int) ≤ (r1 : Int)) = false := by rw [decide_eq_false_iff_not]; omega
              have hb3 : Hid (r1 < 4294967296) := Lib.hid (by omega)
              clear hb
              go_wp2_with fail
              go_roundw
              case rel => exact ⟨q1, r1, rfl, rfl, Lib.hid HD1.out.1, hb3.out, by have := HD1.out.2.1; have := HB.out.2; omega, by first | rfl | trivial⟩
              case measure =>
                have := HD1.out.2.1
                simp [intOf]
                omega
          · have t1 : decide ((4294967296 : Int) ≤ (q : Int)) = false := by rw [decide_eq_false_iff_not]; omega
            have HB := Lib.hid (And.intro hr hq)
            obtain ⟨c, hc, ec⟩ : ∃ c : Nat, c = q * y0 ∧ IntKind.u64.wrap ((q : Int) * (y0 : Int)) = (c : Int) := ⟨q * y0, rfl, by
              rw [Mul64.mulN]
              refine Mul64.wrapN _ ?_
              have : q * y0 ≤ 4294967295 * 4294967295 := Nat.mul_le_mul (by omega) (by omega)
              omega⟩
            have e5 : IntKind.u64.wrap (4294967296 * (r : Int)) = 4294967296 * (r : Int) := by rw [IntKind.wrap_u64]; omega
            have e6 : IntKind.u64.wrap (4294967296 * (r : Int) + (d0 : Int)) = 4294967296 * (r : Int) + (d0 : Int) := by rw [IntKind.wrap_u64]; omega
            have HC := Lib.hid hc
            clear hr hq hq2 hc
            by_cases ht : 4294967296 * r + d0 < c
            · have t2 : decide (4294967296 * (r : Int) + (d0 : Int) < (c : Int)) = true := by rw [decide_eq_true_eq]; omega
              have HQq : Hid (Q0 < q) := Lib.hid (HD.out.big HQ0.out (by omega) (by rw [← HC.out]; exact ht))
              clear ht
              obtain ⟨q1, hq1, e1⟩ : ∃ q1 : Nat, q = q1 + 1 ∧ IntKind.u64.wrap ((q : Int) - 1) = (q1 : Int) := ⟨q - 1, by have := HQq.out; omega, by have := HQq.out; have := HB.out.2; rw [IntKind.wrap_u64]; omega⟩
              obtain ⟨r1, hr1, e2⟩ : ∃ r1 : Nat, r1 = r + y1 ∧ IntKind.u64.wrap ((r : Int) + (y1 : Int)) = (r1 : Int) := ⟨r + y1, rfl, by have := HB.out.1; rw [IntKind.wrap_u64]; omega⟩
              have HD1 : Hid (DigI R y1 Q0 q1 r1 ∧ q = q1 + 1 ∧ r1 = r + y1) := by
                have hs := HD.out.step HQq.out
                rw [← hr1, show q - 1 = q1 by omega] at hs
                exact Lib.hid ⟨hs, hq1, hr1⟩
              clear hq1 hr1
              by_cases hb : 4294967296 ≤ r1
              · have t3 : decide ((4294967296 : Int) ≤ (r1 : Int)) = true := by rw [decide_eq_true_eq]; omega
                have HX : Hid (q1 = Q0) := Lib.hid (HD1.out.1.cut HQ0.out (by omega) by0 (by have := HD1.out.2.1; have := HB.out.2; omega) hb)
                clear hb
                go_wp2_with fail
                go_meet
                exact ⟨rfl, by rw [HX.out]⟩
              · have t3 : decide ((4294967296 : Int) ≤ (r1 : Int)) = false := by rw [decide_eq_false_iff_not]; omega
                have hb3 : Hid (r1 < 4294967296) := Lib.hid (by omega)
                clear hb
                go_wp2_with fail
                go_roundw
                case rel => exact ⟨q1, r1, rfl, rfl, Lib.hid HD1.out.1, hb3.out, by have := HD1.out.2.1; have := HB.out.2; omega, by first | rfl | trivial⟩
                case measure =>
                  have := HD1.out.2.1
                  simp [intOf]
                  omega
            · have t2 : decide (4294967296 * (r : Int) + (d0 : Int) < (c : Int)) = false := by rw [decide_eq_false_iff_not]; omega
              have HX : Hid (q = Q0) := Lib.hid (HD.out.exit HQ0.out (by omega) (by rw [← HC.out]; omega))
              clear ht
              go_wp2_with fail
              go_meet
              exact ⟨rfl, by rw [HX.out]⟩
      case rest =>
        obtain ⟨rfl, rfl⟩ := hcut
        have f7 := un21N R d0 Y Q0 (by omega) s2 (HQ0.out.trans (by rw [← HYd.out]))
        have HF : Hid ((Q : Int) * 4294967296 + (Q0 : Int) = (((h * 18446744073709551616 + l) / y : Nat) : Int) ∧ ((R : Int) * 4294967296 + (d0 : Int)) % (Y : Int) / 2 ^ s = (((h * 18446744073709551616 + l) % y : Nat) : Int)) := by
          have td := two_digits u d1 d0 Y (u * 18446744073709551616 + t) (by omega) (by rw [HTd.out])
          have z := SD.out
          rw [td.1, td.2, ← HR.out] at z
          have eQ : (u * 4294967296 + d1) / Y = Q := by rw [HQ.out, ← HYd.out]
          have eQ0 : (R * 4294967296 + d0) / Y = Q0 := by rw [HQ0.out, ← HYd.out]
          rw [eQ, eQ0] at z
          refine Lib.hid ⟨?_, ?_⟩
          · rw [← z.1]
            omega
          · rw [← z.2, ← shrN, Int.natCast_emod, Int.natCast_add, Int.natCast_mul]
            rfl
        go_wp2_with fail
        rw [HF.out.1, HF.out.2]
        go_ret2
        exact ⟨rfl, 0, rfl⟩
end Go.Proofs.Ytpbplcbdejoolaa
