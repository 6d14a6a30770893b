/- The contracts of naive's times and Power: a power modulo a number. -/
import Derived.Test.YtpbplcbdejoolaaRows
import Derived.Test.YtpbplcbdejoolaaNaive
import Derived.Test.YtpbplcbdejoolaaBits
import Derived.Test.YtpbplcbdejoolaaDiv
namespace Go.Proofs.Ytpbplcbdejoolaa
open Go.RowKit
set_option linter.unusedVariables false
set_option linter.unusedSimpArgs false
set_option maxRecDepth 100000

theorem prod_parts (a b m : Nat) (ha : a < m) (hb : b < 18446744073709551616) : a * b / 18446744073709551616 < m := by
  rw [Nat.div_lt_iff_lt_mul (by omega)]
  refine Nat.lt_of_le_of_lt (Nat.mul_le_mul_left a (Nat.le_of_lt hb)) ?_
  exact Nat.mul_lt_mul_of_pos_right ha (by omega)
set_option maxHeartbeats 1000000 in
theorem times_any (a b m : Nat) (ha : a < m) (hb : b < m) (hm : m < 18446744073709551616) (w : World) :
    Calls Try.prog 39 #[.int .u64 (a : Int), .int .u64 (b : Int), .int .u64 (m : Int)] w fun e w' => e = .returned (.int .u64 ((a * b % m : Nat) : Int)) ∧ ∃ d, w' = w.drewN d := by
  have hp := prod_parts a b m ha (Nat.lt_trans hb hm)
  have hl : a * b % 18446744073709551616 < 18446744073709551616 := Nat.mod_lt _ (by omega)
  have he : a * b / 18446744073709551616 * 18446744073709551616 + a * b % 18446744073709551616 = a * b := Nat.div_add_mod' _ _
  have HA := Lib.hid (And.intro ha hb)
  obtain ⟨ab, hab⟩ : ∃ ab, a * b = ab := ⟨_, rfl⟩
  have M := mul64_any a b (Nat.lt_trans ha hm) (Nat.lt_trans hb hm) w
  rw [hab] at hp hl he M ⊢
  clear hab
  have HE := Lib.hid he
  have HM := Lib.hid M
  clear ha hb he M HA
  go_enter Try.func39, Try.ntmps39
  go_wp2_with fail
  refine HM.out.mono ?_
  rintro e w2 ⟨rfl, rfl⟩
  clear HM
  generalize ab / 18446744073709551616 = hi at hp HE
  generalize ab % 18446744073709551616 = lo at hl HE
  go_wp2_with fail
  refine (div64_any hi lo m hp hl hm _).mono ?_
  rintro e w3 ⟨rfl, d, rfl⟩
  rw [HE.out]
  go_wp2_with fail
  go_ret
  exact ⟨by rw [Int.natCast_emod]; rfl, d, rfl⟩

theorem pow_two (b e m : Nat) : (b ^ e % m) * (b ^ e % m) % m = b ^ (2 * e) % m := by
  rw [← Nat.mul_mod, ← Nat.pow_add, Nat.two_mul]
theorem pow_more (b e m : Nat) : (b ^ e % m) * (b % m) % m = b ^ (e + 1) % m := by
  rw [← Nat.mul_mod, Nat.pow_succ]
theorem half_exp (e k : Nat) : e / 2 ^ k = 2 * (e / 2 ^ (k + 1)) + e / 2 ^ k % 2 := by
  rw [Nat.pow_succ, ← Nat.div_div_eq_div_mul]
  omega
/-- what Power records of the bits below k -/
def powO (e : Nat) : Nat → Option (List Rn) → Option (List Rn)
  | 0, o => o
  | k + 1, o => powO e k (noteB o (decide (e / 2 ^ k % 2 = 1)))
set_option maxHeartbeats 2000000 in
theorem power_zero (p : Value) (F : Nat → Prop) (o : Option (List Rn)) (base ex : Nat) (w : World) (h : LgP w p F o) :
    Calls Try.prog 14 #[p, .int .u64 (base : Int), .int .u64 (ex : Int), .int .u64 0] w fun e w' => e = .returned (.tuple #[.int .u64 0, .int .i64 2]) ∧ w' = w := by
  have H := Lib.hid h
  clear h
  go_enter Try.func14, Try.ntmps14
  go_wp2
  go_ret2
  exact ⟨rfl, rfl⟩
set_option maxHeartbeats 2000000 in
theorem power_any (p : Value) (F : Nat → Prop) (o : Option (List Rn)) (base ex m N : Nat) (w : World) (h : LgP w p F o) (hf : FewO o N) (hN : N + 64 ≤ 1000000) (hb : base < 18446744073709551616) (he : ex < 18446744073709551616) (hm : m < 18446744073709551616) (h0 : 0 < m) :
    Calls Try.prog 14 #[p, .int .u64 (base : Int), .int .u64 (ex : Int), .int .u64 (m : Int)] w fun e w' => e = .returned (.tuple #[.int .u64 ((base ^ ex % m : Nat) : Int), .int .i64 0]) ∧ LaidP p F (powO ex 64 o) w w' := by
  have H := Lib.hid h
  have HF0 := Lib.hid hf
  have HB := Lib.hid (And.intro hb (And.intro he (And.intro hm h0)))
  clear h hf
  have b1 : ((m : Int) == 0) = false := by simp; omega
  have b2 : (m : Int) ≠ 0 := by omega
  have hst : ∃ x : Nat, x = base ^ (ex / 2 ^ 64) % m ∧ (1 : Int) % (m : Int) = (x : Int) := by
    refine ⟨1 % m, ?_, by rw [Int.natCast_emod]; rfl⟩
    rw [Nat.div_eq_of_lt (by omega), Nat.pow_zero]
  obtain ⟨x0, hx0, ex0⟩ := hst
  obtain ⟨bm, hbm, ebm⟩ : ∃ bm : Nat, bm = base % m ∧ (base : Int) % (m : Int) = (bm : Int) := ⟨base % m, rfl, by rw [Int.natCast_emod]⟩
  have HX0 := Lib.hid hx0
  have HBM := Lib.hid hbm
  clear hb he hm h0 hx0 hbm
  go_enter Try.func14, Try.ntmps14
  go_wp2_with fail
  go_region
  go_wp2_with fail
  simp only [ex0, ebm]
  go_loopw [10, 12] (fun xv i w1 => ∃ (k : Nat) (x : Nat) (o1 : Option (List Rn)), k ≤ 64 ∧ i = .int .i64 ((k : Int) - 1) ∧ xv = .int .u64 (x : Int) ∧ Hid (x = base ^ (ex / 2 ^ k) % m) ∧ Hid (powO ex k o1 = powO ex 64 o) ∧ Hid (FewO o1 (N + (64 - k))) ∧ Hid (LaidP p F o1 w w1)) (fun _ i _ => (intOf i + 1).toNat)
  case atStart => exact ⟨64, x0, o, Nat.le_refl _, rfl, rfl, HX0, Lib.hid rfl, HF0, Lib.hid (LaidP.same H.out 1 rfl)⟩
  case round =>
    obtain ⟨k, x, o1, hk, rfl, rfl, HX, HO, HF, HL⟩ := hrel
    rcases k with _ | j
    · have t1 : decide ((0 : Int) ≤ ((0 : Nat) : Int) - 1) = false := by decide
      go_wp2_with fail
      go_ret2
      refine ⟨?_, ?_⟩
      · have := HX.out
        rw [Nat.pow_zero, Nat.div_one] at this
        rw [this]
        rfl
      · rw [← HO.out]
        exact HL.out
    · have ej : ((j + 1 : Nat) : Int) - 1 = (j : Int) := by omega
      rw [ej]
      have t1 : decide ((0 : Int) ≤ (j : Int)) = true := by simp
      have hxm : x < m := by rw [HX.out]; exact Nat.mod_lt _ HB.out.2.2.2
      have HXM := Lib.hid hxm
      clear hxm ej
      go_wp2_with fail
      refine (times_any x x m HXM.out HXM.out HB.out.2.2.1 _).mono ?_
      rintro e w2 ⟨rfl, d, hw2⟩
      have HW2 := Lib.hid hw2
      clear hw2
      obtain ⟨x2, hx2⟩ : ∃ x2, x * x % m = x2 := ⟨_, rfl⟩
      rw [hx2]
      have HX2 : Hid (x2 = base ^ (2 * (ex / 2 ^ (j + 1))) % m) := by
        rw [← hx2, HX.out, pow_two]
        exact Lib.hid rfl
      clear hx2
      obtain ⟨b, hbb⟩ : ∃ b : Bool, decide (ex / 2 ^ j % 2 = 1) = b := ⟨_, rfl⟩
      have hbit : (bits .and .u64 ((ex : Int) / 2 ^ j) 1 == 1) = b := by
        have e1 := bits_and_u64_nat (ex / 2 ^ j) 1 (Nat.lt_of_le_of_lt (Nat.div_le_self _ _) HB.out.2.1) (by omega)
        rw [shrN, show (1 : Int) = ((1 : Nat) : Int) from rfl, e1, Nat.and_one_is_mod, ← hbb]
        have : ex / 2 ^ j % 2 < 2 := Nat.mod_lt _ (by omega)
        generalize ex / 2 ^ j % 2 = z at this
        rcases z with _ | _ | z
        · rfl
        · rfl
        · omega
      have HBB := Lib.hid hbb
      clear hbb
      go_wp2_with fail
      obtain ⟨F1, l1, l2, l3⟩ := HL.out
      have L1 := Lib.hid l1
      have L2 := Lib.hid (And.intro l2 l3)
      clear l1 l2 l3
      refine (branch_any p F1 o1 b _ (by rw [HW2.out]; exact L1.out.draw d) (HF.out.room (by omega))).mono ?_
      rintro e w3 ⟨rfl, h6⟩
      have H6 : Hid (LaidP p F (noteB o1 b) w w3) := by
        have h7 := LaidP.pre (w := wr) (w1 := w2) (by rw [HW2.out]; exact ⟨rfl, rfl, rfl, Nat.le_refl _, fun _ _ => rfl⟩) h6
        exact Lib.hid (LaidP.step L2.out.1 L2.out.2 h7)
      clear h6
      have HF2 : Hid (FewO (noteB o1 b) (N + (64 - j))) := by
        rw [show N + (64 - j) = N + (64 - (j + 1)) + 1 by omega]
        exact HF.out.note 9 (yesI b)
      have HO2 : Hid (powO ex j (noteB o1 b) = powO ex 64 o) := by
        rw [← HBB.out]
        exact HO
      cases b with
      | false =>
        go_wp2_with fail
        go_roundw
        case rel => exact ⟨j, x2, _, by omega, by go_num, rfl, Lib.hid (by
          rw [HX2.out]
          have e := half_exp ex j
          have z := HBB.out
          have z2 : ex / 2 ^ j % 2 < 2 := Nat.mod_lt _ (by omega)
          have z3 : ex / 2 ^ j % 2 = 0 := by
            have := of_decide_eq_false z
            omega
          rw [z3, Nat.add_zero] at e
          rw [← e]), HO2, HF2, H6⟩
        case measure => simp [intOf]
      | true =>
        go_wp2_with fail
        have hx2m : x2 < m := by rw [HX2.out]; exact Nat.mod_lt _ HB.out.2.2.2
        have hbm : bm < m := by rw [HBM.out]; exact Nat.mod_lt _ HB.out.2.2.2
        refine (times_any x2 bm m hx2m hbm HB.out.2.2.1 _).mono ?_
        rintro e w4 ⟨rfl, d2, hw4⟩
        have H7 : Hid (LaidP p F (noteB o1 true) w w4) := by rw [hw4]; exact Lib.hid (H6.out.draw d2)
        clear hw4 hx2m hbm
        obtain ⟨x3, hx3⟩ : ∃ x3, x2 * bm % m = x3 := ⟨_, rfl⟩
        rw [hx3]
        have HX3 := Lib.hid hx3
        clear hx3
        go_wp2_with fail
        go_roundw
        case rel => exact ⟨j, x3, _, by omega, by go_num, rfl, Lib.hid (by
          rw [← HX3.out, HX2.out, HBM.out, pow_more]
          have e := half_exp ex j
          rw [of_decide_eq_true HBB.out] at e
          rw [← e]), HO2, HF2, H7⟩
        case measure => simp [intOf]
end Go.Proofs.Ytpbplcbdejoolaa
