/- The contracts of the document's answer for naive: plus, times, Power. -/
import Derived.Test.YtpbplcbdejoolaaRows
import Derived.Test.YtpbplcbdejoolaaNref
namespace Go.Proofs.Ytpbplcbdejoolaa
open Go.RowKit
set_option maxRecDepth 100000
set_option linter.unusedVariables false
set_option linter.unusedSimpArgs false

theorem rplus_any (a b m : Nat) (ha : a < m) (hb : b < m) (hm : m < 18446744073709551616) (w : World) :
    Calls Try.prog 54 #[.int .u64 (a : Int), .int .u64 (b : Int), .int .u64 (m : Int)] w fun e w' => e = .returned (.int .u64 (((a + b) % m : Nat) : Int)) ∧ w' = w := by
  have e1 : IntKind.u64.wrap ((m : Int) - (b : Int)) = (m : Int) - (b : Int) := by rw [IntKind.wrap_u64]; omega
  by_cases h : m ≤ a + b
  · have t1 : decide ((m : Int) - (b : Int) ≤ (a : Int)) = true := by rw [decide_eq_true_eq]; omega
    have e2 : IntKind.u64.wrap ((a : Int) - ((m : Int) - (b : Int))) = (((a + b) % m : Nat) : Int) := by
      rw [Nat.mod_eq_sub_mod h, Nat.mod_eq_of_lt (by omega), IntKind.wrap_u64]
      omega
    have HH := Lib.hid (And.intro ha (And.intro hb (And.intro hm h)))
    generalize (a + b) % m = r at e2
    clear ha hb hm h
    go_enter Try.func54, Try.ntmps54
    go_wp2_with fail
    go_ret
    exact ⟨rfl, rfl⟩
  · have t1 : decide ((m : Int) - (b : Int) ≤ (a : Int)) = false := by rw [decide_eq_false_iff_not]; omega
    have e2 : IntKind.u64.wrap ((a : Int) + (b : Int)) = (((a + b) % m : Nat) : Int) := by
      rw [Nat.mod_eq_of_lt (by omega), IntKind.wrap_u64]
      omega
    have HH := Lib.hid (And.intro ha (And.intro hb (And.intro hm h)))
    generalize (a + b) % m = r at e2
    clear ha hb hm h
    go_enter Try.func54, Try.ntmps54
    go_wp2_with fail
    go_ret
    exact ⟨rfl, rfl⟩
theorem dbl_mod (a q m : Nat) : ((a * q % m) + (a * q % m)) % m = a * (2 * q) % m := by
  rw [← Nat.add_mod, Nat.mul_left_comm, Nat.two_mul]
theorem more_mod (a q m : Nat) (ha : a < m) : ((a * q % m) + a) % m = a * (q + 1) % m := by
  rw [Nat.mul_succ]
  conv => rhs; rw [Nat.add_mod, Nat.mod_eq_of_lt ha]
set_option maxHeartbeats 1000000 in
theorem rtimes_any (a b m : Nat) (ha : a < m) (hb : b < 18446744073709551616) (hm : m < 18446744073709551616) (w : World) :
    Calls Try.prog 46 #[.int .u64 (a : Int), .int .u64 (b : Int), .int .u64 (m : Int)] w fun e w' => e = .returned (.int .u64 ((a * b % m : Nat) : Int)) ∧ w' = w := by
  have HA := Lib.hid (And.intro ha (And.intro hb hm))
  have h0 : Hid (0 = a * (b / 2 ^ 64) % m) := by
    rw [Nat.div_eq_of_lt (by omega), Nat.mul_zero, Nat.zero_mod]
    exact Lib.hid rfl
  clear ha hb hm
  go_enter Try.func46, Try.ntmps46
  go_wp2_with fail
  go_loopw [7, 8] (fun xv i w1 => ∃ (k : Nat) (x : Nat), k ≤ 64 ∧ i = .int .i64 ((k : Int) - 1) ∧ xv = .int .u64 (x : Int) ∧ Hid (x = a * (b / 2 ^ k) % m) ∧ Hid (w1 = w)) (fun _ i _ => (intOf i + 1).toNat)
  case atStart => exact ⟨64, 0, Nat.le_refl _, rfl, rfl, h0, Lib.hid rfl⟩
  case round =>
    obtain ⟨k, x, hk, rfl, rfl, HX, HWW⟩ := hrel
    rcases k with _ | j
    · have t1 : decide ((0 : Int) ≤ ((0 : Nat) : Int) - 1) = false := by decide
      have hX : Hid ((x : Int) = ((a * b % m : Nat) : Int)) := by
        have := HX.out
        rw [Nat.pow_zero, Nat.div_one] at this
        rw [this]
        exact Lib.hid rfl
      go_wp2_with fail
      rw [hX.out]
      go_ret
      exact ⟨rfl, HWW.out⟩
    · have ej : ((j + 1 : Nat) : Int) - 1 = (j : Int) := by omega
      rw [ej]
      have t1 : decide ((0 : Int) ≤ (j : Int)) = true := by simp
      have hxm : x < m := by rw [HX.out]; exact Nat.mod_lt _ (by have := HA.out.1; omega)
      have HXM := Lib.hid hxm
      clear hxm ej
      go_wp2_with fail
      refine (rplus_any x x m HXM.out HXM.out HA.out.2.2 _).mono ?_
      rintro e w2 ⟨rfl, rfl⟩
      obtain ⟨x2, hx2⟩ : ∃ x2, (x + x) % m = x2 := ⟨_, rfl⟩
      rw [hx2]
      have HX2 : Hid (x2 = a * (2 * (b / 2 ^ (j + 1))) % m) := by
        rw [← hx2, HX.out, dbl_mod]
        exact Lib.hid rfl
      clear hx2
      have hbl : b / 2 ^ j % 2 < 2 := Nat.mod_lt _ (by omega)
      have half := half_exp b j
      by_cases hbit : b / 2 ^ j % 2 = 1
      · have hz : (((b : Int) / 2 ^ j).tmod 2 == 1) = true := by
          rw [shrN, Int.tmod_eq_emod_of_nonneg (Int.natCast_nonneg _), show ((b / 2 ^ j : Nat) : Int) % 2 = ((b / 2 ^ j % 2 : Nat) : Int) by omega, hbit]
          rfl
        rw [hbit] at half
        have HH := Lib.hid half
        clear hbit hbl half
        go_wp2_with fail
        have hx2m : x2 < m := by rw [HX2.out]; exact Nat.mod_lt _ (by have := HA.out.1; omega)
        refine (rplus_any x2 a m hx2m HA.out.1 HA.out.2.2 _).mono ?_
        rintro e w4 ⟨rfl, rfl⟩
        clear hx2m
        obtain ⟨x3, hx3⟩ : ∃ x3, (x2 + a) % m = x3 := ⟨_, rfl⟩
        rw [hx3]
        have HX3 := Lib.hid hx3
        clear hx3
        go_wp2_with fail
        go_roundw
        case rel => exact ⟨j, x3, by omega, by go_num, rfl, Lib.hid (by rw [← HX3.out, HX2.out, more_mod _ _ _ HA.out.1, ← HH.out]), HWW⟩
        case measure => simp [intOf]
      · have hz : (((b : Int) / 2 ^ j).tmod 2 == 1) = false := by
          rw [shrN, Int.tmod_eq_emod_of_nonneg (Int.natCast_nonneg _), show ((b / 2 ^ j : Nat) : Int) % 2 = ((b / 2 ^ j % 2 : Nat) : Int) by omega, show b / 2 ^ j % 2 = 0 by omega]
          rfl
        rw [show b / 2 ^ j % 2 = 0 by omega, Nat.add_zero] at half
        have HH := Lib.hid half
        clear hbit hbl half
        go_wp2_with fail
        go_roundw
        case rel => exact ⟨j, x2, by omega, by go_num, rfl, Lib.hid (by rw [HX2.out, ← HH.out]), HWW⟩
        case measure => simp [intOf]
set_option maxHeartbeats 2000000 in
theorem rpower_zero (p : Value) (F : Nat → Prop) (o : Option (List Rn)) (base ex : Nat) (w : World) (h : LgR w p F o) :
    Calls Try.prog 28 #[p, .int .u64 (base : Int), .int .u64 (ex : Int), .int .u64 0] w fun e w' => e = .returned (.tuple #[.int .u64 0, .int .i64 2]) ∧ w' = w := by
  have H := Lib.hid h
  clear h
  go_enter Try.func28, Try.ntmps28
  go_wp2
  go_ret2
  exact ⟨rfl, rfl⟩
set_option maxHeartbeats 2000000 in
theorem rpower_any (p : Value) (F : Nat → Prop) (o : Option (List Rn)) (base ex m N : Nat) (w : World) (h : LgR w p F o) (hf : FewO o N) (hN : N + 64 ≤ 1000000) (hb : base < 18446744073709551616) (he : ex < 18446744073709551616) (hm : m < 18446744073709551616) (h0 : 0 < m) :
    Calls Try.prog 28 #[p, .int .u64 (base : Int), .int .u64 (ex : Int), .int .u64 (m : Int)] w fun e w' => e = .returned (.tuple #[.int .u64 ((base ^ ex % m : Nat) : Int), .int .i64 0]) ∧ LaidR p F (powO ex 64 o) w w' := by
  have H := Lib.hid h
  have HF0 := Lib.hid hf
  have HB := Lib.hid (And.intro hb (And.intro he (And.intro hm h0)))
  clear h hf
  have b1 : ((m : Int) == 0) = false := by simp; omega
  have b2 : (m : Int) ≠ 0 := by omega
  have hst : ∃ x : Nat, x = base ^ (ex / 2 ^ 64) % m ∧ (1 : Int) % (m : Int) = (x : Int) := by
    refine ⟨1 % m, ?_, by rw [Int.natCast_emod]; rfl⟩
    rw [Nat.div_eq_of_lt (by omega), Nat.pow_zero]
  obtain ⟨x0, hx0, ex0⟩ := hst
  obtain ⟨bm, hbm, ebm⟩ : ∃ bm : Nat, bm = base % m ∧ (base : Int) % (m : Int) = (bm : Int) := ⟨base % m, rfl, by rw [Int.natCast_emod]⟩
  have HX0 := Lib.hid hx0
  have HBM := Lib.hid hbm
  clear hb he hm h0 hx0 hbm
  go_enter Try.func28, Try.ntmps28
  go_wp2_with fail
  simp only [ex0, ebm]
  go_loopw [10, 11] (fun xv i w1 => ∃ (k : Nat) (x : Nat) (o1 : Option (List Rn)), k ≤ 64 ∧ i = .int .i64 ((k : Int) - 1) ∧ xv = .int .u64 (x : Int) ∧ Hid (x = base ^ (ex / 2 ^ k) % m) ∧ Hid (powO ex k o1 = powO ex 64 o) ∧ Hid (FewO o1 (N + (64 - k))) ∧ Hid (LaidR p F o1 w w1)) (fun _ i _ => (intOf i + 1).toNat)
  case atStart => exact ⟨64, x0, o, Nat.le_refl _, rfl, rfl, HX0, Lib.hid rfl, HF0, Lib.hid (LaidR.same H.out 0 rfl)⟩
  case round =>
    obtain ⟨k, x, o1, hk, rfl, rfl, HX, HO, HF, HL⟩ := hrel
    rcases k with _ | j
    · have t1 : decide ((0 : Int) ≤ ((0 : Nat) : Int) - 1) = false := by decide
      go_wp2_with fail
      go_ret2
      refine ⟨?_, ?_⟩
      · have := HX.out
        rw [Nat.pow_zero, Nat.div_one] at this
        rw [this]
        rfl
      · rw [← HO.out]
        exact HL.out
    · have ej : ((j + 1 : Nat) : Int) - 1 = (j : Int) := by omega
      rw [ej]
      have t1 : decide ((0 : Int) ≤ (j : Int)) = true := by simp
      have hxm : x < m := by rw [HX.out]; exact Nat.mod_lt _ HB.out.2.2.2
      have HXM := Lib.hid hxm
      clear hxm ej
      go_wp2_with fail
      refine (rtimes_any x x m HXM.out (Nat.lt_trans HXM.out HB.out.2.2.1) HB.out.2.2.1 _).mono ?_
      rintro e w2 ⟨rfl, hw2⟩
      have HW2 := Lib.hid hw2
      clear hw2
      obtain ⟨x2, hx2⟩ : ∃ x2, x * x % m = x2 := ⟨_, rfl⟩
      rw [hx2]
      have HX2 : Hid (x2 = base ^ (2 * (ex / 2 ^ (j + 1))) % m) := by
        rw [← hx2, HX.out, pow_two]
        exact Lib.hid rfl
      clear hx2
      obtain ⟨b, hbb⟩ : ∃ b : Bool, decide (ex / 2 ^ j % 2 = 1) = b := ⟨_, rfl⟩
      have hbit : (((ex : Int) / 2 ^ j).tmod 2 == 1) = b := by
        rw [shrN, Int.tmod_eq_emod_of_nonneg (Int.natCast_nonneg _), show ((ex / 2 ^ j : Nat) : Int) % 2 = ((ex / 2 ^ j % 2 : Nat) : Int) by omega, ← hbb]
        have : ex / 2 ^ j % 2 < 2 := Nat.mod_lt _ (by omega)
        generalize ex / 2 ^ j % 2 = z at this
        rcases z with _ | _ | z
        · rfl
        · rfl
        · omega
      have HBB := Lib.hid hbb
      clear hbb
      go_wp2_with fail
      obtain ⟨F1, l1, l2, l3⟩ := HL.out
      have L1 := Lib.hid l1
      have L2 := Lib.hid (And.intro l2 l3)
      clear l1 l2 l3
      refine (rbranch_any p F1 o1 b _ (by rw [HW2.out]; exact L1.out) (HF.out.room (by omega))).mono ?_
      rintro e w3 ⟨rfl, h6⟩
      have H6 : Hid (LaidR p F (noteB o1 b) w w3) := by
        have h7 := LaidR.pre (w := wr) (w1 := w2) (by rw [HW2.out]; exact Below.refl _ _) h6
        exact Lib.hid (LaidR.step L2.out.1 L2.out.2 h7)
      clear h6
      have HF2 : Hid (FewO (noteB o1 b) (N + (64 - j))) := by
        rw [show N + (64 - j) = N + (64 - (j + 1)) + 1 by omega]
        exact HF.out.note 9 (yesI b)
      have HO2 : Hid (powO ex j (noteB o1 b) = powO ex 64 o) := by
        rw [← HBB.out]
        exact HO
      cases b with
      | false =>
        go_wp2_with fail
        go_roundw
        case rel => exact ⟨j, x2, _, by omega, by go_num, rfl, Lib.hid (by
          rw [HX2.out]
          have e := half_exp ex j
          have z := HBB.out
          have z2 : ex / 2 ^ j % 2 < 2 := Nat.mod_lt _ (by omega)
          have z3 : ex / 2 ^ j % 2 = 0 := by
            have := of_decide_eq_false z
            omega
          rw [z3, Nat.add_zero] at e
          rw [← e]), HO2, HF2, H6⟩
        case measure => simp [intOf]
      | true =>
        go_wp2_with fail
        have hx2m : x2 < m := by rw [HX2.out]; exact Nat.mod_lt _ HB.out.2.2.2
        have hbm : bm < m := by rw [HBM.out]; exact Nat.mod_lt _ HB.out.2.2.2
        refine (rtimes_any x2 bm m hx2m (Nat.lt_trans hbm HB.out.2.2.1) HB.out.2.2.1 _).mono ?_
        rintro e w4 ⟨rfl, hw4⟩
        have H7 : Hid (LaidR p F (noteB o1 true) w w4) := by rw [hw4]; exact H6
        clear hw4 hx2m hbm
        obtain ⟨x3, hx3⟩ : ∃ x3, x2 * bm % m = x3 := ⟨_, rfl⟩
        rw [hx3]
        have HX3 := Lib.hid hx3
        clear hx3
        go_wp2_with fail
        go_roundw
        case rel => exact ⟨j, x3, _, by omega, by go_num, rfl, Lib.hid (by
          rw [← HX3.out, HX2.out, HBM.out, pow_more]
          have e := half_exp ex j
          rw [of_decide_eq_true HBB.out] at e
          rw [← e]), HO2, HF2, H7⟩
        case measure => simp [intOf]
end Go.Proofs.Ytpbplcbdejoolaa
