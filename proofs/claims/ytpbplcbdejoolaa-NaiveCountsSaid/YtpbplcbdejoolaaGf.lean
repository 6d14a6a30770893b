/- The contracts of package gf8: each call returns the plain number; the world is as it was but for draws. Conditions: the arguments are bytes. -/
import Derived.Test.YtpbplcbdejoolaaRows
import Derived.Test.YtpbplcbdejoolaaGfBox
import Derived.WalkKit
import Derived.WalkSpells
import Derived.WalkLawsBesides
import Derived.Deep.QuietTactic
import Derived.BigQuiet
import Derived.Lib.Hide
namespace Go.Proofs.Ytpbplcbdejoolaa
open Go.RowKit
set_option maxRecDepth 100000

theorem bx8 (x y : Nat) (hx : x < 256) (hy : y < 256) : bits .xor .u8 (x : Int) (y : Int) = ((x ^^^ y : Nat) : Int) := u8_xor_nat x y hx hy
theorem neg_bit (b : Nat) : -bits .and .u8 (b : Int) 1 % 256 = if b % 2 = 1 then (255 : Int) else 0 := by
  have h : bits .and .u8 (b : Int) 1 = ((b % 2 : Nat) : Int) := by
    have h0 : bits .and .u8 (b : Int) 1 = ((BitVec.ofInt 8 (b : Int) &&& 1#8).toNat : Int) % 256 := by
      rw [show bits .and .u8 (b : Int) 1 = IntKind.u8.wrap ((BitVec.ofInt 8 (b : Int) &&& BitVec.ofInt 8 1).toNat : Int) from rfl, IntKind.wrap_u8]
      rfl
    have h1 : (BitVec.ofInt 8 (b : Int) &&& 1#8).toNat = b % 2 := by
      rw [BitVec.toNat_and, BitVec.ofInt_natCast, BitVec.toNat_ofNat]
      show (b % 256) &&& 1 = b % 2
      rw [Nat.and_one_is_mod]
      omega
    rw [h0, h1]
    omega
  rw [h]
  split <;> omega
theorem and_255 (a : Nat) (ha : a < 256) : bits .and .u8 (a : Int) 255 = (a : Int) := by
  have e : bits .and .u8 (a : Int) ((255 : Nat) : Int) = ((a &&& 255 : Nat) : Int) := u8_and_nat a 255 ha (by omega)
  have f : a &&& 255 = a := by rw [show (255 : Nat) = 2 ^ 8 - 1 from rfl, Nat.and_two_pow_sub_one_eq_mod, Nat.mod_eq_of_lt ha]
  rw [f] at e
  exact e
theorem and_0 (a : Nat) (ha : a < 256) : bits .and .u8 (a : Int) 0 = 0 := by
  have e : bits .and .u8 (a : Int) ((0 : Nat) : Int) = ((a &&& 0 : Nat) : Int) := u8_and_nat a 0 ha (by omega)
  simpa using e
theorem mul_step (q a b : Nat) (hq : q < 256) (ha : a < 256) :
    bits .xor .u8 (q : Int) (bits .and .u8 (a : Int) (-bits .and .u8 (b : Int) 1 % 256)) = ((q ^^^ (a * (b % 2)) : Nat) : Int) := by
  rw [neg_bit]
  rcases Nat.mod_two_eq_zero_or_one b with e | e
  · rw [if_neg (by omega), and_0 a ha, e, Nat.mul_zero]; exact bx8 q 0 hq (by omega)
  · rw [if_pos e, and_255 a ha, e, Nat.mul_one]; exact bx8 q a hq ha
theorem xt_step (a : Nat) (ha : a < 256) :
    bits .xor .u8 ((a : Int) * 2 % 256) (bits .and .u8 27 (-((a : Int) / 128) % 256)) = ((xt a : Nat) : Int) := by
  unfold xt
  have e1 : (a : Int) * 2 % 256 = ((a * 2 % 256 : Nat) : Int) := by omega
  rw [e1]
  by_cases h : a < 128
  · have e : -((a : Int) / 128) % 256 = 0 := by omega
    have f : a / 128 = 0 := by omega
    rw [e, f]
    have g : bits .and .u8 27 0 = 0 := by decide +kernel
    rw [g]
    exact bx8 (a * 2 % 256) 0 (by omega) (by omega)
  · have e : -((a : Int) / 128) % 256 = 255 := by omega
    have f : a / 128 = 1 := by omega
    rw [e, f]
    have g : bits .and .u8 27 255 = 27 := by decide +kernel
    rw [g]
    exact bx8 (a * 2 % 256) 27 (by omega) (by omega)

set_option maxHeartbeats 400000 in
theorem mul_nat (a b : Nat) (w : World) (ha : a < 256) (hb : b < 256) :
    Calls Try.prog 48 #[.int .u8 (a : Int), .int .u8 (b : Int)] w fun e w' => e = .returned (.int .u8 (gm a b : Nat)) ∧ w = w' := by
  have H0 : Hid (gmN 8 0 a b = gm a b) := rfl
  go_enter Try.func48, Try.ntmps48
  go_wp2
  go_loop [0, 1, 5, 6] (fun x y p i => ∃ k a1 b1 q : Nat, k ≤ 8 ∧ a1 < 256 ∧ b1 < 256 ∧ q < 256 ∧ Hid (gmN (8 - k) q a1 b1 = gm a b) ∧ x = .int .u8 (a1 : Int) ∧ y = .int .u8 (b1 : Int) ∧ p = .int .u8 (q : Int) ∧ i = .int .i64 (k : Int)) (fun _ _ _ i => 8 - (intOf i).toNat)
  case atStart => exact ⟨0, a, b, 0, by omega, ha, hb, by omega, H0, rfl, rfl, rfl, rfl⟩
  case round =>
    obtain ⟨k, a1, b1, q, hk, h1, h2, h3, H1, rfl, rfl, rfl, rfl⟩ := hrel
    clear H0
    by_cases hlt : k < 8
    · go_wp2
      go_round
      case rel =>
        refine ⟨k + 1, xt a1, b1 / 2, q ^^^ (a1 * (b1 % 2)), by omega, xt_lt a1 h1, by omega, lt_xor h3 (mul_bit_lt a1 b1 h1), ?_, ?_, ?_, ?_, by go_num⟩
        · have h := H1.out
          rw [show 8 - k = (8 - (k + 1)) + 1 from by omega] at h
          exact h
        · rw [xt_step a1 h1]
        · congr 1
        · rw [mul_step q a1 b1 h3 h1]
      case measure => simp [intOf]; omega
    · obtain rfl : k = 8 := by omega
      go_wp2
      go_ret
      have h : q = gm a b := H1.out
      rw [← h]
      exact ⟨rfl, rfl⟩
theorem mul_any (a b : Int) (w : World) (ha : 0 ≤ a) (ha' : a < 256) (hb : 0 ≤ b) (hb' : b < 256) :
    Calls Try.prog 48 #[.int .u8 a, .int .u8 b] w fun e w' => e = .returned (.int .u8 (gmI a b)) ∧ w = w' := by
  obtain ⟨x, rfl⟩ := Int.eq_ofNat_of_zero_le ha
  obtain ⟨y, rfl⟩ := Int.eq_ofNat_of_zero_le hb
  exact mul_nat x y w (by omega) (by omega)

set_option maxHeartbeats 400000 in
theorem inv_any (a : Int) (w : World) (ha : 0 ≤ a) (ha' : a < 256) :
    Calls Try.prog 37 #[.int .u8 a] w fun e w' => e = .returned (.int .u8 (giI a)) ∧ w = w' := by
  obtain ⟨x, rfl⟩ := Int.eq_ofNat_of_zero_le ha
  have H0 : Hid (invN 7 1 x = gi x) := rfl
  go_enter Try.func37, Try.ntmps37
  go_wp2
  go_loop [0, 3, 4] (fun y p i => ∃ k a1 q : Nat, k ≤ 7 ∧ a1 < 256 ∧ q < 256 ∧ Hid (invN (7 - k) q a1 = gi x) ∧ y = .int .u8 (a1 : Int) ∧ p = .int .u8 (q : Int) ∧ i = .int .i64 (k : Int)) (fun _ _ i => 7 - (intOf i).toNat)
  case atStart => exact ⟨0, x, 1, by omega, by omega, by omega, H0, rfl, rfl, rfl⟩
  case round =>
    obtain ⟨k, a1, q, hk, h1, h3, H1, rfl, rfl, rfl⟩ := hrel
    clear H0
    by_cases hlt : k < 7
    · go_wp2_with fail
      refine (mul_nat _ _ _ h1 h1).mono ?_
      rintro e w' ⟨rfl, rfl⟩
      go_wp2_with fail
      refine (mul_nat _ _ _ h3 (gm_lt a1 a1 h1)).mono ?_
      rintro e w' ⟨rfl, rfl⟩
      go_wp2
      go_round
      case rel =>
        have hg := gm_lt a1 a1 h1
        refine ⟨k + 1, gm a1 a1, gm q (gm a1 a1), by omega, hg, gm_lt _ _ h3, ?_, rfl, rfl, by go_num⟩
        have h := H1.out
        rw [show 7 - k = (7 - (k + 1)) + 1 from by omega] at h
        exact h
      case measure => simp [intOf]; omega
    · obtain rfl : k = 7 := by omega
      go_wp2
      go_ret
      have h : q = gi x := H1.out
      unfold giI
      rw [Int.toNat_natCast, ← h]
      exact ⟨rfl, rfl⟩

theorem tn_form (a n : Nat) (ha : a < 256) : bits .or .u8 ((a : Int) * 2 ^ n % 256) ((a : Int) / 2 ^ (8 - n)) = ((tn a n : Nat) : Int) := by
  have e1 : (a : Int) * 2 ^ n % 256 = ((a * 2 ^ n % 256 : Nat) : Int) := by rw [Int.natCast_emod, Int.natCast_mul, Int.natCast_pow]; rfl
  have e2 : (a : Int) / 2 ^ (8 - n) = ((a / 2 ^ (8 - n) : Nat) : Int) := by rw [Int.natCast_ediv, Int.natCast_pow]; rfl
  rw [e1, e2]
  exact u8_or_nat _ _ (by omega) (Nat.lt_of_le_of_lt (Nat.div_le_self _ _) ha)
set_option maxHeartbeats 400000 in
theorem turn_any (a n : Int) (w : World) (ha : 0 ≤ a) (ha' : a < 256) (hb : 0 ≤ n) (hb' : n < 8) :
    Calls Try.prog 38 #[.int .u8 a, .int .i64 n] w fun e w' => e = .returned (.int .u8 (tnI a n)) ∧ ∃ m, w' = w.drewN m := by
  obtain ⟨x, rfl⟩ := Int.eq_ofNat_of_zero_le ha
  obtain ⟨y, rfl⟩ := Int.eq_ofNat_of_zero_le hb
  have e := tn_form x y (by omega)
  have E := Lib.hid e
  clear e
  go_enter Try.func38, Try.ntmps38
  go_wp2
  go_quiet (fail)
  go_wp2
  go_ret
  refine ⟨?_, nq, rfl⟩
  unfold tnI
  rw [Int.toNat_natCast, Int.toNat_natCast, ← E.out]
  simp

theorem bx (x y : Int) (h1 : 0 ≤ x) (h2 : x < 256) (h3 : 0 ≤ y) (h4 : y < 256) : bits .xor .u8 x y = ((x.toNat ^^^ y.toNat : Nat) : Int) := u8_xor x y h1 h2 h3 h4
theorem box_form (a : Int) :
    bits .xor .u8 (bits .xor .u8 (bits .xor .u8 (bits .xor .u8 (bits .xor .u8 (giI a) (tnI (giI a) 1)) (tnI (giI a) 2)) (tnI (giI a) 3)) (tnI (giI a) 4)) 99 = gboxI a := by
  have h := gi_lt a.toNat
  have t1 := tn_lt (gi a.toNat) 1 h (by omega)
  have t2 := tn_lt (gi a.toNat) 2 h (by omega)
  have t3 := tn_lt (gi a.toNat) 3 h (by omega)
  have t4 := tn_lt (gi a.toNat) 4 h (by omega)
  unfold giI tnI gboxI gbox
  simp only [Int.toNat_natCast, show (1 : Int).toNat = 1 from rfl, show (2 : Int).toNat = 2 from rfl, show (3 : Int).toNat = 3 from rfl, show (4 : Int).toNat = 4 from rfl]
  rw [bx8 _ _ h t1, bx8 _ _ (lt_xor h t1) t2, bx8 _ _ (lt_xor (lt_xor h t1) t2) t3, bx8 _ _ (lt_xor (lt_xor (lt_xor h t1) t2) t3) t4]
  exact bx8 _ 99 (lt_xor (lt_xor (lt_xor (lt_xor h t1) t2) t3) t4) (by omega)
theorem back_form (a : Int) (ha : a < 256) :
    giI (bits .xor .u8 (bits .xor .u8 (bits .xor .u8 (tnI a 1) (tnI a 3)) (tnI a 6)) 5) = gbackI a := by
  have h : a.toNat < 256 := by omega
  have t1 := tn_lt a.toNat 1 h (by omega)
  have t2 := tn_lt a.toNat 3 h (by omega)
  have t3 := tn_lt a.toNat 6 h (by omega)
  unfold giI tnI gbackI gback
  simp only [show (1 : Int).toNat = 1 from rfl, show (3 : Int).toNat = 3 from rfl, show (6 : Int).toNat = 6 from rfl]
  rw [bx8 _ _ t1 t2, bx8 _ _ (lt_xor t1 t2) t3]
  have e := bx8 _ 5 (lt_xor (lt_xor t1 t2) t3) (by omega)
  rw [show bits .xor .u8 ((tn a.toNat 1 ^^^ tn a.toNat 3 ^^^ tn a.toNat 6 : Nat) : Int) 5 = ((tn a.toNat 1 ^^^ tn a.toNat 3 ^^^ tn a.toNat 6 ^^^ 5 : Nat) : Int) from e, Int.toNat_natCast]

set_option maxHeartbeats 400000 in
theorem box_any (a : Int) (w : World) (ha : 0 ≤ a) (ha' : a < 256) :
    Calls Try.prog 10 #[.int .u8 a] w fun e w' => e = .returned (.int .u8 (gboxI a)) ∧ ∃ m, w' = w.drewN m := by
  have E := Lib.hid (box_form a)
  have g1 := giI_lo a
  have g2 := giI_hi a
  go_enter Try.func10, Try.ntmps10
  go_wp2_with fail
  refine (inv_any _ _ ha ha').mono ?_
  rintro e w' ⟨rfl, rfl⟩
  go_wp2_with fail
  refine (turn_any _ _ _ g1 g2 (by omega) (by omega)).mono ?_
  rintro e w' ⟨rfl, m1, rfl⟩
  go_wp2_with fail
  refine (turn_any _ _ _ g1 g2 (by omega) (by omega)).mono ?_
  rintro e w' ⟨rfl, m2, rfl⟩
  go_wp2_with fail
  refine (turn_any _ _ _ g1 g2 (by omega) (by omega)).mono ?_
  rintro e w' ⟨rfl, m3, rfl⟩
  go_wp2_with fail
  refine (turn_any _ _ _ g1 g2 (by omega) (by omega)).mono ?_
  rintro e w' ⟨rfl, m4, rfl⟩
  go_wp2
  go_ret
  refine ⟨?_, m1 + m2 + m3 + m4, by simp⟩
  rw [← E.out]
  rfl

end Go.Proofs.Ytpbplcbdejoolaa
