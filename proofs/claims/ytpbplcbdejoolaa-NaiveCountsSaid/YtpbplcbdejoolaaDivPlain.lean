/- The arithmetic of a division of two words by one, digit by digit of 32 bits: plain numbers, no program. -/
import Derived.Test.YtpbplcbdejoolaaRows
namespace Go.Proofs.Ytpbplcbdejoolaa
set_option linter.unusedVariables false

/-- what a loop over one digit keeps -/
structure DigI (u y1 Q : Nat) (q r : Nat) : Prop where
  sum : q * y1 + r = u
  low : Q ≤ q
  top : q ≤ 4294967297
/-- the digit is found: where the test fails -/
theorem DigI.exit {u y1 y0 d Q q r : Nat} (h : DigI u y1 Q q r) (hQ : Q = (u * 4294967296 + d) / (y1 * 4294967296 + y0)) (hy : 0 < y1) (ht : q * y0 ≤ 4294967296 * r + d) : q = Q := by
  have h1 : q * (y1 * 4294967296 + y0) ≤ u * 4294967296 + d := by
    rw [Nat.mul_add, ← Nat.mul_assoc, ← h.sum, Nat.add_mul]
    omega
  have h2 : q ≤ Q := by
    rw [hQ]
    exact (Nat.le_div_iff_mul_le (by omega)).2 h1
  have := h.low
  omega
/-- the digit is too great: where the test holds -/
theorem DigI.big {u y1 y0 d Q q r : Nat} (h : DigI u y1 Q q r) (hQ : Q = (u * 4294967296 + d) / (y1 * 4294967296 + y0)) (hy : 0 < y1) (ht : 4294967296 * r + d < q * y0) : Q < q := by
  rw [hQ]
  rw [Nat.div_lt_iff_lt_mul (by omega), Nat.mul_add, ← Nat.mul_assoc, ← h.sum, Nat.add_mul]
  omega
theorem dig_lt {u y1 y0 d : Nat} (hu : u < y1 * 4294967296 + y0) (hd : d < 4294967296) : (u * 4294967296 + d) / (y1 * 4294967296 + y0) < 4294967296 := by
  rw [Nat.div_lt_iff_lt_mul (by omega), Nat.mul_comm 4294967296]
  omega
theorem DigI.step {u y1 Q q r : Nat} (h : DigI u y1 Q q r) (hq : Q < q) : DigI u y1 Q (q - 1) (r + y1) := by
  have := h.top
  refine ⟨?_, by omega, by omega⟩
  obtain ⟨k, rfl⟩ : ∃ k, q = k + 1 := ⟨q - 1, by omega⟩
  have := h.sum
  rw [Nat.add_mul] at this
  rw [Nat.add_sub_cancel]
  omega
/-- the digit is found: where the rest has passed a digit -/
theorem DigI.cut {u y1 y0 d Q q r : Nat} (h : DigI u y1 Q q r) (hQ : Q = (u * 4294967296 + d) / (y1 * 4294967296 + y0)) (hy : 0 < y1) (hy0 : y0 < 4294967296) (hq : q ≤ 4294967296) (hr : 4294967296 ≤ r) : q = Q := by
  refine h.exit hQ hy ?_
  have : q * y0 ≤ 4294967296 * 4294967295 := Nat.mul_le_mul hq (by omega)
  omega
theorem DigI.start {u y1 y0 d Q : Nat} (hQ : Q = (u * 4294967296 + d) / (y1 * 4294967296 + y0)) (hy : 2147483648 ≤ y1) (hd : d < 4294967296) (hy0 : y0 < 4294967296) (hu : u < y1 * 4294967296 + y0) : DigI u y1 Q (u / y1) (u % y1) := by
  refine ⟨Nat.div_add_mod' u y1, ?_, ?_⟩
  · rw [hQ]
    have h1 : (u * 4294967296 + d) / (y1 * 4294967296 + y0) ≤ (u * 4294967296 + d) / (y1 * 4294967296) := Nat.div_le_div_left (by omega) (by omega)
    have h2 : (u * 4294967296 + d) / (y1 * 4294967296) = u / y1 := by
      rw [Nat.mul_comm y1, ← Nat.div_div_eq_div_mul]
      congr 1
      omega
    omega
  · have : u / y1 < 4294967298 := by
      rw [Nat.div_lt_iff_lt_mul (by omega)]
      omega
    omega
theorem two_digits' (Y q1 M N K : Nat) (hY : 0 < Y) (hN : N = M + Y * (q1 * K)) :
    N / Y = q1 * K + M / Y ∧ N % Y = M % Y := by
  subst hN
  constructor
  · rw [Nat.add_mul_div_left _ _ hY, Nat.add_comm]
  · rw [Nat.add_mul_mod_self_left]
/-- two digits -/
theorem two_digits (u d1 d0 Y N : Nat) (hY : 0 < Y) (hN : N = u * 18446744073709551616 + (d1 * 4294967296 + d0)) :
    N / Y = (u * 4294967296 + d1) / Y * 4294967296 + ((u * 4294967296 + d1) % Y * 4294967296 + d0) / Y ∧
    N % Y = ((u * 4294967296 + d1) % Y * 4294967296 + d0) % Y :=
  two_digits' Y _ _ N 4294967296 hY (by
    have e1 := Nat.div_add_mod (u * 4294967296 + d1) Y
    rw [hN, ← Nat.mul_assoc Y]
    omega)
/-- the shifted numbers -/
theorem shifted_div (N y p : Nat) (hp : 0 < p) : N * p / (y * p) = N / y ∧ N * p % (y * p) / p = N % y := by
  constructor
  · exact Nat.mul_div_mul_right _ _ hp
  · rw [Nat.mul_mod_mul_right, Nat.mul_div_cancel _ hp]
theorem pow_split (s : Nat) (hs : s ≤ 63) : 2 ^ s * 2 ^ (64 - s) = 18446744073709551616 := by
  rw [← Nat.pow_add, show s + (64 - s) = 64 by omega]
theorem norm_low (l s : Nat) (hs : s ≤ 63) : l * 2 ^ s / 18446744073709551616 = l / 2 ^ (64 - s) := by
  rw [← pow_split s hs, Nat.mul_comm (2 ^ s)]
  exact Nat.mul_div_mul_right _ _ (Nat.two_pow_pos _)
theorem norm_or (h l s : Nat) (hs : s ≤ 63) (hl : l < 18446744073709551616) : h * 2 ^ s ||| l / 2 ^ (64 - s) = h * 2 ^ s + l / 2 ^ (64 - s) := by
  have hb : l / 2 ^ (64 - s) < 2 ^ s := by
    rw [Nat.div_lt_iff_lt_mul (Nat.two_pow_pos _), pow_split s hs]
    exact hl
  rw [← Nat.shiftLeft_eq, Nat.shiftLeft_add_eq_or_of_lt hb]
theorem norm_all (h l s : Nat) (hs : s ≤ 63) : (h * 18446744073709551616 + l) * 2 ^ s = (h * 2 ^ s + l / 2 ^ (64 - s)) * 18446744073709551616 + l * 2 ^ s % 18446744073709551616 := by
  have e := Nat.div_add_mod (l * 2 ^ s) 18446744073709551616
  rw [norm_low l s hs] at e
  rw [Nat.add_mul, Nat.mul_right_comm h]
  omega
theorem norm_lt (h l y s : Nat) (hs : s ≤ 63) (hh : h < y) (hl : l < 18446744073709551616) : h * 2 ^ s + l / 2 ^ (64 - s) < y * 2 ^ s := by
  have hb : l / 2 ^ (64 - s) < 2 ^ s := by
    rw [Nat.div_lt_iff_lt_mul (Nat.two_pow_pos _), pow_split s hs]
    exact hl
  have : (h + 1) * 2 ^ s ≤ y * 2 ^ s := Nat.mul_le_mul_right _ hh
  rw [Nat.add_mul] at this
  omega
end Go.Proofs.Ytpbplcbdejoolaa
