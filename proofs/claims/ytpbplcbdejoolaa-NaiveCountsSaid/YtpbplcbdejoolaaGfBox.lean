/- Plain arithmetic of the S-box and its inverse, on natural numbers. No program in sight. -/
import Derived.Test.YtpbplcbdejoolaaGfPlain
namespace Go.Proofs.Ytpbplcbdejoolaa

def tn (a n : Nat) : Nat := (a * 2 ^ n % 256) ||| (a / 2 ^ (8 - n))
def gbox (a : Nat) : Nat := gi a ^^^ tn (gi a) 1 ^^^ tn (gi a) 2 ^^^ tn (gi a) 3 ^^^ tn (gi a) 4 ^^^ 99
def gback (a : Nat) : Nat := gi (tn a 1 ^^^ tn a 3 ^^^ tn a 6 ^^^ 5)

theorem tn_lt (a n : Nat) (ha : a < 256) (hn : n < 8) : tn a n < 256 := by
  have : ∀ a, a < 256 → ∀ n, n < 8 → tn a n < 256 := by decide +kernel
  exact this a ha n hn
theorem gbox_lt (a : Nat) : gbox a < 256 := by
  have h := gi_lt a
  unfold gbox
  exact lt_xor (lt_xor (lt_xor (lt_xor (lt_xor h (tn_lt _ 1 h (by omega))) (tn_lt _ 2 h (by omega))) (tn_lt _ 3 h (by omega))) (tn_lt _ 4 h (by omega))) (by omega)
theorem gback_lt (a : Nat) : gback a < 256 := gi_lt _

theorem gback_box (a : Nat) (ha : a < 256) : gback (gbox a) = a := by
  have : ∀ a, a < 256 → gback (gbox a) = a := by decide +kernel
  exact this a ha
theorem gbox_back (a : Nat) (ha : a < 256) : gbox (gback a) = a := by
  have : ∀ a, a < 256 → gbox (gback a) = a := by decide +kernel
  exact this a ha
theorem gbox_inj (a b : Nat) (ha : a < 256) (hb : b < 256) (h : gbox a = gbox b) : a = b := by
  rw [← gback_box a ha, h, gback_box b hb]
theorem gbox_ne (a : Nat) (ha : a < 256) : gbox a ≠ a := by
  have : ∀ a, a < 256 → gbox a ≠ a := by decide +kernel
  exact this a ha
theorem gbox_ne_not (a : Nat) (ha : a < 256) : gbox a ≠ 255 - a := by
  have : ∀ a, a < 256 → gbox a ≠ 255 - a := by decide +kernel
  exact this a ha

/-! ### the searches of the document -/
def rinvN (a : Nat) : Nat → Nat → Nat
  | 0, _ => 0
  | n + 1, x => if rm a x = 1 then x else rinvN a n (x + 1)
def rinv (a : Nat) : Nat := rinvN a 255 1
def rbit (y i : Nat) : Nat := y / 2 ^ (i % 8) % 2
def rsum (y i : Nat) : Nat := rbit y i + rbit y (i + 4) + rbit y (i + 5) + rbit y (i + 6) + rbit y (i + 7) + rbit 99 i
def rboxN (y : Nat) : Nat → Nat → Nat → Nat
  | 0, _, o => o
  | n + 1, i, o => rboxN y n (i + 1) (o + rsum y i % 2 * 2 ^ i)
def rbox (a : Nat) : Nat := rboxN (rinv a) 8 0 0
def rbackN (a : Nat) : Nat → Nat → Nat
  | 0, _ => 0
  | n + 1, x => if rbox x = a then x else rbackN a n (x + 1)
def rback (a : Nat) : Nat := rbackN a 256 0

/-- a search that meets its one place -/
theorem rinvN_at (a g : Nat) (ha : a < 256) (h0 : a ≠ 0) (hg : g = gi a) : ∀ n x, x + n = 256 → x ≤ g → rinvN a n x = g
  | 0, x, h, hx => by have := gi_lt a; omega
  | n + 1, x, h, hx => by
    simp only [rinvN]
    by_cases e : x = g
    · rw [if_pos]
      · exact e
      · subst e; rw [hg, rm_eq a _ ha (gi_lt a), gi_mul a ha h0]
    · rw [if_neg]
      · exact rinvN_at a g ha h0 hg n (x + 1) (by omega) (by omega)
      · intro h1
        rw [rm_eq a x ha (by omega)] at h1
        exact e ((gi_only a x ha (by omega) h1).trans hg.symm)
theorem rinvN_none : ∀ n x, x + n = 256 → rinvN 0 n x = 0
  | 0, _, _ => rfl
  | n + 1, x, h => by
    simp only [rinvN]
    rw [rm_eq 0 x (by omega) (by omega), zero_gm x (by omega), if_neg (by omega)]
    exact rinvN_none n (x + 1) (by omega)
theorem rinv_eq (a : Nat) (ha : a < 256) : rinv a = gi a := by
  by_cases h0 : a = 0
  · subst h0; rw [gi_zero]; exact rinvN_none 255 1 (by omega)
  · refine rinvN_at a (gi a) ha h0 rfl 255 1 (by omega) ?_
    have h1 := gi_mul a ha h0
    by_cases hz : gi a = 0
    · rw [hz, gm_zero a ha] at h1; omega
    · omega
theorem rbox_eq (a : Nat) (ha : a < 256) : rbox a = gbox a := by
  have h : ∀ a, a < 256 → rboxN (gi a) 8 0 0 = gbox a := by decide +kernel
  unfold rbox
  rw [rinv_eq a ha]
  exact h a ha
theorem rbackN_at (a g : Nat) (ha : a < 256) (hg : g = gback a) : ∀ n x, x + n = 256 → x ≤ g → rbackN a n x = g
  | 0, x, h, hx => by have := gback_lt a; omega
  | n + 1, x, h, hx => by
    simp only [rbackN]
    by_cases e : x = g
    · rw [if_pos]
      · exact e
      · subst e; rw [rbox_eq x (by omega), hg, gbox_back a ha]
    · rw [if_neg]
      · exact rbackN_at a g ha hg n (x + 1) (by omega) (by omega)
      · intro h1
        rw [rbox_eq x (by omega)] at h1
        apply e
        rw [hg, ← h1, gback_box x (by omega)]
theorem rback_eq (a : Nat) (ha : a < 256) : rback a = gback a := rbackN_at a _ ha rfl 256 0 (by omega) (by omega)

/-! ### as Go's integers -/
def gmI (a b : Int) : Int := (gm a.toNat b.toNat : Nat)
def giI (a : Int) : Int := (gi a.toNat : Nat)
def gboxI (a : Int) : Int := (gbox a.toNat : Nat)
def gbackI (a : Int) : Int := (gback a.toNat : Nat)
def tnI (a n : Int) : Int := (tn a.toNat n.toNat : Nat)
theorem gmI_lo (a b : Int) : 0 ≤ gmI a b := Int.natCast_nonneg _
theorem gmI_hi (a b : Int) (ha : a < 256) : gmI a b < 256 := by have := gm_lt a.toNat b.toNat (by omega); unfold gmI; omega
theorem giI_lo (a : Int) : 0 ≤ giI a := Int.natCast_nonneg _
theorem giI_hi (a : Int) : giI a < 256 := by have := gi_lt a.toNat; unfold giI; omega
theorem gboxI_lo (a : Int) : 0 ≤ gboxI a := Int.natCast_nonneg _
theorem gboxI_hi (a : Int) : gboxI a < 256 := by have := gbox_lt a.toNat; unfold gboxI; omega
theorem gbackI_lo (a : Int) : 0 ≤ gbackI a := Int.natCast_nonneg _
theorem gbackI_hi (a : Int) : gbackI a < 256 := by have := gback_lt a.toNat; unfold gbackI; omega
theorem tnI_lo (a n : Int) : 0 ≤ tnI a n := Int.natCast_nonneg _
theorem tnI_hi (a n : Int) (ha : a < 256) (hn : n < 8) : tnI a n < 256 := by have := tn_lt a.toNat n.toNat (by omega) (by omega); unfold tnI; omega

end Go.Proofs.Ytpbplcbdejoolaa
