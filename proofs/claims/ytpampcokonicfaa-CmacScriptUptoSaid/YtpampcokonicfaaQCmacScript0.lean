/- Events and runs as plain data; what a note makes of runs. No program in sight. -/
import Derived.KernelRfl
import GoSem.ClaimData
import Derived.Test.YtpampcokonicfaaRows
import Derived.WalkKit
import Derived.WalkSpells
import Derived.WalkLawsBesides
import Derived.Deep.QuietTactic
import Derived.BigQuiet
import Derived.Lib.Hide
import Derived.StillTail
import Derived.Deep.MidRow
import Derived.BigRegion
import Derived.OpenShut
import Derived.Laws.CopyOwn
import Derived.ChangeKeysEq
import Derived.Deep.RegionHeld3
/- Plain arithmetic of the field of 256 elements on natural numbers: the product by shifts, the product by definition, inverses, the box. No program in sight. -/
namespace Go.Proofs.Ytpampcokonicfaa

/-! ### a linear map is known by its values at the powers of two -/
theorem xor_add (f : Nat → Nat) (h : ∀ x, x < 256 → ∀ y, y < 256 → f (x ^^^ y) = f x ^^^ f y) : f 0 = 0 := by
  have := h 0 (by omega) 0 (by omega)
  simpa using this

theorem bits8 : ∀ b, b < 256 → b = (b &&& 1) ^^^ (b &&& 2) ^^^ (b &&& 4) ^^^ (b &&& 8) ^^^ (b &&& 16) ^^^ (b &&& 32) ^^^ (b &&& 64) ^^^ (b &&& 128) := by
  decide +kernel

theorem bit_or : ∀ b, b < 256 → ∀ i, i < 8 → (b &&& 2 ^ i = 0 ∨ b &&& 2 ^ i = 2 ^ i) := by decide +kernel

theorem lt_xor {x y : Nat} (hx : x < 256) (hy : y < 256) : x ^^^ y < 256 := Nat.xor_lt_two_pow (n := 8) hx hy

theorem lin_ext (f g : Nat → Nat) (hf : ∀ x, x < 256 → ∀ y, y < 256 → f (x ^^^ y) = f x ^^^ f y) (hg : ∀ x, x < 256 → ∀ y, y < 256 → g (x ^^^ y) = g x ^^^ g y)
    (h : ∀ i, i < 8 → f (2 ^ i) = g (2 ^ i)) (b : Nat) (hb : b < 256) : f b = g b := by
  have f0 := xor_add f hf
  have g0 := xor_add g hg
  have one : ∀ i, i < 8 → f (b &&& 2 ^ i) = g (b &&& 2 ^ i) := by
    intro i hi
    rcases bit_or b hb i hi with e | e
    · rw [e, f0, g0]
    · rw [e]; exact h i hi
  have lt : ∀ m, m < 256 → b &&& m < 256 := fun m hm => Nat.lt_of_le_of_lt Nat.and_le_right hm
  have l1 := lt 1 (by omega)
  have l2 := lt 2 (by omega)
  have l3 := lt 4 (by omega)
  have l4 := lt 8 (by omega)
  have l5 := lt 16 (by omega)
  have l6 := lt 32 (by omega)
  have l7 := lt 64 (by omega)
  have l8 := lt 128 (by omega)
  have o0 := one 0 (by omega)
  have o1 := one 1 (by omega)
  have o2 := one 2 (by omega)
  have o3 := one 3 (by omega)
  have o4 := one 4 (by omega)
  have o5 := one 5 (by omega)
  have o6 := one 6 (by omega)
  have o7 := one 7 (by omega)
  simp only [Nat.reducePow] at o0 o1 o2 o3 o4 o5 o6 o7
  have e := bits8 b hb
  have step : ∀ (F : Nat → Nat), (∀ x, x < 256 → ∀ y, y < 256 → F (x ^^^ y) = F x ^^^ F y) →
      F ((b &&& 1) ^^^ (b &&& 2) ^^^ (b &&& 4) ^^^ (b &&& 8) ^^^ (b &&& 16) ^^^ (b &&& 32) ^^^ (b &&& 64) ^^^ (b &&& 128)) =
      F (b &&& 1) ^^^ F (b &&& 2) ^^^ F (b &&& 4) ^^^ F (b &&& 8) ^^^ F (b &&& 16) ^^^ F (b &&& 32) ^^^ F (b &&& 64) ^^^ F (b &&& 128) := by
    intro F hF
    rw [hF _ (lt_xor (lt_xor (lt_xor (lt_xor (lt_xor (lt_xor l1 l2) l3) l4) l5) l6) l7) _ l8,
      hF _ (lt_xor (lt_xor (lt_xor (lt_xor (lt_xor l1 l2) l3) l4) l5) l6) _ l7,
      hF _ (lt_xor (lt_xor (lt_xor (lt_xor l1 l2) l3) l4) l5) _ l6,
      hF _ (lt_xor (lt_xor (lt_xor l1 l2) l3) l4) _ l5,
      hF _ (lt_xor (lt_xor l1 l2) l3) _ l4, hF _ (lt_xor l1 l2) _ l3, hF _ l1 _ l2]
  rw [e, step f hf, step g hg, o0, o1, o2, o3, o4, o5, o6, o7]

/-! ### the product by shifts -/
def xt (a : Nat) : Nat := (a * 2 % 256) ^^^ (27 * (a / 128))
def gmN : Nat → Nat → Nat → Nat → Nat
  | 0, p, _, _ => p
  | n + 1, p, a, b => gmN n (p ^^^ (a * (b % 2))) (xt a) (b / 2)
def gm (a b : Nat) : Nat := gmN 8 0 a b

theorem xt_lt (a : Nat) (h : a < 256) : xt a < 256 := by
  have : ∀ a, a < 256 → xt a < 256 := by decide +kernel
  exact this a h
theorem mul_bit_lt (a b : Nat) (h : a < 256) : a * (b % 2) < 256 := by
  rcases Nat.mod_two_eq_zero_or_one b with e | e <;> rw [e] <;> omega
theorem gmN_lt : ∀ n p a b, p < 256 → a < 256 → gmN n p a b < 256
  | 0, _, _, _, hp, _ => hp
  | n + 1, _, a, b, hp, ha => gmN_lt n _ _ _ (lt_xor hp (mul_bit_lt a b ha)) (xt_lt a ha)
theorem gm_lt (a b : Nat) (ha : a < 256) : gm a b < 256 := gmN_lt 8 0 a b (by omega) ha

theorem bit_xor (x y : Nat) : (x ^^^ y) % 2 = (x % 2) ^^^ (y % 2) := Nat.xor_mod_two_pow (n := 1)
theorem half_xor (x y : Nat) : (x ^^^ y) / 2 = (x / 2) ^^^ (y / 2) := by
  have := Nat.shiftRight_xor_distrib (a := x) (b := y) (i := 1)
  simpa [Nat.shiftRight_succ] using this
theorem mul_bits (a x y : Nat) : a * ((x % 2) ^^^ (y % 2)) = (a * (x % 2)) ^^^ (a * (y % 2)) := by
  rcases Nat.mod_two_eq_zero_or_one x with e | e <;> rcases Nat.mod_two_eq_zero_or_one y with f | f <;> rw [e, f] <;> simp
theorem xor4 (p q r s : Nat) : (p ^^^ q) ^^^ (r ^^^ s) = (p ^^^ r) ^^^ (q ^^^ s) := by
  rw [Nat.xor_assoc, Nat.xor_assoc, ← Nat.xor_assoc q r s, Nat.xor_comm q r, Nat.xor_assoc]

theorem gmN_right : ∀ n p q a x y, gmN n (p ^^^ q) a (x ^^^ y) = gmN n p a x ^^^ gmN n q a y
  | 0, _, _, _, _, _ => rfl
  | n + 1, p, q, a, x, y => by
    simp only [gmN]
    rw [bit_xor, mul_bits, xor4, half_xor, gmN_right n]
theorem gm_right (a x y : Nat) : gm a (x ^^^ y) = gm a x ^^^ gm a y := by
  have := gmN_right 8 0 0 a x y
  rwa [Nat.xor_self] at this

theorem xt_xor : ∀ x, x < 256 → ∀ y, y < 256 → xt (x ^^^ y) = xt x ^^^ xt y := by
  intro x hx y hy
  have h1 : (x ^^^ y) * 2 % 256 = (x * 2 % 256) ^^^ (y * 2 % 256) := by
    have e : ∀ z : Nat, z * 2 = z <<< 1 := fun z => by simp [Nat.shiftLeft_eq]
    rw [e, e, e, Nat.shiftLeft_xor_distrib]
    exact Nat.xor_mod_two_pow (n := 8)
  have h2 : (x ^^^ y) / 128 = (x / 128) ^^^ (y / 128) := by
    have := Nat.shiftRight_xor_distrib (a := x) (b := y) (i := 7)
    simpa [Nat.shiftRight_eq_div_pow] using this
  have h3 : 27 * ((x / 128) ^^^ (y / 128)) = (27 * (x / 128)) ^^^ (27 * (y / 128)) := by
    have a1 : x / 128 < 2 := by omega
    have a2 : y / 128 < 2 := by omega
    have := mul_bits 27 (x / 128) (y / 128)
    rwa [Nat.mod_eq_of_lt a1, Nat.mod_eq_of_lt a2] at this
  unfold xt
  rw [h1, h2, h3, xor4]

theorem bits_mul (x y b : Nat) : (x ^^^ y) * (b % 2) = (x * (b % 2)) ^^^ (y * (b % 2)) := by
  rcases Nat.mod_two_eq_zero_or_one b with e | e <;> rw [e] <;> simp
theorem gmN_left : ∀ n p q x y b, x < 256 → y < 256 → gmN n (p ^^^ q) (x ^^^ y) b = gmN n p x b ^^^ gmN n q y b
  | 0, _, _, _, _, _, _, _ => rfl
  | n + 1, p, q, x, y, b, hx, hy => by
    simp only [gmN]
    rw [bits_mul, xor4, xt_xor x hx y hy, gmN_left n _ _ _ _ _ (xt_lt x hx) (xt_lt y hy)]
theorem gm_left (x y b : Nat) (hx : x < 256) (hy : y < 256) : gm (x ^^^ y) b = gm x b ^^^ gm y b := by
  have := gmN_left 8 0 0 x y b hx hy
  rwa [Nat.xor_self] at this

theorem pow_lt : ∀ i, i < 8 → 2 ^ i < 256 := by decide

theorem gm_comm (a b : Nat) (ha : a < 256) (hb : b < 256) : gm a b = gm b a := by
  refine lin_ext (fun b => gm a b) (fun b => gm b a) (fun x _ y _ => gm_right a x y) (fun x hx y hy => gm_left x y a hx hy) (fun i hi => ?_) b hb
  refine lin_ext (fun a => gm a (2 ^ i)) (fun a => gm (2 ^ i) a) (fun x hx y hy => gm_left x y _ hx hy) (fun x _ y _ => gm_right _ x y) (fun j hj => ?_) a ha
  have : ∀ i, i < 8 → ∀ j, j < 8 → gm (2 ^ j) (2 ^ i) = gm (2 ^ i) (2 ^ j) := by decide +kernel
  exact this i hi j hj

theorem gm_assoc (a b c : Nat) (ha : a < 256) (hb : b < 256) (hc : c < 256) : gm (gm a b) c = gm a (gm b c) := by
  refine lin_ext (fun c => gm (gm a b) c) (fun c => gm a (gm b c)) (fun x _ y _ => gm_right _ x y) (fun x _ y _ => ?_) (fun i hi => ?_) c hc
  · show gm a (gm b (x ^^^ y)) = _
    rw [gm_right, gm_right]
  have hi' := pow_lt i hi
  refine lin_ext (fun b => gm (gm a b) (2 ^ i)) (fun b => gm a (gm b (2 ^ i))) (fun x hx y hy => ?_) (fun x hx y hy => ?_) (fun j hj => ?_) b hb
  · show gm (gm a (x ^^^ y)) (2 ^ i) = _
    rw [gm_right, gm_left _ _ _ (gm_lt a x ha) (gm_lt a y ha)]
  · show gm a (gm (x ^^^ y) (2 ^ i)) = _
    rw [gm_left _ _ _ hx hy, gm_right]
  refine lin_ext (fun a => gm (gm a (2 ^ j)) (2 ^ i)) (fun a => gm a (gm (2 ^ j) (2 ^ i))) (fun x hx y hy => ?_) (fun x hx y hy => gm_left _ _ _ hx hy) (fun k hk => ?_) a ha
  · show gm (gm (x ^^^ y) (2 ^ j)) (2 ^ i) = _
    rw [gm_left _ _ _ hx hy, gm_left _ _ _ (gm_lt _ _ hx) (gm_lt _ _ hy)]
  have : ∀ i, i < 8 → ∀ j, j < 8 → ∀ k, k < 8 → gm (gm (2 ^ k) (2 ^ j)) (2 ^ i) = gm (2 ^ k) (gm (2 ^ j) (2 ^ i)) := by decide +kernel
  exact this i hi j hj k hk

theorem gm_one (a : Nat) (ha : a < 256) : gm a 1 = a := by
  have : ∀ a, a < 256 → gm a 1 = a := by decide +kernel
  exact this a ha
theorem gm_zero (a : Nat) (ha : a < 256) : gm a 0 = 0 := by
  have : ∀ a, a < 256 → gm a 0 = 0 := by decide +kernel
  exact this a ha

/-! ### inverses -/
def invN : Nat → Nat → Nat → Nat
  | 0, p, _ => p
  | n + 1, p, a => invN n (gm p (gm a a)) (gm a a)
def gi (a : Nat) : Nat := invN 7 1 a

theorem invN_lt : ∀ n p a, p < 256 → invN n p a < 256
  | 0, _, _, hp => hp
  | n + 1, p, _, hp => invN_lt n _ _ (gm_lt p _ hp)
theorem gi_lt (a : Nat) : gi a < 256 := invN_lt 7 1 a (by omega)
theorem gi_mul (a : Nat) (ha : a < 256) (h0 : a ≠ 0) : gm a (gi a) = 1 := by
  have : ∀ a, a < 256 → a ≠ 0 → gm a (gi a) = 1 := by decide +kernel
  exact this a ha h0
theorem gi_zero : gi 0 = 0 := by decide +kernel
theorem gi_gi (a : Nat) (ha : a < 256) : gi (gi a) = a := by
  have : ∀ a, a < 256 → gi (gi a) = a := by decide +kernel
  exact this a ha
theorem zero_gm (a : Nat) (ha : a < 256) : gm 0 a = 0 := by rw [gm_comm 0 a (by omega) ha, gm_zero a ha]
theorem gi_only (a x : Nat) (ha : a < 256) (hx : x < 256) (h : gm a x = 1) : x = gi a := by
  by_cases h0 : a = 0
  · subst h0; rw [zero_gm x hx] at h; omega
  · have e1 : gm (gm x a) (gi a) = x := by rw [gm_assoc x a _ hx ha (gi_lt a), gi_mul a ha h0, gm_one x hx]
    rw [gm_comm x a hx ha, h, gm_comm 1 _ (by omega) (gi_lt a), gm_one _ (gi_lt a)] at e1
    exact e1.symm
theorem gm_eq_zero (a b : Nat) (ha : a < 256) (hb : b < 256) : gm a b = 0 ↔ (a = 0 ∨ b = 0) := by
  constructor
  · intro h
    by_cases h0 : a = 0
    · exact .inl h0
    · right
      have e : gm (gm b a) (gi a) = b := by rw [gm_assoc b a _ hb ha (gi_lt a), gi_mul a ha h0, gm_one b hb]
      rw [gm_comm b a hb ha, h, zero_gm _ (gi_lt a)] at e
      exact e.symm
  · rintro (rfl | rfl)
    · exact zero_gm b hb
    · exact gm_zero a ha

/-! ### the product by definition -/
def rin (c b k : Nat) : Nat → Nat → Nat → Nat
  | 0, _, q => q
  | n + 1, j, q => rin c b k n (j + 1) (q ^^^ (c * (b / 2 ^ j % 2) * 2 ^ (k + j)))
def rout (a b : Nat) : Nat → Nat → Nat → Nat
  | 0, _, q => q
  | n + 1, k, q => rout a b n (k + 1) (rin (a / 2 ^ k % 2) b k 8 0 q)
def rred : Nat → Nat → Nat → Nat
  | 0, _, p => p
  | n + 1, i, p => rred n (i - 1) (if p / 2 ^ i % 2 = 1 then p ^^^ (283 * 2 ^ (i - 8)) else p)
def rm (a b : Nat) : Nat := rred 7 14 (rout a b 8 0 0) % 256

theorem rin_acc (c b k : Nat) : ∀ n j q r, rin c b k n j (q ^^^ r) = q ^^^ rin c b k n j r
  | 0, _, _, _ => rfl
  | n + 1, j, q, r => by simp only [rin]; rw [Nat.xor_assoc, rin_acc c b k n]
theorem rin_eq (c b k q : Nat) (hc : c < 2) (hb : b < 256) (hk : k < 8) : rin c b k 8 0 q = q ^^^ (c * b * 2 ^ k) := by
  have h : ∀ c, c < 2 → ∀ b, b < 256 → ∀ k, k < 8 → rin c b k 8 0 0 = c * b * 2 ^ k := by decide +kernel
  have e := rin_acc c b k 8 0 q 0
  rw [Nat.xor_zero] at e
  rw [e, h c hc b hb k hk]

def clm (a b : Nat) : Nat → Nat → Nat → Nat
  | 0, _, q => q
  | n + 1, k, q => clm a b n (k + 1) (q ^^^ (a / 2 ^ k % 2 * b * 2 ^ k))
theorem rout_eq (a b : Nat) (hb : b < 256) : ∀ n k q, n + k ≤ 8 → rout a b n k q = clm a b n k q
  | 0, _, _, _ => rfl
  | n + 1, k, q, h => by
    simp only [rout, clm]
    rw [rin_eq _ b k q (Nat.mod_lt _ (by omega)) hb (by omega), rout_eq a b hb n (k + 1) _ (by omega)]

theorem clm_right (a x y : Nat) : ∀ n k p q, clm a (x ^^^ y) n k (p ^^^ q) = clm a x n k p ^^^ clm a y n k q
  | 0, _, _, _ => rfl
  | n + 1, k, p, q => by
    simp only [clm]
    have e : a / 2 ^ k % 2 * (x ^^^ y) * 2 ^ k = (a / 2 ^ k % 2 * x * 2 ^ k) ^^^ (a / 2 ^ k % 2 * y * 2 ^ k) := by
      rcases Nat.mod_two_eq_zero_or_one (a / 2 ^ k) with f | f
      · simp [f]
      · rw [f]; simp only [Nat.one_mul, ← Nat.shiftLeft_eq]; exact Nat.shiftLeft_xor_distrib
    rw [e, xor4, clm_right a x y n]
theorem rred_xor : ∀ n i p q, rred n i (p ^^^ q) = rred n i p ^^^ rred n i q
  | 0, _, _, _ => rfl
  | n + 1, i, p, q => by
    simp only [rred]
    have b1 : (p ^^^ q) / 2 ^ i % 2 = (p / 2 ^ i % 2) ^^^ (q / 2 ^ i % 2) := by
      rw [← bit_xor]
      congr 1
      have := Nat.shiftRight_xor_distrib (a := p) (b := q) (i := i)
      simpa [Nat.shiftRight_eq_div_pow] using this
    rw [← rred_xor n]
    congr 1
    rw [b1]
    rcases Nat.mod_two_eq_zero_or_one (p / 2 ^ i) with e | e <;> rcases Nat.mod_two_eq_zero_or_one (q / 2 ^ i) with f | f <;> simp only [e, f]
    · simp
    · simp [Nat.xor_assoc]
    · simp only [Nat.xor_zero, if_true]; rw [if_neg (by omega)]; rw [Nat.xor_assoc, Nat.xor_comm q, ← Nat.xor_assoc]
    · rw [Nat.xor_self, if_neg (by omega), if_true, if_true, xor4, Nat.xor_self, Nat.xor_zero]
theorem rm_right (a x y : Nat) (hx : x < 256) (hy : y < 256) : rm a (x ^^^ y) = rm a x ^^^ rm a y := by
  unfold rm
  rw [rout_eq a _ (lt_xor hx hy) 8 0 0 (by omega), rout_eq a _ hx 8 0 0 (by omega), rout_eq a _ hy 8 0 0 (by omega)]
  have e := clm_right a x y 8 0 0 0
  rw [Nat.xor_zero] at e
  rw [e, rred_xor]
  exact Nat.xor_mod_two_pow (n := 8)
theorem rm_eq (a b : Nat) (ha : a < 256) (hb : b < 256) : rm a b = gm a b := by
  refine lin_ext (fun b => rm a b) (fun b => gm a b) (fun x hx y hy => rm_right a x y hx hy) (fun x _ y _ => gm_right a x y) (fun i hi => ?_) b hb
  have h : ∀ a, a < 256 → ∀ i, i < 8 → rred 7 14 (clm a (2 ^ i) 8 0 0) % 256 = gm a (2 ^ i) := by decide +kernel
  show rm a (2 ^ i) = gm a (2 ^ i)
  unfold rm
  rw [rout_eq a _ (pow_lt i hi) 8 0 0 (by omega)]
  exact h a ha i hi

end Go.Proofs.Ytpampcokonicfaa
/- Plain arithmetic of the S-box and its inverse, on natural numbers. No program in sight. -/
namespace Go.Proofs.Ytpampcokonicfaa

def tn (a n : Nat) : Nat := (a * 2 ^ n % 256) ||| (a / 2 ^ (8 - n))
def gbox (a : Nat) : Nat := gi a ^^^ tn (gi a) 1 ^^^ tn (gi a) 2 ^^^ tn (gi a) 3 ^^^ tn (gi a) 4 ^^^ 99
def gback (a : Nat) : Nat := gi (tn a 1 ^^^ tn a 3 ^^^ tn a 6 ^^^ 5)

theorem tn_lt (a n : Nat) (ha : a < 256) (hn : n < 8) : tn a n < 256 := by
  have : ∀ a, a < 256 → ∀ n, n < 8 → tn a n < 256 := by decide +kernel
  exact this a ha n hn
theorem gbox_lt (a : Nat) : gbox a < 256 := by
  have h := gi_lt a
  unfold gbox
  exact lt_xor (lt_xor (lt_xor (lt_xor (lt_xor h (tn_lt _ 1 h (by omega))) (tn_lt _ 2 h (by omega))) (tn_lt _ 3 h (by omega))) (tn_lt _ 4 h (by omega))) (by omega)
theorem gback_lt (a : Nat) : gback a < 256 := gi_lt _

theorem gback_box (a : Nat) (ha : a < 256) : gback (gbox a) = a := by
  have : ∀ a, a < 256 → gback (gbox a) = a := by decide +kernel
  exact this a ha
theorem gbox_back (a : Nat) (ha : a < 256) : gbox (gback a) = a := by
  have : ∀ a, a < 256 → gbox (gback a) = a := by decide +kernel
  exact this a ha
theorem gbox_inj (a b : Nat) (ha : a < 256) (hb : b < 256) (h : gbox a = gbox b) : a = b := by
  rw [← gback_box a ha, h, gback_box b hb]
theorem gbox_ne (a : Nat) (ha : a < 256) : gbox a ≠ a := by
  have : ∀ a, a < 256 → gbox a ≠ a := by decide +kernel
  exact this a ha
theorem gbox_ne_not (a : Nat) (ha : a < 256) : gbox a ≠ 255 - a := by
  have : ∀ a, a < 256 → gbox a ≠ 255 - a := by decide +kernel
  exact this a ha

/-! ### the searches of the document -/
def rinvN (a : Nat) : Nat → Nat → Nat
  | 0, _ => 0
  | n + 1, x => if rm a x = 1 then x else rinvN a n (x + 1)
def rinv (a : Nat) : Nat := rinvN a 255 1
def rbit (y i : Nat) : Nat := y / 2 ^ (i % 8) % 2
def rsum (y i : Nat) : Nat := rbit y i + rbit y (i + 4) + rbit y (i + 5) + rbit y (i + 6) + rbit y (i + 7) + rbit 99 i
def rboxN (y : Nat) : Nat → Nat → Nat → Nat
  | 0, _, o => o
  | n + 1, i, o => rboxN y n (i + 1) (o + rsum y i % 2 * 2 ^ i)
def rbox (a : Nat) : Nat := rboxN (rinv a) 8 0 0
def rbackN (a : Nat) : Nat → Nat → Nat
  | 0, _ => 0
  | n + 1, x => if rbox x = a then x else rbackN a n (x + 1)
def rback (a : Nat) : Nat := rbackN a 256 0

/-- a search that meets its one place -/
theorem rinvN_at (a g : Nat) (ha : a < 256) (h0 : a ≠ 0) (hg : g = gi a) : ∀ n x, x + n = 256 → x ≤ g → rinvN a n x = g
  | 0, x, h, hx => by have := gi_lt a; omega
  | n + 1, x, h, hx => by
    simp only [rinvN]
    by_cases e : x = g
    · rw [if_pos]
      · exact e
      · subst e; rw [hg, rm_eq a _ ha (gi_lt a), gi_mul a ha h0]
    · rw [if_neg]
      · exact rinvN_at a g ha h0 hg n (x + 1) (by omega) (by omega)
      · intro h1
        rw [rm_eq a x ha (by omega)] at h1
        exact e ((gi_only a x ha (by omega) h1).trans hg.symm)
theorem rinvN_none : ∀ n x, x + n = 256 → rinvN 0 n x = 0
  | 0, _, _ => rfl
  | n + 1, x, h => by
    simp only [rinvN]
    rw [rm_eq 0 x (by omega) (by omega), zero_gm x (by omega), if_neg (by omega)]
    exact rinvN_none n (x + 1) (by omega)
theorem rinv_eq (a : Nat) (ha : a < 256) : rinv a = gi a := by
  by_cases h0 : a = 0
  · subst h0; rw [gi_zero]; exact rinvN_none 255 1 (by omega)
  · refine rinvN_at a (gi a) ha h0 rfl 255 1 (by omega) ?_
    have h1 := gi_mul a ha h0
    by_cases hz : gi a = 0
    · rw [hz, gm_zero a ha] at h1; omega
    · omega
theorem rbox_eq (a : Nat) (ha : a < 256) : rbox a = gbox a := by
  have h : ∀ a, a < 256 → rboxN (gi a) 8 0 0 = gbox a := by decide +kernel
  unfold rbox
  rw [rinv_eq a ha]
  exact h a ha
theorem rbackN_at (a g : Nat) (ha : a < 256) (hg : g = gback a) : ∀ n x, x + n = 256 → x ≤ g → rbackN a n x = g
  | 0, x, h, hx => by have := gback_lt a; omega
  | n + 1, x, h, hx => by
    simp only [rbackN]
    by_cases e : x = g
    · rw [if_pos]
      · exact e
      · subst e; rw [rbox_eq x (by omega), hg, gbox_back a ha]
    · rw [if_neg]
      · exact rbackN_at a g ha hg n (x + 1) (by omega) (by omega)
      · intro h1
        rw [rbox_eq x (by omega)] at h1
        apply e
        rw [hg, ← h1, gback_box x (by omega)]
theorem rback_eq (a : Nat) (ha : a < 256) : rback a = gback a := rbackN_at a _ ha rfl 256 0 (by omega) (by omega)

/-! ### as Go's integers -/
def gmI (a b : Int) : Int := (gm a.toNat b.toNat : Nat)
def giI (a : Int) : Int := (gi a.toNat : Nat)
def gboxI (a : Int) : Int := (gbox a.toNat : Nat)
def gbackI (a : Int) : Int := (gback a.toNat : Nat)
def tnI (a n : Int) : Int := (tn a.toNat n.toNat : Nat)
theorem gmI_lo (a b : Int) : 0 ≤ gmI a b := Int.natCast_nonneg _
theorem gmI_hi (a b : Int) (ha : a < 256) : gmI a b < 256 := by have := gm_lt a.toNat b.toNat (by omega); unfold gmI; omega
theorem giI_lo (a : Int) : 0 ≤ giI a := Int.natCast_nonneg _
theorem giI_hi (a : Int) : giI a < 256 := by have := gi_lt a.toNat; unfold giI; omega
theorem gboxI_lo (a : Int) : 0 ≤ gboxI a := Int.natCast_nonneg _
theorem gboxI_hi (a : Int) : gboxI a < 256 := by have := gbox_lt a.toNat; unfold gboxI; omega
theorem gbackI_lo (a : Int) : 0 ≤ gbackI a := Int.natCast_nonneg _
theorem gbackI_hi (a : Int) : gbackI a < 256 := by have := gback_lt a.toNat; unfold gbackI; omega
theorem tnI_lo (a n : Int) : 0 ≤ tnI a n := Int.natCast_nonneg _
theorem tnI_hi (a n : Int) (ha : a < 256) (hn : n < 8) : tnI a n < 256 := by have := tn_lt a.toNat n.toNat (by omega) (by omega); unfold tnI; omega

end Go.Proofs.Ytpampcokonicfaa
/- AES as plain functions on lists of bytes; deciphering undoes enciphering, and the other way round. No program in sight. -/
namespace Go.Proofs.Ytpampcokonicfaa
open Go
set_option maxRecDepth 100000
set_option linter.unusedVariables false

def gmU (a b : UInt8) : UInt8 := UInt8.ofNat (gm a.toNat b.toNat)
def boxU (a : UInt8) : UInt8 := UInt8.ofNat (gbox a.toNat)
def backU (a : UInt8) : UInt8 := UInt8.ofNat (gback a.toNat)
theorem tU (n : Nat) (h : n < 256) : (UInt8.ofNat n).toNat = n := by
  rw [UInt8.toNat_ofNat']
  exact Nat.mod_eq_of_lt h
theorem gmU_nat (a b : UInt8) : (gmU a b).toNat = gm a.toNat b.toNat := tU _ (gm_lt _ _ a.toNat_lt)
theorem boxU_nat (a : UInt8) : (boxU a).toNat = gbox a.toNat := tU _ (gbox_lt _)
theorem backU_nat (a : UInt8) : (backU a).toNat = gback a.toNat := tU _ (gback_lt _)
theorem back_boxU (a : UInt8) : backU (boxU a) = a := by
  apply UInt8.toNat_inj.1
  rw [backU_nat, boxU_nat, gback_box _ a.toNat_lt]
theorem box_backU (a : UInt8) : boxU (backU a) = a := by
  apply UInt8.toNat_inj.1
  rw [boxU_nat, backU_nat, gbox_back _ a.toNat_lt]
theorem gmU_right (a x y : UInt8) : gmU a (x ^^^ y) = gmU a x ^^^ gmU a y := by
  apply UInt8.toNat_inj.1
  rw [UInt8.toNat_xor, gmU_nat, gmU_nat, gmU_nat, UInt8.toNat_xor, gm_right]
theorem gmU_left (x y b : UInt8) : gmU (x ^^^ y) b = gmU x b ^^^ gmU y b := by
  apply UInt8.toNat_inj.1
  rw [UInt8.toNat_xor, gmU_nat, gmU_nat, gmU_nat, UInt8.toNat_xor, gm_left _ _ _ x.toNat_lt y.toNat_lt]
theorem gmU_assoc (a b c : UInt8) : gmU a (gmU b c) = gmU (gmU a b) c := by
  apply UInt8.toNat_inj.1
  rw [gmU_nat, gmU_nat, gmU_nat, gmU_nat, gm_assoc _ _ _ a.toNat_lt b.toNat_lt c.toNat_lt]
theorem gmU_one (a : UInt8) : gmU 1 a = a := by
  apply UInt8.toNat_inj.1
  rw [gmU_nat, gm_comm _ _ (by decide) a.toNat_lt]
  exact gm_one _ a.toNat_lt
theorem gmU_none (a : UInt8) : gmU 0 a = 0 := by
  apply UInt8.toNat_inj.1
  rw [gmU_nat]
  exact zero_gm _ a.toNat_lt
theorem gmU_zero (a : UInt8) : gmU a 0 = 0 := by
  apply UInt8.toNat_inj.1
  rw [gmU_nat]
  exact gm_zero _ a.toNat_lt

/-- four products' sum -/
def dot4 (p0 p1 p2 p3 c0 c1 c2 c3 : UInt8) : UInt8 := (((0 ^^^ gmU p0 c0) ^^^ gmU p1 c1) ^^^ gmU p2 c2) ^^^ gmU p3 c3
theorem dot4_eq (p0 p1 p2 p3 c0 c1 c2 c3 : UInt8) : dot4 p0 p1 p2 p3 c0 c1 c2 c3 = gmU p0 c0 ^^^ gmU p1 c1 ^^^ gmU p2 c2 ^^^ gmU p3 c3 := by
  unfold dot4
  rw [UInt8.zero_xor]
theorem dot4_dot (q0 q1 q2 q3 a0 a1 a2 a3 b0 b1 b2 b3 d0 d1 d2 d3 e0 e1 e2 e3 c0 c1 c2 c3 : UInt8) :
    dot4 q0 q1 q2 q3 (dot4 a0 a1 a2 a3 c0 c1 c2 c3) (dot4 b0 b1 b2 b3 c0 c1 c2 c3) (dot4 d0 d1 d2 d3 c0 c1 c2 c3) (dot4 e0 e1 e2 e3 c0 c1 c2 c3) =
    dot4 (gmU q0 a0 ^^^ gmU q1 b0 ^^^ gmU q2 d0 ^^^ gmU q3 e0) (gmU q0 a1 ^^^ gmU q1 b1 ^^^ gmU q2 d1 ^^^ gmU q3 e1)
      (gmU q0 a2 ^^^ gmU q1 b2 ^^^ gmU q2 d2 ^^^ gmU q3 e2) (gmU q0 a3 ^^^ gmU q1 b3 ^^^ gmU q2 d3 ^^^ gmU q3 e3) c0 c1 c2 c3 := by
  simp only [dot4_eq, gmU_right, gmU_left, gmU_assoc]
  ac_rfl
theorem dot4_1 (c0 c1 c2 c3 : UInt8) : dot4 1 0 0 0 c0 c1 c2 c3 = c0 := by simp [dot4_eq, gmU_one, gmU_none]
theorem dot4_2 (c0 c1 c2 c3 : UInt8) : dot4 0 1 0 0 c0 c1 c2 c3 = c1 := by simp [dot4_eq, gmU_one, gmU_none]
theorem dot4_3 (c0 c1 c2 c3 : UInt8) : dot4 0 0 1 0 c0 c1 c2 c3 = c2 := by simp [dot4_eq, gmU_one, gmU_none]
theorem dot4_4 (c0 c1 c2 c3 : UInt8) : dot4 0 0 0 1 c0 c1 c2 c3 = c3 := by simp [dot4_eq, gmU_one, gmU_none]

/-- a block with round key r xored to it -/
def withK (K b : List UInt8) (r : Nat) : List UInt8 := (List.range 16).map fun i => b.getD i 0 ^^^ K.getD (16 * r + i) 0
/-- the S-box, and the rows turned -/
def shiftB (b : List UInt8) : List UInt8 := (List.range 16).map fun i => boxU (b.getD ((i + 4 * (i % 4)) % 16) 0)
def mixAt (m b : List UInt8) (i : Nat) : UInt8 :=
  dot4 (m.getD ((0 + 4 - i % 4) % 4) 0) (m.getD ((1 + 4 - i % 4) % 4) 0) (m.getD ((2 + 4 - i % 4) % 4) 0) (m.getD ((3 + 4 - i % 4) % 4) 0)
    (b.getD (i - i % 4 + 0) 0) (b.getD (i - i % 4 + 1) 0) (b.getD (i - i % 4 + 2) 0) (b.getD (i - i % 4 + 3) 0)
def mixB (m b : List UInt8) : List UInt8 := (List.range 16).map (mixAt m b)
/-- the S-box backwards, and the rows turned back -/
def unTo (s b : List UInt8) : Nat → List UInt8
  | 0 => b
  | k + 1 => (unTo s b k).set ((k + 4 * (k % 4)) % 16) (backU (s.getD k 0))
def m2 : List UInt8 := [2, 3, 1, 1]
def m14 : List UInt8 := [14, 11, 13, 9]
def mid (R r : Nat) (s : List UInt8) : List UInt8 := if r < R then mixB m2 s else s
def dim (R r : Nat) (s : List UInt8) : List UInt8 := if r < R then mixB m14 s else s
def encN (K : List UInt8) (R : Nat) : Nat → Nat → List UInt8 → List UInt8
  | 0, _, b => b
  | n + 1, r, b => encN K R n (r + 1) (withK K (mid R r (shiftB b)) r)
def enc (K : List UInt8) (R : Nat) (b : List UInt8) : List UInt8 := encN K R R 1 (withK K b 0)
def decN (K : List UInt8) (R : Nat) : Nat → List UInt8 → List UInt8
  | 0, b => withK K b 0
  | r + 1, b => decN K R r (unTo (dim R (r + 1) (withK K b (r + 1))) b 16)
def dec (K : List UInt8) (R : Nat) (b : List UInt8) : List UInt8 := decN K R R b

theorem range16 : List.range 16 = [0, 1, 2, 3, 4, 5, 6, 7, 8, 9, 10, 11, 12, 13, 14, 15] := by decide
theorem list16 (b : List UInt8) (h : b.length = 16) : ∃ b0 b1 b2 b3 b4 b5 b6 b7 b8 b9 b10 b11 b12 b13 b14 b15, b = [b0, b1, b2, b3, b4, b5, b6, b7, b8, b9, b10, b11, b12, b13, b14, b15] := by
  match b, h with
  | [b0, b1, b2, b3, b4, b5, b6, b7, b8, b9, b10, b11, b12, b13, b14, b15], _ => exact ⟨b0, b1, b2, b3, b4, b5, b6, b7, b8, b9, b10, b11, b12, b13, b14, b15, rfl⟩
theorem withK_len (K b : List UInt8) (r : Nat) : (withK K b r).length = 16 := by simp [withK]
theorem shiftB_len (b : List UInt8) : (shiftB b).length = 16 := by simp [shiftB]
theorem mixB_len (m b : List UInt8) : (mixB m b).length = 16 := by simp [mixB]
theorem unTo_len (s b : List UInt8) : ∀ k, (unTo s b k).length = b.length
  | 0 => rfl
  | k + 1 => by rw [unTo, List.length_set, unTo_len s b k]
theorem mid_len (R r : Nat) (s : List UInt8) (h : s.length = 16) : (mid R r s).length = 16 := by
  unfold mid; split
  · exact mixB_len _ _
  · exact h
theorem dim_len (R r : Nat) (s : List UInt8) (h : s.length = 16) : (dim R r s).length = 16 := by
  unfold dim; split
  · exact mixB_len _ _
  · exact h
theorem withK_twice (K b : List UInt8) (r : Nat) (h : b.length = 16) : withK K (withK K b r) r = b := by
  apply List.ext_getElem?
  intro i
  by_cases hi : i < 16
  · simp only [withK, List.getElem?_map, List.getElem?_range hi, Option.map_some, List.getD_eq_getElem?_getD, Option.getD_some]
    rw [List.getElem?_eq_getElem (by omega), UInt8.xor_assoc, UInt8.xor_self, UInt8.xor_zero]
    rfl
  · rw [List.getElem?_eq_none (by rw [withK_len]; omega), List.getElem?_eq_none (by omega)]
theorem un_shift (b c : List UInt8) (hb : b.length = 16) (hc : c.length = 16) : unTo (shiftB b) c 16 = b := by
  obtain ⟨b0, b1, b2, b3, b4, b5, b6, b7, b8, b9, b10, b11, b12, b13, b14, b15, rfl⟩ := list16 b hb
  obtain ⟨c0, c1, c2, c3, c4, c5, c6, c7, c8, c9, c10, c11, c12, c13, c14, c15, rfl⟩ := list16 c hc
  have e : shiftB [b0, b1, b2, b3, b4, b5, b6, b7, b8, b9, b10, b11, b12, b13, b14, b15] = [boxU b0, boxU b5, boxU b10, boxU b15, boxU b4, boxU b9, boxU b14, boxU b3, boxU b8, boxU b13, boxU b2, boxU b7, boxU b12, boxU b1, boxU b6, boxU b11] := by
    unfold shiftB; rw [range16]; rfl
  rw [e]
  show [backU (boxU b0), backU (boxU b1), backU (boxU b2), backU (boxU b3), backU (boxU b4), backU (boxU b5), backU (boxU b6), backU (boxU b7), backU (boxU b8), backU (boxU b9), backU (boxU b10), backU (boxU b11), backU (boxU b12), backU (boxU b13), backU (boxU b14), backU (boxU b15)] = _
  simp only [back_boxU]
theorem shift_un (s c : List UInt8) (hs : s.length = 16) (hc : c.length = 16) : shiftB (unTo s c 16) = s := by
  obtain ⟨b0, b1, b2, b3, b4, b5, b6, b7, b8, b9, b10, b11, b12, b13, b14, b15, rfl⟩ := list16 s hs
  obtain ⟨c0, c1, c2, c3, c4, c5, c6, c7, c8, c9, c10, c11, c12, c13, c14, c15, rfl⟩ := list16 c hc
  have e : unTo [b0, b1, b2, b3, b4, b5, b6, b7, b8, b9, b10, b11, b12, b13, b14, b15] [c0, c1, c2, c3, c4, c5, c6, c7, c8, c9, c10, c11, c12, c13, c14, c15] 16 = [backU b0, backU b13, backU b10, backU b7, backU b4, backU b1, backU b14, backU b11, backU b8, backU b5, backU b2, backU b15, backU b12, backU b9, backU b6, backU b3] := rfl
  rw [e]
  unfold shiftB
  rw [range16]
  show [boxU (backU b0), boxU (backU b1), boxU (backU b2), boxU (backU b3), boxU (backU b4), boxU (backU b5), boxU (backU b6), boxU (backU b7), boxU (backU b8), boxU (backU b9), boxU (backU b10), boxU (backU b11), boxU (backU b12), boxU (backU b13), boxU (backU b14), boxU (backU b15)] = _
  simp only [box_backU]
theorem mix_form (p0 p1 p2 p3 b0 b1 b2 b3 b4 b5 b6 b7 b8 b9 b10 b11 b12 b13 b14 b15 : UInt8) : mixB [p0, p1, p2, p3] [b0, b1, b2, b3, b4, b5, b6, b7, b8, b9, b10, b11, b12, b13, b14, b15] =
    [dot4 p0 p1 p2 p3 b0 b1 b2 b3, dot4 p3 p0 p1 p2 b0 b1 b2 b3, dot4 p2 p3 p0 p1 b0 b1 b2 b3, dot4 p1 p2 p3 p0 b0 b1 b2 b3,
     dot4 p0 p1 p2 p3 b4 b5 b6 b7, dot4 p3 p0 p1 p2 b4 b5 b6 b7, dot4 p2 p3 p0 p1 b4 b5 b6 b7, dot4 p1 p2 p3 p0 b4 b5 b6 b7,
     dot4 p0 p1 p2 p3 b8 b9 b10 b11, dot4 p3 p0 p1 p2 b8 b9 b10 b11, dot4 p2 p3 p0 p1 b8 b9 b10 b11, dot4 p1 p2 p3 p0 b8 b9 b10 b11,
     dot4 p0 p1 p2 p3 b12 b13 b14 b15, dot4 p3 p0 p1 p2 b12 b13 b14 b15, dot4 p2 p3 p0 p1 b12 b13 b14 b15, dot4 p1 p2 p3 p0 b12 b13 b14 b15] := by
  unfold mixB; rw [range16]; rfl
theorem mix_undo (p0 p1 p2 p3 q0 q1 q2 q3 : UInt8) (s : List UInt8) (hs : s.length = 16)
    (h0 : gmU q0 p0 ^^^ gmU q1 p3 ^^^ gmU q2 p2 ^^^ gmU q3 p1 = 1) (h1 : gmU q0 p1 ^^^ gmU q1 p0 ^^^ gmU q2 p3 ^^^ gmU q3 p2 = 0) (h2 : gmU q0 p2 ^^^ gmU q1 p1 ^^^ gmU q2 p0 ^^^ gmU q3 p3 = 0) (h3 : gmU q0 p3 ^^^ gmU q1 p2 ^^^ gmU q2 p1 ^^^ gmU q3 p0 = 0) :
    mixB [q0, q1, q2, q3] (mixB [p0, p1, p2, p3] s) = s := by
  obtain ⟨b0, b1, b2, b3, b4, b5, b6, b7, b8, b9, b10, b11, b12, b13, b14, b15, rfl⟩ := list16 s hs
  have g0 : ∀ c0 c1 c2 c3, dot4 q0 q1 q2 q3 (dot4 p0 p1 p2 p3 c0 c1 c2 c3) (dot4 p3 p0 p1 p2 c0 c1 c2 c3) (dot4 p2 p3 p0 p1 c0 c1 c2 c3) (dot4 p1 p2 p3 p0 c0 c1 c2 c3) = c0 := by
    intro c0 c1 c2 c3; rw [dot4_dot, h0, h1, h2, h3, dot4_1]
  have g1 : ∀ c0 c1 c2 c3, dot4 q3 q0 q1 q2 (dot4 p0 p1 p2 p3 c0 c1 c2 c3) (dot4 p3 p0 p1 p2 c0 c1 c2 c3) (dot4 p2 p3 p0 p1 c0 c1 c2 c3) (dot4 p1 p2 p3 p0 c0 c1 c2 c3) = c1 := by
    intro c0 c1 c2 c3
    rw [dot4_dot, show gmU q3 p0 ^^^ gmU q0 p3 ^^^ gmU q1 p2 ^^^ gmU q2 p1 = 0 from by rw [← h3]; ac_rfl, show gmU q3 p1 ^^^ gmU q0 p0 ^^^ gmU q1 p3 ^^^ gmU q2 p2 = 1 from by rw [← h0]; ac_rfl,
      show gmU q3 p2 ^^^ gmU q0 p1 ^^^ gmU q1 p0 ^^^ gmU q2 p3 = 0 from by rw [← h1]; ac_rfl, show gmU q3 p3 ^^^ gmU q0 p2 ^^^ gmU q1 p1 ^^^ gmU q2 p0 = 0 from by rw [← h2]; ac_rfl, dot4_2]
  have g2 : ∀ c0 c1 c2 c3, dot4 q2 q3 q0 q1 (dot4 p0 p1 p2 p3 c0 c1 c2 c3) (dot4 p3 p0 p1 p2 c0 c1 c2 c3) (dot4 p2 p3 p0 p1 c0 c1 c2 c3) (dot4 p1 p2 p3 p0 c0 c1 c2 c3) = c2 := by
    intro c0 c1 c2 c3
    rw [dot4_dot, show gmU q2 p0 ^^^ gmU q3 p3 ^^^ gmU q0 p2 ^^^ gmU q1 p1 = 0 from by rw [← h2]; ac_rfl, show gmU q2 p1 ^^^ gmU q3 p0 ^^^ gmU q0 p3 ^^^ gmU q1 p2 = 0 from by rw [← h3]; ac_rfl,
      show gmU q2 p2 ^^^ gmU q3 p1 ^^^ gmU q0 p0 ^^^ gmU q1 p3 = 1 from by rw [← h0]; ac_rfl, show gmU q2 p3 ^^^ gmU q3 p2 ^^^ gmU q0 p1 ^^^ gmU q1 p0 = 0 from by rw [← h1]; ac_rfl, dot4_3]
  have g3 : ∀ c0 c1 c2 c3, dot4 q1 q2 q3 q0 (dot4 p0 p1 p2 p3 c0 c1 c2 c3) (dot4 p3 p0 p1 p2 c0 c1 c2 c3) (dot4 p2 p3 p0 p1 c0 c1 c2 c3) (dot4 p1 p2 p3 p0 c0 c1 c2 c3) = c3 := by
    intro c0 c1 c2 c3
    rw [dot4_dot, show gmU q1 p0 ^^^ gmU q2 p3 ^^^ gmU q3 p2 ^^^ gmU q0 p1 = 0 from by rw [← h1]; ac_rfl, show gmU q1 p1 ^^^ gmU q2 p0 ^^^ gmU q3 p3 ^^^ gmU q0 p2 = 0 from by rw [← h2]; ac_rfl,
      show gmU q1 p2 ^^^ gmU q2 p1 ^^^ gmU q3 p0 ^^^ gmU q0 p3 = 0 from by rw [← h3]; ac_rfl, show gmU q1 p3 ^^^ gmU q2 p2 ^^^ gmU q3 p1 ^^^ gmU q0 p0 = 1 from by rw [← h0]; ac_rfl, dot4_4]
  rw [mix_form, mix_form]
  simp only [g0, g1, g2, g3]
theorem mix_back (s : List UInt8) (hs : s.length = 16) : mixB m14 (mixB m2 s) = s := mix_undo 2 3 1 1 14 11 13 9 s hs (by decide +kernel) (by decide +kernel) (by decide +kernel) (by decide +kernel)
theorem back_mix (s : List UInt8) (hs : s.length = 16) : mixB m2 (mixB m14 s) = s := mix_undo 14 11 13 9 2 3 1 1 s hs (by decide +kernel) (by decide +kernel) (by decide +kernel) (by decide +kernel)
theorem dim_mid (R r : Nat) (s : List UInt8) (hs : s.length = 16) : dim R r (mid R r s) = s := by
  unfold dim mid
  split
  · exact mix_back s hs
  · rfl
theorem mid_dim (R r : Nat) (s : List UInt8) (hs : s.length = 16) : mid R r (dim R r s) = s := by
  unfold dim mid
  split
  · exact back_mix s hs
  · rfl

/-- a round, and back -/
def rnd (K : List UInt8) (R r : Nat) (b : List UInt8) : List UInt8 := withK K (mid R r (shiftB b)) r
def unr (K : List UInt8) (R r : Nat) (b : List UInt8) : List UInt8 := unTo (dim R r (withK K b r)) b 16
theorem rnd_len (K : List UInt8) (R r : Nat) (b : List UInt8) : (rnd K R r b).length = 16 := withK_len _ _ _
theorem unr_len (K : List UInt8) (R r : Nat) (b : List UInt8) (h : b.length = 16) : (unr K R r b).length = 16 := (unTo_len _ _ _).trans h
theorem unr_rnd (K : List UInt8) (R r : Nat) (b : List UInt8) (h : b.length = 16) : unr K R r (rnd K R r b) = b := by
  unfold unr
  have e : withK K (rnd K R r b) r = mid R r (shiftB b) := withK_twice _ _ _ (mid_len _ _ _ (shiftB_len b))
  rw [e, dim_mid _ _ _ (shiftB_len b)]
  exact un_shift b _ h (rnd_len _ _ _ _)
theorem rnd_unr (K : List UInt8) (R r : Nat) (b : List UInt8) (h : b.length = 16) : rnd K R r (unr K R r b) = b := by
  unfold rnd
  have e : shiftB (unr K R r b) = dim R r (withK K b r) := shift_un _ _ (dim_len _ _ _ (withK_len _ _ _)) h
  rw [e, mid_dim _ _ _ (withK_len _ _ _), withK_twice _ _ _ h]
def encS (K : List UInt8) (R : Nat) (b : List UInt8) : Nat → List UInt8
  | 0 => withK K b 0
  | r + 1 => rnd K R (r + 1) (encS K R b r)
theorem encS_len (K : List UInt8) (R : Nat) (b : List UInt8) : ∀ r, (encS K R b r).length = 16
  | 0 => withK_len _ _ _
  | r + 1 => rnd_len _ _ _ _
theorem encN_S (K : List UInt8) (R : Nat) (b : List UInt8) : ∀ n r, encN K R n (r + 1) (encS K R b r) = encS K R b (r + n)
  | 0, r => rfl
  | n + 1, r => by
    rw [encN]
    have := encN_S K R b n (r + 1)
    rw [show r + (n + 1) = r + 1 + n from by omega, ← this]
    rfl
theorem enc_S (K : List UInt8) (R : Nat) (b : List UInt8) : enc K R b = encS K R b R := by
  have := encN_S K R b R 0
  rw [Nat.zero_add R] at this
  exact this
theorem enc_len (K : List UInt8) (R : Nat) (b : List UInt8) : (enc K R b).length = 16 := by rw [enc_S]; exact encS_len _ _ _ _
theorem decN_encS (K : List UInt8) (R : Nat) (b : List UInt8) (h : b.length = 16) : ∀ r, decN K R r (encS K R b r) = b
  | 0 => by rw [decN, encS, withK_twice _ _ _ h]
  | r + 1 => by
    have e : unTo (dim R (r + 1) (withK K (encS K R b (r + 1)) (r + 1))) (encS K R b (r + 1)) 16 = encS K R b r := unr_rnd K R (r + 1) _ (encS_len _ _ _ _)
    rw [decN, e]
    exact decN_encS K R b h r
theorem dec_enc (K : List UInt8) (R : Nat) (b : List UInt8) (h : b.length = 16) : dec K R (enc K R b) = b := by
  rw [enc_S]
  exact decN_encS K R b h R
theorem decN_len (K : List UInt8) (R : Nat) : ∀ r b, (decN K R r b).length = 16
  | 0, b => withK_len _ _ _
  | r + 1, b => by rw [decN]; exact decN_len K R r _
theorem dec_len (K : List UInt8) (R : Nat) (b : List UInt8) : (dec K R b).length = 16 := decN_len _ _ _ _
theorem encS_decN (K : List UInt8) (R : Nat) : ∀ r b, b.length = 16 → encS K R (decN K R r b) r = b
  | 0, b, h => by rw [encS, decN, withK_twice _ _ _ h]
  | r + 1, b, h => by
    rw [encS, decN]
    have e := encS_decN K R r (unr K R (r + 1) b) (unr_len _ _ _ _ h)
    unfold unr at e
    rw [e]
    exact rnd_unr K R (r + 1) b h
theorem enc_dec (K : List UInt8) (R : Nat) (b : List UInt8) (h : b.length = 16) : enc K R (dec K R b) = b := by
  rw [enc_S]
  exact encS_decN K R R b h
theorem enc_inj (K : List UInt8) (R : Nat) (a b : List UInt8) (ha : a.length = 16) (hb : b.length = 16) : enc K R a = enc K R b ↔ a = b := by
  constructor
  · intro h
    rw [← dec_enc K R a ha, h, dec_enc K R b hb]
  · rintro rfl; rfl

/-! ### the round keys -/
def wordAt (W : List UInt8) (i : Nat) : List UInt8 := [W.getD (4 * i) 0, W.getD (4 * i + 1) 0, W.getD (4 * i + 2) 0, W.getD (4 * i + 3) 0]
/-- the word that is xored at place i -/
def turned (k i : Nat) (x : UInt8) (t : List UInt8) : List UInt8 :=
  if i % k = 0 then [boxU (t.getD 1 0) ^^^ x, boxU (t.getD 2 0), boxU (t.getD 3 0), boxU (t.getD 0 0)]
  else if k = 8 ∧ i % 8 = 4 then [boxU (t.getD 0 0), boxU (t.getD 1 0), boxU (t.getD 2 0), boxU (t.getD 3 0)] else t
def putTo (W t : List UInt8) (k i : Nat) : Nat → List UInt8
  | 0 => W
  | b + 1 => (putTo W t k i b).set (4 * i + b) ((putTo W t k i b).getD (4 * (i - k) + b) 0 ^^^ t.getD b 0)
def nextX (k i : Nat) (x : UInt8) : UInt8 := if i % k = 0 then gmU x 2 else x
def expN (k : Nat) : Nat → Nat → UInt8 → List UInt8 → List UInt8
  | 0, _, _, W => W
  | n + 1, i, x, W => expN k n (i + 1) (nextX k i x) (putTo W (turned k i x (wordAt W (i - 1))) k i 4)
def sched (key : List UInt8) : List UInt8 := expN (key.length / 4) (3 * (key.length / 4) + 28) (key.length / 4) 1 (key ++ List.replicate (240 - key.length) 0)
theorem putTo_len (W t : List UInt8) (k i : Nat) : ∀ b, (putTo W t k i b).length = W.length
  | 0 => rfl
  | b + 1 => by rw [putTo, List.length_set, putTo_len W t k i b]
theorem expN_len (k : Nat) : ∀ n i x W, (expN k n i x W).length = W.length
  | 0, _, _, _ => rfl
  | n + 1, i, x, W => by rw [expN, expN_len k n, putTo_len]
theorem sched_len (key : List UInt8) (h : key.length ≤ 240) : (sched key).length = 240 := by
  unfold sched
  rw [expN_len, List.length_append, List.length_replicate]
  omega
theorem putTo_low (W t : List UInt8) (k i : Nat) : ∀ b j, j < 4 * i → (putTo W t k i b)[j]? = W[j]?
  | 0, _, _ => rfl
  | b + 1, j, h => by rw [putTo, List.getElem?_set_ne (by omega), putTo_low W t k i b j h]
theorem expN_low (k : Nat) : ∀ n i x W j, j < 4 * i → (expN k n i x W)[j]? = W[j]?
  | 0, _, _, _, _, _ => rfl
  | n + 1, i, x, W, j, h => by rw [expN, expN_low k n _ _ _ j (by omega), putTo_low _ _ _ _ _ _ h]
/-- the round keys begin with the key -/
theorem sched_take (key : List UInt8) (h : key.length % 4 = 0) (hl : key.length ≤ 240) : (sched key).take key.length = key := by
  apply List.ext_getElem?
  intro j
  by_cases hj : j < key.length
  · rw [List.getElem?_take_of_lt hj]
    unfold sched
    rw [expN_low _ _ _ _ _ _ (by omega), List.getElem?_append_left hj]
  · rw [List.getElem?_eq_none (by rw [List.length_take]; omega), List.getElem?_eq_none (by omega)]
theorem sched_inj (a b : List UInt8) (ha : a.length % 4 = 0) (hb : b.length % 4 = 0) (hla : a.length ≤ 240) (hlb : b.length ≤ 240) (hl : a.length = b.length) (n : Nat) (hn : a.length ≤ n) (h : (sched a).take n = (sched b).take n) : a = b := by
  have e : ((sched a).take n).take a.length = ((sched b).take n).take a.length := by rw [h]
  rw [List.take_take, List.take_take, Nat.min_eq_left hn] at e
  rw [sched_take a ha hla, hl, sched_take b hb hlb] at e
  exact e
end Go.Proofs.Ytpampcokonicfaa
/- The contracts of package gf8: each call returns the plain number; the world is as it was but for draws. Conditions: the arguments are bytes. -/
namespace Go.Proofs.Ytpampcokonicfaa
open Go.RowKit
set_option maxRecDepth 100000

theorem bx8 (x y : Nat) (hx : x < 256) (hy : y < 256) : bits .xor .u8 (x : Int) (y : Int) = ((x ^^^ y : Nat) : Int) := u8_xor_nat x y hx hy
theorem neg_bit (b : Nat) : -bits .and .u8 (b : Int) 1 % 256 = if b % 2 = 1 then (255 : Int) else 0 := by
  have h : bits .and .u8 (b : Int) 1 = ((b % 2 : Nat) : Int) := by
    have h0 : bits .and .u8 (b : Int) 1 = ((BitVec.ofInt 8 (b : Int) &&& 1#8).toNat : Int) % 256 := by
      rw [show bits .and .u8 (b : Int) 1 = IntKind.u8.wrap ((BitVec.ofInt 8 (b : Int) &&& BitVec.ofInt 8 1).toNat : Int) from rfl, IntKind.wrap_u8]
      rfl
    have h1 : (BitVec.ofInt 8 (b : Int) &&& 1#8).toNat = b % 2 := by
      rw [BitVec.toNat_and, BitVec.ofInt_natCast, BitVec.toNat_ofNat]
      show (b % 256) &&& 1 = b % 2
      rw [Nat.and_one_is_mod]
      omega
    rw [h0, h1]
    omega
  rw [h]
  split <;> omega
theorem and_255 (a : Nat) (ha : a < 256) : bits .and .u8 (a : Int) 255 = (a : Int) := by
  have e : bits .and .u8 (a : Int) ((255 : Nat) : Int) = ((a &&& 255 : Nat) : Int) := u8_and_nat a 255 ha (by omega)
  have f : a &&& 255 = a := by rw [show (255 : Nat) = 2 ^ 8 - 1 from rfl, Nat.and_two_pow_sub_one_eq_mod, Nat.mod_eq_of_lt ha]
  rw [f] at e
  exact e
theorem and_0 (a : Nat) (ha : a < 256) : bits .and .u8 (a : Int) 0 = 0 := by
  have e : bits .and .u8 (a : Int) ((0 : Nat) : Int) = ((a &&& 0 : Nat) : Int) := u8_and_nat a 0 ha (by omega)
  simpa using e
theorem mul_step (q a b : Nat) (hq : q < 256) (ha : a < 256) :
    bits .xor .u8 (q : Int) (bits .and .u8 (a : Int) (-bits .and .u8 (b : Int) 1 % 256)) = ((q ^^^ (a * (b % 2)) : Nat) : Int) := by
  rw [neg_bit]
  rcases Nat.mod_two_eq_zero_or_one b with e | e
  · rw [if_neg (by omega), and_0 a ha, e, Nat.mul_zero]; exact bx8 q 0 hq (by omega)
  · rw [if_pos e, and_255 a ha, e, Nat.mul_one]; exact bx8 q a hq ha
theorem xt_step (a : Nat) (ha : a < 256) :
    bits .xor .u8 ((a : Int) * 2 % 256) (bits .and .u8 27 (-((a : Int) / 128) % 256)) = ((xt a : Nat) : Int) := by
  unfold xt
  have e1 : (a : Int) * 2 % 256 = ((a * 2 % 256 : Nat) : Int) := by omega
  rw [e1]
  by_cases h : a < 128
  · have e : -((a : Int) / 128) % 256 = 0 := by omega
    have f : a / 128 = 0 := by omega
    rw [e, f]
    have g : bits .and .u8 27 0 = 0 := by decide +kernel
    rw [g]
    exact bx8 (a * 2 % 256) 0 (by omega) (by omega)
  · have e : -((a : Int) / 128) % 256 = 255 := by omega
    have f : a / 128 = 1 := by omega
    rw [e, f]
    have g : bits .and .u8 27 255 = 27 := by decide +kernel
    rw [g]
    exact bx8 (a * 2 % 256) 27 (by omega) (by omega)

set_option maxHeartbeats 400000 in
theorem mul_nat (a b : Nat) (w : World) (ha : a < 256) (hb : b < 256) :
    Calls Try.prog 68 #[.int .u8 (a : Int), .int .u8 (b : Int)] w fun e w' => e = .returned (.int .u8 (gm a b : Nat)) ∧ w = w' := by
  have H0 : Hid (gmN 8 0 a b = gm a b) := rfl
  go_enter Try.func68, Try.ntmps68
  go_wp2
  go_loop [0, 1, 5, 6] (fun x y p i => ∃ k a1 b1 q : Nat, k ≤ 8 ∧ a1 < 256 ∧ b1 < 256 ∧ q < 256 ∧ Hid (gmN (8 - k) q a1 b1 = gm a b) ∧ x = .int .u8 (a1 : Int) ∧ y = .int .u8 (b1 : Int) ∧ p = .int .u8 (q : Int) ∧ i = .int .i64 (k : Int)) (fun _ _ _ i => 8 - (intOf i).toNat)
  case atStart => exact ⟨0, a, b, 0, by omega, ha, hb, by omega, H0, rfl, rfl, rfl, rfl⟩
  case round =>
    obtain ⟨k, a1, b1, q, hk, h1, h2, h3, H1, rfl, rfl, rfl, rfl⟩ := hrel
    clear H0
    by_cases hlt : k < 8
    · go_wp2
      go_round
      case rel =>
        refine ⟨k + 1, xt a1, b1 / 2, q ^^^ (a1 * (b1 % 2)), by omega, xt_lt a1 h1, by omega, lt_xor h3 (mul_bit_lt a1 b1 h1), ?_, ?_, ?_, ?_, by go_num⟩
        · have h := H1.out
          rw [show 8 - k = (8 - (k + 1)) + 1 from by omega] at h
          exact h
        · rw [xt_step a1 h1]
        · congr 1
        · rw [mul_step q a1 b1 h3 h1]
      case measure => simp [intOf]; omega
    · obtain rfl : k = 8 := by omega
      go_wp2
      go_ret
      have h : q = gm a b := H1.out
      rw [← h]
      exact ⟨rfl, rfl⟩
theorem mul_any (a b : Int) (w : World) (ha : 0 ≤ a) (ha' : a < 256) (hb : 0 ≤ b) (hb' : b < 256) :
    Calls Try.prog 68 #[.int .u8 a, .int .u8 b] w fun e w' => e = .returned (.int .u8 (gmI a b)) ∧ w = w' := by
  obtain ⟨x, rfl⟩ := Int.eq_ofNat_of_zero_le ha
  obtain ⟨y, rfl⟩ := Int.eq_ofNat_of_zero_le hb
  exact mul_nat x y w (by omega) (by omega)

set_option maxHeartbeats 400000 in
theorem inv_any (a : Int) (w : World) (ha : 0 ≤ a) (ha' : a < 256) :
    Calls Try.prog 69 #[.int .u8 a] w fun e w' => e = .returned (.int .u8 (giI a)) ∧ w = w' := by
  obtain ⟨x, rfl⟩ := Int.eq_ofNat_of_zero_le ha
  have H0 : Hid (invN 7 1 x = gi x) := rfl
  go_enter Try.func69, Try.ntmps69
  go_wp2
  go_loop [0, 3, 4] (fun y p i => ∃ k a1 q : Nat, k ≤ 7 ∧ a1 < 256 ∧ q < 256 ∧ Hid (invN (7 - k) q a1 = gi x) ∧ y = .int .u8 (a1 : Int) ∧ p = .int .u8 (q : Int) ∧ i = .int .i64 (k : Int)) (fun _ _ i => 7 - (intOf i).toNat)
  case atStart => exact ⟨0, x, 1, by omega, by omega, by omega, H0, rfl, rfl, rfl⟩
  case round =>
    obtain ⟨k, a1, q, hk, h1, h3, H1, rfl, rfl, rfl⟩ := hrel
    clear H0
    by_cases hlt : k < 7
    · go_wp2_with fail
      refine (mul_nat _ _ _ h1 h1).mono ?_
      rintro e w' ⟨rfl, rfl⟩
      go_wp2_with fail
      refine (mul_nat _ _ _ h3 (gm_lt a1 a1 h1)).mono ?_
      rintro e w' ⟨rfl, rfl⟩
      go_wp2
      go_round
      case rel =>
        have hg := gm_lt a1 a1 h1
        refine ⟨k + 1, gm a1 a1, gm q (gm a1 a1), by omega, hg, gm_lt _ _ h3, ?_, rfl, rfl, by go_num⟩
        have h := H1.out
        rw [show 7 - k = (7 - (k + 1)) + 1 from by omega] at h
        exact h
      case measure => simp [intOf]; omega
    · obtain rfl : k = 7 := by omega
      go_wp2
      go_ret
      have h : q = gi x := H1.out
      unfold giI
      rw [Int.toNat_natCast, ← h]
      exact ⟨rfl, rfl⟩

theorem tn_form (a n : Nat) (ha : a < 256) : bits .or .u8 ((a : Int) * 2 ^ n % 256) ((a : Int) / 2 ^ (8 - n)) = ((tn a n : Nat) : Int) := by
  have e1 : (a : Int) * 2 ^ n % 256 = ((a * 2 ^ n % 256 : Nat) : Int) := by rw [Int.natCast_emod, Int.natCast_mul, Int.natCast_pow]; rfl
  have e2 : (a : Int) / 2 ^ (8 - n) = ((a / 2 ^ (8 - n) : Nat) : Int) := by rw [Int.natCast_ediv, Int.natCast_pow]; rfl
  rw [e1, e2]
  exact u8_or_nat _ _ (by omega) (Nat.lt_of_le_of_lt (Nat.div_le_self _ _) ha)
set_option maxHeartbeats 400000 in
theorem turn_any (a n : Int) (w : World) (ha : 0 ≤ a) (ha' : a < 256) (hb : 0 ≤ n) (hb' : n < 8) :
    Calls Try.prog 70 #[.int .u8 a, .int .i64 n] w fun e w' => e = .returned (.int .u8 (tnI a n)) ∧ ∃ m, w' = w.drewN m := by
  obtain ⟨x, rfl⟩ := Int.eq_ofNat_of_zero_le ha
  obtain ⟨y, rfl⟩ := Int.eq_ofNat_of_zero_le hb
  have e := tn_form x y (by omega)
  have E := Lib.hid e
  clear e
  go_enter Try.func70, Try.ntmps70
  go_wp2
  go_quiet (fail)
  go_wp2
  go_ret
  refine ⟨?_, nq, rfl⟩
  unfold tnI
  rw [Int.toNat_natCast, Int.toNat_natCast, ← E.out]
  simp

theorem bx (x y : Int) (h1 : 0 ≤ x) (h2 : x < 256) (h3 : 0 ≤ y) (h4 : y < 256) : bits .xor .u8 x y = ((x.toNat ^^^ y.toNat : Nat) : Int) := u8_xor x y h1 h2 h3 h4
theorem box_form (a : Int) :
    bits .xor .u8 (bits .xor .u8 (bits .xor .u8 (bits .xor .u8 (bits .xor .u8 (giI a) (tnI (giI a) 1)) (tnI (giI a) 2)) (tnI (giI a) 3)) (tnI (giI a) 4)) 99 = gboxI a := by
  have h := gi_lt a.toNat
  have t1 := tn_lt (gi a.toNat) 1 h (by omega)
  have t2 := tn_lt (gi a.toNat) 2 h (by omega)
  have t3 := tn_lt (gi a.toNat) 3 h (by omega)
  have t4 := tn_lt (gi a.toNat) 4 h (by omega)
  unfold giI tnI gboxI gbox
  simp only [Int.toNat_natCast, show (1 : Int).toNat = 1 from rfl, show (2 : Int).toNat = 2 from rfl, show (3 : Int).toNat = 3 from rfl, show (4 : Int).toNat = 4 from rfl]
  rw [bx8 _ _ h t1, bx8 _ _ (lt_xor h t1) t2, bx8 _ _ (lt_xor (lt_xor h t1) t2) t3, bx8 _ _ (lt_xor (lt_xor (lt_xor h t1) t2) t3) t4]
  exact bx8 _ 99 (lt_xor (lt_xor (lt_xor (lt_xor h t1) t2) t3) t4) (by omega)
theorem back_form (a : Int) (ha : a < 256) :
    giI (bits .xor .u8 (bits .xor .u8 (bits .xor .u8 (tnI a 1) (tnI a 3)) (tnI a 6)) 5) = gbackI a := by
  have h : a.toNat < 256 := by omega
  have t1 := tn_lt a.toNat 1 h (by omega)
  have t2 := tn_lt a.toNat 3 h (by omega)
  have t3 := tn_lt a.toNat 6 h (by omega)
  unfold giI tnI gbackI gback
  simp only [show (1 : Int).toNat = 1 from rfl, show (3 : Int).toNat = 3 from rfl, show (6 : Int).toNat = 6 from rfl]
  rw [bx8 _ _ t1 t2, bx8 _ _ (lt_xor t1 t2) t3]
  have e := bx8 _ 5 (lt_xor (lt_xor t1 t2) t3) (by omega)
  rw [show bits .xor .u8 ((tn a.toNat 1 ^^^ tn a.toNat 3 ^^^ tn a.toNat 6 : Nat) : Int) 5 = ((tn a.toNat 1 ^^^ tn a.toNat 3 ^^^ tn a.toNat 6 ^^^ 5 : Nat) : Int) from e, Int.toNat_natCast]

set_option maxHeartbeats 400000 in
theorem box_any (a : Int) (w : World) (ha : 0 ≤ a) (ha' : a < 256) :
    Calls Try.prog 46 #[.int .u8 a] w fun e w' => e = .returned (.int .u8 (gboxI a)) ∧ ∃ m, w' = w.drewN m := by
  have E := Lib.hid (box_form a)
  have g1 := giI_lo a
  have g2 := giI_hi a
  go_enter Try.func46, Try.ntmps46
  go_wp2_with fail
  refine (inv_any _ _ ha ha').mono ?_
  rintro e w' ⟨rfl, rfl⟩
  go_wp2_with fail
  refine (turn_any _ _ _ g1 g2 (by omega) (by omega)).mono ?_
  rintro e w' ⟨rfl, m1, rfl⟩
  go_wp2_with fail
  refine (turn_any _ _ _ g1 g2 (by omega) (by omega)).mono ?_
  rintro e w' ⟨rfl, m2, rfl⟩
  go_wp2_with fail
  refine (turn_any _ _ _ g1 g2 (by omega) (by omega)).mono ?_
  rintro e w' ⟨rfl, m3, rfl⟩
  go_wp2_with fail
  refine (turn_any _ _ _ g1 g2 (by omega) (by omega)).mono ?_
  rintro e w' ⟨rfl, m4, rfl⟩
  go_wp2
  go_ret
  refine ⟨?_, m1 + m2 + m3 + m4, by simp⟩
  rw [← E.out]
  rfl

end Go.Proofs.Ytpampcokonicfaa
/- A region that draws its order, walked once in the order of its text: each operation of its head has ONE value in every world that meets S, and leaves a world that meets S (reads, arithmetic, calls that keep S). The tail follows in its one order. No program in sight. -/
namespace Go.Proofs.Ytpampcokonicfaa
open Go

section
variable {P : Program} {ops : Array Oper} {md : Region.Mode} {ib : Nat} {S S' : World → Prop}

/-- what one step gives: the value v, and S again -/
def Gives (P : Program) (S : World → Prop) (v : Value) : Result Next → Prop
  | .ok (.value u) w' => u = v ∧ S w'
  | .ok .skip w' => v = undef ∧ S w'
  | .ok (.enter f args) w' => Calls P f args w' fun e w'' => e = .returned v ∧ S w''
  | _ => False
/-- operation i of the head: number ib leads from S to S'; every other one keeps both -/
def Tame (P : Program) (ops : Array Oper) (ib : Nat) (S S' : World → Prop) (i : Nat) (o : Oper) (v : Value) (a : Act) : Prop :=
  (Region.wanted o (yielded ops a.tmps) = true ∧ (i = ib → ∀ w, S w → Gives P S' v ((execOp a.eval o).run P w)) ∧ (i ≠ ib → (∀ w, S w → Gives P S v ((execOp a.eval o).run P w)) ∧ ∀ w, S' w → Gives P S' v ((execOp a.eval o).run P w))) ∨
  (Region.wanted o (yielded ops a.tmps) = false ∧ v = undef ∧ i ≠ ib)
/-- the world's condition, by what has come up -/
def Met (ib : Nat) (S S' : World → Prop) (listed : Array Bool) (w : World) : Prop := (listed.getD ib false = false ∧ S w) ∨ (listed.getD ib false = true ∧ S' w)

theorem Tame.of_same {i : Nat} {o : Oper} {v : Value} {a a' : Act} (hy : Tame P ops ib S S' i o v a) (he : execOp a'.eval o = execOp a.eval o)
    (hw : Region.wanted o (yielded ops a'.tmps) = Region.wanted o (yielded ops a.tmps)) : Tame P ops ib S S' i o v a' := by
  unfold Tame at *
  rw [he, hw]
  exact hy
theorem gives_wp {o : Oper} {v : Value} {a : Act} {T : World → Prop} {K : Act → World → Prop} {Q : Exit → Act → World → Prop} {w : World} (h1 : Gives P T v ((execOp a.eval o).run P w)) (h : ∀ w, T w → K (a.put o.dst v) w) : o.wp P a w K Q := by
  unfold Oper.wp
  generalize (execOp a.eval o).run P w = r at *
  cases r with
  | ok n w' =>
    cases n <;> simp only [Gives] at h1 <;> simp only [Oper.upon]
    case value u => obtain ⟨rfl, h2⟩ := h1; exact h _ h2
    case skip => obtain ⟨rfl, h2⟩ := h1; exact h _ h2
    case enter f args => exact h1.mono fun e w'' ⟨he, hs⟩ => by subst he; exact h _ hs
  | halt x w' => simp only [Gives] at h1
theorem Tame.wpOp {i : Nat} {o : Oper} {v : Value} {a : Act} {listed : Array Bool} (hi : ops[i]? = some o) (hr : listed.getD i true = false) (hy : Tame P ops ib S S' i o v a) {K : Act → World → Prop} {Q : Exit → Act → World → Prop}
    (h : ∀ w, Met ib S S' (listed.setIfInBounds i true) w → K (a.put o.dst v) w) (w : World) (hS : Met ib S S' listed w) : wpOp P ops Q i K a w := by
  unfold Go.wpOp
  simp only [hi]
  have hlt : i < listed.size := by
    rcases Nat.lt_or_ge i listed.size with h' | h'
    · exact h'
    · simp [Array.getElem?_eq_none h'] at hr
  have hr' : listed.getD i false = false := getD_both hr
  rcases hy with ⟨hw, hb, hn⟩ | ⟨hw, rfl, hne⟩
  · simp only [hw, if_true]
    refine .inl ?_
    by_cases e : i = ib
    · subst e
      rcases hS with ⟨_, hS⟩ | ⟨hx, _⟩
      · exact gives_wp (hb rfl w hS) fun w' hw' => h w' (.inr ⟨by simp [hlt], hw'⟩)
      · rw [hr'] at hx; cases hx
    · obtain ⟨h1, h2⟩ := hn e
      rcases hS with ⟨hx, hS⟩ | ⟨hx, hS⟩
      · exact gives_wp (h1 w hS) fun w' hw' => h w' (.inl ⟨by rw [getD_set_ne false e]; exact hx, hw'⟩)
      · exact gives_wp (h2 w hS) fun w' hw' => h w' (.inr ⟨by rw [getD_set_ne false e]; exact hx, hw'⟩)
  · simp only [hw, Bool.false_eq_true, if_false]
    refine h w ?_
    rcases hS with ⟨hx, hS⟩ | ⟨hx, hS⟩
    · exact .inl ⟨by rw [getD_set_ne false hne]; exact hx, hS⟩
    · exact .inr ⟨by rw [getD_set_ne false hne]; exact hx, hS⟩

def taOp (P : Program) (ops : Array Oper) (ib : Nat) (S S' : World → Prop) (i : Nat) (K : Act → Prop) (a : Act) : Prop :=
  ∃ o v, ops[i]? = some o ∧ Tame P ops ib S S' i o v a ∧ K (a.put o.dst v)
theorem taOp_mono {i : Nat} {a : Act} {K K' : Act → Prop} (h : ∀ a, K a → K' a) (hh : taOp P ops ib S S' i K a) : taOp P ops ib S S' i K' a := by
  obtain ⟨o, v, h1, h2, h3⟩ := hh
  exact ⟨o, v, h1, h2, h _ h3⟩
theorem taOp_put {i j : Nat} {oi oj : Oper} {v : Value} (hj : ops[j]? = some oj) (hap : oi.apart ops oj = true)
    (hsi : ∀ cs b, oi.op ≠ .select cs b) (hsj : ∀ cs b, oj.op ≠ .select cs b) {K : Act → Prop} {a : Act}
    (hy : Tame P ops ib S S' i oi v a) (h : taOp P ops ib S S' j K (a.put oi.dst v)) :
    taOp P ops ib S S' j (fun a' => Tame P ops ib S S' i oi v a' ∧ K (a'.put oi.dst v)) a := by
  obtain ⟨h1, h2, h3⟩ := Oper.apart_spec hap
  obtain ⟨o, u, ho, hyo, hK⟩ := h
  have e : o = oj := Option.some.inj (ho.symm.trans hj)
  subst e
  refine ⟨o, u, hj, hyo.of_same (execOp_put o hsj a oi.dst v h1).symm (wanted_put o a oi.dst v h1).symm, ?_, ?_⟩
  · exact hy.of_same (execOp_put oi hsi a o.dst u h3) (wanted_put oi a o.dst u h3)
  · rw [← Act.put_comm a v u h2]
    exact hK

def wpAnyT (P : Program) (md : Region.Mode) (ops : Array Oper) (ib : Nat) (S S' : World → Prop) (n : Nat) (L : Array Bool → Act → Prop) : Nat → Array Bool → Act → Prop
  | 0, listed, a => L listed a
  | f + 1, listed, a =>
    Region.ready md ops listed ≠ [] ∧ ∀ i ∈ Region.ready md ops listed, i < n ∧ taOp P ops ib S S' i (wpAnyT P md ops ib S S' n L f (listed.setIfInBounds i true)) a

theorem wpAny_of_headT {n g : Nat} {L : Array Bool → Act → Prop} {Q' : Exit → Act → World → Prop} (hL : ∀ listed a, L listed a → ∀ w, Met ib S S' listed w → wpAny P md ops Q' g listed a w) :
    ∀ (f : Nat) (listed : Array Bool) (a : Act), wpAnyT P md ops ib S S' n L f listed a → ∀ w, Met ib S S' listed w → wpAny P md ops Q' (f + g) listed a w
  | 0, listed, a, h, w, hS => by rw [Nat.zero_add]; exact hL _ _ h w hS
  | f + 1, listed, a, h, w, hS => by
    rw [show f + 1 + g = (f + g) + 1 by omega]
    refine ⟨fun h0 => absurd h0 h.1, fun i hi => ?_⟩
    obtain ⟨o, v, ho, hy, hK⟩ := (h.2 i hi).2
    exact hy.wpOp ho (mem_ready.1 hi).1 (fun w' hS' => wpAny_of_headT hL f _ _ hK w' hS') w hS

/-- as 'sinkB' and 'tail_waits', from number m on: the first m have come up -/
def sinkM (md : Region.Mode) (ops : Array Oper) (m n : Nat) : Bool :=
  (List.range n).all fun i => decide (i < m) || (List.range (n + 1)).any fun j => decide (i < j) && Region.waitsFor md ops j i
/-- each operation behind n waits for one from n on -/
def chainW (md : Region.Mode) (ops : Array Oper) (n : Nat) : Bool :=
  (List.range ops.size).all fun t => decide (t ≤ n) || (List.range t).any fun u => decide (n ≤ u) && Region.waitsFor md ops t u
theorem chainW_of {n : Nat} (hc : Region.chainB md ops n = true) : chainW md ops n = true := by
  refine List.all_eq_true.2 fun t ht => ?_
  have h1 := List.all_eq_true.1 hc t ht
  simp only [Bool.or_eq_true, decide_eq_true_eq] at h1 ⊢
  rcases h1 with h1 | h1
  · exact .inl h1
  · by_cases h : t ≤ n
    · exact .inl h
    · refine .inr (List.any_eq_true.2 ⟨t - 1, List.mem_range.2 (by omega), ?_⟩)
      simp only [Bool.and_eq_true, decide_eq_true_eq]
      exact ⟨by omega, h1⟩
theorem tail_waitsM {m n : Nat} {listed : Array Bool} (hs : sinkM md ops m n = true) (hc : chainW md ops n = true) (hn : n < ops.size) (inv : HeadInv md ops n listed) :
    ∀ (d i : Nat), n - i = d → m ≤ i → i < n → listed.getD i true = false → ∀ t, n ≤ t → t ∉ Region.ready md ops listed := by
  intro d
  induction d using Nat.strongRecOn with
  | _ d ih =>
    intro i hd hm hi hun t ht hr
    obtain ⟨_, ot, hot, hall⟩ := mem_ready.1 hr
    have htlt : t < ops.size := (Array.getElem?_eq_some_iff.1 hot).1
    by_cases htn : t = n
    · subst htn
      have h1 := List.all_eq_true.1 hs i (List.mem_range.2 hi)
      simp only [Bool.or_eq_true, decide_eq_true_eq] at h1
      rcases h1 with h1 | h1
      · omega
      obtain ⟨j, hj, hj2⟩ := List.any_eq_true.1 h1
      simp only [Bool.and_eq_true, decide_eq_true_eq] at hj2
      obtain ⟨oj, hoj, e, he, hb, hon⟩ := Region.waitsFor_spec hj2.2
      have hjle : j ≤ t := by have := List.mem_range.1 hj; omega
      by_cases hjt : j = t
      · subst hjt
        have : oj = ot := Option.some.inj (hoj.symm.trans hot)
        subst this
        have h2 := hall e he hb
        rw [hon, getD_both hun] at h2
        cases h2
      · cases hl : listed.getD j false with
        | true =>
          have h2 := inv.closed j oj hoj hl e he hb
          rw [hon, getD_both hun] at h2
          cases h2
        | false =>
          have hjs : j < listed.size := by rw [inv.size]; omega
          exact ih (t - j) (by omega) j rfl (by omega) (by omega) (getD_in hjs hl) t (Nat.le_refl _) hr
    · have h1 := List.all_eq_true.1 hc t (List.mem_range.2 htlt)
      simp only [Bool.or_eq_true, decide_eq_true_eq] at h1
      rcases h1 with h1 | h1
      · omega
      · obtain ⟨u, hu, hu2⟩ := List.any_eq_true.1 h1
        have hut := List.mem_range.1 hu
        simp only [Bool.and_eq_true, decide_eq_true_eq] at hu2
        obtain ⟨o', ho', e, he, hb, hon⟩ := Region.waitsFor_spec hu2.2
        have : o' = ot := Option.some.inj (ho'.symm.trans hot)
        subst this
        have h2 := hall e he hb
        rw [hon, getD_both (inv.tail u hu2.1 (by omega))] at h2
        cases h2

theorem wpAnyT_first {m n i : Nat} {oi : Oper} {v : Value} {L : Array Bool → Act → Prop} (hi : ops[i]? = some oi) (hsel : ∀ (j : Nat) (o : Oper) cs b, ops[j]? = some o → o.op ≠ .select cs b)
    (hs : sinkM md ops m n = true) (hc : chainW md ops n = true) (hn : n < ops.size) (hmi : m ≤ i) (hin : i < n)
    (hdone : ∀ listed a, L listed a → ∀ j ∈ Region.ready md ops listed, n ≤ j) :
    ∀ (f : Nat) (listed : Array Bool) (a : Act), HeadInv md ops n listed →
      (∀ j oj, ops[j]? = some oj → j ≠ i → listed.getD j true = false → (∀ e ∈ oj.after, Region.binds md e = true → e.on ≠ i) → oi.apart ops oj = true) →
      i ∈ Region.ready md ops listed → Tame P ops ib S S' i oi v a →
      wpAnyT P md ops ib S S' n L f (listed.setIfInBounds i true) (a.put oi.dst v) → wpAnyT P md ops ib S S' n L (f + 1) listed a := by
  intro f
  induction f with
  | zero =>
    intro listed a inv _ hr hy H
    have hun := (mem_ready.1 hr).1
    refine ⟨fun h => (by rw [h] at hr; cases hr), fun j hj => ?_⟩
    have hjn : j < n := by
      rcases Nat.lt_or_ge j n with h | h
      · exact h
      · exact absurd hj (tail_waitsM hs hc hn inv _ i rfl hmi hin hun j h)
    refine ⟨hjn, ?_⟩
    by_cases hji : j = i
    · subst hji; exact ⟨oi, v, hi, hy, H⟩
    · have := hdone _ _ H j (ready_mono hj hji)
      omega
  | succ f ih =>
    intro listed a inv hfree hr hy H
    have hun := (mem_ready.1 hr).1
    refine ⟨fun h => (by rw [h] at hr; cases hr), fun j hj => ?_⟩
    have hjn : j < n := by
      rcases Nat.lt_or_ge j n with h | h
      · exact h
      · exact absurd hj (tail_waitsM hs hc hn inv _ i rfl hmi hin hun j h)
    refine ⟨hjn, ?_⟩
    by_cases hji : j = i
    · subst hji; exact ⟨oi, v, hi, hy, H⟩
    · have h1 := (H.2 j (ready_mono hj hji)).2
      obtain ⟨hjun, oj, hoj, hall⟩ := mem_ready.1 hj
      have hnot : ∀ e ∈ oj.after, Region.binds md e = true → e.on ≠ i := fun e he hb heq => by
        have h1 := hall e he hb
        rw [heq, getD_both hun] at h1
        cases h1
      have h2 := taOp_put hoj (hfree j oj hoj hji hjun hnot) (fun cs b => hsel i oi cs b hi) (fun cs b => hsel j oj cs b hoj) hy h1
      have hfree' : ∀ k ok, ops[k]? = some ok → k ≠ i → (listed.setIfInBounds j true).getD k true = false →
          (∀ e ∈ ok.after, Region.binds md e = true → e.on ≠ i) → oi.apart ops ok = true := fun k ok hk hki hun hno => by
        refine hfree k ok hk hki ?_ hno
        by_cases hjk : j = k
        · subst hjk; exact hjun
        · rw [getD_set_ne true hjk] at hun; exact hun
      refine taOp_mono (fun a' h3 => ih (listed.setIfInBounds j true) a' (inv.set hj hjn) hfree' (ready_mono hr (Ne.symm hji)) h3.1 ?_) h2
      rw [Array.setIfInBounds_comm _ _ hji]
      exact h3.2

/-- the head's operations in the order of the text -/
def wpTame (P : Program) (ops : Array Oper) (ib : Nat) (S S' : World → Prop) (Q : Act → Prop) : Nat → List Oper → Act → Prop
  | _, [], a => Q a
  | k, o :: rest, a => ∃ v, Tame P ops ib S S' k o v a ∧ wpTame P ops ib S S' Q (k + 1) rest (a.put o.dst v)

theorem wpAnyT_lex {m n g : Nat} {Lq : Act → Prop} (hsel : Region.noSelect ops = true) (hs : sinkM md ops m n = true) (hc : chainW md ops n = true) (hn : n < ops.size) :
    ∀ (l : List Oper) (k : Nat) (listed : Array Bool) (a : Act), (∀ j, j < l.length → l[j]? = ops[k + j]?) → k + l.length = n → m ≤ k → HeadInv md ops n listed →
    Region.lexHead md ops g l.length k listed = true → (∀ j, j < k → listed.getD j false = true) → wpTame P ops ib S S' Lq k l a →
    wpAnyT P md ops ib S S' n (fun listed' a' => Region.seqB md ops g n listed' = true ∧ (∀ j, j < n → listed'.getD j false = true) ∧ Lq a') l.length listed a
  | [], k, listed, a, _, hk, _, _, hB, hall, h => by
    have : k = n := by simpa using hk
    subst this
    exact ⟨by simpa [Region.lexHead] using hB, hall, h⟩
  | o :: l, k, listed, a, hl, hk, hmk, inv, hB, hall, h => by
    have h0 : ops[k]? = some o := by simpa using (hl 0 (by simp)).symm
    simp only [List.length_cons, Region.lexHead, Bool.and_eq_true] at hB
    obtain ⟨⟨hr, hf⟩, hB'⟩ := hB
    have hkn : k < n := by simp only [List.length_cons] at hk; omega
    have hr' : k ∈ Region.ready md ops listed := by simpa using hr
    obtain ⟨v, hy, hK⟩ := h
    refine wpAnyT_first h0 (Region.noSelect_spec hsel) hs hc hn hmk hkn (fun listed' a' hL => seqB_ready hL.1) l.length listed a inv (Region.free_spec h0 hf) hr' hy
      (wpAnyT_lex hsel hs hc hn l (k + 1) _ _ (fun j hj => by have := hl (j + 1) (by simp; omega); simpa [Nat.add_assoc, Nat.add_comm 1 j] using this) (by simp only [List.length_cons] at hk; omega) (by omega) (inv.set hr' hkn) hB' (fun j hj => ?_) hK)
    by_cases e : j = k
    · subst e
      have : j < listed.size := by rw [inv.size]; omega
      simp [this]
    · exact getD_set_true (hall j (by omega))

/-- the first m operations, taken first: each yields its value in whatever world -/
def wpPre (P : Program) (ops : Array Oper) (Q : Act → Prop) : List Oper → Act → Prop
  | [], a => Q a
  | o :: rest, a => ∃ v, Yields P ops o v a ∧ wpPre P ops Q rest (a.put o.dst v)
def lexPre (md : Region.Mode) (ops : Array Oper) : Nat → Nat → Array Bool → Bool
  | 0, _, _ => true
  | f + 1, k, listed => (Region.ready md ops listed).contains k && Region.free md ops listed k && lexPre md ops f (k + 1) (listed.setIfInBounds k true)
def listUp : Nat → Nat → Array Bool → Array Bool
  | 0, _, listed => listed
  | f + 1, k, listed => listUp f (k + 1) (listed.setIfInBounds k true)
theorem listUp_size : ∀ (f k : Nat) (listed : Array Bool), (listUp f k listed).size = listed.size
  | 0, _, _ => rfl
  | f + 1, k, listed => by rw [listUp, listUp_size]; simp
theorem listUp_get : ∀ (f k : Nat) (listed : Array Bool) (j : Nat), k + f ≤ listed.size → ((listUp f k listed).getD j false = true ↔ (listed.getD j false = true ∨ (k ≤ j ∧ j < k + f)))
  | 0, k, listed, j, _ => by simp [listUp]; omega
  | f + 1, k, listed, j, h => by
    rw [listUp, listUp_get f (k + 1) _ j (by simp; omega)]
    by_cases e : k = j
    · subst e
      have hk : k < listed.size := by omega
      simp [hk]
    · rw [getD_set_ne false e]
      constructor
      · rintro (h | h)
        · exact .inl h
        · right; omega
      · rintro (h | h)
        · exact .inl h
        · right; omega
theorem wpAny_pre {Q' : Exit → Act → World → Prop} {w : World} (hsel : Region.noSelect ops = true) (hQ : ∀ c (a : Act) (d : Option Tmp) (v : Value) w, Q' (.panic c) (a.put d v) w → Q' (.panic c) a w) {R : Act → Prop} {g : Nat} :
    ∀ (l : List Oper) (k : Nat) (listed : Array Bool) (a : Act), (∀ j, j < l.length → l[j]? = ops[k + j]?) → lexPre md ops l.length k listed = true →
      (∀ a', R a' → wpAny P md ops Q' g (listUp l.length k listed) a' w) → wpPre P ops R l a → wpAny P md ops Q' (l.length + g) listed a w
  | [], k, listed, a, _, _, hR, h => by rw [List.length_nil, Nat.zero_add]; exact hR a h
  | o :: l, k, listed, a, hl, hB, hR, h => by
    have h0 : ops[k]? = some o := by simpa using (hl 0 (by simp)).symm
    simp only [List.length_cons, lexPre, Bool.and_eq_true] at hB
    obtain ⟨⟨hr, hf⟩, hB'⟩ := hB
    obtain ⟨v, hy, hK⟩ := h
    rw [List.length_cons, show l.length + 1 + g = (l.length + g) + 1 by omega]
    exact wpAny_take h0 hsel hf hr (fun c a w => hQ c a _ v w) hy
      (wpAny_pre hsel hQ l (k + 1) _ _ (fun j hj => by have := hl (j + 1) (by simp; omega); simpa [Nat.add_assoc, Nat.add_comm 1 j] using this) hB' (fun a' ha' => hR a' ha') hK)

/-- what the kernel reckons of a region: m taken first, the head to n, the tail in one order -/
def tameB (md : Region.Mode) (ops : Array Oper) (m n : Nat) : Bool :=
  Region.noSelect ops && decide (n < ops.size) && decide (m ≤ n) && sinkM md ops m n && Region.chainB md ops n && lexPre md ops m 0 (Array.replicate ops.size false) &&
  ((List.range m).all fun i => ((ops[i]?).map fun o => o.after.all fun e => !Region.binds md e || decide (e.on < m)).getD false) && Region.lexHead md ops (ops.size - n) (n - m) m (listUp m 0 (Array.replicate ops.size false))

/-- THE BEGINNING: m operations taken first; n - m more in whatever order, each tame under S (number ib leads from S to S'); then the tail, in every world that meets S'. -/
theorem wp_region_tame3 {id : Nat} {Q : Exit → Act → World → Prop} {a : Act} {w : World} {l : List Oper} (ib : Nat) (S S' : World → Prop) (m n : Nat) (hm : P.follows .mixedOrders = true) (hB : tameB .any l.toArray m n = true)
    (hQ : ∀ c (a : Act) (d : Option Tmp) (v : Value) w, Q (.panic c) (a.put d v) w → Q (.panic c) a w)
    (hS : S { w with drawn := w.drawn + 1 }) (hend : (m ≤ ib ∧ ib < n) ∨ (n ≤ ib ∧ ∀ w, S w → S' w))
    (h : wpPre P l.toArray (fun a => wpTame P l.toArray ib S S' (fun a' => ∀ w', S' w' → wpList P l.toArray Q (l.drop n) a' w') m ((l.take n).drop m) a) (l.take m) a) : (Code.region id l.toArray true).wp P Q a w := by
  simp only [tameB, Bool.and_eq_true, decide_eq_true_eq] at hB
  obtain ⟨⟨⟨⟨⟨⟨⟨hsel, hn⟩, hmn⟩, hs⟩, hc⟩, hpre⟩, hcl⟩, hlex⟩ := hB
  have hn' : n < l.length := by simpa using hn
  have htl : ((l.take n).drop m).length = n - m := by simp; omega
  have hml : (l.take m).length = m := by simp; omega
  have hdl : (l.drop n).length = l.toArray.size - n := by simp
  have hsz : (Array.replicate l.toArray.size false).size = l.toArray.size := by simp
  have hget : ∀ j, (listUp m 0 (Array.replicate l.toArray.size false)).getD j false = true ↔ j < m := by
    intro j
    rw [listUp_get m 0 _ j (by rw [hsz]; omega), getD_replicate_false]
    simp
  have inv0 : HeadInv .any l.toArray n (listUp m 0 (Array.replicate l.toArray.size false)) := by
    refine ⟨by rw [listUp_size, hsz], fun j oj hj hl e he hb => ?_, fun t ht ht' => ?_⟩
    · have hjm := (hget j).1 hl
      have h1 := List.all_eq_true.1 hcl j (List.mem_range.2 hjm)
      rw [hj] at h1
      simp only [Option.map_some, Option.getD_some, Array.all_eq_true_iff_forall_mem, Bool.or_eq_true, Bool.not_eq_true', decide_eq_true_eq] at h1
      rcases h1 e he with h2 | h2
      · rw [hb] at h2; cases h2
      · exact (hget _).2 h2
    · refine getD_in (by rw [listUp_size, hsz]; exact ht') ?_
      cases hx : (listUp m 0 (Array.replicate l.toArray.size false)).getD t false with
      | false => rfl
      | true => have := (hget t).1 hx; omega
  refine wp_region_any hm ?_
  have key := wpAny_pre (P := P) (md := .any) (Q' := Q) (w := { w with drawn := w.drawn + 1 }) (g := l.toArray.size - m) hsel hQ (l.take m) 0 (Array.replicate l.toArray.size false) a (fun j hj => by
    have hj' : j < m := by rw [hml] at hj; exact hj
    simp [hj']) (by rw [hml]; exact hpre) (fun a' ha' => ?_) h
  · rw [hml, show m + (l.toArray.size - m) = l.toArray.size by omega] at key
    exact key
  · rw [hml]
    have H := wpAnyT_lex (md := .any) (m := m) (g := l.toArray.size - n) hsel hs (chainW_of hc) hn ((l.take n).drop m) m _ a' (fun j hj => by
      have hj' : m + j < n := by rw [htl] at hj; omega
      simp [List.getElem?_drop, hj']) (by rw [htl]; omega) (Nat.le_refl _) inv0 (by rw [htl]; exact hlex) (fun j hj => (hget j).2 hj) ha'
    have := wpAny_of_headT (Q' := Q) (ib := ib) (S := S) (S' := S') (g := l.toArray.size - n) (fun listed a' hL w' hS' => by
      have hw' : S' w' := by
        rcases hS' with ⟨hx, hS1⟩ | ⟨_, hS1⟩
        · rcases hend with hend | hend
          · rw [hL.2.1 ib hend.2] at hx; cases hx
          · exact hend.2 _ hS1
        · exact hS1
      have := wpAny_of_seq (md := .any) (Q' := Q) (l.drop n) n listed a' w' (fun j => by simp [List.getElem?_drop]) (by rw [hdl]; exact hL.1) (hL.2.2 w' hw')
      rwa [hdl] at this) _ _ _ H { w with drawn := w.drawn + 1 } (.inl ⟨by
        cases hx : (listUp m 0 (Array.replicate l.toArray.size false)).getD ib false with
        | false => rfl
        | true => have := (hget ib).1 hx; omega, hS⟩)
    rw [htl, show n - m + (l.toArray.size - n) = l.toArray.size - m by omega] at this
    exact this
theorem wp_region_tame {id : Nat} {Q : Exit → Act → World → Prop} {a : Act} {w : World} {l : List Oper} (S : World → Prop) (m n : Nat) (hm : P.follows .mixedOrders = true) (hB : tameB .any l.toArray m n = true)
    (hQ : ∀ c (a : Act) (d : Option Tmp) (v : Value) w, Q (.panic c) (a.put d v) w → Q (.panic c) a w)
    (hS : S { w with drawn := w.drawn + 1 }) (hn : n ≤ 4000)
    (h : wpPre P l.toArray (fun a => wpTame P l.toArray 4000 S S (fun a' => ∀ w', S w' → wpList P l.toArray Q (l.drop n) a' w') m ((l.take n).drop m) a) (l.take m) a) : (Code.region id l.toArray true).wp P Q a w :=
  wp_region_tame3 4000 S S m n hm hB hQ hS (.inr ⟨hn, fun _ h => h⟩) h

/-! ### a head in whatever order, ONE operation (a call), then operations that only compute, in whatever order again, then a tail -/
theorem lexPre_mem : ∀ {f k : Nat} {listed : Array Bool}, lexPre md ops (f + 1) k listed = true → k ∈ Region.ready md ops listed ∧ Region.free md ops listed k = true ∧ lexPre md ops f (k + 1) (listed.setIfInBounds k true) = true := by
  intro f k listed h
  simp only [lexPre, Bool.and_eq_true] at h
  exact ⟨by simpa using h.1.1, h.1.2, h.2⟩
theorem wpAnyT_lex2 {m n : Nat} {Lq : Act → Prop} (hsel : Region.noSelect ops = true) (hs : sinkM md ops m n = true) (hc : chainW md ops n = true) (hn : n < ops.size) :
    ∀ (l : List Oper) (k : Nat) (listed : Array Bool) (a : Act), (∀ j, j < l.length → l[j]? = ops[k + j]?) → k + l.length = n → m ≤ k → HeadInv md ops n listed →
    lexPre md ops l.length k listed = true → (∀ j, j < k → listed.getD j false = true) → wpTame P ops ib S S' Lq k l a →
    wpAnyT P md ops ib S S' n (fun listed' a' => listed' = listUp l.length k listed ∧ (∀ j, j < n → listed'.getD j false = true) ∧ Lq a') l.length listed a
  | [], k, listed, a, _, hk, _, _, _, hall, h => by
    have : k = n := by simpa using hk
    subst this
    exact ⟨rfl, hall, h⟩
  | o :: l, k, listed, a, hl, hk, hmk, inv, hB, hall, h => by
    have h0 : ops[k]? = some o := by simpa using (hl 0 (by simp)).symm
    obtain ⟨hr', hf, hB'⟩ := lexPre_mem hB
    have hkn : k < n := by simp only [List.length_cons] at hk; omega
    obtain ⟨v, hy, hK⟩ := h
    refine wpAnyT_first h0 (Region.noSelect_spec hsel) hs hc hn hmk hkn (fun listed' a' hL j hj => ?_) l.length listed a inv (Region.free_spec h0 hf) hr' hy
      (wpAnyT_lex2 hsel hs hc hn l (k + 1) _ _ (fun j hj => by have := hl (j + 1) (by simp; omega); simpa [Nat.add_assoc, Nat.add_comm 1 j] using this) (by simp only [List.length_cons] at hk; omega) (by omega) (inv.set hr' hkn) hB' (fun j hj => ?_) hK)
    · have h1 := (mem_ready.1 hj).1
      rcases Nat.lt_or_ge j n with h | h
      · have h2 := hL.2.1 j h
        rw [getD_both h1] at h2
        cases h2
      · exact h
    · by_cases e : j = k
      · subst e
        have : j < listed.size := by rw [inv.size]; omega
        simp [this]
      · exact getD_set_true (hall j (by omega))
def callB (md : Region.Mode) (ops : Array Oper) (n n2 : Nat) : Bool :=
  Region.noSelect ops && decide (n < n2) && decide (n2 < ops.size) && sinkM md ops 0 n && chainW md ops n && lexPre md ops n 0 (Array.replicate ops.size false) &&
  decide (Region.ready md ops (listUp n 0 (Array.replicate ops.size false)) = [n]) && ((ops[n]?).map fun o => o.guard.isNone).getD false &&
  sinkM md ops (n + 1) n2 && chainW md ops n2 && lexPre md ops (n2 - (n + 1)) (n + 1) ((listUp n 0 (Array.replicate ops.size false)).setIfInBounds n true) &&
  ((List.range (n + 1)).all fun i => ((ops[i]?).map fun o => o.after.all fun e => !Region.binds md e || decide (e.on < n + 1)).getD false) &&
  Region.seqB md ops (ops.size - n2) n2 (listUp (n2 - (n + 1)) (n + 1) ((listUp n 0 (Array.replicate ops.size false)).setIfInBounds n true))
theorem wp_region_call {id : Nat} {Q : Exit → Act → World → Prop} {a : Act} {w : World} {l : List Oper} (S : World → Prop) (n n2 : Nat) (o : Oper) (hm : P.follows .mixedOrders = true) (hB : callB .any l.toArray n n2 = true) (ho : l[n]? = some o)
    (hS : S { w with drawn := w.drawn + 1 }) (hn4 : n2 ≤ 4000)
    (h : wpTame P l.toArray 4000 S S (fun a' => ∀ w', S w' → o.wp P a' w' (fun a2 w2 => ∃ S2 : World → Prop, S2 w2 ∧ wpTame P l.toArray 4000 S2 S2 (fun a3 => ∀ w3, S2 w3 → wpList P l.toArray Q (l.drop n2) a3 w3) (n + 1) ((l.take n2).drop (n + 1)) a2) Q) 0 (l.take n) a) : (Code.region id l.toArray true).wp P Q a w := by
  simp only [callB, Bool.and_eq_true, decide_eq_true_eq] at hB
  obtain ⟨⟨⟨⟨⟨⟨⟨⟨⟨⟨⟨⟨hsel, hnn⟩, hn2⟩, hs⟩, hc⟩, hpre⟩, hrdy⟩, hg⟩, hs2⟩, hc2⟩, hpre2⟩, hcl⟩, hseq⟩ := hB
  have hn2' : n2 < l.length := by simpa using hn2
  have hn1 : n < l.toArray.size := by omega
  have hl1 : (l.take n).length = n := by simp; omega
  have hl2 : ((l.take n2).drop (n + 1)).length = n2 - (n + 1) := by simp; omega
  have hdl : (l.drop n2).length = l.toArray.size - n2 := by simp
  have hsz : (Array.replicate l.toArray.size false).size = l.toArray.size := by simp
  have hget : ∀ j, (listUp n 0 (Array.replicate l.toArray.size false)).getD j false = true ↔ j < n := by
    intro j
    rw [listUp_get n 0 _ j (by rw [hsz]; omega), getD_replicate_false]
    simp
  have hget2 : ∀ j, ((listUp n 0 (Array.replicate l.toArray.size false)).setIfInBounds n true).getD j false = true ↔ j < n + 1 := by
    intro j
    by_cases e : n = j
    · subst e
      have : n < (listUp n 0 (Array.replicate l.toArray.size false)).size := by rw [listUp_size, hsz]; omega
      generalize listUp n 0 (Array.replicate l.toArray.size false) = L at this
      simp [this]
    · rw [getD_set_ne false e, hget]; omega
  have inv0 : HeadInv .any l.toArray n (Array.replicate l.toArray.size false) :=
    ⟨hsz, fun j oj hj hl e he hb => (by rw [getD_replicate_false] at hl; cases hl), fun t ht ht' => getD_in (by rw [hsz]; exact ht') (getD_replicate_false _ _)⟩
  have inv2 : HeadInv .any l.toArray n2 ((listUp n 0 (Array.replicate l.toArray.size false)).setIfInBounds n true) := by
    refine ⟨by simp [listUp_size], fun j oj hj hl e he hb => ?_, fun t ht ht' => ?_⟩
    · have hjm := (hget2 j).1 hl
      have h1 := List.all_eq_true.1 hcl j (List.mem_range.2 hjm)
      rw [hj] at h1
      simp only [Option.map_some, Option.getD_some, Array.all_eq_true_iff_forall_mem, Bool.or_eq_true, Bool.not_eq_true', decide_eq_true_eq] at h1
      rcases h1 e he with h2 | h2
      · rw [hb] at h2; cases h2
      · exact (hget2 _).2 h2
    · refine getD_in (by simp [listUp_size]; simpa using ht') ?_
      cases hx : ((listUp n 0 (Array.replicate l.toArray.size false)).setIfInBounds n true).getD t false with
      | false => rfl
      | true => have := (hget2 t).1 hx; omega
  refine wp_region_any hm ?_
  have H := wpAnyT_lex2 (md := .any) (m := 0) hsel hs hc hn1 (l.take n) 0 _ a (fun j hj => by
    have hj' : j < n := by rw [hl1] at hj; exact hj
    simp [hj']) (by rw [hl1]; omega) (Nat.le_refl _) inv0 (by rw [hl1]; exact hpre) (fun j hj => by omega) h
  have key := wpAny_of_headT (Q' := Q) (ib := 4000) (S := S) (S' := S) (g := l.toArray.size - n) (fun listed a' hL w' hS' => by
    have hw' : S w' := by rcases hS' with ⟨_, h⟩ | ⟨_, h⟩ <;> exact h
    obtain ⟨rfl, _, hL3⟩ := hL
    rw [hl1, show l.toArray.size - n = (l.toArray.size - (n + 1)) + 1 from by omega]
    refine ⟨fun h0 => (by rw [hrdy] at h0; cases h0), fun i hi => ?_⟩
    rw [hrdy] at hi
    obtain rfl : i = n := by simpa using hi
    unfold Go.wpOp
    have ho' : l.toArray[i]? = some o := by simpa using ho
    rw [ho'] at hg ⊢
    have hg' : o.guard = none := by simpa using hg
    have hw : Region.wanted o (yielded l.toArray a'.tmps) = true := by unfold Region.wanted; rw [hg']
    simp only [hw, if_true]
    refine .inl (Oper.wp_mono (fun a2 w2 h2 => ?_) (hL3 w' hw'))
    obtain ⟨S2, hS2, hT⟩ := h2
    have H2 := wpAnyT_lex2 (md := .any) (m := i + 1) hsel hs2 hc2 hn2 ((l.take n2).drop (i + 1)) (i + 1) _ a2 (fun j hj => by
      have hj' : i + 1 + j < n2 := by rw [hl2] at hj; omega
      simp [List.getElem?_drop, hj']) (by rw [hl2]; omega) (Nat.le_refl _) inv2 (by rw [hl2]; exact hpre2) (fun j hj => (hget2 j).2 hj) hT
    have := wpAny_of_headT (Q' := Q) (ib := 4000) (S := S2) (S' := S2) (g := l.toArray.size - n2) (fun listed a' hL w' hS' => by
      have hw' : S2 w' := by rcases hS' with ⟨_, h⟩ | ⟨_, h⟩ <;> exact h
      obtain ⟨rfl, _, hL3⟩ := hL
      rw [hl2]
      have := wpAny_of_seq (md := .any) (Q' := Q) (l.drop n2) n2 _ a' w' (fun j => by simp [List.getElem?_drop]) (by rw [hdl]; exact hseq) (hL3 w' hw')
      rwa [hdl] at this) _ _ _ H2 w2 (.inl ⟨by
        cases hx : ((listUp i 0 (Array.replicate l.toArray.size false)).setIfInBounds i true).getD 4000 false with
        | false => rfl
        | true => have := (hget2 4000).1 hx; omega, hS2⟩)
    rw [hl2, show n2 - (i + 1) + (l.toArray.size - n2) = l.toArray.size - (i + 1) by omega] at this
    exact this) _ _ _ H { w with drawn := w.drawn + 1 } (.inl ⟨getD_replicate_false _ _, hS⟩)
  rw [hl1, show n + (l.toArray.size - n) = l.toArray.size by omega] at key
  exact key

/-! ### the steps -/
variable {Q : Act → Prop} {k : Nat} {o : Oper} {rest : List Oper} {a : Act} {v : Value}
theorem wpPre_nil {R : Act → Prop} (h : R a) : wpPre P ops R [] a := h
theorem wpPre_run {R : Act → Prop} (hw : Region.wanted o (yielded ops a.tmps) = true) (h : ∀ w, (execOp a.eval o).run P w = .ok (.value v) w) (kk : wpPre P ops R rest (a.put o.dst v)) : wpPre P ops R (o :: rest) a := ⟨v, .inl ⟨hw, h⟩, kk⟩
theorem wp_mid_call {Q : Exit → Act → World → Prop} {w : World} {next : Act → World → Prop} {f : FuncId} {args : Array Value} (h : (execOp a.eval o).run P w = .ok (.enter f args) w)
    (hc : Calls P f args w fun e w'' => ∃ v, e = .returned v ∧ next (a.put o.dst v) w'') : o.wp P a w next Q := by
  unfold Oper.wp
  rw [h, Oper.upon_enter]
  exact hc.mono fun e w'' ⟨v, he, hn⟩ => by subst he; exact hn
theorem wpTame_nil (h : Q a) : wpTame P ops ib S S' Q k [] a := h
/-- a step that only computes or reads -/
theorem wpTame_run2 (hk : k ≠ ib) (hw : Region.wanted o (yielded ops a.tmps) = true) (h : ∀ w, S w ∨ S' w → (execOp a.eval o).run P w = .ok (.value v) w) (kk : wpTame P ops ib S S' Q (k + 1) rest (a.put o.dst v)) : wpTame P ops ib S S' Q k (o :: rest) a :=
  ⟨v, .inl ⟨hw, fun e => absurd e hk, fun _ => ⟨fun w hS => by rw [h w (.inl hS)]; exact ⟨rfl, hS⟩, fun w hS => by rw [h w (.inr hS)]; exact ⟨rfl, hS⟩⟩⟩, kk⟩
/-- the step that leads from S to S' -/
theorem wpTame_bump (hk : k = ib) (hw : Region.wanted o (yielded ops a.tmps) = true) (h : ∀ w, S w → Gives P S' v ((execOp a.eval o).run P w)) (kk : wpTame P ops ib S S' Q (k + 1) rest (a.put o.dst v)) : wpTame P ops ib S S' Q k (o :: rest) a :=
  ⟨v, .inl ⟨hw, fun _ => h, fun e => absurd hk e⟩, kk⟩
/-- a step whose guard is false -/
theorem wpTame_off (hk : k ≠ ib) (hw : Region.wanted o (yielded ops a.tmps) = false) (kk : wpTame P ops ib S S' Q (k + 1) rest (a.put o.dst undef)) : wpTame P ops ib S S' Q k (o :: rest) a :=
  ⟨undef, .inr ⟨hw, rfl, hk⟩, kk⟩
/-- with one condition S -/
theorem wpTame_run (hk : k ≠ 4000) (hw : Region.wanted o (yielded ops a.tmps) = true) (h : ∀ w, S w → (execOp a.eval o).run P w = .ok (.value v) w) (kk : wpTame P ops 4000 S S Q (k + 1) rest (a.put o.dst v)) : wpTame P ops 4000 S S Q k (o :: rest) a :=
  wpTame_run2 hk hw (fun w hS => h w (by rcases hS with h | h <;> exact h)) kk
/-- a call -/
theorem wpTame_call {f : FuncId} {args : Array Value} (hk : k ≠ 4000) (hw : Region.wanted o (yielded ops a.tmps) = true) (h : ∀ w, S w → (execOp a.eval o).run P w = .ok (.enter f args) w)
    (hc : ∀ w, S w → Calls P f args w fun e w' => e = .returned v ∧ S w') (kk : wpTame P ops 4000 S S Q (k + 1) rest (a.put o.dst v)) : wpTame P ops 4000 S S Q k (o :: rest) a :=
  ⟨v, .inl ⟨hw, fun e => absurd e hk, fun _ => ⟨fun w hS => by rw [h w hS]; exact hc w hS, fun w hS => by rw [h w hS]; exact hc w hS⟩⟩, kk⟩
/-- a whole row is read -/
theorem wpTame_load {b off : Nat} {ty : TypeId} {x : Operand} {cs : List Value} {d : TypeDesc} {n : Nat} (hk : k ≠ 4000) (hw : Region.wanted o (yielded ops a.tmps) = true) (ho : o.op = .load ty x) (hx : a.eval x = .pointer (some ⟨b, off, none⟩))
    (hu : P.underlying ty = some d) (hd : d.isRow = true) (hi : (P.info? ty).map (·.size) = some n) (hn : cs.length = n) (h : ∀ w, S w → w.rangeAt b off cs) (kk : wpTame P ops 4000 S S Q (k + 1) rest (a.put o.dst (.agg cs.toArray))) : wpTame P ops 4000 S S Q k (o :: rest) a :=
  wpTame_run hk hw (fun w hS => by
    unfold execOp
    simp only [ho, hx, Instr.loadAt, Instr.sureAddr, Sem.run_bind, Sem.run_pure, Result.andThen_ok, run_loadVar_mid w b off ty cs d (h w hS) hu hd (by rw [hi, hn])]) kk
end
end Go.Proofs.Ytpampcokonicfaa
/- Memory said block by block: a block of known cells, what keeps it, and 'Only S': of the blocks that were there only those in S may have turned. No program in sight. -/
namespace Go.Proofs.Ytpampcokonicfaa
open Go.RowKit

/-! ### a block of known cells -/
def Blk (w : World) (b : Nat) (t : TypeId) (cs : Array Value) : Prop := w.heap[b]? = some (.cells cs t (0, 0))

theorem Blk.lt {w : World} {b : Nat} {t : TypeId} {cs : Array Value} (h : Blk w b t cs) : b < w.heap.size := (Array.getElem?_eq_some_iff.1 h).1
theorem Blk.new (w : World) (t : TypeId) (cs : Array Value) : Blk (w.alloc (.cells cs t)) w.heap.size t cs := heap_alloc_new w _
theorem Blk.at {w : World} {n : Nat} {t : TypeId} {cs cs' : Array Value} (hn : n = w.heap.size) (hc : cs = cs') : Blk (w.alloc (.cells cs t)) n t cs' := by
  subst hn; subst hc; exact Blk.new w t cs
theorem Blk.alloc {w : World} {b : Nat} {t : TypeId} {cs : Array Value} (h : Blk w b t cs) (o : Obj) : Blk (w.alloc o) b t cs := (Below.heap_alloc w o b h.lt).trans h
theorem Blk.draw {w : World} {b : Nat} {t : TypeId} {cs : Array Value} (h : Blk w b t cs) (n : Nat) : Blk (w.drewN n) b t cs := h
theorem Blk.drew {w : World} {b : Nat} {t : TypeId} {cs : Array Value} (h : Blk w b t cs) : Blk w.drew b t cs := h
theorem Blk.cell {w : World} {b : Nat} {t : TypeId} {cs : Array Value} (h : Blk w b t cs) (j : Nat) : w.cell? ⟨b, j, none⟩ = cs[j]? := cell_of_row w b j cs t (0, 0) h
theorem Blk.cellAt {w : World} {b : Nat} {t : TypeId} {cs : Array Value} (h : Blk w b t cs) (j : Nat) {v : Value} (hv : cs[j]? = some v) : w.cell? ⟨b, j, none⟩ = some v := (h.cell j).trans hv
theorem Blk.unfrozen {w : World} {b : Nat} {t : TypeId} {cs : Array Value} (h : Blk w b t cs) (j : Nat) : w.frozen? ⟨b, j, none⟩ = false := frozen_of_row w b j cs t h
theorem Blk.set {w : World} {b : Nat} {t : TypeId} {cs : Array Value} (h : Blk w b t cs) (i : Nat) (v : Value) : Blk (w.setCell ⟨b, i, none⟩ v) b t (cs.setIfInBounds i v) := heap_setCell_same w b i cs t v h
theorem Blk.set_ne {w : World} {b : Nat} {t : TypeId} {cs : Array Value} (h : Blk w b t cs) {a : Addr} (hne : b ≠ a.block) (v : Value) : Blk (w.setCell a v) b t cs := (heap_setCell_other w a b v hne).trans h
theorem Blk.row {w : World} {b : Nat} {t : TypeId} {cs : Array Value} (h : Blk w b t cs) (cs' : Array Value) : Blk (w.setRow b cs') b t cs' := setRow_heap w b cs cs' t (0, 0) h
theorem Blk.row_ne {w : World} {b : Nat} {t : TypeId} {cs : Array Value} (h : Blk w b t cs) {g : Nat} (hne : b ≠ g) (cs' : Array Value) : Blk (w.setRow g cs') b t cs := (setRow_other w g b cs' hne).trans h
theorem Blk.below {w w' : World} {b B : Nat} {t : TypeId} {cs : Array Value} (h : Blk w b t cs) (hb : Below B w w') (hlt : b < B) : Blk w' b t cs := (hb.block b hlt).trans h

/-! ### the frame -/
structure Only (S : Nat → Prop) (w w' : World) : Prop where
  os : w'.os = w.os
  tape : w'.tape = w.tape
  output : w'.output = w.output
  size : w.heap.size ≤ w'.heap.size
  block : ∀ k, k < w.heap.size → ¬ S k → w'.heap[k]? = w.heap[k]?

theorem Only.refl (S : Nat → Prop) (w : World) : Only S w w := ⟨rfl, rfl, rfl, Nat.le_refl _, fun _ _ _ => rfl⟩
theorem Only.trans {S S' : Nat → Prop} {a b c : World} (h : Only S a b) (k : Only S' b c) (hs : ∀ x, S' x → S x ∨ a.heap.size ≤ x) : Only S a c :=
  ⟨k.os.trans h.os, k.tape.trans h.tape, k.output.trans h.output, Nat.le_trans h.size k.size,
   fun i hi hn => (k.block i (Nat.lt_of_lt_of_le hi h.size) (fun hx => by rcases hs i hx with h' | h'; exact hn h'; omega)).trans (h.block i hi hn)⟩
theorem Only.mono {S S' : Nat → Prop} {a b : World} (h : Only S a b) (hs : ∀ x, S x → S' x) : Only S' a b :=
  ⟨h.os, h.tape, h.output, h.size, fun i hi hn => h.block i hi (fun hx => hn (hs i hx))⟩
theorem Only.alloc {S : Nat → Prop} {a b : World} (h : Only S a b) (o : Obj) : Only S a (b.alloc o) :=
  ⟨h.os, h.tape, h.output, Nat.le_trans h.size (by simp), fun i hi hn => (Below.heap_alloc b o i (Nat.lt_of_lt_of_le hi h.size)).trans (h.block i hi hn)⟩
theorem Only.draw {S : Nat → Prop} {a b : World} (h : Only S a b) (n : Nat) : Only S a (b.drewN n) := ⟨h.os, h.tape, h.output, h.size, h.block⟩
theorem Only.drew {S : Nat → Prop} {a b : World} (h : Only S a b) : Only S a b.drew := ⟨h.os, h.tape, h.output, h.size, h.block⟩
theorem Only.set {S : Nat → Prop} {a b : World} (h : Only S a b) {p : Addr} (hp : S p.block ∨ a.heap.size ≤ p.block) (v : Value) : Only S a (b.setCell p v) :=
  ⟨h.os, h.tape, h.output, by simpa using h.size, fun i hi hn => (heap_setCell_other b p i v (by
    rintro rfl
    rcases hp with hp | hp
    · exact hn hp
    · omega)).trans (h.block i hi hn)⟩
theorem Only.row {S : Nat → Prop} {a b : World} (h : Only S a b) {g : Nat} (hp : S g ∨ a.heap.size ≤ g) (cs : Array Value) : Only S a (b.setRow g cs) :=
  ⟨by simpa using h.os, by simpa using h.tape, by simpa using h.output, by simpa using h.size, fun i hi hn => (setRow_other b g i cs (by
    rintro rfl
    rcases hp with hp | hp
    · exact hn hp
    · omega)).trans (h.block i hi hn)⟩
theorem Only.of_below {a b : World} (h : Below a.heap.size a b) (S : Nat → Prop) : Only S a b := ⟨h.os, h.tape, h.output, h.size, fun i hi _ => h.block i hi⟩
theorem Only.below {S : Nat → Prop} {a b : World} (h : Only S a b) (hs : ∀ x, x < a.heap.size → ¬ S x) : Below a.heap.size a b := ⟨h.os, h.tape, h.output, h.size, fun i hi => h.block i hi (hs i hi)⟩
theorem Only.grown {S : Nat → Prop} {a b c : World} (h : Only S a b) {row : Option Nat} (hg : b.grownBy c row) (hs : ∀ k, row = some k → S k ∨ a.heap.size ≤ k) : Only S a c :=
  ⟨hg.os.trans h.os, hg.tape.trans h.tape, hg.output.trans h.output, Nat.le_trans h.size hg.size, fun i hi hn => (hg.block i (Nat.lt_of_lt_of_le hi h.size) (fun e => by
    rcases hs i e.symm with h' | h'
    · exact hn h'
    · omega)).trans (h.block i hi hn)⟩
theorem Blk.only {S : Nat → Prop} {w w' : World} {b : Nat} {t : TypeId} {cs : Array Value} (h : Blk w b t cs) (ho : Only S w w') (hb : ¬ S b) : Blk w' b t cs := (ho.block b h.lt hb).trans h
theorem Only.cell {S : Nat → Prop} {w w' : World} (ho : Only S w w') {a : Addr} (hlt : a.block < w.heap.size) (hb : ¬ S a.block) : w'.cell? a = w.cell? a := World.cell?_of_block (w := w) (ho.block a.block hlt hb)
theorem Only.frozen {S : Nat → Prop} {w w' : World} (ho : Only S w w') {a : Addr} (hlt : a.block < w.heap.size) (hb : ¬ S a.block) : w'.frozen? a = w.frozen? a := World.frozen?_of_block (w := w) (ho.block a.block hlt hb)

/-! ### rows of bytes -/
def B (x : UInt8) : Value := .int .u8 (x.toNat : Int)
def barr (l : List UInt8) : Array Value := (l.map B).toArray
theorem B_eq (x : UInt8) : B x = .int .u8 (x.toNat : Int) := rfl
theorem barr_size (l : List UInt8) : (barr l).size = l.length := by simp [barr]
theorem barr_get (l : List UInt8) (j : Nat) : (barr l)[j]? = (l[j]?).map B := by simp [barr]
theorem barr_getD (l : List UInt8) (j : Nat) (hj : j < l.length) : (barr l)[j]? = some (.int .u8 ((l.getD j 0).toNat : Int)) := by
  rw [barr_get, List.getD_eq_getElem?_getD, List.getElem?_eq_getElem hj]
  rfl
theorem barr_set (l : List UInt8) (i : Nat) (x : UInt8) : (barr l).setIfInBounds i (.int .u8 (x.toNat : Int)) = barr (l.set i x) := by
  simp [barr, List.map_set, B]
theorem barr_toList (l : List UInt8) : (barr l).toList = l.map B := by simp [barr]
theorem barr_cells (l : List UInt8) {n : Nat} (h : l.length = n) : (barr l).size = n := by rw [barr_size, h]
theorem barr_one (l : List UInt8) : ∀ v ∈ (barr l).toList, v.oneCell' = true := by
  intro v hv
  rw [barr_toList] at hv
  obtain ⟨x, _, rfl⟩ := List.mem_map.1 hv
  rfl
theorem u8_hi (x : UInt8) : (x.toNat : Int) < 256 := by have := x.toNat_lt; omega
theorem u8_of (n : Nat) (h : n < 256) : ((UInt8.ofNat n).toNat : Int) = (n : Int) := by
  rw [UInt8.toNat_ofNat']
  have : n % 2 ^ 8 = n := Nat.mod_eq_of_lt h
  rw [this]

/-! ### whole rows: the load, the store, the result -/
section
variable {P : Program}
theorem wpList_load_blk {ops : Array Oper} {rest : List Oper} {d : Option Tmp} {ty : TypeId} {x : Operand} {ot : TypeId} {pos : String} {aft : Array Edge} {a : Act} {w : World} {Q : Exit → Act → World → Prop}
    (g : Nat) (hx : a.eval x = .pointer (some ⟨g, 0, none⟩)) {t : TypeId} {cs : Array Value} {de : TypeDesc} {n : Nat} (hg : Blk w g t cs)
    (hu : P.underlying ty = some de) (hd : (match de with | .struct _ | .array _ _ => true | _ => false) = true) (hi : (P.info? ty).map (·.size) = some n) (hn : cs.size = n)
    (h : wpList P ops Q rest (a.put d (.agg cs)) w) : wpList P ops Q (⟨d, .load ty x, ot, pos, aft, none⟩ :: rest) a w :=
  wpList_load_row rfl ty x rfl g hx t cs (0, 0) de hg hu hd (by rw [hi, hn]) h
theorem wpList_store_blk {ops : Array Oper} {rest : List Oper} {d : Option Tmp} {ty : TypeId} {x y : Operand} {ot : TypeId} {pos : String} {aft : Array Edge} {a : Act} {w : World} {Q : Exit → Act → World → Prop}
    (g : Nat) (cells : Array Value) (hx : a.eval x = .pointer (some ⟨g, 0, none⟩)) (hy : a.eval y = .agg cells) {t : TypeId} {old : Array Value} {n : Nat} (hg : Blk w g t old)
    (hi : (P.info? ty).map (·.size) = some n) (hn : cells.size = n) (ho : old.size = n) (h1 : ∀ v ∈ cells.toList, v.oneCell' = true)
    (h : wpList P ops Q rest (a.put d undef) (w.setRow g cells)) : wpList P ops Q (⟨d, .store ty x y, ot, pos, aft, none⟩ :: rest) a w :=
  wpList_store_row rfl ty x y rfl g cells hx hy t old hg (by rw [hi, hn]) (by rw [ho, hn]) (by rw [Array.all_eq_true_iff_forall_mem]; intro v hv; exact h1 v (by simpa using hv)) h
theorem results_cell_blk {fn : Func} {p : Tmp} {ty : TypeId} (h : fn.results = #[.cell p ty]) (tmps : Array Value) (w : World) (g : Nat) {t : TypeId} {cs : Array Value} {de : TypeDesc} {n : Nat}
    (hp : tmps.getD p undef = .pointer (some ⟨g, 0, none⟩)) (hg : Blk w g t cs)
    (hu : P.underlying ty = some de) (hd : (match de with | .struct _ | .array _ _ => true | _ => false) = true) (hi : (P.info? ty).map (·.size) = some n) (hn : cs.size = n) :
    (results fn tmps).run P w = .ok (.agg cs) w :=
  results_cell_row h tmps w g t cs (0, 0) de hp hg hu hd (by rw [hi, hn])
theorem below_row {B0 : Nat} {a w : World} (h : Below B0 a w) {g : Nat} (hg : B0 ≤ g) (cs : Array Value) : Below B0 a (w.setRow g cs) := below_setRow h hg cs
end

/-! ### ranges -/
theorem Blk.range {w : World} {b : Nat} {t : TypeId} {cs : Array Value} (h : Blk w b t cs) : w.rangeAt b 0 cs.toList := fun j v hv => by
  rw [Nat.zero_add]
  exact h.cellAt j (by simpa using hv)
theorem range_below {w w' : World} {b o B0 : Nat} {cs : List Value} (h : w.rangeAt b o cs) (hb : Below B0 w w') (hlt : b < B0) : w'.rangeAt b o cs := fun j v hv => (hb.cell (p := ⟨b, o + j, none⟩) hlt).trans (h j v hv)

/-! ### '==' of two arrays of bytes -/
section
variable {P : Program}
theorem run_eqItems_bytes (d : Nat) {e : TypeId} (he : P.underlying e = some (.int .u8)) (hk : P.plainKey e = true) (l m : List UInt8) (w : World) :
    ∀ is : List Nat, (∀ j ∈ is, j < l.length ∧ j < m.length) → (Op.eqItems (d + 1) e 1 (barr l) (barr m) is).run P w = .ok (is.all fun j => l.getD j 0 == m.getD j 0) w
  | [], _ => by simp [Op.eqItems]
  | i :: is, h => by
    obtain ⟨h1, h2⟩ := h i (by simp)
    have p1 := run_part_plain w hk (barr_getD l i h1)
    have p2 := run_part_plain w hk (barr_getD m i h2)
    simp only [Op.eqItems, Sem.run_bind, Nat.mul_one, p1, p2, Result.andThen_ok, run_equalIn_int w d e .u8 .u8 _ _ he]
    rw [List.all_cons]
    by_cases hx : l.getD i 0 = m.getD i 0
    · rw [hx]
      simp only [beq_self_eq_true, Bool.not_true, Bool.false_eq_true, if_false, Bool.true_and]
      exact run_eqItems_bytes d he hk l m w is (fun j hj => h j (by simp [hj]))
    · have e1 : (((l.getD i 0).toNat : Int) == ((m.getD i 0).toNat : Int)) = false := by
        rw [beq_eq_false_iff_ne]
        intro hh
        exact hx (UInt8.toNat_inj.1 (by omega))
      rw [e1, beq_eq_false_iff_ne.2 hx]
      simp
theorem run_eql_bytes {t e : TypeId} {n : Nat} {i : TypeInfo} (hu : P.underlying t = some (.array n e)) (hi : P.info? e = some i) (hc : P.cellsOf e = 1) (he : P.underlying e = some (.int .u8)) (hk : P.plainKey e = true)
    (l m : List UInt8) (hl : l.length = n) (hm : m.length = n) (w : World) : (Op.equalIn 10000 t (.agg (barr l)) (.agg (barr m))).run P w = .ok (l == m) w := by
  rw [run_equalIn_array w 9999 _ _ hu hi, hc, run_eqItems_bytes 9998 he hk l m w _ (fun j hj => by have := List.mem_range.1 hj; omega)]
  congr 1
  rw [Bool.eq_iff_iff, List.all_eq_true]
  constructor
  · intro h
    rw [beq_iff_eq]
    apply List.ext_getElem (by omega)
    intro j h1 h2
    have := h j (List.mem_range.2 (by omega))
    rw [beq_iff_eq, List.getD_eq_getElem?_getD, List.getD_eq_getElem?_getD, List.getElem?_eq_getElem h1, List.getElem?_eq_getElem h2] at this
    exact this
  · intro h
    rw [beq_iff_eq] at h
    subst h
    intro j _
    exact beq_self_eq_true _
end

/-! ### tables -/
def tab (n : Nat) (f : Nat → UInt8) : List UInt8 := (List.range n).map f
theorem tab_length (n : Nat) (f : Nat → UInt8) : (tab n f).length = n := by simp [tab]
theorem tab_getD (n : Nat) (f : Nat → UInt8) (j : Nat) (hj : j < n) : (tab n f).getD j 0 = f j := by
  simp [tab, List.getD_eq_getElem?_getD, List.getElem?_range hj]
theorem tab_ext (n : Nat) (f g : Nat → UInt8) (h : ∀ j, j < n → f j = g j) : tab n f = tab n g := by
  unfold tab
  exact List.map_congr_left fun j hj => h j (List.mem_range.1 hj)
theorem tab_set (n : Nat) (f : Nat → UInt8) (i : Nat) (x : UInt8) : (tab n f).set i x = tab n (fun j => if j = i then x else f j) := by
  apply List.ext_getElem?
  intro j
  by_cases hj : j < n
  · rw [List.getElem?_set]
    simp only [tab, List.getElem?_map, List.getElem?_range hj, List.length_map, List.length_range]
    by_cases e : i = j
    · subst e; simp [hj]
    · rw [if_neg e]; simp [show ¬ j = i from fun h => e h.symm]
  · rw [List.getElem?_eq_none (by simp [tab]; omega), List.getElem?_eq_none (by simp [tab]; omega)]
theorem tab_zero (n : Nat) : tab n (fun _ => 0) = List.replicate n 0 := by
  apply List.ext_getElem?
  intro j
  simp only [tab, List.getElem?_map, List.getElem?_replicate]
  by_cases h : j < n
  · rw [List.getElem?_range h, if_pos h]; rfl
  · rw [if_neg h, List.getElem?_eq_none (by simp; omega)]; rfl

/-! ### a slice of bytes that is read: 'Bs w v l': v is a slice whose elements are l -/
structure Bs (w : World) (v : Value) (l : List UInt8) : Prop where
  form : ∃ ao cap, v = .slice ao l.length cap ∧ l.length ≤ cap ∧ cap ≤ 9223372036854775807 ∧ (ao = none → cap = 0) ∧
    ∀ j, j < l.length → ∃ b off, ao = some ⟨b, off, none⟩ ∧ w.cell? ⟨b, off + j, none⟩ = some (.int .u8 ((l.getD j 0).toNat : Int))
theorem Bs.len {w : World} {v : Value} {l : List UInt8} (h : Bs w v l) : l.length ≤ 9223372036854775807 := by
  obtain ⟨ao, cap, _, h1, h2, _⟩ := h.form
  omega
theorem Bs.nil (w : World) : Bs w (.slice none 0 0) [] := ⟨none, 0, rfl, by simp, by simp, fun _ => rfl, fun j hj => by simp at hj⟩
/-- what keeps a slice that is read -/
theorem Bs.keep {w w' : World} {v : Value} {l : List UInt8} (h : Bs w v l) (hk : ∀ b, v.ownBlock = some b → b < w.heap.size → w'.heap[b]? = w.heap[b]?) : Bs w' v l := by
  obtain ⟨ao, cap, rfl, h1, h2, h3, h4⟩ := h.form
  refine ⟨ao, cap, rfl, h1, h2, h3, fun j hj => ?_⟩
  obtain ⟨b, off, rfl, hc⟩ := h4 j hj
  have hlt : b < w.heap.size := World.block_lt_of_cell? w _ hc
  exact ⟨b, off, rfl, (World.cell?_of_block (w := w) (hk b rfl hlt)).trans hc⟩
theorem Bs.below {w w' : World} {v : Value} {l : List UInt8} (h : Bs w v l) {B0 : Nat} (hb : Below B0 w w') (hv : ∀ b, v.ownBlock = some b → b < B0) : Bs w' v l :=
  h.keep fun b hb1 _ => hb.block b (hv b hb1)
theorem Bs.grow {w w' : World} {v : Value} {l : List UInt8} (h : Bs w v l) (hb : Below w.heap.size w w') : Bs w' v l := h.keep fun b _ hlt => hb.block b hlt
theorem Bs.only {S : Nat → Prop} {w w' : World} {v : Value} {l : List UInt8} (h : Bs w v l) (ho : Only S w w') (hv : ∀ b, v.ownBlock = some b → ¬ S b) : Bs w' v l :=
  h.keep fun b hb1 hlt => ho.block b hlt (hv b hb1)
/-- a slice argument, opened -/
theorem open_bytes {H : Type} {enc : TypeId × Value → H} {P : Program} {W : World} {base : Nat} {t e : TypeId} {v : Value} {d : DataW H} {p : List MemPlace} (ht : P.underlying t = some (.slice e)) (he : P.underlying e = some (.int .u8)) (hce : P.cellsOf e = 1)
    (hval : Value.okWide P W .any base t v) (h : DataW.Trod enc P W 0 (fun _ => true) true t v d p) : ∃ l : List UInt8, Bs W v l := by
  obtain ⟨a0, len, cap, rfl⟩ := Go.WideShapes.okWide_slice ht hval
  obtain ⟨fuel, hf⟩ := h
  rcases Go.ChangeShapes.open_ints ht he hce hf with ⟨hcs, _⟩ | ⟨a, len', cap', zs, hcs, _, hl, hm, hz, _, hcell, hwz⟩
  · simp only [Value.cells] at hcs
    injection hcs with hcs _
    rw [hcs]
    exact ⟨[], Bs.nil W⟩
  · simp only [Value.cells] at hcs
    injection hcs with hcs _
    rw [hcs]
    simp only [if_true] at hz
    have hn : ∀ j, (zs.getD j 0) ≥ 0 ∧ (zs.getD j 0) < 256 := by
      intro j
      rw [List.getD_eq_getElem?_getD]
      rcases hj : zs[j]? with _ | n
      · simp
      · have := bounds_u8 (hwz n (List.mem_of_getElem? hj))
        simp only [Option.getD_some]
        omega
    have hlen : ((zs.take len').map fun n => UInt8.ofNat n.toNat).length = len' := by
      rw [List.length_map, List.length_take]; omega
    refine ⟨(zs.take len').map fun n => UInt8.ofNat n.toNat, ⟨some a, cap', ?_, ?_, ?_, (fun h => by cases h), fun j hj => ?_⟩⟩
    · rw [hlen]
    · rw [hlen]; exact hl
    · exact hm
    · rw [hlen] at hj
      have hc := hcell j (by omega)
      obtain ⟨b, off, spot⟩ := a
      have hsp : spot = none := by
        cases spot with
        | none => rfl
        | some s =>
          have hc0 := hcell 0 (by omega)
          rw [show (⟨b, off, some s⟩ : Addr).add 0 = ⟨b, off, some s⟩ from by simp [Addr.add]] at hc0
          unfold World.cell? at hc0
          split at hc0 <;> simp at hc0
      subst hsp
      refine ⟨b, off, rfl, ?_⟩
      rw [show (⟨b, off, none⟩ : Addr).add j = ⟨b, off + j, none⟩ from by unfold Addr.add; split <;> simp_all] at hc
      rw [hc]
      have h1 := hn j
      have e : (((zs.take len').map fun n => UInt8.ofNat n.toNat).getD j 0) = UInt8.ofNat (zs.getD j 0).toNat := by
        rw [List.getD_eq_getElem?_getD, List.getD_eq_getElem?_getD, List.getElem?_map, List.getElem?_take, if_pos hj]
        rw [List.getElem?_eq_getElem (by omega : j < zs.length)]
        rfl
      rw [e, u8_of _ (by omega)]
      congr 2
      omega

end Go.Proofs.Ytpampcokonicfaa
namespace Go.Proofs.Ytpampcokonicfaa
open Go

/-! ### plain -/
/-- a run: its event's kind and size, how often -/
structure Rn where
  k : Int
  s : Int
  c : Int
deriving DecidableEq
def Rn.cells (r : Rn) : List Value := [.int .u8 r.k, .int .i64 r.s, .int .i64 r.c]
def flatR (rs : List Rn) : List Value := rs.flatMap Rn.cells
def tot (rs : List Rn) : Int := (rs.map (·.c)).sum
/-- a note of n events (n above 0) -/
def noteL (rs : List Rn) (k s n : Int) : List Rn :=
  match rs.getLast? with
  | some r => if r.k = k ∧ r.s = s then rs.dropLast ++ [⟨k, s, r.c + n⟩] else rs ++ [⟨k, s, n⟩]
  | none => [⟨k, s, n⟩]
theorem noteL_nil (k s n : Int) : noteL [] k s n = [⟨k, s, n⟩] := rfl
theorem noteL_same (rs : List Rn) (r : Rn) (n : Int) : noteL (rs ++ [r]) r.k r.s n = rs ++ [⟨r.k, r.s, r.c + n⟩] := by simp [noteL]
theorem noteL_other (rs : List Rn) (r : Rn) (k s n : Int) (h : ¬ (r.k = k ∧ r.s = s)) : noteL (rs ++ [r]) k s n = rs ++ [r] ++ [⟨k, s, n⟩] := by simp [noteL, h]
theorem flatR_length (rs : List Rn) : (flatR rs).length = rs.length * 3 := by
  induction rs with
  | nil => rfl
  | cons r rs ih => simp only [flatR, List.flatMap_cons, List.length_append, List.length_cons] at *; rw [ih]; simp [Rn.cells]; omega
theorem flatR_append (a b : List Rn) : flatR (a ++ b) = flatR a ++ flatR b := by simp [flatR]
theorem flatR_one (r : Rn) : flatR [r] = r.cells := by simp [flatR]
theorem flatR_at (rs : List Rn) (i : Nat) (r : Rn) (h : rs[i]? = some r) : (flatR rs)[i * 3]? = some (.int .u8 r.k) ∧ (flatR rs)[i * 3 + 1]? = some (.int .i64 r.s) ∧ (flatR rs)[i * 3 + 2]? = some (.int .i64 r.c) := by
  induction rs generalizing i with
  | nil => simp at h
  | cons x rs ih =>
    have e : flatR (x :: rs) = .int .u8 x.k :: .int .i64 x.s :: .int .i64 x.c :: flatR rs := by simp [flatR, Rn.cells]
    rw [e]
    cases i with
    | zero => simp at h; subst h; simp
    | succ i =>
      have := ih i (by simpa using h)
      rw [show (i + 1) * 3 = i * 3 + 1 + 1 + 1 from by omega]
      simpa using this
theorem tot_append (a b : List Rn) : tot (a ++ b) = tot a + tot b := by simp [tot]
theorem tot_one (r : Rn) : tot [r] = r.c := by simp [tot]
theorem tot_note (rs : List Rn) (k s n : Int) : tot (noteL rs k s n) = tot rs + n := by
  rcases List.eq_nil_or_concat rs with rfl | ⟨r0, r, rfl⟩
  · simp [noteL, tot]
  · rw [List.concat_eq_append]
    by_cases h : r.k = k ∧ r.s = s
    · obtain ⟨rfl, rfl⟩ := h
      rw [noteL_same, tot_append, tot_append, tot_one, tot_one]
      simp; omega
    · rw [noteL_other _ _ _ _ _ h, tot_append _ [_], tot_one]
/-- each run stands for something -/
def Posi (rs : List Rn) : Prop := ∀ r ∈ rs, 1 ≤ r.c
theorem tot_nonneg : ∀ rs : List Rn, Posi rs → (rs.length : Int) ≤ tot rs
  | [], _ => by simp [tot]
  | r :: rs, h => by
    have h1 := h r (by simp)
    have h2 := tot_nonneg rs (fun x hx => h x (by simp [hx]))
    have e : tot (r :: rs) = r.c + tot rs := by simp [tot]
    rw [e, List.length_cons]
    omega
theorem Posi.note {rs : List Rn} (h : Posi rs) (k s n : Int) (hn : 1 ≤ n) : Posi (noteL rs k s n) := by
  rcases List.eq_nil_or_concat rs with rfl | ⟨r0, r, rfl⟩
  · intro x hx; simp [noteL] at hx; subst hx; exact hn
  · rw [List.concat_eq_append] at *
    have hr := h r (by simp)
    by_cases e : r.k = k ∧ r.s = s
    · obtain ⟨rfl, rfl⟩ := e
      rw [noteL_same]
      intro x hx
      rcases List.mem_append.1 hx with hx | hx
      · exact h x (by simp [hx])
      · simp at hx; subst hx; show 1 ≤ r.c + n; omega
    · rw [noteL_other _ _ _ _ _ e]
      intro x hx
      rcases List.mem_append.1 hx with hx | hx
      · exact h x hx
      · simp at hx; subst hx; exact hn
theorem Posi.nil : Posi [] := fun _ h => by cases h

/-- an event -/
structure Ev where
  k : Int
  s : Int
deriving DecidableEq
def Ev.cells (e : Ev) : List Value := [.int .u8 e.k, .int .i64 e.s]
def Rn.ev (r : Rn) : Ev := ⟨r.k, r.s⟩
end Go.Proofs.Ytpampcokonicfaa
