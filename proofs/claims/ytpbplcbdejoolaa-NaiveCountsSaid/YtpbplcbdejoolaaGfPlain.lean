/- Plain arithmetic of the field of 256 elements on natural numbers: the product by shifts, the product by definition, inverses, the box. No program in sight. -/
import Derived.KernelRfl
namespace Go.Proofs.Ytpbplcbdejoolaa

/-! ### a linear map is known by its values at the powers of two -/
theorem xor_add (f : Nat → Nat) (h : ∀ x, x < 256 → ∀ y, y < 256 → f (x ^^^ y) = f x ^^^ f y) : f 0 = 0 := by
  have := h 0 (by omega) 0 (by omega)
  simpa using this

theorem bits8 : ∀ b, b < 256 → b = (b &&& 1) ^^^ (b &&& 2) ^^^ (b &&& 4) ^^^ (b &&& 8) ^^^ (b &&& 16) ^^^ (b &&& 32) ^^^ (b &&& 64) ^^^ (b &&& 128) := by
  decide +kernel

theorem bit_or : ∀ b, b < 256 → ∀ i, i < 8 → (b &&& 2 ^ i = 0 ∨ b &&& 2 ^ i = 2 ^ i) := by decide +kernel

theorem lt_xor {x y : Nat} (hx : x < 256) (hy : y < 256) : x ^^^ y < 256 := Nat.xor_lt_two_pow (n := 8) hx hy

theorem lin_ext (f g : Nat → Nat) (hf : ∀ x, x < 256 → ∀ y, y < 256 → f (x ^^^ y) = f x ^^^ f y) (hg : ∀ x, x < 256 → ∀ y, y < 256 → g (x ^^^ y) = g x ^^^ g y)
    (h : ∀ i, i < 8 → f (2 ^ i) = g (2 ^ i)) (b : Nat) (hb : b < 256) : f b = g b := by
  have f0 := xor_add f hf
  have g0 := xor_add g hg
  have one : ∀ i, i < 8 → f (b &&& 2 ^ i) = g (b &&& 2 ^ i) := by
    intro i hi
    rcases bit_or b hb i hi with e | e
    · rw [e, f0, g0]
    · rw [e]; exact h i hi
  have lt : ∀ m, m < 256 → b &&& m < 256 := fun m hm => Nat.lt_of_le_of_lt Nat.and_le_right hm
  have l1 := lt 1 (by omega)
  have l2 := lt 2 (by omega)
  have l3 := lt 4 (by omega)
  have l4 := lt 8 (by omega)
  have l5 := lt 16 (by omega)
  have l6 := lt 32 (by omega)
  have l7 := lt 64 (by omega)
  have l8 := lt 128 (by omega)
  have o0 := one 0 (by omega)
  have o1 := one 1 (by omega)
  have o2 := one 2 (by omega)
  have o3 := one 3 (by omega)
  have o4 := one 4 (by omega)
  have o5 := one 5 (by omega)
  have o6 := one 6 (by omega)
  have o7 := one 7 (by omega)
  simp only [Nat.reducePow] at o0 o1 o2 o3 o4 o5 o6 o7
  have e := bits8 b hb
  have step : ∀ (F : Nat → Nat), (∀ x, x < 256 → ∀ y, y < 256 → F (x ^^^ y) = F x ^^^ F y) →
      F ((b &&& 1) ^^^ (b &&& 2) ^^^ (b &&& 4) ^^^ (b &&& 8) ^^^ (b &&& 16) ^^^ (b &&& 32) ^^^ (b &&& 64) ^^^ (b &&& 128)) =
      F (b &&& 1) ^^^ F (b &&& 2) ^^^ F (b &&& 4) ^^^ F (b &&& 8) ^^^ F (b &&& 16) ^^^ F (b &&& 32) ^^^ F (b &&& 64) ^^^ F (b &&& 128) := by
    intro F hF
    rw [hF _ (lt_xor (lt_xor (lt_xor (lt_xor (lt_xor (lt_xor l1 l2) l3) l4) l5) l6) l7) _ l8,
      hF _ (lt_xor (lt_xor (lt_xor (lt_xor (lt_xor l1 l2) l3) l4) l5) l6) _ l7,
      hF _ (lt_xor (lt_xor (lt_xor (lt_xor l1 l2) l3) l4) l5) _ l6,
      hF _ (lt_xor (lt_xor (lt_xor l1 l2) l3) l4) _ l5,
      hF _ (lt_xor (lt_xor l1 l2) l3) _ l4, hF _ (lt_xor l1 l2) _ l3, hF _ l1 _ l2]
  rw [e, step f hf, step g hg, o0, o1, o2, o3, o4, o5, o6, o7]

/-! ### the product by shifts -/
def xt (a : Nat) : Nat := (a * 2 % 256) ^^^ (27 * (a / 128))
def gmN : Nat → Nat → Nat → Nat → Nat
  | 0, p, _, _ => p
  | n + 1, p, a, b => gmN n (p ^^^ (a * (b % 2))) (xt a) (b / 2)
def gm (a b : Nat) : Nat := gmN 8 0 a b

theorem xt_lt (a : Nat) (h : a < 256) : xt a < 256 := by
  have : ∀ a, a < 256 → xt a < 256 := by decide +kernel
  exact this a h
theorem mul_bit_lt (a b : Nat) (h : a < 256) : a * (b % 2) < 256 := by
  rcases Nat.mod_two_eq_zero_or_one b with e | e <;> rw [e] <;> omega
theorem gmN_lt : ∀ n p a b, p < 256 → a < 256 → gmN n p a b < 256
  | 0, _, _, _, hp, _ => hp
  | n + 1, _, a, b, hp, ha => gmN_lt n _ _ _ (lt_xor hp (mul_bit_lt a b ha)) (xt_lt a ha)
theorem gm_lt (a b : Nat) (ha : a < 256) : gm a b < 256 := gmN_lt 8 0 a b (by omega) ha

theorem bit_xor (x y : Nat) : (x ^^^ y) % 2 = (x % 2) ^^^ (y % 2) := Nat.xor_mod_two_pow (n := 1)
theorem half_xor (x y : Nat) : (x ^^^ y) / 2 = (x / 2) ^^^ (y / 2) := by
  have := Nat.shiftRight_xor_distrib (a := x) (b := y) (i := 1)
  simpa [Nat.shiftRight_succ] using this
theorem mul_bits (a x y : Nat) : a * ((x % 2) ^^^ (y % 2)) = (a * (x % 2)) ^^^ (a * (y % 2)) := by
  rcases Nat.mod_two_eq_zero_or_one x with e | e <;> rcases Nat.mod_two_eq_zero_or_one y with f | f <;> rw [e, f] <;> simp
theorem xor4 (p q r s : Nat) : (p ^^^ q) ^^^ (r ^^^ s) = (p ^^^ r) ^^^ (q ^^^ s) := by
  rw [Nat.xor_assoc, Nat.xor_assoc, ← Nat.xor_assoc q r s, Nat.xor_comm q r, Nat.xor_assoc]

theorem gmN_right : ∀ n p q a x y, gmN n (p ^^^ q) a (x ^^^ y) = gmN n p a x ^^^ gmN n q a y
  | 0, _, _, _, _, _ => rfl
  | n + 1, p, q, a, x, y => by
    simp only [gmN]
    rw [bit_xor, mul_bits, xor4, half_xor, gmN_right n]
theorem gm_right (a x y : Nat) : gm a (x ^^^ y) = gm a x ^^^ gm a y := by
  have := gmN_right 8 0 0 a x y
  rwa [Nat.xor_self] at this

theorem xt_xor : ∀ x, x < 256 → ∀ y, y < 256 → xt (x ^^^ y) = xt x ^^^ xt y := by
  intro x hx y hy
  have h1 : (x ^^^ y) * 2 % 256 = (x * 2 % 256) ^^^ (y * 2 % 256) := by
    have e : ∀ z : Nat, z * 2 = z <<< 1 := fun z => by simp [Nat.shiftLeft_eq]
    rw [e, e, e, Nat.shiftLeft_xor_distrib]
    exact Nat.xor_mod_two_pow (n := 8)
  have h2 : (x ^^^ y) / 128 = (x / 128) ^^^ (y / 128) := by
    have := Nat.shiftRight_xor_distrib (a := x) (b := y) (i := 7)
    simpa [Nat.shiftRight_eq_div_pow] using this
  have h3 : 27 * ((x / 128) ^^^ (y / 128)) = (27 * (x / 128)) ^^^ (27 * (y / 128)) := by
    have a1 : x / 128 < 2 := by omega
    have a2 : y / 128 < 2 := by omega
    have := mul_bits 27 (x / 128) (y / 128)
    rwa [Nat.mod_eq_of_lt a1, Nat.mod_eq_of_lt a2] at this
  unfold xt
  rw [h1, h2, h3, xor4]

theorem bits_mul (x y b : Nat) : (x ^^^ y) * (b % 2) = (x * (b % 2)) ^^^ (y * (b % 2)) := by
  rcases Nat.mod_two_eq_zero_or_one b with e | e <;> rw [e] <;> simp
theorem gmN_left : ∀ n p q x y b, x < 256 → y < 256 → gmN n (p ^^^ q) (x ^^^ y) b = gmN n p x b ^^^ gmN n q y b
  | 0, _, _, _, _, _, _, _ => rfl
  | n + 1, p, q, x, y, b, hx, hy => by
    simp only [gmN]
    rw [bits_mul, xor4, xt_xor x hx y hy, gmN_left n _ _ _ _ _ (xt_lt x hx) (xt_lt y hy)]
theorem gm_left (x y b : Nat) (hx : x < 256) (hy : y < 256) : gm (x ^^^ y) b = gm x b ^^^ gm y b := by
  have := gmN_left 8 0 0 x y b hx hy
  rwa [Nat.xor_self] at this

theorem pow_lt : ∀ i, i < 8 → 2 ^ i < 256 := by decide

theorem gm_comm (a b : Nat) (ha : a < 256) (hb : b < 256) : gm a b = gm b a := by
  refine lin_ext (fun b => gm a b) (fun b => gm b a) (fun x _ y _ => gm_right a x y) (fun x hx y hy => gm_left x y a hx hy) (fun i hi => ?_) b hb
  refine lin_ext (fun a => gm a (2 ^ i)) (fun a => gm (2 ^ i) a) (fun x hx y hy => gm_left x y _ hx hy) (fun x _ y _ => gm_right _ x y) (fun j hj => ?_) a ha
  have : ∀ i, i < 8 → ∀ j, j < 8 → gm (2 ^ j) (2 ^ i) = gm (2 ^ i) (2 ^ j) := by decide +kernel
  exact this i hi j hj

theorem gm_assoc (a b c : Nat) (ha : a < 256) (hb : b < 256) (hc : c < 256) : gm (gm a b) c = gm a (gm b c) := by
  refine lin_ext (fun c => gm (gm a b) c) (fun c => gm a (gm b c)) (fun x _ y _ => gm_right _ x y) (fun x _ y _ => ?_) (fun i hi => ?_) c hc
  · show gm a (gm b (x ^^^ y)) = _
    rw [gm_right, gm_right]
  have hi' := pow_lt i hi
  refine lin_ext (fun b => gm (gm a b) (2 ^ i)) (fun b => gm a (gm b (2 ^ i))) (fun x hx y hy => ?_) (fun x hx y hy => ?_) (fun j hj => ?_) b hb
  · show gm (gm a (x ^^^ y)) (2 ^ i) = _
    rw [gm_right, gm_left _ _ _ (gm_lt a x ha) (gm_lt a y ha)]
  · show gm a (gm (x ^^^ y) (2 ^ i)) = _
    rw [gm_left _ _ _ hx hy, gm_right]
  refine lin_ext (fun a => gm (gm a (2 ^ j)) (2 ^ i)) (fun a => gm a (gm (2 ^ j) (2 ^ i))) (fun x hx y hy => ?_) (fun x hx y hy => gm_left _ _ _ hx hy) (fun k hk => ?_) a ha
  · show gm (gm (x ^^^ y) (2 ^ j)) (2 ^ i) = _
    rw [gm_left _ _ _ hx hy, gm_left _ _ _ (gm_lt _ _ hx) (gm_lt _ _ hy)]
  have : ∀ i, i < 8 → ∀ j, j < 8 → ∀ k, k < 8 → gm (gm (2 ^ k) (2 ^ j)) (2 ^ i) = gm (2 ^ k) (gm (2 ^ j) (2 ^ i)) := by decide +kernel
  exact this i hi j hj k hk

theorem gm_one (a : Nat) (ha : a < 256) : gm a 1 = a := by
  have : ∀ a, a < 256 → gm a 1 = a := by decide +kernel
  exact this a ha
theorem gm_zero (a : Nat) (ha : a < 256) : gm a 0 = 0 := by
  have : ∀ a, a < 256 → gm a 0 = 0 := by decide +kernel
  exact this a ha

/-! ### inverses -/
def invN : Nat → Nat → Nat → Nat
  | 0, p, _ => p
  | n + 1, p, a => invN n (gm p (gm a a)) (gm a a)
def gi (a : Nat) : Nat := invN 7 1 a

theorem invN_lt : ∀ n p a, p < 256 → invN n p a < 256
  | 0, _, _, hp => hp
  | n + 1, p, _, hp => invN_lt n _ _ (gm_lt p _ hp)
theorem gi_lt (a : Nat) : gi a < 256 := invN_lt 7 1 a (by omega)
theorem gi_mul (a : Nat) (ha : a < 256) (h0 : a ≠ 0) : gm a (gi a) = 1 := by
  have : ∀ a, a < 256 → a ≠ 0 → gm a (gi a) = 1 := by decide +kernel
  exact this a ha h0
theorem gi_zero : gi 0 = 0 := by decide +kernel
theorem gi_gi (a : Nat) (ha : a < 256) : gi (gi a) = a := by
  have : ∀ a, a < 256 → gi (gi a) = a := by decide +kernel
  exact this a ha
theorem zero_gm (a : Nat) (ha : a < 256) : gm 0 a = 0 := by rw [gm_comm 0 a (by omega) ha, gm_zero a ha]
theorem gi_only (a x : Nat) (ha : a < 256) (hx : x < 256) (h : gm a x = 1) : x = gi a := by
  by_cases h0 : a = 0
  · subst h0; rw [zero_gm x hx] at h; omega
  · have e1 : gm (gm x a) (gi a) = x := by rw [gm_assoc x a _ hx ha (gi_lt a), gi_mul a ha h0, gm_one x hx]
    rw [gm_comm x a hx ha, h, gm_comm 1 _ (by omega) (gi_lt a), gm_one _ (gi_lt a)] at e1
    exact e1.symm
theorem gm_eq_zero (a b : Nat) (ha : a < 256) (hb : b < 256) : gm a b = 0 ↔ (a = 0 ∨ b = 0) := by
  constructor
  · intro h
    by_cases h0 : a = 0
    · exact .inl h0
    · right
      have e : gm (gm b a) (gi a) = b := by rw [gm_assoc b a _ hb ha (gi_lt a), gi_mul a ha h0, gm_one b hb]
      rw [gm_comm b a hb ha, h, zero_gm _ (gi_lt a)] at e
      exact e.symm
  · rintro (rfl | rfl)
    · exact zero_gm b hb
    · exact gm_zero a ha

/-! ### the product by definition -/
def rin (c b k : Nat) : Nat → Nat → Nat → Nat
  | 0, _, q => q
  | n + 1, j, q => rin c b k n (j + 1) (q ^^^ (c * (b / 2 ^ j % 2) * 2 ^ (k + j)))
def rout (a b : Nat) : Nat → Nat → Nat → Nat
  | 0, _, q => q
  | n + 1, k, q => rout a b n (k + 1) (rin (a / 2 ^ k % 2) b k 8 0 q)
def rred : Nat → Nat → Nat → Nat
  | 0, _, p => p
  | n + 1, i, p => rred n (i - 1) (if p / 2 ^ i % 2 = 1 then p ^^^ (283 * 2 ^ (i - 8)) else p)
def rm (a b : Nat) : Nat := rred 7 14 (rout a b 8 0 0) % 256

theorem rin_acc (c b k : Nat) : ∀ n j q r, rin c b k n j (q ^^^ r) = q ^^^ rin c b k n j r
  | 0, _, _, _ => rfl
  | n + 1, j, q, r => by simp only [rin]; rw [Nat.xor_assoc, rin_acc c b k n]
theorem rin_eq (c b k q : Nat) (hc : c < 2) (hb : b < 256) (hk : k < 8) : rin c b k 8 0 q = q ^^^ (c * b * 2 ^ k) := by
  have h : ∀ c, c < 2 → ∀ b, b < 256 → ∀ k, k < 8 → rin c b k 8 0 0 = c * b * 2 ^ k := by decide +kernel
  have e := rin_acc c b k 8 0 q 0
  rw [Nat.xor_zero] at e
  rw [e, h c hc b hb k hk]

def clm (a b : Nat) : Nat → Nat → Nat → Nat
  | 0, _, q => q
  | n + 1, k, q => clm a b n (k + 1) (q ^^^ (a / 2 ^ k % 2 * b * 2 ^ k))
theorem rout_eq (a b : Nat) (hb : b < 256) : ∀ n k q, n + k ≤ 8 → rout a b n k q = clm a b n k q
  | 0, _, _, _ => rfl
  | n + 1, k, q, h => by
    simp only [rout, clm]
    rw [rin_eq _ b k q (Nat.mod_lt _ (by omega)) hb (by omega), rout_eq a b hb n (k + 1) _ (by omega)]

theorem clm_right (a x y : Nat) : ∀ n k p q, clm a (x ^^^ y) n k (p ^^^ q) = clm a x n k p ^^^ clm a y n k q
  | 0, _, _, _ => rfl
  | n + 1, k, p, q => by
    simp only [clm]
    have e : a / 2 ^ k % 2 * (x ^^^ y) * 2 ^ k = (a / 2 ^ k % 2 * x * 2 ^ k) ^^^ (a / 2 ^ k % 2 * y * 2 ^ k) := by
      rcases Nat.mod_two_eq_zero_or_one (a / 2 ^ k) with f | f
      · simp [f]
      · rw [f]; simp only [Nat.one_mul, ← Nat.shiftLeft_eq]; exact Nat.shiftLeft_xor_distrib
    rw [e, xor4, clm_right a x y n]
theorem rred_xor : ∀ n i p q, rred n i (p ^^^ q) = rred n i p ^^^ rred n i q
  | 0, _, _, _ => rfl
  | n + 1, i, p, q => by
    simp only [rred]
    have b1 : (p ^^^ q) / 2 ^ i % 2 = (p / 2 ^ i % 2) ^^^ (q / 2 ^ i % 2) := by
      rw [← bit_xor]
      congr 1
      have := Nat.shiftRight_xor_distrib (a := p) (b := q) (i := i)
      simpa [Nat.shiftRight_eq_div_pow] using this
    rw [← rred_xor n]
    congr 1
    rw [b1]
    rcases Nat.mod_two_eq_zero_or_one (p / 2 ^ i) with e | e <;> rcases Nat.mod_two_eq_zero_or_one (q / 2 ^ i) with f | f <;> simp only [e, f]
    · simp
    · simp [Nat.xor_assoc]
    · simp only [Nat.xor_zero, if_true]; rw [if_neg (by omega)]; rw [Nat.xor_assoc, Nat.xor_comm q, ← Nat.xor_assoc]
    · rw [Nat.xor_self, if_neg (by omega), if_true, if_true, xor4, Nat.xor_self, Nat.xor_zero]
theorem rm_right (a x y : Nat) (hx : x < 256) (hy : y < 256) : rm a (x ^^^ y) = rm a x ^^^ rm a y := by
  unfold rm
  rw [rout_eq a _ (lt_xor hx hy) 8 0 0 (by omega), rout_eq a _ hx 8 0 0 (by omega), rout_eq a _ hy 8 0 0 (by omega)]
  have e := clm_right a x y 8 0 0 0
  rw [Nat.xor_zero] at e
  rw [e, rred_xor]
  exact Nat.xor_mod_two_pow (n := 8)
theorem rm_eq (a b : Nat) (ha : a < 256) (hb : b < 256) : rm a b = gm a b := by
  refine lin_ext (fun b => rm a b) (fun b => gm a b) (fun x hx y hy => rm_right a x y hx hy) (fun x _ y _ => gm_right a x y) (fun i hi => ?_) b hb
  have h : ∀ a, a < 256 → ∀ i, i < 8 → rred 7 14 (clm a (2 ^ i) 8 0 0) % 256 = gm a (2 ^ i) := by decide +kernel
  show rm a (2 ^ i) = gm a (2 ^ i)
  unfold rm
  rw [rout_eq a _ (pow_lt i hi) 8 0 0 (by omega)]
  exact h a ha i hi

end Go.Proofs.Ytpbplcbdejoolaa
