/- The contracts of package ct: note, unlike, Equal, Less, IsZero, Mask. Conditions: none on the lists; the ledger has room for one more event. -/
import Derived.Test.YtpbplcbdejoolaaRows
import Derived.Test.YtpbplcbdejoolaaLg
import Derived.Laws.BytesArg
namespace Go.Proofs.Ytpbplcbdejoolaa
open Go.RowKit
set_option maxRecDepth 100000

/-! ### plain -/
/-- less, both as numbers: lists of one length -/
def ltL : List UInt8 → List UInt8 → Bool
  | x :: xs, y :: ys => if x = y then ltL xs ys else decide (x.toNat < y.toNat)
  | _, _ => false
theorem ltL_drop (xs ys : List UInt8) (k : Nat) (h1 : k < xs.length) (h2 : k < ys.length) :
    ltL (xs.drop k) (ys.drop k) = if xs.getD k 0 = ys.getD k 0 then ltL (xs.drop (k + 1)) (ys.drop (k + 1)) else decide ((xs.getD k 0).toNat < (ys.getD k 0).toNat) := by
  rw [List.drop_eq_getElem_cons h1, List.drop_eq_getElem_cons h2]
  rw [List.getD_eq_getElem?_getD, List.getD_eq_getElem?_getD, List.getElem?_eq_getElem h1, List.getElem?_eq_getElem h2]
  rfl
def b2i (b : Bool) : Int := if b then 1 else 0
theorem borrow_step (x y : UInt8) (b : Bool) : ((x.toNat : Int) - y.toNat - b2i b) / 256 % 2 = b2i (if x = y then b else decide (x.toNat < y.toNat)) := by
  have h1 := x.toNat_lt
  have h2 := y.toNat_lt
  by_cases h : x = y
  · subst h
    rw [if_pos rfl]
    cases b <;> simp [b2i]
  · have hn : ¬ x.toNat = y.toNat := fun e => h (UInt8.toNat_inj.1 e)
    rw [if_neg h]
    by_cases hlt : x.toNat < y.toNat
    · cases b <;> simp [b2i, hlt] <;> omega
    · cases b <;> simp [b2i, hlt] <;> omega
theorem borrow_bit (x y : UInt8) (b : Bool) : bits .and .i64 (((x.toNat : Int) - y.toNat - b2i b) / 256) 1 = b2i (if x = y then b else decide (x.toNat < y.toNat)) := by
  rw [← borrow_step]
  have h1 := x.toNat_lt
  have h2 := y.toNat_lt
  have h3 : 0 ≤ b2i b ∧ b2i b ≤ 1 := by cases b <;> simp [b2i]
  have h4 : ((x.toNat : Int) - y.toNat - b2i b) / 256 = 0 ∨ ((x.toNat : Int) - y.toNat - b2i b) / 256 = -1 := by omega
  rcases h4 with h | h
  · rw [h]; decide +kernel
  · rw [h]; decide +kernel
/-- all bytes are 0 -/
def zeroL (l : List UInt8) : Bool := l.all (· == 0)
def orTo (l : List UInt8) : Nat → Nat
  | 0 => 0
  | k + 1 => orTo l k ||| (l.getD k 0).toNat
def xorTo (xs ys : List UInt8) : Nat → Nat
  | 0 => 0
  | k + 1 => xorTo xs ys k ||| ((xs.getD k 0).toNat ^^^ (ys.getD k 0).toNat)
theorem or_zero_iff (a b : Nat) : a ||| b = 0 ↔ a = 0 ∧ b = 0 := by
  constructor
  · intro h
    constructor
    · exact Nat.eq_of_testBit_eq fun i => by have := congrArg (fun n => n.testBit i) h; simp [Nat.testBit_or] at this; simp [this.1]
    · exact Nat.eq_of_testBit_eq fun i => by have := congrArg (fun n => n.testBit i) h; simp [Nat.testBit_or] at this; simp [this.2]
  · rintro ⟨rfl, rfl⟩; rfl
theorem xor_zero_iff (a b : Nat) : a ^^^ b = 0 ↔ a = b := by
  constructor
  · intro h
    exact Nat.eq_of_testBit_eq fun i => by have := congrArg (fun n => n.testBit i) h; simpa [Nat.testBit_xor] using this
  · rintro rfl; exact Nat.xor_self a
theorem orTo_lt (l : List UInt8) : ∀ k, orTo l k < 256
  | 0 => by simp [orTo]
  | k + 1 => Nat.or_lt_two_pow (n := 8) (orTo_lt l k) (l.getD k 0).toNat_lt
theorem xorTo_lt (xs ys : List UInt8) : ∀ k, xorTo xs ys k < 256
  | 0 => by simp [xorTo]
  | k + 1 => Nat.or_lt_two_pow (n := 8) (xorTo_lt xs ys k) (Nat.xor_lt_two_pow (n := 8) (xs.getD k 0).toNat_lt (ys.getD k 0).toNat_lt)
theorem orTo_iff (l : List UInt8) : ∀ k, orTo l k = 0 ↔ ∀ j, j < k → l.getD j 0 = 0
  | 0 => by simp [orTo]
  | k + 1 => by
    rw [orTo, or_zero_iff, orTo_iff l k]
    have e : (l.getD k 0).toNat = 0 ↔ l.getD k 0 = 0 := ⟨fun h => UInt8.toNat_inj.1 h, fun h => by rw [h]; rfl⟩
    rw [e]
    constructor
    · rintro ⟨h1, h2⟩ j hj
      by_cases ejk : j = k
      · subst ejk; exact h2
      · exact h1 j (by omega)
    · intro h
      exact ⟨fun j hj => h j (by omega), h k (by omega)⟩
theorem xorTo_iff (xs ys : List UInt8) : ∀ k, xorTo xs ys k = 0 ↔ ∀ j, j < k → xs.getD j 0 = ys.getD j 0
  | 0 => by simp [xorTo]
  | k + 1 => by
    rw [xorTo, or_zero_iff, xorTo_iff xs ys k, xor_zero_iff, UInt8.toNat_inj]
    constructor
    · rintro ⟨h1, h2⟩ j hj
      by_cases ejk : j = k
      · subst ejk; exact h2
      · exact h1 j (by omega)
    · intro h
      exact ⟨fun j hj => h j (by omega), h k (by omega)⟩
theorem getD_ext (xs ys : List UInt8) (hl : xs.length = ys.length) (h : ∀ j, j < xs.length → xs.getD j 0 = ys.getD j 0) : xs = ys := by
  apply List.ext_getElem hl
  intro j h1 h2
  have := h j h1
  rwa [List.getD_eq_getElem?_getD, List.getD_eq_getElem?_getD, List.getElem?_eq_getElem h1, List.getElem?_eq_getElem h2] at this
theorem xorTo_all (xs ys : List UInt8) (hl : xs.length = ys.length) : ((xorTo xs ys xs.length : Int) == 0) = decide (xs = ys) := by
  rw [Bool.eq_iff_iff, decide_eq_true_eq, beq_iff_eq]
  have h := xorTo_iff xs ys xs.length
  constructor
  · intro e; exact getD_ext xs ys hl (h.1 (by omega))
  · rintro rfl; have := h.2 (fun _ _ => rfl); omega
theorem zeroL_iff (l : List UInt8) : zeroL l = true ↔ ∀ j, j < l.length → l.getD j 0 = 0 := by
  unfold zeroL
  rw [List.all_eq_true]
  constructor
  · intro h j hj
    rw [List.getD_eq_getElem?_getD, List.getElem?_eq_getElem hj]
    have := h _ (List.getElem_mem hj)
    simpa using this
  · intro h x hx
    obtain ⟨j, hj, rfl⟩ := List.getElem_of_mem hx
    have := h j hj
    rw [List.getD_eq_getElem?_getD, List.getElem?_eq_getElem hj] at this
    simpa using this
theorem orTo_all (l : List UInt8) : ((orTo l l.length : Int) == 0) = zeroL l := by
  rw [Bool.eq_iff_iff, beq_iff_eq, zeroL_iff, ← orTo_iff]
  omega

/-- what keeps a slice that is read; an empty one is kept by itself -/
theorem Bs.only' {S : Nat → Prop} {w w' : World} {v : Value} {l : List UInt8} (h : Bs w v l) (ho : Only S w w') (hv : l ≠ [] → ∀ b, v.ownBlock = some b → ¬ S b) : Bs w' v l := by
  by_cases h0 : l = []
  · obtain ⟨ao, cap, rfl, h1, h2, h3, h4⟩ := h.form
    exact ⟨ao, cap, rfl, h1, h2, h3, fun j hj => by rw [h0] at hj; simp at hj⟩
  · exact h.only ho (hv h0)

/-! ### the walks -/
def maskI (b : Bool) : Int := if b then 255 else 0
theorem b2i_01 (b : Bool) : 0 ≤ b2i b ∧ b2i b ≤ 1 := by cases b <;> simp [b2i]
theorem b2i_one (b : Bool) : (b2i b == 1) = b := by cases b <;> rfl
end Go.Proofs.Ytpbplcbdejoolaa
