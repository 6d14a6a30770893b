/- How many events naive's functions record at most; what they answer does not hang on the ledger. -/
import Derived.Test.YtpbplcbdejoolaaRows
import Derived.Test.YtpbplcbdejoolaaNaiveEnv
namespace Go.Proofs.Ytpbplcbdejoolaa
open Go.RowKit
set_option maxRecDepth 100000
set_option linter.unusedVariables false
set_option linter.unusedSimpArgs false
/-- a ledger that is one, with at most n events -/
def FewS (o : Option (List Rn)) (n : Nat) : Prop := ∃ rs, o = some rs ∧ Few rs n
theorem FewS.few {o : Option (List Rn)} {n : Nat} (h : FewS o n) : FewO o n := by
  obtain ⟨rs, rfl, h⟩ := h
  exact FewO.of h
theorem FewS.le {o : Option (List Rn)} {n m : Nat} (h : FewS o n) (hm : n ≤ m) : FewS o m := by
  obtain ⟨rs, rfl, h⟩ := h
  exact ⟨rs, rfl, by have := h.1; omega, by have := h.2; omega⟩
theorem FewS.note {o : Option (List Rn)} {n : Nat} (h : FewS o n) (k s : Int) : FewS (noteO o k s 1) (n + 1) := by
  obtain ⟨rs, rfl, h⟩ := h
  exact ⟨_, rfl, h.note k s⟩
theorem eqN_few : ∀ (xs ys : List UInt8) (o : Option (List Rn)) (n : Nat), FewS o n → FewS (eqN xs ys o).2 (n + xs.length)
  | [], _, o, n, h => h
  | a :: l, [], o, n, h => h.le (by omega)
  | a :: l, b :: m, o, n, h => by
    unfold eqN
    by_cases e : a = b
    · rw [if_pos e]
      exact (eqN_few l m _ (n + 1) (h.note 9 1)).le (by simp; omega)
    · rw [if_neg e]
      exact (h.note 9 0).le (by simp <;> omega)
theorem nEq_few (xs ys : List UInt8) (o : Option (List Rn)) (n : Nat) (h : FewS o n) : FewS (nEq xs ys o).2 (n + xs.length) := by
  unfold nEq
  by_cases e : xs.length = ys.length
  · rw [if_pos e]
    exact eqN_few xs ys o n h
  · rw [if_neg e]
    exact h.le (by omega)
theorem fdN_few (c : UInt8) : ∀ (xs : List UInt8) (i : Nat) (o : Option (List Rn)) (n : Nat), FewS o n → FewS (fdN c xs i o).2 (n + xs.length)
  | [], _, o, n, h => h
  | a :: l, i, o, n, h => by
    unfold fdN
    by_cases e : a = c
    · rw [if_pos e]
      exact (h.note 9 1).le (by simp <;> omega)
    · rw [if_neg e]
      exact (fdN_few c l (i + 1) _ (n + 1) (h.note 9 0)).le (by simp; omega)
theorem powO_few (e : Nat) : ∀ (k : Nat) (o : Option (List Rn)) (n : Nat), FewS o n → FewS (powO e k o) (n + k)
  | 0, o, n, h => h
  | k + 1, o, n, h => (powO_few e k _ (n + 1) (h.note 9 _)).le (by omega)
theorem dnN_few : ∀ (k : Nat) (zs : List UInt8) (o : Option (List Rn)) (n : Nat), FewS o n → FewS (dnN k zs o).2 (n + k)
  | 0, zs, o, n, h => h
  | k + 1, zs, o, n, h => by
    unfold dnN
    by_cases e : zs.getD (k + 1) 0 < zs.getD k 0
    · rw [if_pos e]
      exact (dnN_few k _ _ (n + 1) (h.note 9 1)).le (by omega)
    · rw [if_neg e]
      exact (h.note 9 0).le (by omega)
theorem srN_few : ∀ (r i : Nat) (zs : List UInt8) (o : Option (List Rn)) (n : Nat), i + r ≤ 200 → FewS o n → FewS (srN r i zs o).2 (n + r * 200)
  | 0, i, zs, o, n, _, h => h.le (by omega)
  | r + 1, i, zs, o, n, hi, h => (srN_few r (i + 1) (dnN i zs o).1 (dnN i zs o).2 (n + i) (by omega) (dnN_few i zs o n h)).le (by omega)
theorem sortN_few (xs : List UInt8) (hx : xs.length ≤ 200) (o : Option (List Rn)) (n : Nat) (h : FewS o n) : FewS (sortN xs o).2 (n + 40000) := by
  unfold sortN
  rcases Nat.lt_or_ge 0 xs.length with hl | hl
  · exact (srN_few (xs.length - 1) 1 xs o n (by omega) h).le (by omega)
  · rw [show xs.length - 1 = 0 by omega]
    exact h.le (by omega)
/-- what is answered does not hang on the ledger -/
theorem eqN_any : ∀ (xs ys : List UInt8) (o : Option (List Rn)), (eqN xs ys o).1 = (eqN xs ys none).1
  | [], _, o => rfl
  | a :: l, [], o => rfl
  | a :: l, b :: m, o => by
    unfold eqN
    by_cases e : a = b
    · rw [if_pos e, if_pos e, eqN_any l m (noteB o true), eqN_any l m (noteB none true)]
    · rw [if_neg e, if_neg e]
theorem dnN_any : ∀ (k : Nat) (zs : List UInt8) (o : Option (List Rn)), (dnN k zs o).1 = (dnN k zs none).1
  | 0, zs, o => rfl
  | k + 1, zs, o => by
    unfold dnN
    by_cases e : zs.getD (k + 1) 0 < zs.getD k 0
    · rw [if_pos e, if_pos e, dnN_any k _ (noteB o true), dnN_any k _ (noteB none true)]
    · rw [if_neg e, if_neg e]
theorem srN_any : ∀ (r i : Nat) (zs : List UInt8) (o : Option (List Rn)), (srN r i zs o).1 = (srN r i zs none).1
  | 0, i, zs, o => rfl
  | r + 1, i, zs, o => by
    show (srN r (i + 1) (dnN i zs o).1 (dnN i zs o).2).1 = (srN r (i + 1) (dnN i zs none).1 (dnN i zs none).2).1
    rw [srN_any r (i + 1) _ (dnN i zs o).2, srN_any r (i + 1) _ (dnN i zs none).2, dnN_any]
theorem sortN_any (xs : List UInt8) (o : Option (List Rn)) : (sortN xs o).1 = (sortN xs none).1 := srN_any _ _ _ _
theorem dnN_len : ∀ (k : Nat) (zs : List UInt8) (o : Option (List Rn)), (dnN k zs o).1.length = zs.length
  | 0, zs, o => rfl
  | k + 1, zs, o => by
    unfold dnN
    by_cases e : zs.getD (k + 1) 0 < zs.getD k 0
    · rw [if_pos e, dnN_len k, swapN_len]
    · rw [if_neg e]
theorem srN_len : ∀ (r i : Nat) (zs : List UInt8) (o : Option (List Rn)), (srN r i zs o).1.length = zs.length
  | 0, i, zs, o => rfl
  | r + 1, i, zs, o => by
    show (srN r (i + 1) (dnN i zs o).1 (dnN i zs o).2).1.length = _
    rw [srN_len r, dnN_len]
theorem sortN_len (xs : List UInt8) (o : Option (List Rn)) : (sortN xs o).1.length = xs.length := srN_len _ _ _ _
end Go.Proofs.Ytpbplcbdejoolaa
