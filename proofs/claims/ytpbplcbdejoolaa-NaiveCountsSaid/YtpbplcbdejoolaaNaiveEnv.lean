/- naive's contracts over a law's things. -/
import Derived.Test.YtpbplcbdejoolaaRows
import Derived.Test.YtpbplcbdejoolaaNaiveLives
import Derived.Test.YtpbplcbdejoolaaNaivePowers
import Derived.Test.YtpbplcbdejoolaaSort
namespace Go.Proofs.Ytpbplcbdejoolaa
open Go.RowKit
set_option maxRecDepth 100000
set_option linter.unusedVariables false
set_option linter.unusedSimpArgs false
section
variable {w0 w : World} {obs : List Ob}
theorem box_env (h : Env w0 w obs) (i : Nat) {p : Value} {o : Option (List Rn)} (hi : obs[i]? = some (obP p o)) (hb : Room o 1) (a : Int) (ha : 0 ≤ a) (ha' : a < 256) :
    Calls Try.prog 9 #[p, .int .u8 a] w fun e w' => e = .returned (.int .u8 (gboxI a)) ∧ Env w0 w' (obs.set i (obP p (noteO o 10 a 1))) := by
  obtain ⟨F, f1, f2, f3, f4⟩ := h.ledP i hi
  exact (nBox_any p F o a w f1 hb ha ha').mono fun e w' ⟨he, hl⟩ => ⟨he, f4 w' _ hl⟩
theorem box_off (h : Env w0 w obs) (a : Int) (ha : 0 ≤ a) (ha' : a < 256) :
    Calls Try.prog 9 #[.pointer none, .int .u8 a] w fun e w' => e = .returned (.int .u8 (gboxI a)) ∧ Env w0 w' obs :=
  (nBox_any _ _ none a w (LgP.nil w) (Room.none 1) ha ha').mono fun e w' ⟨he, hl⟩ => ⟨he, h.below hl.nothing⟩
theorem nEqual_env (h : Env w0 w obs) (i : Nat) {p : Value} {o : Option (List Rn)} (hi : obs[i]? = some (obP p o)) {N : Nat} (hf : FewO o N) {u v : Value} {xs ys : List UInt8} (hN : N + xs.length ≤ 1000000) (hu : Src w0 w obs i u xs) (hv : Src w0 w obs i v ys) :
    Calls Try.prog 16 #[p, u, v] w fun e w' => e = .returned (.bool (nEq xs ys o).1) ∧ Env w0 w' (obs.set i (obP p (nEq xs ys o).2)) := by
  obtain ⟨F, f1, f2, f3, f4⟩ := h.ledP i hi
  exact (nEqual_any p F o u v xs ys N w f1 hf hN hu.1 hv.1 (hu.apart f2 f3) (hv.apart f2 f3)).mono fun e w' ⟨he, hl⟩ => ⟨he, f4 w' _ hl⟩
theorem eqN_none : ∀ xs ys : List UInt8, (eqN xs ys none).2 = none
  | [], _ => rfl
  | _ :: _, [] => rfl
  | a :: l, b :: m => by
    unfold eqN
    by_cases h : a = b
    · rw [if_pos h]; exact eqN_none l m
    · rw [if_neg h]; rfl
theorem nEq_none (xs ys : List UInt8) : (nEq xs ys none).2 = none := by
  unfold nEq
  by_cases h : xs.length = ys.length
  · rw [if_pos h]; exact eqN_none xs ys
  · rw [if_neg h]
theorem nEqual_off (h : Env w0 w obs) {u v : Value} {xs ys : List UInt8} (hN : xs.length ≤ 1000000) (hu : Bs w u xs) (hv : Bs w v ys) :
    Calls Try.prog 16 #[.pointer none, u, v] w fun e w' => e = .returned (.bool (nEq xs ys none).1) ∧ Env w0 w' obs :=
  (nEqual_any _ _ none u v xs ys 0 w (LgP.nil w) (fun _ h => by cases h) (by omega) hu hv (fun _ _ _ h => h) (fun _ _ _ h => h)).mono fun e w' ⟨he, hl⟩ => ⟨he, by
    rw [nEq_none] at hl
    exact h.below hl.nothing⟩
theorem nFind_env (h : Env w0 w obs) (i : Nat) {p : Value} {o : Option (List Rn)} (hi : obs[i]? = some (obP p o)) {N : Nat} (hf : FewO o N) {u : Value} {xs : List UInt8} (c : UInt8) (hN : N + xs.length ≤ 1000000) (hu : Src w0 w obs i u xs) :
    Calls Try.prog 19 #[p, u, .int .u8 (c.toNat : Int)] w fun e w' => e = .returned (.int .i64 (fdN c xs 0 o).1) ∧ Env w0 w' (obs.set i (obP p (fdN c xs 0 o).2)) := by
  obtain ⟨F, f1, f2, f3, f4⟩ := h.ledP i hi
  exact (nFind_any p F o u xs c N w f1 hf hN hu.1 (hu.apart f2 f3)).mono fun e w' ⟨he, hl⟩ => ⟨he, f4 w' _ hl⟩
theorem fdN_none (c : UInt8) : ∀ (xs : List UInt8) (i : Nat), (fdN c xs i none).2 = none
  | [], _ => rfl
  | a :: l, i => by
    unfold fdN
    by_cases h : a = c
    · rw [if_pos h]; rfl
    · rw [if_neg h]; exact fdN_none c l (i + 1)
theorem nFind_off (h : Env w0 w obs) {u : Value} {xs : List UInt8} (c : UInt8) (hN : xs.length ≤ 1000000) (hu : Bs w u xs) :
    Calls Try.prog 19 #[.pointer none, u, .int .u8 (c.toNat : Int)] w fun e w' => e = .returned (.int .i64 (fdN c xs 0 none).1) ∧ Env w0 w' obs :=
  (nFind_any _ _ none u xs c 0 w (LgP.nil w) (fun _ h => by cases h) (by omega) hu (fun _ _ _ h => h)).mono fun e w' ⟨he, hl⟩ => ⟨he, by
    rw [fdN_none] at hl
    exact h.below hl.nothing⟩
/-- of bytes that are in fresh memory -/
theorem nFind_fresh {w1 w2 : World} (h : Env w0 w1 obs) (i : Nat) {l : Value} {o : Option (List Rn)} (hi : obs[i]? = some (obP l o)) (hb : Below w1.heap.size w1 w2) {u : Value} {xs : List UInt8} (c : UInt8) (hu : Bs w2 u xs)
    (du : ∀ b, u.ownBlock = some b → w1.heap.size ≤ b) (N : Nat) (hF : FewO o N) (hN : N + xs.length ≤ 1000000) :
    Calls Try.prog 19 #[l, u, .int .u8 (c.toNat : Int)] w2 fun e w' => e = .returned (.int .i64 (fdN c xs 0 o).1) ∧ Env w0 w' (obs.set i (obP l (fdN c xs 0 o).2)) := by
  obtain ⟨F, f1, f2, f4⟩ := h.lgP i hi
  refine (nFind_any l F o u xs c N w2 (f1.keep (Only.nothing hb) (fun _ _ h => h)) hF hN hu (fun _ b hb2 hh => ?_)).mono fun e w' ⟨he, hl⟩ => ⟨he, f4 w' _ (LaidP.pre hb hl)⟩
  have := f1.lt b hh
  have := du b hb2
  omega
/-- Power of any modulus -/
def pwN (base ex m : Nat) : Value := if m = 0 then .tuple #[.int .u64 0, .int .i64 2] else .tuple #[.int .u64 ((base ^ ex % m : Nat) : Int), .int .i64 0]
theorem power_env (h : Env w0 w obs) (i : Nat) {p : Value} {o : Option (List Rn)} (hi : obs[i]? = some (obP p o)) {N : Nat} (hf : FewO o N) (hN : N + 64 ≤ 1000000) (base ex m : Nat) (hb : base < 18446744073709551616) (he : ex < 18446744073709551616) (hm : m < 18446744073709551616) :
    Calls Try.prog 14 #[p, .int .u64 (base : Int), .int .u64 (ex : Int), .int .u64 (m : Int)] w fun e w' => e = .returned (pwN base ex m) ∧ Env w0 w' (obs.set i (obP p (if m = 0 then o else powO ex 64 o))) := by
  obtain ⟨F, f1, f2, f3, f4⟩ := h.ledP i hi
  unfold pwN
  by_cases h0 : m = 0
  · subst h0
    rw [if_pos rfl, if_pos rfl]
    exact (power_zero p F o base ex w f1).mono fun e w' ⟨he, hw⟩ => ⟨he, by rw [hw, set_same obs i _ hi]; exact h⟩
  · rw [if_neg h0, if_neg h0]
    exact (power_any p F o base ex m N w f1 hf hN hb he hm (by omega)).mono fun e w' ⟨he, hl⟩ => ⟨he, f4 w' _ hl⟩
theorem power_off (h : Env w0 w obs) (base ex m : Nat) (hb : base < 18446744073709551616) (he : ex < 18446744073709551616) (hm : m < 18446744073709551616) :
    Calls Try.prog 14 #[.pointer none, .int .u64 (base : Int), .int .u64 (ex : Int), .int .u64 (m : Int)] w fun e w' => e = .returned (pwN base ex m) ∧ Env w0 w' obs := by
  unfold pwN
  by_cases h0 : m = 0
  · subst h0
    rw [if_pos rfl]
    exact (power_zero _ _ none base ex w (LgP.nil w)).mono fun e w' ⟨he, hw⟩ => ⟨he, by rw [hw]; exact h⟩
  · rw [if_neg h0]
    exact (power_nil base ex m w w hb he hm (by omega) (Below.refl _ _)).mono fun e w' ⟨he, hb⟩ => ⟨he, h.below hb⟩
theorem srt_none : ∀ (n i : Nat) (zs : List UInt8), (srN n i zs none).2 = none := by
  have hd : ∀ (k : Nat) (zs : List UInt8), (dnN k zs none).2 = none := by
    intro k
    induction k with
    | zero => intro zs; rfl
    | succ k ih =>
      intro zs
      unfold dnN
      by_cases h : zs.getD (k + 1) 0 < zs.getD k 0
      · rw [if_pos h]; exact ih _
      · rw [if_neg h]; rfl
  intro n
  induction n with
  | zero => intro i zs; rfl
  | succ n ih =>
    intro i zs
    show (srN n (i + 1) (dnN i zs none).1 (dnN i zs none).2).2 = none
    rw [hd]
    exact ih _ _
theorem sort_off (h : Env w0 w obs) {u : Value} {xs : List UInt8} (hu : Bs w u xs) (hx : xs.length ≤ 200) :
    Calls Try.prog 21 #[.pointer none, u] w fun e w' => ∃ v, e = .returned v ∧ Env w0 w' (obs ++ [obB v (sortN xs none).1]) := by
  have h0 : Env w0 w ([obP (.pointer none) none] ++ obs) := by
    have h1 := h.push (F' := fun _ => False) (obP (.pointer none) none) (LgP.nil w) (Below.refl _ _) (fun _ hx => hx.elim)
    refine h1.pick (fun j => if j = 0 then obs.length else j - 1) (fun i j hi hj hh => ?_) (fun j ob hj => ?_)
    · simp at hi hj hh
      split at hh <;> split at hh <;> omega
    · rcases j with _ | j
      · simp at hj ⊢
        exact hj
      · simp at hj
        have : j < obs.length := by
          rcases Nat.lt_or_ge j obs.length with h | h
          · exact h
          · rw [List.getElem?_eq_none h] at hj; cases hj
        show (obs ++ [obP (.pointer none) none])[j]? = some ob
        rw [List.getElem?_append_left this]
        exact hj
  refine (sort_env h0 0 rfl (N := 0) (fun _ h => by cases h) hu hx (by omega)).mono fun e w' ⟨v, he, hh⟩ => ⟨v, he, ?_⟩
  have hh2 : Env w0 w' ([obP (.pointer none) (sortN xs none).2] ++ (obs ++ [obB v (sortN xs none).1])) := hh
  exact hh2.pick (fun j => j + 1) (fun i j _ _ hh => by omega) (fun j ob hj => hj)
end
end Go.Proofs.Ytpbplcbdejoolaa
