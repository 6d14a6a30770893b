/- Hashes that work block by block, HMAC over them, as plain lists. No program in sight. -/
import GoSem.ClaimData
namespace Go.Proofs.Ytideobdggdmeiaa
set_option linter.unusedVariables false
set_option linter.unusedSimpArgs false
/-- a hash: its block's bytes, its first words, the work on a block, the words as bytes, what ends a message of n bytes -/
structure HashF where
  B : Nat
  h0 : List Int
  C : List Int → List UInt8 → List Int
  L : List Int → List UInt8
  pad : Nat → List UInt8
  pos : 0 < B
/-- a state: the words, how many bytes there were, what waits -/
structure HSt where
  h : List Int
  n : Nat
  wt : List UInt8
namespace HashF
variable (A : HashF)
def zeros : List UInt8 := List.replicate A.B 0
def init : HSt := ⟨A.h0, 0, A.zeros⟩
def feed1 (s : HSt) (b : UInt8) : HSt :=
  if (s.n + 1) % A.B = 0 then ⟨A.C s.h (s.wt.set (s.n % A.B) b), s.n + 1, A.zeros⟩ else ⟨s.h, s.n + 1, s.wt.set (s.n % A.B) b⟩
def feed (s : HSt) (l : List UInt8) : HSt := l.foldl A.feed1 s
theorem feed_nil (s : HSt) : A.feed s [] = s := rfl
theorem feed_cons (s : HSt) (b : UInt8) (l : List UInt8) : A.feed s (b :: l) = A.feed (A.feed1 s b) l := rfl
theorem feed_app (s : HSt) (a b : List UInt8) : A.feed s (a ++ b) = A.feed (A.feed s a) b := by unfold feed; rw [List.foldl_append]
theorem feed1_n (s : HSt) (b : UInt8) : (A.feed1 s b).n = s.n + 1 := by unfold feed1; split <;> rfl
theorem feed_n (s : HSt) (l : List UInt8) : (A.feed s l).n = s.n + l.length := by
  induction l generalizing s with
  | nil => rfl
  | cons b l ih => rw [feed_cons, ih, feed1_n, List.length_cons]; omega
/-- what waits has the block's length -/
def Ok (s : HSt) : Prop := s.wt.length = A.B
theorem init_ok : A.Ok A.init := by simp [Ok, init, zeros]
theorem feed1_ok {s : HSt} (h : A.Ok s) (b : UInt8) : A.Ok (A.feed1 s b) := by
  unfold feed1 Ok at *
  split
  · simp [zeros]
  · simpa using h
theorem feed_ok {s : HSt} (h : A.Ok s) (l : List UInt8) : A.Ok (A.feed s l) := by
  induction l generalizing s with
  | nil => exact h
  | cons b l ih => exact ih (A.feed1_ok h b)
/-- bytes laid over a list from a place on -/
def over (l : List UInt8) (at' : Nat) (p : List UInt8) : List UInt8 := l.take at' ++ p ++ l.drop (at' + p.length)
theorem over_nil (l : List UInt8) (k : Nat) : over l k [] = l := by simp [over]
theorem over_cons (l : List UInt8) (k : Nat) (b : UInt8) (p : List UInt8) (h : k < l.length) : over l k (b :: p) = over (l.set k b) (k + 1) p := by
  unfold over
  have e1 : (l.set k b).take (k + 1) = l.take k ++ [b] := by
    rw [List.take_add_one, List.getElem?_set_self h, List.take_set_of_le (Nat.le_refl _)]
    rfl
  have e2 : (l.set k b).drop (k + 1 + p.length) = l.drop (k + 1 + p.length) := by
    rw [List.drop_set_of_lt (by omega)]
  rw [e1, e2, List.length_cons, show k + (p.length + 1) = k + 1 + p.length by omega]
  simp
/-- a piece that stays within the block -/
theorem feed_part {s : HSt} (hs : A.Ok s) (p : List UInt8) (h : s.n % A.B + p.length < A.B) : A.feed s p = ⟨s.h, s.n + p.length, over s.wt (s.n % A.B) p⟩ := by
  induction p generalizing s with
  | nil => rw [over_nil]; rfl
  | cons b p ih =>
    rw [List.length_cons] at h
    have hp := A.pos
    have hm : (s.n + 1) % A.B = s.n % A.B + 1 := by
      rw [Nat.add_mod, Nat.mod_eq_of_lt (show 1 < A.B by omega), Nat.mod_eq_of_lt (by omega)]
    have e : A.feed1 s b = ⟨s.h, s.n + 1, s.wt.set (s.n % A.B) b⟩ := by unfold feed1; rw [if_neg (by omega)]
    rw [feed_cons, ih (A.feed1_ok hs b) (by rw [e]; dsimp only; omega), e, over_cons _ _ _ _ (by unfold Ok at hs; omega)]
    dsimp only
    rw [hm, List.length_cons]
    congr 1
    omega
/-- a piece that fills the block -/
theorem feed_full {s : HSt} (hs : A.Ok s) (p : List UInt8) (h : s.n % A.B + p.length = A.B) : A.feed s p = ⟨A.C s.h (over s.wt (s.n % A.B) p), s.n + p.length, A.zeros⟩ := by
  have hp := A.pos
  have hlt := Nat.mod_lt s.n hp
  rcases List.eq_nil_or_concat p with rfl | ⟨q, b, rfl⟩
  · simp at h; omega
  · rw [List.concat_eq_append] at *
    rw [List.length_append, List.length_singleton] at h ⊢
    rw [feed_app, A.feed_part hs q (by omega), feed_cons, feed_nil]
    unfold feed1
    dsimp only
    have hm : (s.n + q.length + 1) % A.B = 0 := by
      have e : s.n + q.length + 1 = s.n / A.B * A.B + A.B := by
        have := Nat.div_add_mod s.n A.B
        rw [Nat.mul_comm] at this
        omega
      rw [e, Nat.add_mod_right, Nat.mul_mod_left]
    have hm2 : (s.n + q.length) % A.B = s.n % A.B + q.length := by
      rw [Nat.add_mod, Nat.mod_eq_of_lt (show q.length < A.B by omega), Nat.mod_eq_of_lt (by omega)]
    rw [if_pos hm, hm2]
    have e2 : (over s.wt (s.n % A.B) q).set (s.n % A.B + q.length) b = over s.wt (s.n % A.B) (q ++ [b]) := by
      unfold Ok at hs
      unfold over
      have l1 : (s.wt.take (s.n % A.B) ++ q).length = s.n % A.B + q.length := by simp; omega
      rw [List.set_append_right _ _ (by rw [l1]; omega), l1, Nat.sub_self]
      have hd : s.wt.drop (s.n % A.B + q.length) = s.wt[s.n % A.B + q.length]'(by omega) :: s.wt.drop (s.n % A.B + q.length + 1) := List.drop_eq_getElem_cons (by omega)
      rw [hd, List.set_cons_zero, List.length_append, List.length_singleton]
      simp [Nat.add_assoc]
    rw [e2]
    congr 1
/-! ### digests, HMAC -/
def sumOf (s : HSt) : List UInt8 := A.L (A.feed s (A.pad s.n)).h
def hash (l : List UInt8) : List UInt8 := A.sumOf (A.feed A.init l)
def keyB (k : List UInt8) : List UInt8 := if A.B < k.length then A.hash k else k
def padK (k : List UInt8) (x : UInt8) : List UInt8 := (List.range A.B).map fun i => k.getD i 0 ^^^ x
def inner (k : List UInt8) : HSt := A.feed A.init (A.padK (A.keyB k) 54)
def outer (k : List UInt8) : HSt := A.feed A.init (A.padK (A.keyB k) 92)
def macSum (k : List UInt8) (s : HSt) : List UInt8 := A.sumOf (A.feed (A.outer k) (A.sumOf s))
def tag (k m : List UInt8) : List UInt8 := A.macSum k (A.feed (A.inner k) m)
end HashF
end Go.Proofs.Ytideobdggdmeiaa
