/- The contracts again, over a law's world as a list of things. -/
import Derived.Test.YtaphjdfpffhpfaaRows
import Derived.Test.YtaphjdfpffhpfaaEnv
import Derived.Test.YtaphjdfpffhpfaaCtMem
namespace Go.Proofs.Ytaphjdfpffhpfaa
open Go.RowKit
set_option maxRecDepth 100000
set_option linter.unusedVariables false

/-- bytes that are read while thing i may turn: they were there when the law began, or are a part of another thing -/
def Src (w0 w : World) (obs : List Ob) (i : Nat) (u : Value) (xs : List UInt8) : Prop :=
  Bs w u xs ∧ (xs ≠ [] → ∀ x, u.ownBlock = some x → x < w0.heap.size ∨ ∃ j v l, j ≠ i ∧ obs[j]? = some (obB v l) ∧ v.ownBlock = some x)
theorem Src.old {w0 w : World} {obs : List Ob} (h : Env w0 w obs) (i : Nat) {u : Value} {xs : List UInt8} (hu : Bs w0 u xs) : Src w0 w obs i u xs :=
  ⟨h.old hu, fun h0 x hx => .inl (hu.inside h0 x hx)⟩
/-- what Src needs of its blocks -/
theorem Src.apart {w0 w : World} {obs : List Ob} {i : Nat} {u : Value} {xs : List UInt8} (h : Src w0 w obs i u xs) {F : Nat → Prop} (h2 : ∀ x, x < w0.heap.size → ¬ F x)
    (h3 : ∀ (j : Nat) (v : Value) (l : List UInt8), j ≠ i → obs[j]? = some (obB v l) → ∀ x, v.ownBlock = some x → ¬ F x) : xs ≠ [] → ∀ x, u.ownBlock = some x → ¬ F x := by
  intro h0 x hx
  rcases h.2 h0 x hx with hh | ⟨j, v, l, hj, hv, hvx⟩
  · exact h2 x hh
  · exact h3 j v l hj hv x hvx
/-- a part of a thing -/
theorem OB.part {w : World} {g cap : Nat} {l : List UInt8} (h : OB w (.slice (some ⟨g, 0, none⟩) l.length cap) l) (at' n : Nat) (hn : at' + n ≤ l.length) : Bs w (.slice (some ⟨g, at', none⟩) n (cap - at')) ((l.drop at').take n) := by
  obtain ⟨ao, cap', hv, h1, h2, _, h4⟩ := h.rd.form
  injection hv with e1 e2 e3
  subst e3
  have hlen : ((l.drop at').take n).length = n := by simp; omega
  refine ⟨some ⟨g, at', none⟩, cap - at', by rw [hlen], by omega, by omega, (fun h => by cases h), fun j hj => ?_⟩
  rw [hlen] at hj
  obtain ⟨b, off, hb, hc⟩ := h4 (at' + j) (by omega)
  rw [← e1] at hb
  injection hb with hb
  injection hb with e4 e5
  subst e4; subst e5
  refine ⟨g, at', rfl, ?_⟩
  rw [Nat.zero_add] at hc
  rw [hc]
  congr 4
  rw [List.getD_eq_getElem?_getD, List.getD_eq_getElem?_getD, List.getElem?_take, if_pos hj, List.getElem?_drop]
theorem Src.part {w0 w : World} {obs : List Ob} (h : Env w0 w obs) (i j : Nat) (hj : j ≠ i) {g cap : Nat} {l : List UInt8} (hl : obs[j]? = some (obB (.slice (some ⟨g, 0, none⟩) l.length cap) l)) (at' n : Nat) (hn : at' + n ≤ l.length) :
    Src w0 w obs i (.slice (some ⟨g, at', none⟩) n (cap - at')) ((l.drop at').take n) :=
  ⟨(h.bytes j hl).part at' n hn, fun _ x hx => .inr ⟨j, _, l, hj, hl, hx⟩⟩
theorem Src.whole {w0 w : World} {obs : List Ob} (h : Env w0 w obs) (i j : Nat) (hj : j ≠ i) {v : Value} {l : List UInt8} (hl : obs[j]? = some (obB v l)) : Src w0 w obs i v l :=
  ⟨(h.bytes j hl).rd, fun _ x hx => .inr ⟨j, v, l, hj, hl, hx⟩⟩
theorem lent_ne (l : List UInt8) : 0 < (lent l).length := by simp [lent, marks7]
theorem lent_length (l : List UInt8) : (lent l).length = l.length + 6 := by simp [lent, marks7]
theorem lent_take (l : List UInt8) : ((lent l).drop 0).take l.length = l := by simp [lent]
theorem OB.caps {w : World} {g n cap : Nat} {l : List UInt8} (h : OB w (.slice (some ⟨g, 0, none⟩) n cap) l) : l.length ≤ cap ∧ cap ≤ 9223372036854775807 := by
  obtain ⟨_, _, hv, x1, x2, _, _⟩ := h.rd.form
  injection hv with _ _ e3
  subst e3
  exact ⟨x1, x2⟩
theorem Src.lent {w0 w : World} {obs : List Ob} (h : Env w0 w obs) (i j : Nat) (hj : j ≠ i) {g cap : Nat} {l : List UInt8} (hl : obs[j]? = some (obB (.slice (some ⟨g, 0, none⟩) (lent l).length cap) (lent l))) :
    Src w0 w obs i (.slice (some ⟨g, 0, none⟩) l.length cap) l := by
  have := Src.part h i j hj hl 0 l.length (by rw [lent_length]; omega)
  rw [lent_take] at this
  exact this

section
variable {w0 w : World} {obs : List Ob}
theorem newP_env (h : Env w0 w obs) : Calls Try.prog 7 #[] w fun e w' => ∃ p, e = .returned p ∧ Env w0 w' (obs ++ [obP p (some [])]) :=
  (newP_any w).mono fun e w' ⟨he, h1, h2⟩ => ⟨_, he, h.pushP h1 h2⟩
theorem newR_env (h : Env w0 w obs) : Calls Try.prog 8 #[] w fun e w' => ∃ p, e = .returned p ∧ Env w0 w' (obs ++ [obR p (some [])]) :=
  (newR_any w).mono fun e w' ⟨he, h1, h2⟩ => ⟨_, he, h.pushR h1 h2⟩
theorem lent_env (h : Env w0 w obs) {u : Value} {l : List UInt8} (hu : Bs w u l) (hl : l.length + 6 ≤ 140737488355328) :
    Calls Try.prog 11 #[u] w fun e w' => ∃ g cap, e = .returned (.slice (some ⟨g, 0, none⟩) (lent l).length cap) ∧ Env w0 w' (obs ++ [obB (.slice (some ⟨g, 0, none⟩) (lent l).length cap) (lent l)]) :=
  (lentBytes_any u l w hu hl).mono fun e w' ⟨v, he, h1, h2, h3⟩ => by
    obtain ⟨g, cap, rfl⟩ := h1.form (lent_ne l)
    exact ⟨g, cap, he, h.pushB h1 h2 h3⟩
theorem copy_env (h : Env w0 w obs) {u : Value} {l : List UInt8} (hu : Bs w u l) (hl : l.length ≤ 140737488355328) :
    Calls Try.prog 33 #[u] w fun e w' => ∃ v, e = .returned v ∧ Env w0 w' (obs ++ [obB v l]) :=
  (copyBytes_any u l w hu hl).mono fun e w' ⟨v, he, h1, h2, h3⟩ => ⟨v, he, h.pushB h1 h2 h3⟩
theorem equal_env (h : Env w0 w obs) (i : Nat) {p : Value} {o : Option (List Rn)} (hi : obs[i]? = some (obP p o)) (hb : Room o 1) {u v : Value} {xs ys : List UInt8} (hu : Src w0 w obs i u xs) (hv : Src w0 w obs i v ys) :
    Calls Try.prog 38 #[p, u, v] w fun e w' => e = .returned (.bool (decide (xs = ys))) ∧ Env w0 w' (obs.set i (obP p (if xs.length = ys.length then noteO o 6 xs.length 1 else o))) := by
  obtain ⟨F, f1, f2, f3, f4⟩ := h.ledP i hi
  exact (equal_any p F o u v xs ys w f1 hb hu.1 hv.1 (hu.apart f2 f3) (hv.apart f2 f3)).mono fun e w' ⟨he, h1⟩ => ⟨he, f4 w' _ h1⟩
/-! without a ledger -/
theorem LaidP.nothing {w' : World} {p : Value} {o : Option (List Rn)} (h : LaidP p (fun _ => False) o w w') : Below w.heap.size w w' := by
  obtain ⟨_, _, h1, _⟩ := h
  exact h1.below0 (fun _ _ h => h) (Nat.le_refl _)
theorem equal_nil (h : Env w0 w obs) {u v : Value} {xs ys : List UInt8} (hu : Bs w u xs) (hv : Bs w v ys) :
    Calls Try.prog 38 #[.pointer none, u, v] w fun e w' => e = .returned (.bool (decide (xs = ys))) ∧ Env w0 w' obs :=
  (equal_any _ _ none u v xs ys w (LgP.nil w) (Room.none 1) hu hv (fun _ _ _ h => h) (fun _ _ _ h => h)).mono fun e w' ⟨he, h1⟩ => ⟨he, h.below h1.nothing⟩
theorem runsP_env (h : Env w0 w obs) (i : Nat) {p : Value} {rs : List Rn} (hi : obs[i]? = some (obP p (some rs))) (hl : rs.length ≤ 5497558138880) :
    Calls Try.prog 28 #[p] w fun e w' => ∃ v, e = .returned v ∧ Env w0 w' (obs ++ [obRuns v rs]) := by
  obtain ⟨F, f1, _⟩ := h.ledP i hi
  obtain ⟨b, v, rfl, rfl, f2⟩ := f1
  exact (runsP_any b v rs w f2 hl).mono fun e w' ⟨v, he, h1, h2, h3⟩ => ⟨v, he, h.pushRuns h1 h2 h3⟩
theorem runsR_env (h : Env w0 w obs) (i : Nat) {p : Value} {rs : List Rn} (hi : obs[i]? = some (obR p (some rs))) (hl : rs.length ≤ 5497558138880) :
    Calls Try.prog 29 #[p] w fun e w' => ∃ v, e = .returned v ∧ Env w0 w' (obs ++ [obRuns v rs]) := by
  obtain ⟨F, f1, _⟩ := h.ledR i hi
  obtain ⟨b, v, rfl, rfl, f2⟩ := f1
  exact (runsR_any b v rs w f2 hl).mono fun e w' ⟨v, he, h1, h2, h3⟩ => ⟨v, he, h.pushRuns h1 h2 h3⟩
theorem sameRuns_env (h : Env w0 w obs) {u v : Value} {xs ys : List Rn} (hu : RunsRd w u xs) (hv : RunsRd w v ys) :
    Calls Try.prog 27 #[u, v] w fun e w' => e = .returned (.bool (decide (xs = ys))) ∧ Env w0 w' obs :=
  (sameRuns_any u v xs ys w hu hv).mono fun e w' ⟨he, m, hm⟩ => ⟨he, by rw [hm]; exact h.draw m⟩
theorem sameBytes_env (h : Env w0 w obs) {u v : Value} {xs ys : List UInt8} (hu : Bs w u xs) (hv : Bs w v ys) :
    Calls Try.prog 18 #[u, v] w fun e w' => e = .returned (.bool (decide (xs = ys))) ∧ Env w0 w' obs :=
  (sameBytes_any u v xs ys w hu hv).mono fun e w' ⟨he, m, hm⟩ => ⟨he, by rw [hm]; exact h.draw m⟩
theorem kept_env (h : Env w0 w obs) {u v : Value} {xs l : List UInt8} (hu : Bs w u xs) (hv : Bs w v l) (hl : l.length + 6 ≤ 140737488355328) :
    Calls Try.prog 13 #[u, v] w fun e w' => e = .returned (.bool (decide (xs = lent l))) ∧ Env w0 w' obs :=
  (keptBytes_any u v xs l w hu hv hl).mono fun e w' ⟨he, hb⟩ => ⟨he, h.below hb⟩
theorem over_env (h : Env w0 w obs) (i : Nat) {v : Value} {l : List UInt8} (hi : obs[i]? = some (obB v l)) (hl : l.length ≤ 140737488355328) :
    Calls Try.prog 15 #[v] w fun e w' => e = .returned (.tuple #[]) ∧ Env w0 w' (obs.set i (obB v (over l.length))) :=
  (overBytes_any v l w (h.bytes i hi) hl).mono fun e w' ⟨he, h1, h2⟩ => ⟨he, h.turnB i hi h1 h2⟩
end
end Go.Proofs.Ytaphjdfpffhpfaa
