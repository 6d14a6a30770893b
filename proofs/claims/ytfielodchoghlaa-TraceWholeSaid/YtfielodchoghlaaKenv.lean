/- Lists of any kind as things of a law's world. No program in sight. -/
import Derived.Test.YtfielodchoghlaaLst
namespace Go.Proofs.Ytfielodchoghlaa
open Go.RowKit
set_option maxRecDepth 100000
set_option linter.unusedVariables false
theorem Knd.New.lit {α : Type} (K : Knd α) (l : List α) (w : World) (hl : l.length ≤ 1000) : K.New l w (.returned (.slice (some ⟨w.heap.size, 0, none⟩) l.length l.length)) (w.alloc (.cells (K.fl l).toArray K.e)) := by
  refine ⟨_, rfl, ?_, (Below.refl _ _).alloc (Nat.le_refl _) _, fun x hx => ?_⟩
  · have := World.ownsRow_lit (base := 0) (e := K.e) (size := K.sz) w (K.fl l).toArray l.length (Nat.zero_le _) (by unfold maxLen; omega) (by rw [List.size_toArray, K.fl_len])
    simpa [Knd.O] using this
  · have e : w.heap.size = x := by simpa [fpv, Value.ownBlock] using hx
    omega
section
variable {α : Type} {K : Knd α} {w0 w w' : World} {obs : List Ob}
theorem Knd.New.env {l : List α} {e : Ending} (h : Env w0 w obs) (hn : K.New l w e w') : ∃ v, e = .returned v ∧ Env w0 w' (obs ++ [K.ob v l]) := by
  obtain ⟨v, he, h1, h2, h3⟩ := hn
  exact ⟨v, he, h.pushE h1 h2 h3⟩
theorem Env.kO (h : Env w0 w obs) (i : Nat) {v : Value} {l : List α} (hi : obs[i]? = some (K.ob v l)) : K.O w v l := Env.row h i hi
theorem Env.kR (h : Env w0 w obs) (i : Nat) {v : Value} {l : List α} (hi : obs[i]? = some (K.ob v l)) : K.R w v l := (Env.kO h i hi).rd
theorem Env.turnK (h : Env w0 w obs) (i : Nat) {v : Value} {l l' : List α} (hi : obs[i]? = some (K.ob v l)) (hb : K.O w' v l') (ho : Only (fpv v) w w') : Env w0 w' (obs.set i (K.ob v l')) := Env.turnE h i hi hb ho
theorem Env.oldK (h : Env w0 w obs) {v : Value} {l : List α} (hv : K.R w0 v l) : K.R w v l := hv.grow h.base
theorem Env.pushNil (h : Env w0 w obs) (K : Knd α) : Env w0 w (obs ++ [K.ob (.slice none 0 0) []]) := h.pushE (Knd.O.nil w) (Below.refl _ _) (fun x hx => by simp [fpv, Value.ownBlock] at hx)
/-- a beginning of a list -/
theorem Knd.R.begin {l r : List α} {ao : Option Addr} {n cap : Nat} (h : K.R w (.slice ao n cap) (l ++ r)) : K.R w (.slice ao l.length cap) l := by
  obtain ⟨ao', cap', hv, h1, h2, h3, h4⟩ := h.form
  injection hv with e1 e2 e3
  subst e1; subst e3
  refine ⟨K.fl_len l, K.fl_cells l, ao, cap, rfl, by rw [List.length_append] at h1; omega, h2, h3, fun j u hj => ?_⟩
  exact h4 j u (by rw [K.fl_app, List.getElem?_append_left (List.getElem?_eq_some_iff.1 hj).1]; exact hj)
theorem Knd.R.lent {mk : Int → Int → α} {l : List α} {ao : Option Addr} {n cap : Nat} (h : K.R w (.slice ao n cap) (lentM mk l)) : K.R w (.slice ao l.length cap) l := Knd.R.begin h
theorem Env.any (h : Env w0 w obs) (i : Nat) {v : Value} {l : List α} (hi : obs[i]? = some (K.ob v l)) : ∃ ao cap, v = .slice ao l.length cap := (Env.kO h i hi).any
theorem Env.lentF (h : Env w0 w obs) (i : Nat) {mk : Int → Int → α} {v : Value} {l : List α} (hi : obs[i]? = some (K.ob v (lentM mk l))) : ∃ g cap, v = .slice (some ⟨g, 0, none⟩) (lentM mk l).length cap ∧ l.length + 6 ≤ cap ∧ cap ≤ 9223372036854775807 := by
  have h1 := Env.kO h i hi
  obtain ⟨g, cap, rfl⟩ := h1.form (by rw [lentM_len]; omega)
  obtain ⟨ao, cap', hv, h2, h3, _⟩ := h1.rd.any
  injection hv with _ _ e3
  subst e3
  rw [lentM_len] at h2
  exact ⟨g, cap, rfl, h2, h3⟩
end
end Go.Proofs.Ytfielodchoghlaa
