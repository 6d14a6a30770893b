/- A law's world as a list of things, each with its own blocks: what a call does to one leaves the others. -/
import Derived.Test.YtideobdggdmeiaaRows
import Derived.Test.YtideobdggdmeiaaLenv
import Derived.Test.YtideobdggdmeiaaBytes
namespace Go.Proofs.Ytideobdggdmeiaa
open Go.RowKit
set_option maxRecDepth 100000

def obB (v : Value) (l : List UInt8) : Ob := ⟨fun w F => OB w v l ∧ F = fpv v, fun h ho hd => ⟨h.1.keep ho (by rw [← h.2]; exact hd), h.2⟩, fun h => by rw [h.2]; exact h.1.lt⟩
/-! ### what is needed of one thing -/
theorem Env.ledP {w0 w : World} {obs : List Ob} (h : Env w0 w obs) (i : Nat) {p : Value} {o : Option (List Rn)} (hi : obs[i]? = some (obP p o)) :
    ∃ F, LgP w p F o ∧ (∀ x, x < w0.heap.size → ¬ F x) ∧ (∀ (j : Nat) (v : Value) (l : List UInt8), j ≠ i → obs[j]? = some (obB v l) → ∀ x, v.ownBlock = some x → ¬ F x) ∧ ∀ w' o', LaidP p F o' w w' → Env w0 w' (obs.set i (obP p o')) := by
  obtain ⟨F, h1, h2, h3, h4⟩ := h.get i hi
  refine ⟨F, h1, h2, fun j v l hj hj2 x hx => ?_, fun w' o' hl => ?_⟩
  · obtain ⟨F2, h5, h6⟩ := h3 j _ hj hj2
    exact h6 x (by rw [h5.2]; exact hx)
  · obtain ⟨F', g1, g2, g3⟩ := hl
    exact h4 w' F' (obP p o') g1 g2 g3
theorem Env.bytes {w0 w : World} {obs : List Ob} (h : Env w0 w obs) (i : Nat) {v : Value} {l : List UInt8} (hi : obs[i]? = some (obB v l)) : OB w v l := by
  obtain ⟨F, h1, _⟩ := h.get i hi
  exact h1.1
/-- bytes turn -/
theorem Env.turnB {w0 w w' : World} {obs : List Ob} (h : Env w0 w obs) (i : Nat) {v : Value} {l l' : List UInt8} (hi : obs[i]? = some (obB v l)) (hb : OB w' v l') (ho : Only (fpv v) w w') : Env w0 w' (obs.set i (obB v l')) := by
  obtain ⟨F, h1, _, _, h4⟩ := h.get i hi
  obtain ⟨_, rfl⟩ := h1
  exact h4 w' (fpv v) (obB v l') ⟨hb, rfl⟩ ho (fun x hx => .inl hx)
theorem Env.pushB {w0 w w' : World} {obs : List Ob} (h : Env w0 w obs) {v : Value} {l : List UInt8} (hb : OB w' v l) (hw : Below w.heap.size w w') (hn : ∀ x, fpv v x → w.heap.size ≤ x) : Env w0 w' (obs ++ [obB v l]) :=
  h.push (obB v l) ⟨hb, rfl⟩ hw hn
/-- what was there when the law began -/
theorem Env.old {w0 w : World} {obs : List Ob} (h : Env w0 w obs) {v : Value} {l : List UInt8} (hv : Bs w0 v l) : Bs w v l := hv.grow h.base
theorem Bs.inside {w : World} {v : Value} {l : List UInt8} (h : Bs w v l) (h0 : l ≠ []) : ∀ x, v.ownBlock = some x → x < w.heap.size := by
  obtain ⟨ao, cap, rfl, _, _, _, h4⟩ := h.form
  intro x hx
  obtain ⟨b, off, rfl, hc⟩ := h4 0 (List.length_pos_iff.2 h0)
  have := World.block_lt_of_cell? w _ hc
  simp [Value.ownBlock] at hx
  subst hx
  exact this
end Go.Proofs.Ytideobdggdmeiaa
