/- The law's own helpers: awake, record; the rest of the contracts over a law's world. -/
import Derived.Test.YtpbplcbdejoolaaRows
import Derived.Test.YtpbplcbdejoolaaCompares
namespace Go.Proofs.Ytpbplcbdejoolaa
open Go.RowKit
set_option maxRecDepth 100000
set_option linter.unusedVariables false

theorem Env.lit {w0 w : World} {obs : List Ob} (h : Env w0 w obs) (g : Nat) (hg : g = w.heap.size) (l : List UInt8) (hl : l.length ≤ 1000) :
    Env w0 (w.alloc (.cells (l.map B).toArray 5)) (obs ++ [obB (.slice (some ⟨g, 0, none⟩) l.length l.length) l]) := by
  subst hg
  refine h.pushB ?_ ((Below.refl _ _).alloc (Nat.le_refl _) _) (fun x hx => ?_)
  · have := World.ownsRow_lit (base := 0) (e := 5) (size := 1) w (l.map B).toArray l.length (Nat.zero_le _) (by unfold maxLen; omega) (by simp)
    simpa [OB] using this
  · have e : w.heap.size = x := by simpa [fpv, Value.ownBlock] using hx
    omega
theorem lenP_env {w0 w : World} {obs : List Ob} (h : Env w0 w obs) (i : Nat) {p : Value} {rs : List Rn} (hi : obs[i]? = some (obP p (some rs))) :
    Calls Try.prog 17 #[p] w fun e w' => e = .returned (.int .i64 (tot rs)) ∧ w = w' := by
  obtain ⟨F, f1, _⟩ := h.ledP i hi
  obtain ⟨b, v, rfl, rfl, f2⟩ := f1
  exact lenP_any b v rs w f2
theorem Env.drop {w0 w : World} {obs : List Ob} {x : Ob} (h : Env w0 w (obs ++ [x])) : Env w0 w obs := by
  obtain ⟨own, h1, h2⟩ := h
  refine ⟨own, h1, fun i ob hi => h2 i ob ?_⟩
  have hlt : i < obs.length := (List.getElem?_eq_some_iff.1 hi).1
  rw [List.getElem?_append_left hlt]
  exact hi
theorem set_same {α : Type} : ∀ (l : List α) (j : Nat) (x : α), l[j]? = some x → l.set j x = l
  | [], _, _, h => by simp at h
  | a :: l, 0, x, h => by simp at h; subst h; rfl
  | a :: l, j + 1, x, h => by rw [List.set_cons_succ, set_same l j x (by simpa using h)]
theorem Bs.take {w : World} {ao : Option Addr} {n cap : Nat} {l : List UInt8} (h : Bs w (.slice ao n cap) l) (k : Nat) (hk : k ≤ l.length) : Bs w (.slice ao k cap) (l.take k) := by
  obtain ⟨ao', cap', hv, h1, h2, h3, h4⟩ := h.form
  injection hv with e1 e2 e3
  subst e1; subst e3
  have hlen : (l.take k).length = k := by simp; omega
  refine ⟨ao, cap, by rw [hlen], by omega, h2, h3, fun j hj => ?_⟩
  rw [hlen] at hj
  obtain ⟨b, off, hb, hc⟩ := h4 j (by omega)
  refine ⟨b, off, hb, ?_⟩
  rw [hc, List.getD_eq_getElem?_getD, List.getD_eq_getElem?_getD, List.getElem?_take, if_pos hj]
end Go.Proofs.Ytpbplcbdejoolaa
