/- The law's own helpers: awake, record; the rest of the contracts over a law's world. -/
import Derived.Test.YtaphjdfpffhpfaaRows
import Derived.Test.YtaphjdfpffhpfaaCompares
namespace Go.Proofs.Ytaphjdfpffhpfaa
open Go.RowKit
set_option maxRecDepth 100000
set_option linter.unusedVariables false

theorem Env.lit {w0 w : World} {obs : List Ob} (h : Env w0 w obs) (g : Nat) (hg : g = w.heap.size) (l : List UInt8) (hl : l.length ≤ 1000) :
    Env w0 (w.alloc (.cells (l.map B).toArray 5)) (obs ++ [obB (.slice (some ⟨g, 0, none⟩) l.length l.length) l]) := by
  subst hg
  refine h.pushB ?_ ((Below.refl _ _).alloc (Nat.le_refl _) _) (fun x hx => ?_)
  · have := World.ownsRow_lit (base := 0) (e := 5) (size := 1) w (l.map B).toArray l.length (Nat.zero_le _) (by unfold maxLen; omega) (by simp)
    simpa [OB] using this
  · have e : w.heap.size = x := by simpa [fpv, Value.ownBlock] using hx
    omega
theorem lenP_env {w0 w : World} {obs : List Ob} (h : Env w0 w obs) (i : Nat) {p : Value} {rs : List Rn} (hi : obs[i]? = some (obP p (some rs))) :
    Calls Try.prog 32 #[p] w fun e w' => e = .returned (.int .i64 (tot rs)) ∧ w = w' := by
  obtain ⟨F, f1, _⟩ := h.ledP i hi
  obtain ⟨b, v, rfl, rfl, f2⟩ := f1
  exact lenP_any b v rs w f2
theorem Env.drop {w0 w : World} {obs : List Ob} {x : Ob} (h : Env w0 w (obs ++ [x])) : Env w0 w obs := by
  obtain ⟨own, h1, h2⟩ := h
  refine ⟨own, h1, fun i ob hi => h2 i ob ?_⟩
  have hlt : i < obs.length := (List.getElem?_eq_some_iff.1 hi).1
  rw [List.getElem?_append_left hlt]
  exact hi
theorem set_same {α : Type} : ∀ (l : List α) (j : Nat) (x : α), l[j]? = some x → l.set j x = l
  | [], _, _, h => by simp at h
  | a :: l, 0, x, h => by simp at h; subst h; rfl
  | a :: l, j + 1, x, h => by rw [List.set_cons_succ, set_same l j x (by simpa using h)]
theorem Bs.take {w : World} {ao : Option Addr} {n cap : Nat} {l : List UInt8} (h : Bs w (.slice ao n cap) l) (k : Nat) (hk : k ≤ l.length) : Bs w (.slice ao k cap) (l.take k) := by
  obtain ⟨ao', cap', hv, h1, h2, h3, h4⟩ := h.form
  injection hv with e1 e2 e3
  subst e1; subst e3
  have hlen : (l.take k).length = k := by simp; omega
  refine ⟨ao, cap, by rw [hlen], by omega, h2, h3, fun j hj => ?_⟩
  rw [hlen] at hj
  obtain ⟨b, off, hb, hc⟩ := h4 j (by omega)
  refine ⟨b, off, hb, ?_⟩
  rw [hc, List.getD_eq_getElem?_getD, List.getD_eq_getElem?_getD, List.getElem?_take, if_pos hj]
theorem wipe_env {w0 w : World} {obs : List Ob} (h : Env w0 w obs) (i j : Nat) (hij : i ≠ j) {p : Value} {o : Option (List Rn)} (hi : obs[i]? = some (obP p o)) (hb : Room o 1) {g capL : Nat} {l : List UInt8} (hj : obs[j]? = some (obB (.slice (some ⟨g, 0, none⟩) l.length capL) l))
    (off n cap : Nat) (hn : off + n ≤ l.length) (hl : l.length ≤ 140737488355328) :
    Calls Try.prog 36 #[p, .slice (some ⟨g, off, none⟩) n cap] w fun e w' => e = .returned (.tuple #[]) ∧ Env w0 w' ((obs.set i (obP p (noteO o 8 n 1))).set j (obB (.slice (some ⟨g, 0, none⟩) l.length capL) (wipeTo l off n))) := by
  obtain ⟨F, G, f1, g1, f2, g2, fg, hup⟩ := h.get2 i j hij hi hj
  obtain ⟨g1, rfl⟩ := g1
  have hg : ¬ F g := fun hf => fg g hf rfl
  refine (wipe_any p F o g off n cap capL l w f1 hb g1 hn hg hl).mono fun e w' ⟨he, w1, h1, h2, F', h3, h4, h5⟩ => ⟨he, ?_⟩
  have hgl : g < w1.heap.size := h1.lt g rfl
  refine hup w' F' (fpv _) (obP p (noteO o 8 n 1)) (obB _ (wipeTo l off n)) h3 ⟨h1.keep h4 (fun x hx hf => hg ?_), rfl⟩ ?_ (fun x hx => ?_) (fun x hx => .inl hx) (fun x hx hgx => ?_)
  · have e : g = x := by simpa [fpv, Value.ownBlock] using hx
    rw [e]; exact hf
  · refine (h2.mono (S' := fun x => F x ∨ fpv (.slice (some ⟨g, 0, none⟩) l.length capL) x) (fun x hx => .inr (by rw [hx]; rfl))).trans (h4.mono (S' := fun x => F x ∨ fpv (.slice (some ⟨g, 0, none⟩) l.length capL) x) (fun x hx => .inl hx)) (fun x hx => .inl hx)
  · exact (h5 x hx).imp id (fun hh => Nat.le_trans h2.size hh)
  · have e : g = x := by simpa [fpv, Value.ownBlock] using hgx
    subst e
    rcases h5 g hx with hh | hh
    · exact hg hh
    · omega
theorem wipe0_env {w0 w : World} {obs : List Ob} (h : Env w0 w obs) (i : Nat) {p : Value} {o : Option (List Rn)} (hi : obs[i]? = some (obP p o)) (hb : Room o 1) (ao : Option Addr) (cap : Nat) :
    Calls Try.prog 36 #[p, .slice ao 0 cap] w fun e w' => e = .returned (.tuple #[]) ∧ Env w0 w' (obs.set i (obP p (noteO o 8 0 1))) := by
  obtain ⟨F, f1, f2, f3, f4⟩ := h.ledP i hi
  exact (wipe_none p F o ao cap w f1 hb).mono fun e w' ⟨he, h1⟩ => ⟨he, f4 w' _ h1⟩
/-- a whole list, just made: wiped, and forgotten -/
theorem wipeNew_env {w0 w : World} {obs : List Ob} {v : Value} {l : List UInt8} (h : Env w0 w (obs ++ [obB v l])) (i : Nat) {p : Value} {o : Option (List Rn)} (hi : obs[i]? = some (obP p o)) (hb : Room o 1) (hl : l.length ≤ 140737488355328) :
    Calls Try.prog 36 #[p, v] w fun e w' => e = .returned (.tuple #[]) ∧ Env w0 w' (obs.set i (obP p (noteO o 8 l.length 1))) := by
  have hlt : i < obs.length := (List.getElem?_eq_some_iff.1 hi).1
  have hi' : (obs ++ [obB v l])[i]? = some (obP p o) := by rw [List.getElem?_append_left hlt]; exact hi
  have hj : (obs ++ [obB v l])[obs.length]? = some (obB v l) := by simp
  by_cases h0 : l = []
  · subst h0
    obtain ⟨ao, cap, rfl⟩ := (h.bytes _ hj).any
    refine (wipe0_env h i hi' hb ao cap).mono fun e w' ⟨he, h1⟩ => ⟨he, ?_⟩
    rw [List.set_append_left _ _ hlt] at h1
    exact h1.drop
  · obtain ⟨g, cap, rfl⟩ := (h.bytes _ hj).form (List.length_pos_iff.2 h0)
    refine (wipe_env h i obs.length (by omega) hi' hb hj 0 l.length cap (by omega) hl).mono fun e w' ⟨he, h1⟩ => ⟨he, ?_⟩
    rw [List.set_append_left _ _ hlt, List.set_append_right _ _ (by simp), List.length_set, Nat.sub_self, List.set_cons_zero] at h1
    exact h1.drop
end Go.Proofs.Ytaphjdfpffhpfaa
