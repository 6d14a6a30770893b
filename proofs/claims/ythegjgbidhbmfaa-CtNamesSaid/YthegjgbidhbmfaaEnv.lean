/- A law's world as a list of things, each with its own blocks: what a call does to one leaves the others. -/
import Derived.Test.YthegjgbidhbmfaaRows
import Derived.Test.YthegjgbidhbmfaaLg
namespace Go.Proofs.Ythegjgbidhbmfaa
open Go.RowKit
set_option maxRecDepth 100000

/-- a thing: what holds of a world, with the blocks that it needs -/
structure Ob where
  at' : World → (Nat → Prop) → Prop
  keep : ∀ {w w' : World} {F S : Nat → Prop}, at' w F → Only S w w' → (∀ x, F x → ¬ S x) → at' w' F
  lt : ∀ {w : World} {F : Nat → Prop}, at' w F → ∀ x, F x → x < w.heap.size
def obP (p : Value) (o : Option (List Rn)) : Ob := ⟨fun w F => LgP w p F o, fun h ho hd => h.keep ho hd, fun h => h.lt⟩
def obR (p : Value) (o : Option (List Rn)) : Ob := ⟨fun w F => LgR w p F o, fun h ho hd => h.keep ho hd, fun h => h.lt⟩
def obB (v : Value) (l : List UInt8) : Ob := ⟨fun w F => OB w v l ∧ F = fpv v, fun h ho hd => ⟨h.1.keep ho (by rw [← h.2]; exact hd), h.2⟩, fun h => by rw [h.2]; exact h.1.lt⟩
def obRuns (v : Value) (rs : List Rn) : Ob := ⟨fun w F => RunsAt w v rs ∧ F = fp v, fun h ho hd => ⟨h.1.keep ho (by rw [← h.2]; exact hd), h.2⟩, fun h => by rw [h.2]; exact h.1.lt⟩
def Env (w0 w : World) (obs : List Ob) : Prop := ∃ own, St w0 own w ∧ ∀ (i : Nat) (ob : Ob), obs[i]? = some ob → ∃ F, ob.at' w F ∧ Own own (i + 1) w F
theorem Env.start (w : World) : Env w w [] := ⟨fun _ => 0, St.start w, fun i ob h => by simp at h⟩
theorem Env.base {w0 w : World} {obs : List Ob} (h : Env w0 w obs) : Below w0.heap.size w0 w := by
  obtain ⟨own, h1, _⟩ := h; exact h1.below
theorem Only.nothing {w w' : World} (h : Below w.heap.size w w') : Only (fun _ => False) w w' := Only.of_below h _
theorem Env.below {w0 w w' : World} {obs : List Ob} (h : Env w0 w obs) (hb : Below w.heap.size w w') : Env w0 w' obs := by
  obtain ⟨own, h1, h2⟩ := h
  refine ⟨grab own w.heap.size 7777777, h1.step (by omega) (Only.nothing hb) (fun _ h => h.elim), fun i ob hi => ?_⟩
  obtain ⟨F, h3, h4⟩ := h2 i ob hi
  exact ⟨F, ob.keep h3 (Only.nothing hb) (fun _ _ h => h), h4.keep hb.size⟩
theorem Env.draw {w0 w : World} {obs : List Ob} (h : Env w0 w obs) (n : Nat) : Env w0 (w.drewN n) obs := h.below ⟨rfl, rfl, rfl, Nat.le_refl _, fun _ _ => rfl⟩
theorem Env.push {w0 w w' : World} {obs : List Ob} (h : Env w0 w obs) {F' : Nat → Prop} (ob : Ob) (hat : ob.at' w' F') (hb : Below w.heap.size w w') (hn : ∀ x, F' x → w.heap.size ≤ x) : Env w0 w' (obs ++ [ob]) := by
  obtain ⟨own, h1, h2⟩ := h
  refine ⟨grab own w.heap.size (obs.length + 1), h1.step (by omega) (Only.nothing hb) (fun _ h => h.elim), fun i ob' hi => ?_⟩
  by_cases hlt : i < obs.length
  · rw [List.getElem?_append_left hlt] at hi
    obtain ⟨F, h3, h4⟩ := h2 i ob' hi
    exact ⟨F, ob'.keep h3 (Only.nothing hb) (fun _ _ h => h), h4.keep hb.size⟩
  · by_cases he : i = obs.length
    · subst he
      simp at hi
      subst hi
      exact ⟨F', hat, Own.new (ob.lt hat) hn⟩
    · rw [List.getElem?_eq_none (by simp; omega)] at hi
      cases hi
theorem Env.get {w0 w : World} {obs : List Ob} (h : Env w0 w obs) (i : Nat) {ob : Ob} (hi : obs[i]? = some ob) :
    ∃ F, ob.at' w F ∧ (∀ x, x < w0.heap.size → ¬ F x) ∧ (∀ (j : Nat) (ob2 : Ob), j ≠ i → obs[j]? = some ob2 → ∃ F2, ob2.at' w F2 ∧ ∀ x, F2 x → ¬ F x) ∧
      ∀ (w' : World) (F' : Nat → Prop) (ob' : Ob), ob'.at' w' F' → Only F w w' → (∀ x, F' x → F x ∨ w.heap.size ≤ x) → Env w0 w' (obs.set i ob') := by
  obtain ⟨own, h1, h2⟩ := h
  obtain ⟨F, h3, h4⟩ := h2 i ob hi
  refine ⟨F, h3, fun x hx hF => ?_, fun j ob2 hj hj2 => ?_, fun w' F' ob' hat ho hx => ?_⟩
  · have := (h4 x hF).1
    rw [h1.old x hx] at this
    omega
  · obtain ⟨F2, h5, h6⟩ := h2 j ob2 hj2
    exact ⟨F2, h5, h6.apart (j := i + 1) (fun x hx => (h4 x hx).1) (by omega)⟩
  · refine ⟨grab own w.heap.size (i + 1), h1.step (by omega) ho (fun x hx => (h4 x hx).1), fun j ob2 hj => ?_⟩
    by_cases e : j = i
    · subst e
      have hlt : j < obs.length := (List.getElem?_eq_some_iff.1 hi).1
      rw [List.getElem?_set_self hlt] at hj
      cases hj
      exact ⟨F', hat, h4.turn (ob'.lt hat) hx⟩
    · rw [List.getElem?_set_ne (fun h => e h.symm)] at hj
      obtain ⟨F2, h5, h6⟩ := h2 j ob2 hj
      exact ⟨F2, ob2.keep h5 ho (h6.apart (j := i + 1) (fun x hx => (h4 x hx).1) (by omega)), h6.keep ho.size⟩
/-- two things turn in one call -/
theorem Env.get2 {w0 w : World} {obs : List Ob} (h : Env w0 w obs) (i k : Nat) (hik : i ≠ k) {oa ob : Ob} (hi : obs[i]? = some oa) (hk : obs[k]? = some ob) :
    ∃ F G, oa.at' w F ∧ ob.at' w G ∧ (∀ x, x < w0.heap.size → ¬ F x) ∧ (∀ x, x < w0.heap.size → ¬ G x) ∧ (∀ x, F x → ¬ G x) ∧
      ∀ (w' : World) (F' G' : Nat → Prop) (oa' ob' : Ob), oa'.at' w' F' → ob'.at' w' G' → Only (fun x => F x ∨ G x) w w' → (∀ x, F' x → F x ∨ w.heap.size ≤ x) → (∀ x, G' x → G x ∨ w.heap.size ≤ x) → (∀ x, F' x → ¬ G' x) →
        Env w0 w' ((obs.set i oa').set k ob') := by
  classical
  obtain ⟨own, h1, h2⟩ := h
  obtain ⟨F, f1, f2⟩ := h2 i oa hi
  obtain ⟨G, g1, g2⟩ := h2 k ob hk
  refine ⟨F, G, f1, g1, fun x hx hF => ?_, fun x hx hG => ?_, f2.apart (fun x hx => (g2 x hx).1) (by omega), fun w' F' G' oa' ob' ha hb ho hF hG hFG => ?_⟩
  · have := (f2 x hF).1
    rw [h1.old x hx] at this
    omega
  · have := (g2 x hG).1
    rw [h1.old x hx] at this
    omega
  · let own' : Nat → Nat := fun x => if x < w.heap.size then own x else if F' x then i + 1 else k + 1
    have hold : ∀ x, x < w.heap.size → own' x = own x := fun x hx => if_pos hx
    have hlt1 : i < obs.length := (List.getElem?_eq_some_iff.1 hi).1
    have hlt2 : k < obs.length := (List.getElem?_eq_some_iff.1 hk).1
    have hst : St w0 own' w' := by
      refine ⟨h1.below.trans (ho.below0 (fun x hx hs => ?_) h1.below.size), fun x hx => ?_⟩
      · rcases hs with hs | hs
        · have := (f2 x hs).1; rw [h1.old x hx] at this; omega
        · have := (g2 x hs).1; rw [h1.old x hx] at this; omega
      · rw [hold x (Nat.lt_of_lt_of_le hx h1.below.size)]; exact h1.old x hx
    refine ⟨own', hst, fun j ob2 hj => ?_⟩
    by_cases ek : j = k
    · subst ek
      rw [List.getElem?_set_self (by simpa using hlt2)] at hj
      cases hj
      refine ⟨G', hb, fun x hx => ⟨?_, ob'.lt hb x hx⟩⟩
      rcases hG x hx with hh | hh
      · rw [hold x (g2 x hh).2]; exact (g2 x hh).1
      · show (if x < w.heap.size then own x else if F' x then i + 1 else j + 1) = j + 1
        rw [if_neg (by omega), if_neg (fun hf => hFG x hf hx)]
    · rw [List.getElem?_set_ne (fun h => ek h.symm)] at hj
      by_cases ei : j = i
      · subst ei
        rw [List.getElem?_set_self hlt1] at hj
        cases hj
        refine ⟨F', ha, fun x hx => ⟨?_, oa'.lt ha x hx⟩⟩
        rcases hF x hx with hh | hh
        · rw [hold x (f2 x hh).2]; exact (f2 x hh).1
        · show (if x < w.heap.size then own x else if F' x then j + 1 else k + 1) = j + 1
          rw [if_neg (by omega), if_pos hx]
      · rw [List.getElem?_set_ne (fun h => ei h.symm)] at hj
        obtain ⟨F2, h5, h6⟩ := h2 j ob2 hj
        refine ⟨F2, ob2.keep h5 ho (fun x hx hs => ?_), fun x hx => ⟨?_, Nat.lt_of_lt_of_le (h6 x hx).2 ho.size⟩⟩
        · rcases hs with hs | hs
          · have a := (f2 x hs).1; have b := (h6 x hx).1; omega
          · have a := (g2 x hs).1; have b := (h6 x hx).1; omega
        · rw [hold x (h6 x hx).2]; exact (h6 x hx).1

/-! ### what is needed of one thing -/
theorem Env.ledP {w0 w : World} {obs : List Ob} (h : Env w0 w obs) (i : Nat) {p : Value} {o : Option (List Rn)} (hi : obs[i]? = some (obP p o)) :
    ∃ F, LgP w p F o ∧ (∀ x, x < w0.heap.size → ¬ F x) ∧ (∀ (j : Nat) (v : Value) (l : List UInt8), j ≠ i → obs[j]? = some (obB v l) → ∀ x, v.ownBlock = some x → ¬ F x) ∧ ∀ w' o', LaidP p F o' w w' → Env w0 w' (obs.set i (obP p o')) := by
  obtain ⟨F, h1, h2, h3, h4⟩ := h.get i hi
  refine ⟨F, h1, h2, fun j v l hj hj2 x hx => ?_, fun w' o' hl => ?_⟩
  · obtain ⟨F2, h5, h6⟩ := h3 j _ hj hj2
    exact h6 x (by rw [h5.2]; exact hx)
  · obtain ⟨F', g1, g2, g3⟩ := hl
    exact h4 w' F' (obP p o') g1 g2 g3
theorem Env.ledR {w0 w : World} {obs : List Ob} (h : Env w0 w obs) (i : Nat) {p : Value} {o : Option (List Rn)} (hi : obs[i]? = some (obR p o)) :
    ∃ F, LgR w p F o ∧ (∀ x, x < w0.heap.size → ¬ F x) ∧ (∀ (j : Nat) (v : Value) (l : List UInt8), j ≠ i → obs[j]? = some (obB v l) → ∀ x, v.ownBlock = some x → ¬ F x) ∧ ∀ w' o', LaidR p F o' w w' → Env w0 w' (obs.set i (obR p o')) := by
  obtain ⟨F, h1, h2, h3, h4⟩ := h.get i hi
  refine ⟨F, h1, h2, fun j v l hj hj2 x hx => ?_, fun w' o' hl => ?_⟩
  · obtain ⟨F2, h5, h6⟩ := h3 j _ hj hj2
    exact h6 x (by rw [h5.2]; exact hx)
  · obtain ⟨F', g1, g2, g3⟩ := hl
    exact h4 w' F' (obR p o') g1 g2 g3
theorem Env.bytes {w0 w : World} {obs : List Ob} (h : Env w0 w obs) (i : Nat) {v : Value} {l : List UInt8} (hi : obs[i]? = some (obB v l)) : OB w v l := by
  obtain ⟨F, h1, _⟩ := h.get i hi
  exact h1.1
theorem Env.runs {w0 w : World} {obs : List Ob} (h : Env w0 w obs) (i : Nat) {v : Value} {l : List Rn} (hi : obs[i]? = some (obRuns v l)) : RunsAt w v l := by
  obtain ⟨F, h1, _⟩ := h.get i hi
  exact h1.1
/-- bytes turn -/
theorem Env.turnB {w0 w w' : World} {obs : List Ob} (h : Env w0 w obs) (i : Nat) {v : Value} {l l' : List UInt8} (hi : obs[i]? = some (obB v l)) (hb : OB w' v l') (ho : Only (fpv v) w w') : Env w0 w' (obs.set i (obB v l')) := by
  obtain ⟨F, h1, _, _, h4⟩ := h.get i hi
  obtain ⟨_, rfl⟩ := h1
  exact h4 w' (fpv v) (obB v l') ⟨hb, rfl⟩ ho (fun x hx => .inl hx)
theorem Env.pushB {w0 w w' : World} {obs : List Ob} (h : Env w0 w obs) {v : Value} {l : List UInt8} (hb : OB w' v l) (hw : Below w.heap.size w w') (hn : ∀ x, fpv v x → w.heap.size ≤ x) : Env w0 w' (obs ++ [obB v l]) :=
  h.push (obB v l) ⟨hb, rfl⟩ hw hn
theorem Env.pushRuns {w0 w w' : World} {obs : List Ob} (h : Env w0 w obs) {v : Value} {l : List Rn} (hb : RunsAt w' v l) (hw : Below w.heap.size w w') (hn : ∀ x, fp v x → w.heap.size ≤ x) : Env w0 w' (obs ++ [obRuns v l]) :=
  h.push (obRuns v l) ⟨hb, rfl⟩ hw hn
theorem Env.pushP {w0 w w' : World} {obs : List Ob} (h : Env w0 w obs) (hb : LedP w' w.heap.size (.slice none 0 0) []) (hw : Below w.heap.size w w') : Env w0 w' (obs ++ [obP (.pointer (some ⟨w.heap.size, 0, none⟩)) (some [])]) :=
  h.push (F' := lfp w.heap.size (.slice none 0 0)) (obP _ (some [])) ⟨_, _, rfl, rfl, hb⟩ hw (fun x hx => by
    rcases hx with rfl | hx
    · exact Nat.le_refl _
    · simp [fp, Value.ownBlock] at hx)
theorem Env.pushR {w0 w w' : World} {obs : List Ob} (h : Env w0 w obs) (hb : LedR w' w.heap.size (.slice none 0 0) []) (hw : Below w.heap.size w w') : Env w0 w' (obs ++ [obR (.pointer (some ⟨w.heap.size, 0, none⟩)) (some [])]) :=
  h.push (F' := lfp w.heap.size (.slice none 0 0)) (obR _ (some [])) ⟨_, _, rfl, rfl, hb⟩ hw (fun x hx => by
    rcases hx with rfl | hx
    · exact Nat.le_refl _
    · simp [fp, Value.ownBlock] at hx)
/-- what was there when the law began -/
theorem Env.old {w0 w : World} {obs : List Ob} (h : Env w0 w obs) {v : Value} {l : List UInt8} (hv : Bs w0 v l) : Bs w v l := hv.grow h.base
theorem Bs.inside {w : World} {v : Value} {l : List UInt8} (h : Bs w v l) (h0 : l ≠ []) : ∀ x, v.ownBlock = some x → x < w.heap.size := by
  obtain ⟨ao, cap, rfl, _, _, _, h4⟩ := h.form
  intro x hx
  obtain ⟨b, off, rfl, hc⟩ := h4 0 (List.length_pos_iff.2 h0)
  have := World.block_lt_of_cell? w _ hc
  simp [Value.ownBlock] at hx
  subst hx
  exact this
end Go.Proofs.Ythegjgbidhbmfaa
