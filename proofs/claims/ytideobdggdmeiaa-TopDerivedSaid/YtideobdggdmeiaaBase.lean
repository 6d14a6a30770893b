/- Who owns which block; a law's world as a list of things, each with its own blocks: what a call does to one leaves the others. No program in sight. -/
import Derived.Test.YtideobdggdmeiaaMem
namespace Go.Proofs.Ytideobdggdmeiaa
open Go.RowKit
set_option maxRecDepth 100000
set_option linter.unusedVariables false

def fpv (v : Value) : Nat → Prop := fun x => v.ownBlock = some x
/-! ### who owns which block -/
/-- new blocks go to i -/
def grab (own : Nat → Nat) (s : Nat) (i : Nat) : Nat → Nat := fun x => if x < s then own x else i
/-- a law's world: what was there when it began belongs to nobody (0), and is as it was -/
structure St (w0 : World) (own : Nat → Nat) (w : World) : Prop where
  below : Below w0.heap.size w0 w
  old : ∀ x, x < w0.heap.size → own x = 0
theorem St.start (w : World) : St w (fun _ => 0) w := ⟨Below.refl _ _, fun _ _ => rfl⟩
theorem Only.below0 {S : Nat → Prop} {w w' : World} (h : Only S w w') {b : Nat} (hb : ∀ x, x < b → ¬ S x) (hle : b ≤ w.heap.size) : Below b w w' :=
  ⟨h.os, h.tape, h.output, h.size, fun x hx => h.block x (Nat.lt_of_lt_of_le hx hle) (hb x hx)⟩
theorem St.step {w0 w w' : World} {own : Nat → Nat} (h : St w0 own w) {i : Nat} (hi : i ≠ 0) {S : Nat → Prop} (ho : Only S w w') (hS : ∀ x, S x → own x = i) : St w0 (grab own w.heap.size i) w' := by
  refine ⟨h.below.trans (ho.below0 (fun x hx hs => hi ?_) h.below.size), fun x hx => ?_⟩
  · rw [← hS x hs, h.old x hx]
  · unfold grab
    rw [if_pos (Nat.lt_of_lt_of_le hx h.below.size)]
    exact h.old x hx
theorem grab_new {own : Nat → Nat} {s i x : Nat} (h : s ≤ x) : grab own s i x = i := by unfold grab; rw [if_neg (by omega)]
theorem grab_old {own : Nat → Nat} {s i x : Nat} (h : x < s) : grab own s i x = own x := by unfold grab; rw [if_pos h]
/-- F belongs to i, and is made -/
def Own (own : Nat → Nat) (i : Nat) (w : World) (F : Nat → Prop) : Prop := ∀ x, F x → own x = i ∧ x < w.heap.size
theorem Own.keep {own : Nat → Nat} {i j : Nat} {w w' : World} {F : Nat → Prop} (h : Own own i w F) (hs : w.heap.size ≤ w'.heap.size) : Own (grab own w.heap.size j) i w' F := fun x hx =>
  ⟨by rw [grab_old (h x hx).2]; exact (h x hx).1, Nat.lt_of_lt_of_le (h x hx).2 hs⟩
theorem Own.apart {own : Nat → Nat} {i j : Nat} {w : World} {F : Nat → Prop} (h : Own own i w F) {S : Nat → Prop} (hS : ∀ x, S x → own x = j) (hij : i ≠ j) : ∀ x, F x → ¬ S x := fun x hx hs =>
  hij ((h x hx).1.symm.trans (hS x hs))
theorem Own.turn {own : Nat → Nat} {i : Nat} {w w' : World} {F F' : Nat → Prop} (h : Own own i w F) (hlt : ∀ x, F' x → x < w'.heap.size) (hx : ∀ x, F' x → F x ∨ w.heap.size ≤ x) : Own (grab own w.heap.size i) i w' F' := fun x h' => by
  refine ⟨?_, hlt x h'⟩
  rcases hx x h' with a | a
  · rw [grab_old (h x a).2]; exact (h x a).1
  · exact grab_new a
theorem Own.new {own : Nat → Nat} {i : Nat} {w w' : World} {F' : Nat → Prop} (hlt : ∀ x, F' x → x < w'.heap.size) (hx : ∀ x, F' x → w.heap.size ≤ x) : Own (grab own w.heap.size i) i w' F' := fun x h' =>
  ⟨grab_new (hx x h'), hlt x h'⟩

/-- a thing: what holds of a world, with the blocks that it needs -/
structure Ob where
  at' : World → (Nat → Prop) → Prop
  keep : ∀ {w w' : World} {F S : Nat → Prop}, at' w F → Only S w w' → (∀ x, F x → ¬ S x) → at' w' F
  lt : ∀ {w : World} {F : Nat → Prop}, at' w F → ∀ x, F x → x < w.heap.size
def Env (w0 w : World) (obs : List Ob) : Prop := ∃ own, St w0 own w ∧ ∀ (i : Nat) (ob : Ob), obs[i]? = some ob → ∃ F, ob.at' w F ∧ Own own (i + 1) w F
theorem Env.start (w : World) : Env w w [] := ⟨fun _ => 0, St.start w, fun i ob h => by simp at h⟩
theorem Env.base {w0 w : World} {obs : List Ob} (h : Env w0 w obs) : Below w0.heap.size w0 w := by
  obtain ⟨own, h1, _⟩ := h; exact h1.below
theorem Only.nothing {w w' : World} (h : Below w.heap.size w w') : Only (fun _ => False) w w' := Only.of_below h _
theorem Env.below {w0 w w' : World} {obs : List Ob} (h : Env w0 w obs) (hb : Below w.heap.size w w') : Env w0 w' obs := by
  obtain ⟨own, h1, h2⟩ := h
  refine ⟨grab own w.heap.size 7777777, h1.step (by omega) (Only.nothing hb) (fun _ h => h.elim), fun i ob hi => ?_⟩
  obtain ⟨F, h3, h4⟩ := h2 i ob hi
  exact ⟨F, ob.keep h3 (Only.nothing hb) (fun _ _ h => h), h4.keep hb.size⟩
theorem Env.draw {w0 w : World} {obs : List Ob} (h : Env w0 w obs) (n : Nat) : Env w0 (w.drewN n) obs := h.below ⟨rfl, rfl, rfl, Nat.le_refl _, fun _ _ => rfl⟩
theorem Env.push {w0 w w' : World} {obs : List Ob} (h : Env w0 w obs) {F' : Nat → Prop} (ob : Ob) (hat : ob.at' w' F') (hb : Below w.heap.size w w') (hn : ∀ x, F' x → w.heap.size ≤ x) : Env w0 w' (obs ++ [ob]) := by
  obtain ⟨own, h1, h2⟩ := h
  refine ⟨grab own w.heap.size (obs.length + 1), h1.step (by omega) (Only.nothing hb) (fun _ h => h.elim), fun i ob' hi => ?_⟩
  by_cases hlt : i < obs.length
  · rw [List.getElem?_append_left hlt] at hi
    obtain ⟨F, h3, h4⟩ := h2 i ob' hi
    exact ⟨F, ob'.keep h3 (Only.nothing hb) (fun _ _ h => h), h4.keep hb.size⟩
  · by_cases he : i = obs.length
    · subst he
      simp at hi
      subst hi
      exact ⟨F', hat, Own.new (ob.lt hat) hn⟩
    · rw [List.getElem?_eq_none (by simp; omega)] at hi
      cases hi
theorem Env.get {w0 w : World} {obs : List Ob} (h : Env w0 w obs) (i : Nat) {ob : Ob} (hi : obs[i]? = some ob) :
    ∃ F, ob.at' w F ∧ (∀ x, x < w0.heap.size → ¬ F x) ∧ (∀ (j : Nat) (ob2 : Ob), j ≠ i → obs[j]? = some ob2 → ∃ F2, ob2.at' w F2 ∧ ∀ x, F2 x → ¬ F x) ∧
      ∀ (w' : World) (F' : Nat → Prop) (ob' : Ob), ob'.at' w' F' → Only F w w' → (∀ x, F' x → F x ∨ w.heap.size ≤ x) → Env w0 w' (obs.set i ob') := by
  obtain ⟨own, h1, h2⟩ := h
  obtain ⟨F, h3, h4⟩ := h2 i ob hi
  refine ⟨F, h3, fun x hx hF => ?_, fun j ob2 hj hj2 => ?_, fun w' F' ob' hat ho hx => ?_⟩
  · have := (h4 x hF).1
    rw [h1.old x hx] at this
    omega
  · obtain ⟨F2, h5, h6⟩ := h2 j ob2 hj2
    exact ⟨F2, h5, h6.apart (j := i + 1) (fun x hx => (h4 x hx).1) (by omega)⟩
  · refine ⟨grab own w.heap.size (i + 1), h1.step (by omega) ho (fun x hx => (h4 x hx).1), fun j ob2 hj => ?_⟩
    by_cases e : j = i
    · subst e
      have hlt : j < obs.length := (List.getElem?_eq_some_iff.1 hi).1
      rw [List.getElem?_set_self hlt] at hj
      cases hj
      exact ⟨F', hat, h4.turn (ob'.lt hat) hx⟩
    · rw [List.getElem?_set_ne (fun h => e h.symm)] at hj
      obtain ⟨F2, h5, h6⟩ := h2 j ob2 hj
      exact ⟨F2, ob2.keep h5 ho (h6.apart (j := i + 1) (fun x hx => (h4 x hx).1) (by omega)), h6.keep ho.size⟩
/-- two things turn in one call -/
theorem Env.get2 {w0 w : World} {obs : List Ob} (h : Env w0 w obs) (i k : Nat) (hik : i ≠ k) {oa ob : Ob} (hi : obs[i]? = some oa) (hk : obs[k]? = some ob) :
    ∃ F G, oa.at' w F ∧ ob.at' w G ∧ (∀ x, x < w0.heap.size → ¬ F x) ∧ (∀ x, x < w0.heap.size → ¬ G x) ∧ (∀ x, F x → ¬ G x) ∧
      ∀ (w' : World) (F' G' : Nat → Prop) (oa' ob' : Ob), oa'.at' w' F' → ob'.at' w' G' → Only (fun x => F x ∨ G x) w w' → (∀ x, F' x → F x ∨ w.heap.size ≤ x) → (∀ x, G' x → G x ∨ w.heap.size ≤ x) → (∀ x, F' x → ¬ G' x) →
        Env w0 w' ((obs.set i oa').set k ob') := by
  classical
  obtain ⟨own, h1, h2⟩ := h
  obtain ⟨F, f1, f2⟩ := h2 i oa hi
  obtain ⟨G, g1, g2⟩ := h2 k ob hk
  refine ⟨F, G, f1, g1, fun x hx hF => ?_, fun x hx hG => ?_, f2.apart (fun x hx => (g2 x hx).1) (by omega), fun w' F' G' oa' ob' ha hb ho hF hG hFG => ?_⟩
  · have := (f2 x hF).1
    rw [h1.old x hx] at this
    omega
  · have := (g2 x hG).1
    rw [h1.old x hx] at this
    omega
  · let own' : Nat → Nat := fun x => if x < w.heap.size then own x else if F' x then i + 1 else k + 1
    have hold : ∀ x, x < w.heap.size → own' x = own x := fun x hx => if_pos hx
    have hlt1 : i < obs.length := (List.getElem?_eq_some_iff.1 hi).1
    have hlt2 : k < obs.length := (List.getElem?_eq_some_iff.1 hk).1
    have hst : St w0 own' w' := by
      refine ⟨h1.below.trans (ho.below0 (fun x hx hs => ?_) h1.below.size), fun x hx => ?_⟩
      · rcases hs with hs | hs
        · have := (f2 x hs).1; rw [h1.old x hx] at this; omega
        · have := (g2 x hs).1; rw [h1.old x hx] at this; omega
      · rw [hold x (Nat.lt_of_lt_of_le hx h1.below.size)]; exact h1.old x hx
    refine ⟨own', hst, fun j ob2 hj => ?_⟩
    by_cases ek : j = k
    · subst ek
      rw [List.getElem?_set_self (by simpa using hlt2)] at hj
      cases hj
      refine ⟨G', hb, fun x hx => ⟨?_, ob'.lt hb x hx⟩⟩
      rcases hG x hx with hh | hh
      · rw [hold x (g2 x hh).2]; exact (g2 x hh).1
      · show (if x < w.heap.size then own x else if F' x then i + 1 else j + 1) = j + 1
        rw [if_neg (by omega), if_neg (fun hf => hFG x hf hx)]
    · rw [List.getElem?_set_ne (fun h => ek h.symm)] at hj
      by_cases ei : j = i
      · subst ei
        rw [List.getElem?_set_self hlt1] at hj
        cases hj
        refine ⟨F', ha, fun x hx => ⟨?_, oa'.lt ha x hx⟩⟩
        rcases hF x hx with hh | hh
        · rw [hold x (f2 x hh).2]; exact (f2 x hh).1
        · show (if x < w.heap.size then own x else if F' x then j + 1 else k + 1) = j + 1
          rw [if_neg (by omega), if_pos hx]
      · rw [List.getElem?_set_ne (fun h => ei h.symm)] at hj
        obtain ⟨F2, h5, h6⟩ := h2 j ob2 hj
        refine ⟨F2, ob2.keep h5 ho (fun x hx hs => ?_), fun x hx => ⟨?_, Nat.lt_of_lt_of_le (h6 x hx).2 ho.size⟩⟩
        · rcases hs with hs | hs
          · have a := (f2 x hs).1; have b := (h6 x hx).1; omega
          · have a := (g2 x hs).1; have b := (h6 x hx).1; omega
        · rw [hold x (h6 x hx).2]; exact (h6 x hx).1

/-- some of the things, in another order: 'f j' is where thing j stood -/
theorem Env.pick {w0 w : World} {obs obs' : List Ob} (h : Env w0 w obs) (f : Nat → Nat) (hinj : ∀ i j, i < obs'.length → j < obs'.length → f i = f j → i = j) (hf : ∀ (j : Nat) (ob : Ob), obs'[j]? = some ob → obs[f j]? = some ob) : Env w0 w obs' := by
  classical
  obtain ⟨own, h1, h2⟩ := h
  let own' : Nat → Nat := fun x => if hx : ∃ j, j < obs'.length ∧ f j + 1 = own x then (Classical.choose hx) + 1 else 0
  have hown : ∀ x j, j < obs'.length → own x = f j + 1 → own' x = j + 1 := by
    intro x j hj he
    have hx : ∃ j, j < obs'.length ∧ f j + 1 = own x := ⟨j, hj, he.symm⟩
    show (if hx : ∃ j, j < obs'.length ∧ f j + 1 = own x then (Classical.choose hx) + 1 else 0) = j + 1
    rw [dif_pos hx]
    have hs := Classical.choose_spec hx
    have := hinj _ _ hs.1 hj (by omega)
    omega
  refine ⟨own', ⟨h1.below, fun x hx => ?_⟩, fun j ob hj => ?_⟩
  · show (if hx : ∃ j, j < obs'.length ∧ f j + 1 = own x then (Classical.choose hx) + 1 else 0) = 0
    rw [dif_neg]
    rintro ⟨j, _, he⟩
    rw [h1.old x hx] at he
    omega
  · obtain ⟨F, h3, h4⟩ := h2 (f j) ob (hf j ob hj)
    have hlt : j < obs'.length := (List.getElem?_eq_some_iff.1 hj).1
    exact ⟨F, h3, fun x hx => ⟨hown x j hlt (h4 x hx).1, (h4 x hx).2⟩⟩
theorem ownsRow_keep {w w' : World} {base t size n : Nat} {v : Value} {cs : List Value} (h : w.ownsRow base t size v n cs) {S : Nat → Prop} (ho : Only S w w') (hd : ∀ x, fpv v x → ¬ S x) : w'.ownsRow base t size v n cs := by
  refine ⟨h.1, ?_⟩
  rcases h.2 with h2 | ⟨g, cap, cur, rfl, hb, hg, r⟩
  · exact .inl h2
  · exact .inr ⟨g, cap, cur, rfl, hb, (ho.block g (Array.getElem?_eq_some_iff.1 hg).1 (hd g rfl)).trans hg, r⟩
/-- a block of known cells -/
def obK (b : Nat) (t : TypeId) (cs : Array Value) : Ob := ⟨fun w F => Blk w b t cs ∧ F = fun x => x = b, fun h ho hd => ⟨h.1.only ho (hd b (by rw [h.2])), h.2⟩, fun h => by rw [h.2]; rintro x rfl; exact h.1.lt⟩
theorem Env.blk {w0 w : World} {obs : List Ob} (h : Env w0 w obs) (i : Nat) {b : Nat} {t : TypeId} {cs : Array Value} (hi : obs[i]? = some (obK b t cs)) : Blk w b t cs := by
  obtain ⟨F, h1, _⟩ := h.get i hi
  exact h1.1
theorem Env.pushK {w0 w w' : World} {obs : List Ob} (h : Env w0 w obs) {b : Nat} {t : TypeId} {cs : Array Value} (hb : Blk w' b t cs) (hw : Below w.heap.size w w') (hn : w.heap.size ≤ b) : Env w0 w' (obs ++ [obK b t cs]) :=
  h.push (F' := fun x => x = b) (obK b t cs) ⟨hb, rfl⟩ hw (fun x hx => by rw [hx]; exact hn)
theorem Env.newK {w0 w : World} {obs : List Ob} (h : Env w0 w obs) (t : TypeId) (cs : Array Value) : Env w0 (w.alloc (.cells cs t)) (obs ++ [obK w.heap.size t cs]) :=
  h.pushK (Blk.new w t cs) ((Below.refl _ _).alloc (Nat.le_refl _) _) (Nat.le_refl _)
theorem Env.turnBlk {w0 w w' : World} {obs : List Ob} (h : Env w0 w obs) (i : Nat) {b : Nat} {t : TypeId} {cs cs' : Array Value} (hi : obs[i]? = some (obK b t cs)) (hb : Blk w' b t cs') (ho : Only (fun x => x = b) w w') : Env w0 w' (obs.set i (obK b t cs')) := by
  obtain ⟨F, h1, _, _, h4⟩ := h.get i hi
  obtain ⟨_, rfl⟩ := h1
  exact h4 w' (fun x => x = b) (obK b t cs') ⟨hb, rfl⟩ ho (fun x hx => .inl hx)
/-- a slice value that owns the cells cs, at a row of its own -/
def obE (e : TypeId) (size : Nat) (v : Value) (n : Nat) (cs : List Value) : Ob := ⟨fun w F => w.ownsRow 0 e size v n cs ∧ F = fpv v, fun h ho hd => ⟨ownsRow_keep h.1 ho (by rw [← h.2]; exact hd), h.2⟩, fun h => by rw [h.2]; exact fun x hx => (World.ownsRow.lt h.1 x hx).2⟩
theorem Env.row {w0 w : World} {obs : List Ob} (h : Env w0 w obs) (i : Nat) {e : TypeId} {size n : Nat} {v : Value} {cs : List Value} (hi : obs[i]? = some (obE e size v n cs)) : w.ownsRow 0 e size v n cs := by
  obtain ⟨F, h1, _⟩ := h.get i hi
  exact h1.1
theorem Env.turnE {w0 w w' : World} {obs : List Ob} (h : Env w0 w obs) (i : Nat) {e : TypeId} {size n : Nat} {v : Value} {cs : List Value} (hi : obs[i]? = some (obE e size v n cs)) {n' : Nat} {cs' : List Value} (hb : w'.ownsRow 0 e size v n' cs') (ho : Only (fpv v) w w') :
    Env w0 w' (obs.set i (obE e size v n' cs')) := by
  obtain ⟨F, h1, _, _, h4⟩ := h.get i hi
  obtain ⟨_, rfl⟩ := h1
  exact h4 w' (fpv v) (obE e size v n' cs') ⟨hb, rfl⟩ ho (fun x hx => .inl hx)
theorem Env.pushE {w0 w w' : World} {obs : List Ob} (h : Env w0 w obs) {e : TypeId} {size n : Nat} {v : Value} {cs : List Value} (hb : w'.ownsRow 0 e size v n cs) (hw : Below w.heap.size w w') (hn : ∀ x, fpv v x → w.heap.size ≤ x) : Env w0 w' (obs ++ [obE e size v n cs]) :=
  h.push (obE e size v n cs) ⟨hb, rfl⟩ hw hn
end Go.Proofs.Ytideobdggdmeiaa
