/- The contracts of package aes: small ones. A cipher is a block: the key's length, then the round keys' 240 bytes. -/
import Derived.Test.YtpampcokonicfaaRows
import Derived.Deep.AppendLies
import Derived.StillTailTactics
import Derived.Maps.AppendAt
import Derived.Test.YtpampcokonicfaaQCmacScript0
/- Who owns which block; a law's world as a list of things, each with its own blocks: what a call does to one leaves the others. No program in sight. -/
namespace Go.Proofs.Ytpampcokonicfaa
open Go.RowKit
set_option maxRecDepth 100000
set_option linter.unusedVariables false

def fpv (v : Value) : Nat → Prop := fun x => v.ownBlock = some x
/-! ### who owns which block -/
/-- new blocks go to i -/
def grab (own : Nat → Nat) (s : Nat) (i : Nat) : Nat → Nat := fun x => if x < s then own x else i
/-- a law's world: what was there when it began belongs to nobody (0), and is as it was -/
structure St (w0 : World) (own : Nat → Nat) (w : World) : Prop where
  below : Below w0.heap.size w0 w
  old : ∀ x, x < w0.heap.size → own x = 0
theorem St.start (w : World) : St w (fun _ => 0) w := ⟨Below.refl _ _, fun _ _ => rfl⟩
theorem Only.below0 {S : Nat → Prop} {w w' : World} (h : Only S w w') {b : Nat} (hb : ∀ x, x < b → ¬ S x) (hle : b ≤ w.heap.size) : Below b w w' :=
  ⟨h.os, h.tape, h.output, h.size, fun x hx => h.block x (Nat.lt_of_lt_of_le hx hle) (hb x hx)⟩
theorem St.step {w0 w w' : World} {own : Nat → Nat} (h : St w0 own w) {i : Nat} (hi : i ≠ 0) {S : Nat → Prop} (ho : Only S w w') (hS : ∀ x, S x → own x = i) : St w0 (grab own w.heap.size i) w' := by
  refine ⟨h.below.trans (ho.below0 (fun x hx hs => hi ?_) h.below.size), fun x hx => ?_⟩
  · rw [← hS x hs, h.old x hx]
  · unfold grab
    rw [if_pos (Nat.lt_of_lt_of_le hx h.below.size)]
    exact h.old x hx
theorem grab_new {own : Nat → Nat} {s i x : Nat} (h : s ≤ x) : grab own s i x = i := by unfold grab; rw [if_neg (by omega)]
theorem grab_old {own : Nat → Nat} {s i x : Nat} (h : x < s) : grab own s i x = own x := by unfold grab; rw [if_pos h]
/-- F belongs to i, and is made -/
def Own (own : Nat → Nat) (i : Nat) (w : World) (F : Nat → Prop) : Prop := ∀ x, F x → own x = i ∧ x < w.heap.size
theorem Own.keep {own : Nat → Nat} {i j : Nat} {w w' : World} {F : Nat → Prop} (h : Own own i w F) (hs : w.heap.size ≤ w'.heap.size) : Own (grab own w.heap.size j) i w' F := fun x hx =>
  ⟨by rw [grab_old (h x hx).2]; exact (h x hx).1, Nat.lt_of_lt_of_le (h x hx).2 hs⟩
theorem Own.apart {own : Nat → Nat} {i j : Nat} {w : World} {F : Nat → Prop} (h : Own own i w F) {S : Nat → Prop} (hS : ∀ x, S x → own x = j) (hij : i ≠ j) : ∀ x, F x → ¬ S x := fun x hx hs =>
  hij ((h x hx).1.symm.trans (hS x hs))
theorem Own.turn {own : Nat → Nat} {i : Nat} {w w' : World} {F F' : Nat → Prop} (h : Own own i w F) (hlt : ∀ x, F' x → x < w'.heap.size) (hx : ∀ x, F' x → F x ∨ w.heap.size ≤ x) : Own (grab own w.heap.size i) i w' F' := fun x h' => by
  refine ⟨?_, hlt x h'⟩
  rcases hx x h' with a | a
  · rw [grab_old (h x a).2]; exact (h x a).1
  · exact grab_new a
theorem Own.new {own : Nat → Nat} {i : Nat} {w w' : World} {F' : Nat → Prop} (hlt : ∀ x, F' x → x < w'.heap.size) (hx : ∀ x, F' x → w.heap.size ≤ x) : Own (grab own w.heap.size i) i w' F' := fun x h' =>
  ⟨grab_new (hx x h'), hlt x h'⟩

/-- a thing: what holds of a world, with the blocks that it needs -/
structure Ob where
  at' : World → (Nat → Prop) → Prop
  keep : ∀ {w w' : World} {F S : Nat → Prop}, at' w F → Only S w w' → (∀ x, F x → ¬ S x) → at' w' F
  lt : ∀ {w : World} {F : Nat → Prop}, at' w F → ∀ x, F x → x < w.heap.size
def Env (w0 w : World) (obs : List Ob) : Prop := ∃ own, St w0 own w ∧ ∀ (i : Nat) (ob : Ob), obs[i]? = some ob → ∃ F, ob.at' w F ∧ Own own (i + 1) w F
theorem Env.start (w : World) : Env w w [] := ⟨fun _ => 0, St.start w, fun i ob h => by simp at h⟩
theorem Env.base {w0 w : World} {obs : List Ob} (h : Env w0 w obs) : Below w0.heap.size w0 w := by
  obtain ⟨own, h1, _⟩ := h; exact h1.below
theorem Only.nothing {w w' : World} (h : Below w.heap.size w w') : Only (fun _ => False) w w' := Only.of_below h _
theorem Env.below {w0 w w' : World} {obs : List Ob} (h : Env w0 w obs) (hb : Below w.heap.size w w') : Env w0 w' obs := by
  obtain ⟨own, h1, h2⟩ := h
  refine ⟨grab own w.heap.size 7777777, h1.step (by omega) (Only.nothing hb) (fun _ h => h.elim), fun i ob hi => ?_⟩
  obtain ⟨F, h3, h4⟩ := h2 i ob hi
  exact ⟨F, ob.keep h3 (Only.nothing hb) (fun _ _ h => h), h4.keep hb.size⟩
theorem Env.draw {w0 w : World} {obs : List Ob} (h : Env w0 w obs) (n : Nat) : Env w0 (w.drewN n) obs := h.below ⟨rfl, rfl, rfl, Nat.le_refl _, fun _ _ => rfl⟩
theorem Env.push {w0 w w' : World} {obs : List Ob} (h : Env w0 w obs) {F' : Nat → Prop} (ob : Ob) (hat : ob.at' w' F') (hb : Below w.heap.size w w') (hn : ∀ x, F' x → w.heap.size ≤ x) : Env w0 w' (obs ++ [ob]) := by
  obtain ⟨own, h1, h2⟩ := h
  refine ⟨grab own w.heap.size (obs.length + 1), h1.step (by omega) (Only.nothing hb) (fun _ h => h.elim), fun i ob' hi => ?_⟩
  by_cases hlt : i < obs.length
  · rw [List.getElem?_append_left hlt] at hi
    obtain ⟨F, h3, h4⟩ := h2 i ob' hi
    exact ⟨F, ob'.keep h3 (Only.nothing hb) (fun _ _ h => h), h4.keep hb.size⟩
  · by_cases he : i = obs.length
    · subst he
      simp at hi
      subst hi
      exact ⟨F', hat, Own.new (ob.lt hat) hn⟩
    · rw [List.getElem?_eq_none (by simp; omega)] at hi
      cases hi
theorem Env.get {w0 w : World} {obs : List Ob} (h : Env w0 w obs) (i : Nat) {ob : Ob} (hi : obs[i]? = some ob) :
    ∃ F, ob.at' w F ∧ (∀ x, x < w0.heap.size → ¬ F x) ∧ (∀ (j : Nat) (ob2 : Ob), j ≠ i → obs[j]? = some ob2 → ∃ F2, ob2.at' w F2 ∧ ∀ x, F2 x → ¬ F x) ∧
      ∀ (w' : World) (F' : Nat → Prop) (ob' : Ob), ob'.at' w' F' → Only F w w' → (∀ x, F' x → F x ∨ w.heap.size ≤ x) → Env w0 w' (obs.set i ob') := by
  obtain ⟨own, h1, h2⟩ := h
  obtain ⟨F, h3, h4⟩ := h2 i ob hi
  refine ⟨F, h3, fun x hx hF => ?_, fun j ob2 hj hj2 => ?_, fun w' F' ob' hat ho hx => ?_⟩
  · have := (h4 x hF).1
    rw [h1.old x hx] at this
    omega
  · obtain ⟨F2, h5, h6⟩ := h2 j ob2 hj2
    exact ⟨F2, h5, h6.apart (j := i + 1) (fun x hx => (h4 x hx).1) (by omega)⟩
  · refine ⟨grab own w.heap.size (i + 1), h1.step (by omega) ho (fun x hx => (h4 x hx).1), fun j ob2 hj => ?_⟩
    by_cases e : j = i
    · subst e
      have hlt : j < obs.length := (List.getElem?_eq_some_iff.1 hi).1
      rw [List.getElem?_set_self hlt] at hj
      cases hj
      exact ⟨F', hat, h4.turn (ob'.lt hat) hx⟩
    · rw [List.getElem?_set_ne (fun h => e h.symm)] at hj
      obtain ⟨F2, h5, h6⟩ := h2 j ob2 hj
      exact ⟨F2, ob2.keep h5 ho (h6.apart (j := i + 1) (fun x hx => (h4 x hx).1) (by omega)), h6.keep ho.size⟩
/-- two things turn in one call -/
theorem Env.get2 {w0 w : World} {obs : List Ob} (h : Env w0 w obs) (i k : Nat) (hik : i ≠ k) {oa ob : Ob} (hi : obs[i]? = some oa) (hk : obs[k]? = some ob) :
    ∃ F G, oa.at' w F ∧ ob.at' w G ∧ (∀ x, x < w0.heap.size → ¬ F x) ∧ (∀ x, x < w0.heap.size → ¬ G x) ∧ (∀ x, F x → ¬ G x) ∧
      ∀ (w' : World) (F' G' : Nat → Prop) (oa' ob' : Ob), oa'.at' w' F' → ob'.at' w' G' → Only (fun x => F x ∨ G x) w w' → (∀ x, F' x → F x ∨ w.heap.size ≤ x) → (∀ x, G' x → G x ∨ w.heap.size ≤ x) → (∀ x, F' x → ¬ G' x) →
        Env w0 w' ((obs.set i oa').set k ob') := by
  classical
  obtain ⟨own, h1, h2⟩ := h
  obtain ⟨F, f1, f2⟩ := h2 i oa hi
  obtain ⟨G, g1, g2⟩ := h2 k ob hk
  refine ⟨F, G, f1, g1, fun x hx hF => ?_, fun x hx hG => ?_, f2.apart (fun x hx => (g2 x hx).1) (by omega), fun w' F' G' oa' ob' ha hb ho hF hG hFG => ?_⟩
  · have := (f2 x hF).1
    rw [h1.old x hx] at this
    omega
  · have := (g2 x hG).1
    rw [h1.old x hx] at this
    omega
  · let own' : Nat → Nat := fun x => if x < w.heap.size then own x else if F' x then i + 1 else k + 1
    have hold : ∀ x, x < w.heap.size → own' x = own x := fun x hx => if_pos hx
    have hlt1 : i < obs.length := (List.getElem?_eq_some_iff.1 hi).1
    have hlt2 : k < obs.length := (List.getElem?_eq_some_iff.1 hk).1
    have hst : St w0 own' w' := by
      refine ⟨h1.below.trans (ho.below0 (fun x hx hs => ?_) h1.below.size), fun x hx => ?_⟩
      · rcases hs with hs | hs
        · have := (f2 x hs).1; rw [h1.old x hx] at this; omega
        · have := (g2 x hs).1; rw [h1.old x hx] at this; omega
      · rw [hold x (Nat.lt_of_lt_of_le hx h1.below.size)]; exact h1.old x hx
    refine ⟨own', hst, fun j ob2 hj => ?_⟩
    by_cases ek : j = k
    · subst ek
      rw [List.getElem?_set_self (by simpa using hlt2)] at hj
      cases hj
      refine ⟨G', hb, fun x hx => ⟨?_, ob'.lt hb x hx⟩⟩
      rcases hG x hx with hh | hh
      · rw [hold x (g2 x hh).2]; exact (g2 x hh).1
      · show (if x < w.heap.size then own x else if F' x then i + 1 else j + 1) = j + 1
        rw [if_neg (by omega), if_neg (fun hf => hFG x hf hx)]
    · rw [List.getElem?_set_ne (fun h => ek h.symm)] at hj
      by_cases ei : j = i
      · subst ei
        rw [List.getElem?_set_self hlt1] at hj
        cases hj
        refine ⟨F', ha, fun x hx => ⟨?_, oa'.lt ha x hx⟩⟩
        rcases hF x hx with hh | hh
        · rw [hold x (f2 x hh).2]; exact (f2 x hh).1
        · show (if x < w.heap.size then own x else if F' x then j + 1 else k + 1) = j + 1
          rw [if_neg (by omega), if_pos hx]
      · rw [List.getElem?_set_ne (fun h => ei h.symm)] at hj
        obtain ⟨F2, h5, h6⟩ := h2 j ob2 hj
        refine ⟨F2, ob2.keep h5 ho (fun x hx hs => ?_), fun x hx => ⟨?_, Nat.lt_of_lt_of_le (h6 x hx).2 ho.size⟩⟩
        · rcases hs with hs | hs
          · have a := (f2 x hs).1; have b := (h6 x hx).1; omega
          · have a := (g2 x hs).1; have b := (h6 x hx).1; omega
        · rw [hold x (h6 x hx).2]; exact (h6 x hx).1

/-- some of the things, in another order: 'f j' is where thing j stood -/
theorem Env.pick {w0 w : World} {obs obs' : List Ob} (h : Env w0 w obs) (f : Nat → Nat) (hinj : ∀ i j, i < obs'.length → j < obs'.length → f i = f j → i = j) (hf : ∀ (j : Nat) (ob : Ob), obs'[j]? = some ob → obs[f j]? = some ob) : Env w0 w obs' := by
  classical
  obtain ⟨own, h1, h2⟩ := h
  let own' : Nat → Nat := fun x => if hx : ∃ j, j < obs'.length ∧ f j + 1 = own x then (Classical.choose hx) + 1 else 0
  have hown : ∀ x j, j < obs'.length → own x = f j + 1 → own' x = j + 1 := by
    intro x j hj he
    have hx : ∃ j, j < obs'.length ∧ f j + 1 = own x := ⟨j, hj, he.symm⟩
    show (if hx : ∃ j, j < obs'.length ∧ f j + 1 = own x then (Classical.choose hx) + 1 else 0) = j + 1
    rw [dif_pos hx]
    have hs := Classical.choose_spec hx
    have := hinj _ _ hs.1 hj (by omega)
    omega
  refine ⟨own', ⟨h1.below, fun x hx => ?_⟩, fun j ob hj => ?_⟩
  · show (if hx : ∃ j, j < obs'.length ∧ f j + 1 = own x then (Classical.choose hx) + 1 else 0) = 0
    rw [dif_neg]
    rintro ⟨j, _, he⟩
    rw [h1.old x hx] at he
    omega
  · obtain ⟨F, h3, h4⟩ := h2 (f j) ob (hf j ob hj)
    have hlt : j < obs'.length := (List.getElem?_eq_some_iff.1 hj).1
    exact ⟨F, h3, fun x hx => ⟨hown x j hlt (h4 x hx).1, (h4 x hx).2⟩⟩
theorem ownsRow_keep {w w' : World} {base t size n : Nat} {v : Value} {cs : List Value} (h : w.ownsRow base t size v n cs) {S : Nat → Prop} (ho : Only S w w') (hd : ∀ x, fpv v x → ¬ S x) : w'.ownsRow base t size v n cs := by
  refine ⟨h.1, ?_⟩
  rcases h.2 with h2 | ⟨g, cap, cur, rfl, hb, hg, r⟩
  · exact .inl h2
  · exact .inr ⟨g, cap, cur, rfl, hb, (ho.block g (Array.getElem?_eq_some_iff.1 hg).1 (hd g rfl)).trans hg, r⟩
/-- a block of known cells -/
def obK (b : Nat) (t : TypeId) (cs : Array Value) : Ob := ⟨fun w F => Blk w b t cs ∧ F = fun x => x = b, fun h ho hd => ⟨h.1.only ho (hd b (by rw [h.2])), h.2⟩, fun h => by rw [h.2]; rintro x rfl; exact h.1.lt⟩
theorem Env.blk {w0 w : World} {obs : List Ob} (h : Env w0 w obs) (i : Nat) {b : Nat} {t : TypeId} {cs : Array Value} (hi : obs[i]? = some (obK b t cs)) : Blk w b t cs := by
  obtain ⟨F, h1, _⟩ := h.get i hi
  exact h1.1
theorem Env.pushK {w0 w w' : World} {obs : List Ob} (h : Env w0 w obs) {b : Nat} {t : TypeId} {cs : Array Value} (hb : Blk w' b t cs) (hw : Below w.heap.size w w') (hn : w.heap.size ≤ b) : Env w0 w' (obs ++ [obK b t cs]) :=
  h.push (F' := fun x => x = b) (obK b t cs) ⟨hb, rfl⟩ hw (fun x hx => by rw [hx]; exact hn)
theorem Env.newK {w0 w : World} {obs : List Ob} (h : Env w0 w obs) (t : TypeId) (cs : Array Value) : Env w0 (w.alloc (.cells cs t)) (obs ++ [obK w.heap.size t cs]) :=
  h.pushK (Blk.new w t cs) ((Below.refl _ _).alloc (Nat.le_refl _) _) (Nat.le_refl _)
theorem Env.turnBlk {w0 w w' : World} {obs : List Ob} (h : Env w0 w obs) (i : Nat) {b : Nat} {t : TypeId} {cs cs' : Array Value} (hi : obs[i]? = some (obK b t cs)) (hb : Blk w' b t cs') (ho : Only (fun x => x = b) w w') : Env w0 w' (obs.set i (obK b t cs')) := by
  obtain ⟨F, h1, _, _, h4⟩ := h.get i hi
  obtain ⟨_, rfl⟩ := h1
  exact h4 w' (fun x => x = b) (obK b t cs') ⟨hb, rfl⟩ ho (fun x hx => .inl hx)
/-- a slice value that owns the cells cs, at a row of its own -/
def obE (e : TypeId) (size : Nat) (v : Value) (n : Nat) (cs : List Value) : Ob := ⟨fun w F => w.ownsRow 0 e size v n cs ∧ F = fpv v, fun h ho hd => ⟨ownsRow_keep h.1 ho (by rw [← h.2]; exact hd), h.2⟩, fun h => by rw [h.2]; exact fun x hx => (World.ownsRow.lt h.1 x hx).2⟩
theorem Env.row {w0 w : World} {obs : List Ob} (h : Env w0 w obs) (i : Nat) {e : TypeId} {size n : Nat} {v : Value} {cs : List Value} (hi : obs[i]? = some (obE e size v n cs)) : w.ownsRow 0 e size v n cs := by
  obtain ⟨F, h1, _⟩ := h.get i hi
  exact h1.1
theorem Env.turnE {w0 w w' : World} {obs : List Ob} (h : Env w0 w obs) (i : Nat) {e : TypeId} {size n : Nat} {v : Value} {cs : List Value} (hi : obs[i]? = some (obE e size v n cs)) {n' : Nat} {cs' : List Value} (hb : w'.ownsRow 0 e size v n' cs') (ho : Only (fpv v) w w') :
    Env w0 w' (obs.set i (obE e size v n' cs')) := by
  obtain ⟨F, h1, _, _, h4⟩ := h.get i hi
  obtain ⟨_, rfl⟩ := h1
  exact h4 w' (fpv v) (obE e size v n' cs') ⟨hb, rfl⟩ ho (fun x hx => .inl hx)
theorem Env.pushE {w0 w w' : World} {obs : List Ob} (h : Env w0 w obs) {e : TypeId} {size n : Nat} {v : Value} {cs : List Value} (hb : w'.ownsRow 0 e size v n cs) (hw : Below w.heap.size w w') (hn : ∀ x, fpv v x → w.heap.size ≤ x) : Env w0 w' (obs ++ [obE e size v n cs]) :=
  h.push (obE e size v n cs) ⟨hb, rfl⟩ hw hn
end Go.Proofs.Ytpampcokonicfaa
/- Ledgers: runs as plain data, what a note makes of them, how a ledger lies in memory. -/
namespace Go.Proofs.Ytpampcokonicfaa
open Go.RowKit

/-! ### in memory -/
/-- the blocks of a slice value -/
def fp (v : Value) : Nat → Prop := fun x => v.ownBlock = some x
/-- a slice value that owns the runs rs, at a row of its own -/
def RunsAt (w : World) (v : Value) (rs : List Rn) : Prop := w.ownsRow 0 97 3 v rs.length (flatR rs)
theorem RunsAt.keep {w w' : World} {v : Value} {rs : List Rn} (h : RunsAt w v rs) {S : Nat → Prop} (ho : Only S w w') (hd : ∀ x, fp v x → ¬ S x) : RunsAt w' v rs := by
  refine ⟨h.1, ?_⟩
  rcases h.2 with h2 | ⟨g, cap, cur, rfl, hb, hg, r⟩
  · exact .inl h2
  · exact .inr ⟨g, cap, cur, rfl, hb, (ho.block g (Array.getElem?_eq_some_iff.1 hg).1 (hd g rfl)).trans hg, r⟩
theorem RunsAt.lt {w : World} {v : Value} {rs : List Rn} (h : RunsAt w v rs) : ∀ x, fp v x → x < w.heap.size := fun x hx => (World.ownsRow.lt h x hx).2
theorem RunsAt.nil (w : World) : RunsAt w (.slice none 0 0) [] := World.ownsRow_nil w 0 _ 3
theorem RunsAt.form {w : World} {v : Value} {rs : List Rn} (h : RunsAt w v rs) (h0 : 0 < rs.length) : ∃ g cap, v = .slice (some ⟨g, 0, none⟩) rs.length cap ∧ g < w.heap.size := by
  obtain ⟨g, cap, hv, _, hlt⟩ := World.ownsRow.form h h0
  exact ⟨g, cap, hv, hlt⟩
theorem RunsAt.nil_of {w : World} {v : Value} (h : RunsAt w v []) : ∃ ao cap, v = .slice ao 0 cap := by
  rcases h.2 with ⟨hv, _⟩ | ⟨g, cap, cur, hv, _⟩
  · exact ⟨none, 0, hv⟩
  · exact ⟨some ⟨g, 0, none⟩, cap, hv⟩
theorem RunsAt.any {w : World} {v : Value} {rs : List Rn} (h : RunsAt w v rs) : ∃ ao cap, v = .slice ao rs.length cap := by
  rcases h.2 with ⟨hv, h0⟩ | ⟨g, cap, cur, hv, _⟩
  · exact ⟨none, 0, by rw [h0]; exact hv⟩
  · exact ⟨some ⟨g, 0, none⟩, cap, hv⟩
theorem RunsAt.cells {w : World} {g cap : Nat} {rs : List Rn} (h : RunsAt w (.slice (some ⟨g, 0, none⟩) rs.length cap) rs) (i : Nat) (r : Rn) (hr : rs[i]? = some r) :
    w.cell? ⟨g, i * 3, none⟩ = some (.int .u8 r.k) ∧ w.cell? ⟨g, i * 3 + 1, none⟩ = some (.int .i64 r.s) ∧ w.cell? ⟨g, i * 3 + 2, none⟩ = some (.int .i64 r.c) := by
  have hi : i < rs.length := (List.getElem?_eq_some_iff.1 hr).1
  obtain ⟨h1, h2, h3⟩ := flatR_at rs i r hr
  refine ⟨?_, ?_, ?_⟩
  · rw [World.ownsRow.cellAt h (i * 3) (by omega), h1]
  · rw [World.ownsRow.cellAt h (i * 3 + 1) (by omega), h2]
  · rw [World.ownsRow.cellAt h (i * 3 + 2) (by omega), h3]

/-- the program's ledger: its block b holds the runs' slice v and the number of events -/
structure LedP (w : World) (b : Nat) (v : Value) (rs : List Rn) : Prop where
  blk : Blk w b 94 #[v, .int .i64 (tot rs)]
  row : RunsAt w v rs
  apart : ¬ fp v b
  posi : Posi rs
/-- the document's ledger -/
structure LedR (w : World) (b : Nat) (v : Value) (rs : List Rn) : Prop where
  blk : Blk w b 100 #[v]
  row : RunsAt w v rs
  apart : ¬ fp v b
  posi : Posi rs
/-- the blocks of a ledger -/
def lfp (b : Nat) (v : Value) : Nat → Prop := fun x => x = b ∨ fp v x
theorem LedP.keep {w w' : World} {b : Nat} {v : Value} {rs : List Rn} (h : LedP w b v rs) {S : Nat → Prop} (ho : Only S w w') (hd : ∀ x, lfp b v x → ¬ S x) : LedP w' b v rs :=
  ⟨h.blk.only ho (hd b (.inl rfl)), h.row.keep ho (fun x hx => hd x (.inr hx)), h.apart, h.posi⟩
theorem LedR.keep {w w' : World} {b : Nat} {v : Value} {rs : List Rn} (h : LedR w b v rs) {S : Nat → Prop} (ho : Only S w w') (hd : ∀ x, lfp b v x → ¬ S x) : LedR w' b v rs :=
  ⟨h.blk.only ho (hd b (.inl rfl)), h.row.keep ho (fun x hx => hd x (.inr hx)), h.apart, h.posi⟩
theorem LedP.lt {w : World} {b : Nat} {v : Value} {rs : List Rn} (h : LedP w b v rs) : ∀ x, lfp b v x → x < w.heap.size := fun x hx => by
  rcases hx with rfl | hx
  · exact h.blk.lt
  · exact h.row.lt x hx
theorem LedR.lt {w : World} {b : Nat} {v : Value} {rs : List Rn} (h : LedR w b v rs) : ∀ x, lfp b v x → x < w.heap.size := fun x hx => by
  rcases hx with rfl | hx
  · exact h.blk.lt
  · exact h.row.lt x hx
/-- what a note leaves: the new runs, in the old blocks and new ones; nothing else has turned -/
def NotedP (b : Nat) (v : Value) (rs : List Rn) (w : World) (e : Ending) (w' : World) : Prop :=
  e = .returned (.tuple #[]) ∧ ∃ v', LedP w' b v' rs ∧ Only (lfp b v) w w' ∧ ∀ x, fp v' x → fp v x ∨ w.heap.size ≤ x
def NotedR (b : Nat) (v : Value) (rs : List Rn) (w : World) (e : Ending) (w' : World) : Prop :=
  e = .returned (.tuple #[]) ∧ ∃ v', LedR w' b v' rs ∧ Only (lfp b v) w w' ∧ ∀ x, fp v' x → fp v x ∨ w.heap.size ≤ x

theorem flatR_set_last (rs : List Rn) (r : Rn) (c : Int) : (flatR (rs ++ [r])).set (rs.length * 3 + 2) (.int .i64 c) = flatR (rs ++ [⟨r.k, r.s, c⟩]) := by
  rw [flatR_append, flatR_append, flatR_one, flatR_one, List.set_append_right _ _ (by rw [flatR_length]; omega)]
  rw [flatR_length, show rs.length * 3 + 2 - rs.length * 3 = 2 from by omega]
  rfl
theorem RunsAt.last {w : World} {g cap : Nat} {rs : List Rn} {r : Rn} (h : RunsAt w (.slice (some ⟨g, 0, none⟩) (rs ++ [r]).length cap) (rs ++ [r])) (c : Int) :
    RunsAt (w.setCell ⟨g, rs.length * 3 + 2, none⟩ (.int .i64 c)) (.slice (some ⟨g, 0, none⟩) (rs ++ [r]).length cap) (rs ++ [⟨r.k, r.s, c⟩]) := by
  have h1 := (World.ownsRow.stored h (rs.length * 3 + 2) (.int .i64 c)).1
  rw [flatR_set_last] at h1
  have e : (rs ++ [(⟨r.k, r.s, c⟩ : Rn)]).length = (rs ++ [r]).length := by simp
  unfold RunsAt
  rw [e]
  exact h1
theorem LedP.draw {w : World} {b : Nat} {v : Value} {rs : List Rn} (h : LedP w b v rs) (n : Nat) : LedP (w.drewN n) b v rs := ⟨h.blk, h.row, h.apart, h.posi⟩
theorem LedR.draw {w : World} {b : Nat} {v : Value} {rs : List Rn} (h : LedR w b v rs) (n : Nat) : LedR (w.drewN n) b v rs := ⟨h.blk, h.row, h.apart, h.posi⟩
theorem Posi.last {rs : List Rn} {r : Rn} (h : Posi (rs ++ [r])) (n : Int) (hn : 1 ≤ n) : Posi (rs ++ [⟨r.k, r.s, r.c + n⟩]) := by
  have := h.note r.k r.s n hn
  rwa [noteL_same] at this
theorem NotedP.same {w w1 : World} {b g cap : Nat} {rs : List Rn} {r : Rn} {n : Int} (h : LedP w b (.slice (some ⟨g, 0, none⟩) (rs ++ [r]).length cap) (rs ++ [r])) (hn : 1 ≤ n) (ho : Only (fun x => x = b) w w1)
    (hb : Blk w1 b 94 #[.slice (some ⟨g, 0, none⟩) (rs ++ [r]).length cap, .int .i64 (tot (rs ++ [r]) + n)]) :
    NotedP b (.slice (some ⟨g, 0, none⟩) (rs ++ [r]).length cap) (rs ++ [⟨r.k, r.s, r.c + n⟩]) w (.returned (.tuple #[])) (w1.setCell ⟨g, rs.length * 3 + 2, none⟩ (.int .i64 (r.c + n))) := by
  have hne : ¬ g = b := fun e => h.apart (by rw [← e]; rfl)
  have hrow := h.row.keep ho (fun x hx he => h.apart (he ▸ hx))
  refine ⟨rfl, _, ⟨?_, hrow.last _, h.apart, h.posi.last n hn⟩, ?_, fun x hx => .inl hx⟩
  · have e : tot (rs ++ [⟨r.k, r.s, r.c + n⟩]) = tot (rs ++ [r]) + n := by rw [tot_append, tot_append, tot_one, tot_one]; simp; omega
    rw [e]
    exact hb.set_ne (fun e => hne e.symm) _
  · exact (ho.mono (fun x hx => .inl hx)).set (.inl (.inr rfl)) _
theorem NotedR.same {w w1 : World} {b g cap : Nat} {rs : List Rn} {r : Rn} {n : Int} (h : LedR w b (.slice (some ⟨g, 0, none⟩) (rs ++ [r]).length cap) (rs ++ [r])) (hn : 1 ≤ n) (ho : Only (fun x => x = b) w w1)
    (hb : Blk w1 b 100 #[.slice (some ⟨g, 0, none⟩) (rs ++ [r]).length cap]) :
    NotedR b (.slice (some ⟨g, 0, none⟩) (rs ++ [r]).length cap) (rs ++ [⟨r.k, r.s, r.c + n⟩]) w (.returned (.tuple #[])) (w1.setCell ⟨g, rs.length * 3 + 2, none⟩ (.int .i64 (r.c + n))) := by
  have hne : ¬ g = b := fun e => h.apart (by rw [← e]; rfl)
  have hrow := h.row.keep ho (fun x hx he => h.apart (he ▸ hx))
  refine ⟨rfl, _, ⟨hb.set_ne (fun e => hne e.symm) _, hrow.last _, h.apart, h.posi.last n hn⟩, (ho.mono (fun x hx => .inl hx)).set (.inl (.inr rfl)) _, fun x hx => .inl hx⟩
theorem NotedP.draw {b : Nat} {v : Value} {rs : List Rn} {w : World} {e : Ending} {w' : World} (h : NotedP b v rs w e w') (n : Nat) : NotedP b v rs w e (w'.drewN n) := by
  obtain ⟨he, v', h1, h2, h3⟩ := h
  exact ⟨he, v', h1.draw n, h2.draw n, h3⟩
theorem NotedR.draw {b : Nat} {v : Value} {rs : List Rn} {w : World} {e : Ending} {w' : World} (h : NotedR b v rs w e w') (n : Nat) : NotedR b v rs w e (w'.drewN n) := by
  obtain ⟨he, v', h1, h2, h3⟩ := h
  exact ⟨he, v', h1.draw n, h2.draw n, h3⟩
/-- behind an append of one run: the slice is stored back -/
theorem NotedP.more {w w1 w2 : World} {b g cap : Nat} {v : Value} {rs : List Rn} {k s n : Int} {N : Nat} (hN : N = rs.length) (h : LedP w b v rs) (hn : 1 ≤ n) (ho : Only (fun x => x = b) w w1)
    (hb : Blk w1 b 94 #[v, .int .i64 (tot rs + n)]) (hown : w2.ownsRow 0 97 3 (.slice (some ⟨g, 0, none⟩) (N + 1) cap) (N + 1) (flatR rs ++ [.int .u8 k, .int .i64 s, .int .i64 n]))
    (hg : w1.grownBy w2 v.ownBlock) (hat : v.ownBlock = some g ∨ w.heap.size ≤ g) :
    NotedP b v (rs ++ [⟨k, s, n⟩]) w (.returned (.tuple #[])) (w2.setCell ⟨b, 0, none⟩ (.slice (some ⟨g, 0, none⟩) (N + 1) cap)) := by
  subst hN
  have hgb : ¬ g = b := by
    rintro rfl
    rcases hat with hat | hat
    · exact h.apart hat
    · have := h.blk.lt; omega
  have hvb : ¬ v.ownBlock = some b := h.apart
  refine ⟨rfl, .slice (some ⟨g, 0, none⟩) (rs.length + 1) cap, ⟨?_, ?_, ?_, ?_⟩, ?_, ?_⟩
  · have hb2 : Blk w2 b 94 #[v, .int .i64 (tot rs + n)] := (hg.block b hb.lt (fun e => hvb e.symm)).trans hb
    have e : tot (rs ++ [⟨k, s, n⟩]) = tot rs + n := by rw [tot_append, tot_one]
    rw [e]
    exact hb2.set 0 _
  · have hx : w2.ownsRow 0 97 3 (.slice (some ⟨g, 0, none⟩) (rs.length + 1) cap) (rs ++ [(⟨k, s, n⟩ : Rn)]).length (flatR (rs ++ [⟨k, s, n⟩])) := by
      rw [flatR_append, flatR_one]
      have e : (rs ++ [(⟨k, s, n⟩ : Rn)]).length = rs.length + 1 := by simp
      rw [e]
      exact hown
    refine RunsAt.keep (w := w2) hx ((Only.refl (fun x => x = b) w2).set (.inl rfl) _) (fun x hx he => ?_)
    have : g = x := by simpa [fp, Value.ownBlock] using hx
    omega
  · intro he
    exact hgb (by simpa [fp, Value.ownBlock] using he)
  · intro x hx
    rcases List.mem_append.1 hx with hx | hx
    · exact h.posi x hx
    · simp at hx; subst hx; exact hn
  · exact ((ho.mono (S' := lfp b v) (fun x hx => .inl hx)).grown hg (fun k hk => .inl (.inr hk))).set (.inl (.inl rfl)) _
  · intro x hx
    have e : g = x := by simpa [fp, Value.ownBlock] using hx
    subst e
    exact hat
theorem NotedR.more {w w1 w2 : World} {b g cap : Nat} {v : Value} {rs : List Rn} {k s n : Int} {N : Nat} (hN : N = rs.length) (h : LedR w b v rs) (hn : 1 ≤ n) (ho : Only (fun x => x = b) w w1)
    (hb : Blk w1 b 100 #[v]) (hown : w2.ownsRow 0 97 3 (.slice (some ⟨g, 0, none⟩) (N + 1) cap) (N + 1) (flatR rs ++ [.int .u8 k, .int .i64 s, .int .i64 n]))
    (hg : w1.grownBy w2 v.ownBlock) (hat : v.ownBlock = some g ∨ w.heap.size ≤ g) :
    NotedR b v (rs ++ [⟨k, s, n⟩]) w (.returned (.tuple #[])) (w2.setCell ⟨b, 0, none⟩ (.slice (some ⟨g, 0, none⟩) (N + 1) cap)) := by
  subst hN
  have hgb : ¬ g = b := by
    rintro rfl
    rcases hat with hat | hat
    · exact h.apart hat
    · have := h.blk.lt; omega
  have hvb : ¬ v.ownBlock = some b := h.apart
  refine ⟨rfl, .slice (some ⟨g, 0, none⟩) (rs.length + 1) cap, ⟨?_, ?_, ?_, ?_⟩, ?_, ?_⟩
  · have hb2 : Blk w2 b 100 #[v] := (hg.block b hb.lt (fun e => hvb e.symm)).trans hb
    exact hb2.set 0 _
  · have hx : w2.ownsRow 0 97 3 (.slice (some ⟨g, 0, none⟩) (rs.length + 1) cap) (rs ++ [(⟨k, s, n⟩ : Rn)]).length (flatR (rs ++ [⟨k, s, n⟩])) := by
      rw [flatR_append, flatR_one]
      have e : (rs ++ [(⟨k, s, n⟩ : Rn)]).length = rs.length + 1 := by simp
      rw [e]
      exact hown
    refine RunsAt.keep (w := w2) hx ((Only.refl (fun x => x = b) w2).set (.inl rfl) _) (fun x hx he => ?_)
    have : g = x := by simpa [fp, Value.ownBlock] using hx
    omega
  · intro he
    exact hgb (by simpa [fp, Value.ownBlock] using he)
  · intro x hx
    rcases List.mem_append.1 hx with hx | hx
    · exact h.posi x hx
    · simp at hx; subst hx; exact hn
  · exact ((ho.mono (S' := lfp b v) (fun x hx => .inl hx)).grown hg (fun k hk => .inl (.inr hk))).set (.inl (.inl rfl)) _
  · intro x hx
    have e : g = x := by simpa [fp, Value.ownBlock] using hx
    subst e
    exact hat
end Go.Proofs.Ytpampcokonicfaa
/- The contract of the program's NoteTimes: three ways (the last run's event; another event or the first; no event). Conditions: the sum of all counts stays below 2^63, at most 2^40 runs. -/
namespace Go.Proofs.Ytpampcokonicfaa
open Go.RowKit
set_option maxRecDepth 100000
set_option maxHeartbeats 1000000 in
theorem noteTimes_same (b g cap : Nat) (rs : List Rn) (r : Rn) (n : Int) (w : World) (h : LedP w b (.slice (some ⟨g, 0, none⟩) (rs ++ [r]).length cap) (rs ++ [r])) (hn : 1 ≤ n) (hb : tot (rs ++ [r]) + n < 9223372036854775808) :
    Calls Try.prog 66 #[.pointer (some ⟨b, 0, none⟩), .agg #[.int .u8 r.k, .int .i64 r.s], .int .i64 n] w (NotedP b (.slice (some ⟨g, 0, none⟩) (rs ++ [r]).length cap) (rs ++ [⟨r.k, r.s, r.c + n⟩]) w) := by
  obtain ⟨d1, d2, d3⟩ := h.row.cells rs.length r (by simp)
  have hp := h.posi r (by simp)
  have ht : r.c ≤ tot (rs ++ [r]) := by
    have := tot_nonneg rs (fun x hx => h.posi x (by simp [hx]))
    rw [tot_append, tot_one]; omega
  have c0 := h.blk.cellAt 0 (v := .slice (some ⟨g, 0, none⟩) (rs ++ [r]).length cap) rfl
  have c1 := h.blk.cellAt 1 (v := .int .i64 (tot (rs ++ [r]))) rfl
  have f1 := h.blk.unfrozen 1
  have fg := World.ownsRow.frozenAt h.row (rs.length * 3 + 2)
  have hbl := h.blk.lt
  have hgl : g < w.heap.size := h.row.lt g rfl
  have hne : ¬ b = g := fun e => h.apart (by rw [e]; rfl)
  have hne' : ¬ g = b := fun e => hne e.symm
  have ht0 : 0 ≤ tot (rs ++ [r]) := by omega
  have H := Lib.hid h
  clear h
  have hlen : (rs ++ [r]).length = rs.length + 1 := by simp
  rw [hlen] at c0
  generalize hT : tot (rs ++ [r]) = T at hb c1 ht0 ht
  have HT := Lib.hid hT
  clear hT
  obtain ⟨rk, rs', rc⟩ := r
  generalize hL : rs.length = L at c0 d1 d2 d3 fg
  have HL := Lib.hid hL
  clear hL hlen
  have hl63 : L < 9223372036854775807 := by
    have h1 := tot_nonneg _ H.out.posi
    rw [List.length_append] at h1
    have h2 := HL.out
    simp only [List.length_cons, List.length_nil] at h1
    have h3 := HT.out
    omega
  go_enter Try.func66, Try.ntmps66
  go_wp2_with fail
  go_quiet (fail)
  go_wp2_with fail
  refine bodyPost_ret (results_none rfl _ _ _) rfl ?_
  have e := HL.out
  subst e
  have ho : Only (fun x => x = b) w (((w.setCell ⟨b, 1, none⟩ (.int .i64 (T + n))).alloc (.cells #[.int .u8 rk, .int .i64 rs'] 81)).drewN nq) := (((Only.refl (fun x => x = b) w).set (.inl rfl) _).alloc _).draw _
  have hb2 := (((H.out.blk.set 1 (.int .i64 (T + n))).alloc (.cells #[.int .u8 rk, .int .i64 rs'] 81)).draw nq)
  have hb3 : Blk (((w.setCell ⟨b, 1, none⟩ (.int .i64 (T + n))).alloc (.cells #[.int .u8 rk, .int .i64 rs'] 81)).drewN nq) b 94 #[.slice (some ⟨g, 0, none⟩) (rs ++ [(⟨rk, rs', rc⟩ : Rn)]).length cap, .int .i64 (tot (rs ++ [(⟨rk, rs', rc⟩ : Rn)]) + n)] := by
    rw [HT.out]
    exact hb2
  exact NotedP.same (r := ⟨rk, rs', rc⟩) H.out hn ho hb3

/-- behind the count: the ledger's block, the event's copy -/
structure NewS (b : Nat) (v : Value) (T k s : Int) (w w' : World) : Prop where
  only : Only (fun x => x = b) w w'
  blk : Blk w' b 94 #[v, .int .i64 T]
  ev : Blk w' w.heap.size 81 #[.int .u8 k, .int .i64 s]
  size : w'.heap.size = w.heap.size + 1
structure NewS' (b : Nat) (v : Value) (T k s n : Int) (w w' : World) : Prop where
  only : Only (fun x => x = b) w w'
  blk : Blk w' b 94 #[v, .int .i64 T]
  ev : Blk w' w.heap.size 81 #[.int .u8 k, .int .i64 s]
  lit : Blk w' (w.heap.size + 1) 97 #[.int .u8 k, .int .i64 s, .int .i64 n]
  size : w'.heap.size = w.heap.size + 2
theorem NewS.start {b : Nat} {v : Value} {rs : List Rn} {T k s n : Int} {w : World} (h : LedP w b v rs) (_hT : tot rs = T) (nq : Nat) :
    NewS b v (T + n) k s w (((w.setCell ⟨b, 1, none⟩ (.int .i64 (T + n))).alloc (.cells #[.int .u8 k, .int .i64 s] 81)).drewN nq) :=
  ⟨(((Only.refl (fun x => x = b) w).set (.inl rfl) _).alloc _).draw _, ((h.blk.set 1 (.int .i64 (T + n))).alloc _).draw nq, (Blk.at (by simp) rfl : Blk ((w.setCell ⟨b, 1, none⟩ (.int .i64 (T + n))).alloc (.cells #[.int .u8 k, .int .i64 s] 81)) w.heap.size 81 #[.int .u8 k, .int .i64 s]), by show ((w.setCell ⟨b, 1, none⟩ (.int .i64 (T + n))).alloc (.cells #[.int .u8 k, .int .i64 s] 81)).heap.size = _; simp⟩
theorem NewS.lit {b : Nat} {v : Value} {T k s : Int} {w w' : World} (h : NewS b v T k s w w') (n : Int) : NewS' b v T k s n w (w'.alloc (.cells #[.int .u8 k, .int .i64 s, .int .i64 n] 97)) :=
  ⟨h.only.alloc _, h.blk.alloc _, h.ev.alloc _, Blk.at h.size.symm rfl, by simp [h.size]⟩
theorem three_cells (k s n : Int) : ∀ u ∈ [Value.int .u8 k, .int .i64 s, .int .i64 n], u.oneCell' = true := by
  intro u hu
  simp at hu
  rcases hu with rfl | rfl | rfl <;> rfl
theorem maxl {n : Nat} (h : n ≤ 5497558138880) : n + 1 ≤ maxLen := by unfold maxLen; omega
theorem byt {n : Nat} (h : n ≤ 5497558138880) : (n + 1) * 24 ≤ 140737488355328 := by omega
theorem infoRun : (Try.prog.info? 97).map (fun i => (i.zero, i.size, i.bytes)) = some (some (.agg #[.int .u8 0, .int .i64 0, .int .i64 0]), 3, 24) := by kernel_rfl
theorem NewS.drawn {b : Nat} {v : Value} {T k s : Int} {w w' : World} (h : NewS b v T k s w w') (n : Nat) : NewS b v T k s w { w' with drawn := w'.drawn + n } := ⟨⟨h.only.os, h.only.tape, h.only.output, h.only.size, h.only.block⟩, h.blk, h.ev, h.size⟩
theorem NewS.reads {b : Nat} {v : Value} {T k s n : Int} {w w' : World} (h : NewS b v T k s w w' ∨ NewS' b v T k s n w w') :
    w'.cell? ⟨b, 0, none⟩ = some v ∧ w'.cell? ⟨w.heap.size, 0, none⟩ = some (.int .u8 k) ∧ w'.cell? ⟨w.heap.size, 1, none⟩ = some (.int .i64 s) ∧ b < w'.heap.size ∧ w.heap.size < w'.heap.size := by
  rcases h with h | h
  · exact ⟨h.blk.cellAt 0 rfl, h.ev.cellAt 0 rfl, h.ev.cellAt 1 rfl, h.blk.lt, h.ev.lt⟩
  · exact ⟨h.blk.cellAt 0 rfl, h.ev.cellAt 0 rfl, h.ev.cellAt 1 rfl, h.blk.lt, h.ev.lt⟩
/-- the first run, or one of another event -/
theorem noteTimes_new (b : Nat) (v : Value) (rs : List Rn) (k s n : Int) (w : World) (h : LedP w b v rs) (hn : 1 ≤ n) (hb : tot rs + n < 9223372036854775808) (hl : rs.length ≤ 5497558138880)
    (hd : rs = [] ∨ ∃ rs0 r, rs = rs0 ++ [r] ∧ ((r.k == k) = false ∨ ((r.k == k) = true ∧ (r.s == s) = false))) :
    Calls Try.prog 66 #[.pointer (some ⟨b, 0, none⟩), .agg #[.int .u8 k, .int .i64 s], .int .i64 n] w (NotedP b v (rs ++ [⟨k, s, n⟩]) w) := by
  have ht0 : 0 ≤ tot rs := by have := tot_nonneg rs h.posi; omega
  obtain ⟨ao, cap, hv⟩ := h.row.any
  have c0 := h.blk.cellAt 0 (v := v) rfl
  have c1 := h.blk.cellAt 1 (v := .int .i64 (tot rs)) rfl
  have f1 := h.blk.unfrozen 1
  have f0 := h.blk.unfrozen 0
  have hbl := h.blk.lt
  have H := Lib.hid h
  obtain ⟨i0, hi, hz0, hz1, hz2⟩ := info_parts infoRun
  have HI := Lib.hid (And.intro hi (And.intro hz0 (And.intro hz1 hz2)))
  clear hi hz0 hz1 hz2
  rcases hd with rfl | ⟨rs0, r, rfl, hd⟩
  · clear h
    have hlz : ([] : List Rn).length = 0 := rfl
    subst hv
    have HN0 : Hid (0 = ([] : List Rn).length) := rfl
    have HL0 : Hid (0 ≤ 5497558138880) := Nat.zero_le _
    have HROW : Hid (∀ {w1 : World}, Only (fun x => x = b) w w1 → w1.ownsRow 0 97 3 (.slice ao 0 cap) 0 (flatR [])) := fun {w1} ho => H.out.row.keep ho (fun x hx he => H.out.apart (he ▸ hx))
    generalize hT : tot ([] : List Rn) = T at hb c1 ht0
    have HT := Lib.hid hT
    clear hT
    rw [hlz] at c0
    clear hlz
    go_enter Try.func66, Try.ntmps66
    go_wp2_with fail
    go_quiet (fail)
    go_wp2_with fail
    have HSt : NewS b (.slice ao 0 cap) (T + n) k s w (((w.setCell ⟨b, 1, none⟩ (.int .i64 (T + n))).alloc (.cells #[.int .u8 k, .int .i64 s] 81)).drewN nq) := NewS.start H.out HT.out nq
    generalize (((w.setCell ⟨b, 1, none⟩ (.int .i64 (T + n))).alloc (.cells #[.int .u8 k, .int .i64 s] 81)).drewN nq) = W at HSt
    refine wp_region_tame3 8 (NewS b (.slice ao 0 cap) (T + n) k s w) (NewS' b (.slice ao 0 cap) (T + n) k s n w) 1 9 (by kernel_rfl) (by kernel_rfl) (fun _ _ d _ _ h => (by cases d <;> exact h)) (HSt.drawn 1) (.inl (by decide)) ?_
    clear HSt
    simp only [List.take_succ_cons, List.take_zero, List.drop_succ_cons, List.drop_zero]
    refine wpPre_run (v := ?_) rfl (fun w' => ?_) ?_
    rotate_left
    · (go_simp; rfl)
    simp only [Act.put, List.setIfInBounds_toArray, List.set_cons_zero, List.set_cons_succ]
    refine wpPre_nil ?_
    iterate 7
      refine wpTame_run2 (v := ?_) (by decide) rfl (fun w' hS => ?_) ?_
      rotate_left
      · (obtain ⟨c0, e0, e1, _, _⟩ := NewS.reads hS; clear hS; go_simp; rfl)
      simp only [Act.put, List.setIfInBounds_toArray, List.set_cons_zero, List.set_cons_succ]
    refine wpTame_bump (v := .slice (some ⟨w.heap.size + 1, 0, none⟩) 1 1) rfl rfl (fun w' hS => ?_) ?_
    · have hz := hS.size
      have HZ := Lib.hid hS
      clear hS
      go_simp
      exact ⟨rfl, HZ.out.lit n⟩
    simp only [Act.put, List.setIfInBounds_toArray, List.set_cons_zero, List.set_cons_succ]
    refine wpTame_nil ?_
    intro w1 hS
    obtain ⟨hi, hz0, hz1, hz2⟩ := HI.out
    obtain ⟨c0, _, _, hl1, _⟩ := NewS.reads (n := n) (.inr hS)
    have hrow : w1.ownsRow 0 97 3 (.slice ao 0 cap) 0 (flatR []) := HROW.out hS.only
    refine wpList_append_lies w1 rfl _ _ 48 rfl 0 97 i0 _ 3 24 Try.underlying48 hi hz0 hz1 hz2 rfl (by decide) (.slice ao 0 cap) 0 (flatR []) rfl hrow ⟨w.heap.size + 1, 0, none⟩ 1 1 [.int .u8 k, .int .i64 s, .int .i64 n] rfl rfl (World.news_of_block hS.lit) (three_cells k s n) (by decide) (maxl HL0.out) (byt HL0.out) (Nat.zero_le _) _ rfl ?_
    intro g cap' w2 hown hgrow hat hlt
    have hne : ¬ (Value.slice ao 0 cap).ownBlock = some b := H.out.apart
    have c2 : w2.cell? ⟨b, 0, none⟩ = some (.slice ao 0 cap) := (World.grownBy.cell_far hgrow ⟨b, 0, none⟩ hl1 (fun e => hne e.symm)).trans c0
    have f2 : w2.frozen? ⟨b, 0, none⟩ = false := (World.grownBy.frozen_far hgrow ⟨b, 0, none⟩ hl1 (fun e => hne e.symm)).trans (hS.blk.unfrozen 0)
    have hat' : (Value.slice ao 0 cap).ownBlock = some g ∨ w.heap.size ≤ g := hat.imp id (fun e => by rw [e, hS.size]; omega)
    have HN : Hid (NotedP b (.slice ao 0 cap) ([] ++ [⟨k, s, n⟩]) w (.returned (.tuple #[])) (w2.setCell ⟨b, 0, none⟩ (.slice (some ⟨g, 0, none⟩) (0 + 1) cap'))) :=
      NotedP.more HN0.out H.out hn hS.only (by rw [HT.out]; exact hS.blk) hown hgrow hat'
    clear hat hat' hown hgrow hS
    go_wp2
    refine bodyPost_ret (results_none rfl _ _ _) rfl ?_
    exact HN.out
  · have hlen : (rs0 ++ [r]).length = rs0.length + 1 := by simp
    obtain ⟨g0, cap0, hv1, hgl⟩ := h.row.form (by omega)
    subst hv1
    obtain ⟨d1, d2, d3⟩ := h.row.cells rs0.length r (by simp)
    have hne : ¬ b = g0 := fun e => h.apart (by rw [e]; rfl)
    have hne' : ¬ g0 = b := fun e => hne e.symm
    have hl63 : rs0.length < 9223372036854775807 := by omega
    have HLL : Hid ((rs0 ++ [r]).length ≤ 5497558138880) := hl
    clear h hl hv
    rw [hlen] at c0
    have HN0 : Hid (rs0.length + 1 = (rs0 ++ [r]).length) := Lib.hid hlen.symm
    have HL0 : Hid (rs0.length + 1 ≤ 5497558138880) := by rw [HN0.out]; exact HLL.out
    have HROW : Hid (∀ {w1 : World}, Only (fun x => x = b) w w1 → w1.ownsRow 0 97 3 (.slice (some ⟨g0, 0, none⟩) (rs0.length + 1) cap0) (rs0.length + 1) (flatR (rs0 ++ [r]))) := fun {w1} ho => by
      have h1 := H.out.row.keep ho (fun x hx he => H.out.apart (he ▸ hx))
      unfold RunsAt at h1
      rw [hlen] at h1
      exact h1
    have H : Hid (LedP w b (.slice (some ⟨g0, 0, none⟩) (rs0.length + 1) cap0) (rs0 ++ [r])) := by
      have h1 := H.out
      rw [hlen] at h1
      exact h1
    have HNP : Hid (NotedP b (.slice (some ⟨g0, 0, none⟩) (rs0.length + 1) cap0) (rs0 ++ [r] ++ [⟨k, s, n⟩]) w = NotedP b (.slice (some ⟨g0, 0, none⟩) (rs0 ++ [r]).length cap0) (rs0 ++ [r] ++ [⟨k, s, n⟩]) w) := by rw [hlen]; rfl
    rw [← HNP.out]
    clear hlen HNP
    generalize hT : tot (rs0 ++ [r]) = T at hb c1 ht0
    have HT := Lib.hid hT
    clear hT
    generalize rs0.length = L at c0 d1 d2 d3 hl63 HN0 HL0 HROW H ⊢
    obtain ⟨rk, rs', rc⟩ := r
    dsimp only at d1 d2 d3 hd
    rcases hd with hd | ⟨hd, hd'⟩
    all_goals
      go_enter Try.func66, Try.ntmps66
      go_wp2_with fail
      have hwL : IntKind.i64.wrap (L : Int) = L := IntWalk.i64_in _ (by omega)
      go_quiet (fail)
      clear hwL
      go_wp2_with fail
      have HSt : NewS b (.slice (some ⟨g0, 0, none⟩) (L + 1) cap0) (T + n) k s w (((w.setCell ⟨b, 1, none⟩ (.int .i64 (T + n))).alloc (.cells #[.int .u8 k, .int .i64 s] 81)).drewN nq) := NewS.start H.out HT.out nq
      generalize (((w.setCell ⟨b, 1, none⟩ (.int .i64 (T + n))).alloc (.cells #[.int .u8 k, .int .i64 s] 81)).drewN nq) = W at HSt
      refine wp_region_tame3 8 (NewS b (.slice (some ⟨g0, 0, none⟩) (L + 1) cap0) (T + n) k s w) (NewS' b (.slice (some ⟨g0, 0, none⟩) (L + 1) cap0) (T + n) k s n w) 1 9 (by kernel_rfl) (by kernel_rfl) (fun _ _ d _ _ h => (by cases d <;> exact h)) (HSt.drawn 1) (.inl (by decide)) ?_
      clear HSt
      simp only [List.take_succ_cons, List.take_zero, List.drop_succ_cons, List.drop_zero]
      refine wpPre_run (v := ?_) rfl (fun w' => ?_) ?_
      rotate_left
      · (go_simp; rfl)
      simp only [Act.put, List.setIfInBounds_toArray, List.set_cons_zero, List.set_cons_succ]
      refine wpPre_nil ?_
      iterate 7
        refine wpTame_run2 (v := ?_) (by decide) rfl (fun w' hS => ?_) ?_
        rotate_left
        · (obtain ⟨c0, e0, e1, _, _⟩ := NewS.reads hS; clear hS; go_simp; rfl)
        simp only [Act.put, List.setIfInBounds_toArray, List.set_cons_zero, List.set_cons_succ]
      refine wpTame_bump (v := .slice (some ⟨w.heap.size + 1, 0, none⟩) 1 1) rfl rfl (fun w' hS => ?_) ?_
      · have hz := hS.size
        have HZ := Lib.hid hS
        clear hS
        go_simp
        exact ⟨rfl, HZ.out.lit n⟩
      simp only [Act.put, List.setIfInBounds_toArray, List.set_cons_zero, List.set_cons_succ]
      refine wpTame_nil ?_
      intro w1 hS
      obtain ⟨hi, hz0, hz1, hz2⟩ := HI.out
      obtain ⟨c0, _, _, hl1, _⟩ := NewS.reads (n := n) (.inr hS)
      have hrow : w1.ownsRow 0 97 3 (.slice (some ⟨g0, 0, none⟩) (L + 1) cap0) (L + 1) (flatR (rs0 ++ [(⟨rk, rs', rc⟩ : Rn)])) := HROW.out hS.only
      refine wpList_append_lies w1 rfl _ _ 48 rfl 0 97 i0 _ 3 24 Try.underlying48 hi hz0 hz1 hz2 rfl (by decide) (.slice (some ⟨g0, 0, none⟩) (L + 1) cap0) (L + 1) (flatR (rs0 ++ [(⟨rk, rs', rc⟩ : Rn)])) rfl hrow ⟨w.heap.size + 1, 0, none⟩ 1 1 [.int .u8 k, .int .i64 s, .int .i64 n] rfl rfl (World.news_of_block hS.lit) (three_cells k s n) (by decide) (maxl HL0.out) (byt HL0.out) (Nat.zero_le _) _ rfl ?_
      intro g cap' w2 hown hgrow hat hlt
      have hne : ¬ (Value.slice (some ⟨g0, 0, none⟩) (L + 1) cap0).ownBlock = some b := H.out.apart
      have c2 : w2.cell? ⟨b, 0, none⟩ = some (.slice (some ⟨g0, 0, none⟩) (L + 1) cap0) := (World.grownBy.cell_far hgrow ⟨b, 0, none⟩ hl1 (fun e => hne e.symm)).trans c0
      have f2 : w2.frozen? ⟨b, 0, none⟩ = false := (World.grownBy.frozen_far hgrow ⟨b, 0, none⟩ hl1 (fun e => hne e.symm)).trans (hS.blk.unfrozen 0)
      have hat' : (Value.slice (some ⟨g0, 0, none⟩) (L + 1) cap0).ownBlock = some g ∨ w.heap.size ≤ g := hat.imp id (fun e => by rw [e, hS.size]; omega)
      have HN : Hid (NotedP b (.slice (some ⟨g0, 0, none⟩) (L + 1) cap0) ((rs0 ++ [(⟨rk, rs', rc⟩ : Rn)]) ++ [⟨k, s, n⟩]) w (.returned (.tuple #[])) (w2.setCell ⟨b, 0, none⟩ (.slice (some ⟨g, 0, none⟩) ((L + 1) + 1) cap'))) :=
        NotedP.more HN0.out H.out hn hS.only (by rw [HT.out]; exact hS.blk) hown hgrow hat'
      clear hat hat' hown hgrow hS
      go_wp2
      refine bodyPost_ret (results_none rfl _ _ _) rfl ?_
      exact HN.out

/-- nothing is noted -/
theorem noteTimes_off (b : Nat) (k s n : Int) (w : World) (hn : n < 1) :
    Calls Try.prog 66 #[.pointer (some ⟨b, 0, none⟩), .agg #[.int .u8 k, .int .i64 s], .int .i64 n] w fun e w' => e = .returned (.tuple #[]) ∧ Below w.heap.size w w' := by
  go_enter Try.func66, Try.ntmps66
  go_wp2_with fail
  refine bodyPost_ret (results_none rfl _ _ _) rfl ?_
  exact ⟨rfl, (Below.refl _ _).alloc (Nat.le_refl _) _⟩
theorem noteTimes_nil (k s n : Int) (w : World) :
    Calls Try.prog 66 #[.pointer none, .agg #[.int .u8 k, .int .i64 s], .int .i64 n] w fun e w' => e = .returned (.tuple #[]) ∧ Below w.heap.size w w' := by
  go_enter Try.func66, Try.ntmps66
  go_wp2_with fail
  refine bodyPost_ret (results_none rfl _ _ _) rfl ?_
  exact ⟨rfl, (Below.refl _ _).alloc (Nat.le_refl _) _⟩
/-- a note of n events, n above 0 -/
theorem noteTimes_any (b : Nat) (v : Value) (rs : List Rn) (k s n : Int) (w : World) (h : LedP w b v rs) (hn : 1 ≤ n) (hb : tot rs + n < 9223372036854775808) (hl : rs.length ≤ 5497558138880) :
    Calls Try.prog 66 #[.pointer (some ⟨b, 0, none⟩), .agg #[.int .u8 k, .int .i64 s], .int .i64 n] w (NotedP b v (noteL rs k s n) w) := by
  rcases List.eq_nil_or_concat rs with rfl | ⟨rs0, r, rfl⟩
  · exact noteTimes_new b v [] k s n w h hn hb hl (.inl rfl)
  · rw [List.concat_eq_append] at *
    by_cases hk : r.k = k
    · by_cases hs : r.s = s
      · subst hk; subst hs
        obtain ⟨g, cap, rfl, _⟩ := h.row.form (by simp)
        rw [noteL_same]
        exact noteTimes_same b g cap rs0 r n w h hn hb
      · rw [noteL_other _ _ _ _ _ (fun e => hs e.2)]
        exact noteTimes_new b v _ k s n w h hn hb hl (.inr ⟨rs0, r, rfl, .inr ⟨by rw [hk]; exact beq_self_eq_true _, beq_eq_false_iff_ne.2 hs⟩⟩)
    · rw [noteL_other _ _ _ _ _ (fun e => hk e.1)]
      exact noteTimes_new b v _ k s n w h hn hb hl (.inr ⟨rs0, r, rfl, .inl (beq_eq_false_iff_ne.2 hk)⟩)
set_option maxHeartbeats 400000 in
theorem note_any (b : Nat) (v : Value) (rs : List Rn) (k s : Int) (w : World) (h : LedP w b v rs) (hb : tot rs + 1 < 9223372036854775808) (hl : rs.length ≤ 5497558138880) :
    Calls Try.prog 41 #[.pointer (some ⟨b, 0, none⟩), .agg #[.int .u8 k, .int .i64 s]] w (NotedP b v (noteL rs k s 1) w) := by
  have H := Lib.hid h
  have HB := Lib.hid hb
  clear h hb
  go_enter Try.func41, Try.ntmps41
  go_wp2_with fail
  have h1 : LedP (w.alloc (.cells #[.int .u8 k, .int .i64 s] 81)) b v rs := H.out.keep ((Only.refl (fun _ => False) w).alloc _) (fun _ _ h => h)
  refine (noteTimes_any b v rs k s 1 _ h1 (by omega) HB.out hl).mono ?_
  rintro e w1 ⟨rfl, v', g1, g2, g3⟩
  have G1 := Lib.hid g1
  have G2 := Lib.hid g2
  have G3 := Lib.hid g3
  clear g1 g2 g3
  go_wp2
  refine bodyPost_end (results_none rfl _ _ _) rfl ?_
  refine ⟨rfl, v', G1.out, ((Only.refl _ w).alloc _).trans G2.out (fun x hx => .inl hx), fun x hx => (G3.out x hx).imp id (fun hh => ?_)⟩
  simp at hh
  omega
theorem note_nil (k s : Int) (w : World) :
    Calls Try.prog 41 #[.pointer none, .agg #[.int .u8 k, .int .i64 s]] w fun e w' => e = .returned (.tuple #[]) ∧ Below w.heap.size w w' := by
  go_enter Try.func41, Try.ntmps41
  go_wp2_with fail
  refine (noteTimes_nil k s 1 _).mono ?_
  rintro e w1 ⟨rfl, g1⟩
  go_wp2
  refine bodyPost_end (results_none rfl _ _ _) rfl ?_
  exact ⟨rfl, ((Below.refl _ _).alloc (Nat.le_refl _) _).trans (g1.mono (by simp))⟩
end Go.Proofs.Ytpampcokonicfaa
/- The contract of the document's NoteTimes. Conditions: as of the program's. -/
namespace Go.Proofs.Ytpampcokonicfaa
open Go.RowKit
set_option maxRecDepth 100000
/-- ahead of the append: the ledger's block, the event's copy -/
structure RewS (b : Nat) (v : Value) (k s : Int) (w w' : World) : Prop where
  only : Only (fun x => x = b) w w'
  blk : Blk w' b 100 #[v]
  ev : Blk w' w.heap.size 81 #[.int .u8 k, .int .i64 s]
  size : w'.heap.size = w.heap.size + 1
structure RewS' (b : Nat) (v : Value) (k s n : Int) (w w' : World) : Prop where
  only : Only (fun x => x = b) w w'
  blk : Blk w' b 100 #[v]
  ev : Blk w' w.heap.size 81 #[.int .u8 k, .int .i64 s]
  lit : Blk w' (w.heap.size + 1) 97 #[.int .u8 k, .int .i64 s, .int .i64 n]
  size : w'.heap.size = w.heap.size + 2
theorem RewS.start {b : Nat} {v : Value} {rs : List Rn} {k s : Int} {w : World} (h : LedR w b v rs) (nq : Nat) :
    RewS b v k s w ((w.alloc (.cells #[.int .u8 k, .int .i64 s] 81)).drewN nq) :=
  ⟨((Only.refl (fun x => x = b) w).alloc _).draw _, (h.blk.alloc _).draw nq, (Blk.at rfl rfl : Blk (w.alloc (.cells #[.int .u8 k, .int .i64 s] 81)) w.heap.size 81 #[.int .u8 k, .int .i64 s]), by show (w.alloc (.cells #[.int .u8 k, .int .i64 s] 81)).heap.size = _; simp⟩
theorem RewS.lit {b : Nat} {v : Value} {k s : Int} {w w' : World} (h : RewS b v k s w w') (n : Int) : RewS' b v k s n w (w'.alloc (.cells #[.int .u8 k, .int .i64 s, .int .i64 n] 97)) :=
  ⟨h.only.alloc _, h.blk.alloc _, h.ev.alloc _, Blk.at h.size.symm rfl, by simp [h.size]⟩
theorem RewS.drawn {b : Nat} {v : Value} {k s : Int} {w w' : World} (h : RewS b v k s w w') (n : Nat) : RewS b v k s w { w' with drawn := w'.drawn + n } := ⟨⟨h.only.os, h.only.tape, h.only.output, h.only.size, h.only.block⟩, h.blk, h.ev, h.size⟩
theorem RewS.reads {b : Nat} {v : Value} {k s n : Int} {w w' : World} (h : RewS b v k s w w' ∨ RewS' b v k s n w w') :
    w'.cell? ⟨b, 0, none⟩ = some v ∧ w'.cell? ⟨w.heap.size, 0, none⟩ = some (.int .u8 k) ∧ w'.cell? ⟨w.heap.size, 1, none⟩ = some (.int .i64 s) ∧ b < w'.heap.size ∧ w.heap.size < w'.heap.size := by
  rcases h with h | h
  · exact ⟨h.blk.cellAt 0 rfl, h.ev.cellAt 0 rfl, h.ev.cellAt 1 rfl, h.blk.lt, h.ev.lt⟩
  · exact ⟨h.blk.cellAt 0 rfl, h.ev.cellAt 0 rfl, h.ev.cellAt 1 rfl, h.blk.lt, h.ev.lt⟩

set_option maxHeartbeats 1000000 in
theorem rnoteTimes_same (b g cap : Nat) (rs : List Rn) (r : Rn) (n : Int) (w : World) (h : LedR w b (.slice (some ⟨g, 0, none⟩) (rs ++ [r]).length cap) (rs ++ [r])) (hn : 1 ≤ n) (hb : tot (rs ++ [r]) + n < 9223372036854775808) :
    Calls Try.prog 78 #[.pointer (some ⟨b, 0, none⟩), .agg #[.int .u8 r.k, .int .i64 r.s], .int .i64 n] w (NotedR b (.slice (some ⟨g, 0, none⟩) (rs ++ [r]).length cap) (rs ++ [⟨r.k, r.s, r.c + n⟩]) w) := by
  obtain ⟨d1, d2, d3⟩ := h.row.cells rs.length r (by simp)
  have hp := h.posi r (by simp)
  have ht : r.c ≤ tot (rs ++ [r]) := by
    have := tot_nonneg rs (fun x hx => h.posi x (by simp [hx]))
    rw [tot_append, tot_one]; omega
  have c0 := h.blk.cellAt 0 (v := .slice (some ⟨g, 0, none⟩) (rs ++ [r]).length cap) rfl
  have fg := World.ownsRow.frozenAt h.row (rs.length * 3 + 2)
  have hbl := h.blk.lt
  have hgl : g < w.heap.size := h.row.lt g rfl
  have hne : ¬ b = g := fun e => h.apart (by rw [e]; rfl)
  have hne' : ¬ g = b := fun e => hne e.symm
  have ht0 : 0 ≤ tot (rs ++ [r]) := by omega
  have H := Lib.hid h
  clear h
  have hlen : (rs ++ [r]).length = rs.length + 1 := by simp
  rw [hlen] at c0
  have H2 : Hid (LedR w b (.slice (some ⟨g, 0, none⟩) (rs.length + 1) cap) (rs ++ [r])) := by
    have h1 := H.out
    rw [hlen] at h1
    exact h1
  generalize hT : tot (rs ++ [r]) = T at hb ht0 ht
  have HT := Lib.hid hT
  clear hT
  obtain ⟨rk, rs', rc⟩ := r
  generalize hL : rs.length = L at c0 d1 d2 d3 fg
  have HL := Lib.hid hL
  clear hL hlen
  have hl63 : L < 9223372036854775807 := by
    have h1 := tot_nonneg _ H.out.posi
    rw [List.length_append] at h1
    have h2 := HL.out
    simp only [List.length_cons, List.length_nil] at h1
    have h3 := HT.out
    omega
  go_enter Try.func78, Try.ntmps78
  go_wp2_with fail
  go_quiet (fail)
  go_wp2_with fail
  have hwL : IntKind.i64.wrap (L : Int) = L := IntWalk.i64_in _ (by omega)
  clear hwL
  have e := HL.out
  subst e
  have hlen2 : (rs ++ [(⟨rk, rs', rc⟩ : Rn)]).length = rs.length + 1 := by simp
  have HLEN := Lib.hid hlen2
  clear hlen2
  have HSt : RewS b (.slice (some ⟨g, 0, none⟩) (rs.length + 1) cap) rk rs' w ((w.alloc (.cells #[.int .u8 rk, .int .i64 rs'] 81)).drewN nq) := RewS.start H2.out nq
  generalize ((w.alloc (.cells #[.int .u8 rk, .int .i64 rs'] 81)).drewN nq) = W at HSt
  refine wp_region_tame (RewS b (.slice (some ⟨g, 0, none⟩) (rs.length + 1) cap) rk rs' w) 0 17 (by kernel_rfl) (by kernel_rfl) (fun _ _ d _ _ h => (by cases d <;> exact h)) (HSt.drawn 1) (by decide) ?_
  clear HSt
  simp only [List.take_succ_cons, List.take_zero, List.drop_succ_cons, List.drop_zero]
  refine wpPre_nil ?_
  have hx : (rs.length : Int) < (rs.length : Int) + 1 := by omega
  iterate 17
    refine wpTame_run (v := ?_) (by decide) rfl (fun w' hS => ?_) ?_
    rotate_left
    · (obtain ⟨c0, _, _, hl1, _⟩ := RewS.reads (n := n) (.inl hS); have c3 : w'.cell? ⟨g, rs.length * 3 + 2, none⟩ = some (.int .i64 rc) := (hS.only.cell hgl hne').trans d3; clear hS; go_simp; rfl)
    simp only [Act.put, List.setIfInBounds_toArray, List.set_cons_zero, List.set_cons_succ]
  refine wpTame_nil ?_
  intro w1 hS
  have c3 : w1.cell? ⟨g, rs.length * 3 + 2, none⟩ = some (.int .i64 rc) := (hS.only.cell hgl hne').trans d3
  have f3 : w1.frozen? ⟨g, rs.length * 3 + 2, none⟩ = false := (hS.only.frozen hgl hne').trans fg
  have HN : Hid (NotedR b (.slice (some ⟨g, 0, none⟩) (rs ++ [(⟨rk, rs', rc⟩ : Rn)]).length cap) (rs ++ [⟨rk, rs', rc + n⟩]) w (.returned (.tuple #[])) (w1.setCell ⟨g, rs.length * 3 + 2, none⟩ (.int .i64 (rc + n)))) :=
    NotedR.same (r := ⟨rk, rs', rc⟩) H.out hn hS.only (by rw [HLEN.out]; exact hS.blk)
  clear hS
  go_wp2
  refine bodyPost_ret (results_none rfl _ _ _) rfl ?_
  exact HN.out

/-- the first run, or one of another event -/
theorem rnoteTimes_new (b : Nat) (v : Value) (rs : List Rn) (k s n : Int) (w : World) (h : LedR w b v rs) (hn : 1 ≤ n) (hb : tot rs + n < 9223372036854775808) (hl : rs.length ≤ 5497558138880)
    (hd : rs = [] ∨ ∃ rs0 r, rs = rs0 ++ [r] ∧ ((r.k == k) = false ∨ ((r.k == k) = true ∧ (r.s == s) = false))) :
    Calls Try.prog 78 #[.pointer (some ⟨b, 0, none⟩), .agg #[.int .u8 k, .int .i64 s], .int .i64 n] w (NotedR b v (rs ++ [⟨k, s, n⟩]) w) := by
  have ht0 : 0 ≤ tot rs := by have := tot_nonneg rs h.posi; omega
  obtain ⟨ao, cap, hv⟩ := h.row.any
  have c0 := h.blk.cellAt 0 (v := v) rfl
  have f0 := h.blk.unfrozen 0
  have hbl := h.blk.lt
  have H := Lib.hid h
  obtain ⟨i0, hi, hz0, hz1, hz2⟩ := info_parts infoRun
  have HI := Lib.hid (And.intro hi (And.intro hz0 (And.intro hz1 hz2)))
  clear hi hz0 hz1 hz2
  rcases hd with rfl | ⟨rs0, r, rfl, hd⟩
  · clear h
    have hlz : ([] : List Rn).length = 0 := rfl
    subst hv
    have HN0 : Hid (0 = ([] : List Rn).length) := rfl
    have HL0 : Hid (0 ≤ 5497558138880) := Nat.zero_le _
    have HROW : Hid (∀ {w1 : World}, Only (fun x => x = b) w w1 → w1.ownsRow 0 97 3 (.slice ao 0 cap) 0 (flatR [])) := fun {w1} ho => H.out.row.keep ho (fun x hx he => H.out.apart (he ▸ hx))
    generalize hT : tot ([] : List Rn) = T at hb ht0
    have HT := Lib.hid hT
    clear hT
    rw [hlz] at c0
    clear hlz
    go_enter Try.func78, Try.ntmps78
    go_wp2_with fail
    go_quiet (fail)
    go_wp2_with fail
    have HSt : RewS b (.slice ao 0 cap) k s w ((w.alloc (.cells #[.int .u8 k, .int .i64 s] 81)).drewN nq) := RewS.start H.out nq
    generalize ((w.alloc (.cells #[.int .u8 k, .int .i64 s] 81)).drewN nq) = W at HSt
    refine wp_region_tame3 8 (RewS b (.slice ao 0 cap) k s w) (RewS' b (.slice ao 0 cap) k s n w) 1 9 (by kernel_rfl) (by kernel_rfl) (fun _ _ d _ _ h => (by cases d <;> exact h)) (HSt.drawn 1) (.inl (by decide)) ?_
    clear HSt
    simp only [List.take_succ_cons, List.take_zero, List.drop_succ_cons, List.drop_zero]
    refine wpPre_run (v := ?_) rfl (fun w' => ?_) ?_
    rotate_left
    · (go_simp; rfl)
    simp only [Act.put, List.setIfInBounds_toArray, List.set_cons_zero, List.set_cons_succ]
    refine wpPre_nil ?_
    iterate 7
      refine wpTame_run2 (v := ?_) (by decide) rfl (fun w' hS => ?_) ?_
      rotate_left
      · (obtain ⟨c0, e0, e1, _, _⟩ := RewS.reads hS; clear hS; go_simp; rfl)
      simp only [Act.put, List.setIfInBounds_toArray, List.set_cons_zero, List.set_cons_succ]
    refine wpTame_bump (v := .slice (some ⟨w.heap.size + 1, 0, none⟩) 1 1) rfl rfl (fun w' hS => ?_) ?_
    · have hz := hS.size
      have HZ := Lib.hid hS
      clear hS
      go_simp
      exact ⟨rfl, HZ.out.lit n⟩
    simp only [Act.put, List.setIfInBounds_toArray, List.set_cons_zero, List.set_cons_succ]
    refine wpTame_nil ?_
    intro w1 hS
    obtain ⟨hi, hz0, hz1, hz2⟩ := HI.out
    obtain ⟨c0, _, _, hl1, _⟩ := RewS.reads (n := n) (.inr hS)
    have hrow : w1.ownsRow 0 97 3 (.slice ao 0 cap) 0 (flatR []) := HROW.out hS.only
    refine wpList_append_lies w1 rfl _ _ 48 rfl 0 97 i0 _ 3 24 Try.underlying48 hi hz0 hz1 hz2 rfl (by decide) (.slice ao 0 cap) 0 (flatR []) rfl hrow ⟨w.heap.size + 1, 0, none⟩ 1 1 [.int .u8 k, .int .i64 s, .int .i64 n] rfl rfl (World.news_of_block hS.lit) (three_cells k s n) (by decide) (maxl HL0.out) (byt HL0.out) (Nat.zero_le _) _ rfl ?_
    intro g cap' w2 hown hgrow hat hlt
    have hne : ¬ (Value.slice ao 0 cap).ownBlock = some b := H.out.apart
    have c2 : w2.cell? ⟨b, 0, none⟩ = some (.slice ao 0 cap) := (World.grownBy.cell_far hgrow ⟨b, 0, none⟩ hl1 (fun e => hne e.symm)).trans c0
    have f2 : w2.frozen? ⟨b, 0, none⟩ = false := (World.grownBy.frozen_far hgrow ⟨b, 0, none⟩ hl1 (fun e => hne e.symm)).trans (hS.blk.unfrozen 0)
    have hat' : (Value.slice ao 0 cap).ownBlock = some g ∨ w.heap.size ≤ g := hat.imp id (fun e => by rw [e, hS.size]; omega)
    have HN : Hid (NotedR b (.slice ao 0 cap) ([] ++ [⟨k, s, n⟩]) w (.returned (.tuple #[])) (w2.setCell ⟨b, 0, none⟩ (.slice (some ⟨g, 0, none⟩) (0 + 1) cap'))) :=
      NotedR.more HN0.out H.out hn hS.only hS.blk hown hgrow hat'
    clear hat hat' hown hgrow hS
    go_wp2
    refine bodyPost_ret (results_none rfl _ _ _) rfl ?_
    exact HN.out
  · have hlen : (rs0 ++ [r]).length = rs0.length + 1 := by simp
    obtain ⟨g0, cap0, hv1, hgl⟩ := h.row.form (by omega)
    subst hv1
    obtain ⟨d1, d2, d3⟩ := h.row.cells rs0.length r (by simp)
    have hne : ¬ b = g0 := fun e => h.apart (by rw [e]; rfl)
    have hne' : ¬ g0 = b := fun e => hne e.symm
    have hl63 : rs0.length < 9223372036854775807 := by omega
    have HLL : Hid ((rs0 ++ [r]).length ≤ 5497558138880) := hl
    clear h hl hv
    rw [hlen] at c0
    have HN0 : Hid (rs0.length + 1 = (rs0 ++ [r]).length) := Lib.hid hlen.symm
    have HL0 : Hid (rs0.length + 1 ≤ 5497558138880) := by rw [HN0.out]; exact HLL.out
    have HROW : Hid (∀ {w1 : World}, Only (fun x => x = b) w w1 → w1.ownsRow 0 97 3 (.slice (some ⟨g0, 0, none⟩) (rs0.length + 1) cap0) (rs0.length + 1) (flatR (rs0 ++ [r]))) := fun {w1} ho => by
      have h1 := H.out.row.keep ho (fun x hx he => H.out.apart (he ▸ hx))
      unfold RunsAt at h1
      rw [hlen] at h1
      exact h1
    have H : Hid (LedR w b (.slice (some ⟨g0, 0, none⟩) (rs0.length + 1) cap0) (rs0 ++ [r])) := by
      have h1 := H.out
      rw [hlen] at h1
      exact h1
    have HNP : Hid (NotedR b (.slice (some ⟨g0, 0, none⟩) (rs0.length + 1) cap0) (rs0 ++ [r] ++ [⟨k, s, n⟩]) w = NotedR b (.slice (some ⟨g0, 0, none⟩) (rs0 ++ [r]).length cap0) (rs0 ++ [r] ++ [⟨k, s, n⟩]) w) := by rw [hlen]; rfl
    rw [← HNP.out]
    clear hlen HNP
    generalize hT : tot (rs0 ++ [r]) = T at hb ht0
    have HT := Lib.hid hT
    clear hT
    generalize rs0.length = L at c0 d1 d2 d3 hl63 HN0 HL0 HROW H ⊢
    obtain ⟨rk, rs', rc⟩ := r
    dsimp only at d1 d2 d3 hd
    rcases hd with hd | ⟨hd, hd'⟩
    all_goals
      go_enter Try.func78, Try.ntmps78
      go_wp2_with fail
      have hwL : IntKind.i64.wrap (L : Int) = L := IntWalk.i64_in _ (by omega)
      go_quiet (fail)
      clear hwL
      go_wp2_with fail
      have HSt : RewS b (.slice (some ⟨g0, 0, none⟩) (L + 1) cap0) k s w ((w.alloc (.cells #[.int .u8 k, .int .i64 s] 81)).drewN nq) := RewS.start H.out nq
      generalize ((w.alloc (.cells #[.int .u8 k, .int .i64 s] 81)).drewN nq) = W at HSt
      refine wp_region_tame3 8 (RewS b (.slice (some ⟨g0, 0, none⟩) (L + 1) cap0) k s w) (RewS' b (.slice (some ⟨g0, 0, none⟩) (L + 1) cap0) k s n w) 1 9 (by kernel_rfl) (by kernel_rfl) (fun _ _ d _ _ h => (by cases d <;> exact h)) (HSt.drawn 1) (.inl (by decide)) ?_
      clear HSt
      simp only [List.take_succ_cons, List.take_zero, List.drop_succ_cons, List.drop_zero]
      refine wpPre_run (v := ?_) rfl (fun w' => ?_) ?_
      rotate_left
      · (go_simp; rfl)
      simp only [Act.put, List.setIfInBounds_toArray, List.set_cons_zero, List.set_cons_succ]
      refine wpPre_nil ?_
      iterate 7
        refine wpTame_run2 (v := ?_) (by decide) rfl (fun w' hS => ?_) ?_
        rotate_left
        · (obtain ⟨c0, e0, e1, _, _⟩ := RewS.reads hS; clear hS; go_simp; rfl)
        simp only [Act.put, List.setIfInBounds_toArray, List.set_cons_zero, List.set_cons_succ]
      refine wpTame_bump (v := .slice (some ⟨w.heap.size + 1, 0, none⟩) 1 1) rfl rfl (fun w' hS => ?_) ?_
      · have hz := hS.size
        have HZ := Lib.hid hS
        clear hS
        go_simp
        exact ⟨rfl, HZ.out.lit n⟩
      simp only [Act.put, List.setIfInBounds_toArray, List.set_cons_zero, List.set_cons_succ]
      refine wpTame_nil ?_
      intro w1 hS
      obtain ⟨hi, hz0, hz1, hz2⟩ := HI.out
      obtain ⟨c0, _, _, hl1, _⟩ := RewS.reads (n := n) (.inr hS)
      have hrow : w1.ownsRow 0 97 3 (.slice (some ⟨g0, 0, none⟩) (L + 1) cap0) (L + 1) (flatR (rs0 ++ [(⟨rk, rs', rc⟩ : Rn)])) := HROW.out hS.only
      refine wpList_append_lies w1 rfl _ _ 48 rfl 0 97 i0 _ 3 24 Try.underlying48 hi hz0 hz1 hz2 rfl (by decide) (.slice (some ⟨g0, 0, none⟩) (L + 1) cap0) (L + 1) (flatR (rs0 ++ [(⟨rk, rs', rc⟩ : Rn)])) rfl hrow ⟨w.heap.size + 1, 0, none⟩ 1 1 [.int .u8 k, .int .i64 s, .int .i64 n] rfl rfl (World.news_of_block hS.lit) (three_cells k s n) (by decide) (maxl HL0.out) (byt HL0.out) (Nat.zero_le _) _ rfl ?_
      intro g cap' w2 hown hgrow hat hlt
      have hne : ¬ (Value.slice (some ⟨g0, 0, none⟩) (L + 1) cap0).ownBlock = some b := H.out.apart
      have c2 : w2.cell? ⟨b, 0, none⟩ = some (.slice (some ⟨g0, 0, none⟩) (L + 1) cap0) := (World.grownBy.cell_far hgrow ⟨b, 0, none⟩ hl1 (fun e => hne e.symm)).trans c0
      have f2 : w2.frozen? ⟨b, 0, none⟩ = false := (World.grownBy.frozen_far hgrow ⟨b, 0, none⟩ hl1 (fun e => hne e.symm)).trans (hS.blk.unfrozen 0)
      have hat' : (Value.slice (some ⟨g0, 0, none⟩) (L + 1) cap0).ownBlock = some g ∨ w.heap.size ≤ g := hat.imp id (fun e => by rw [e, hS.size]; omega)
      have HN : Hid (NotedR b (.slice (some ⟨g0, 0, none⟩) (L + 1) cap0) ((rs0 ++ [(⟨rk, rs', rc⟩ : Rn)]) ++ [⟨k, s, n⟩]) w (.returned (.tuple #[])) (w2.setCell ⟨b, 0, none⟩ (.slice (some ⟨g, 0, none⟩) ((L + 1) + 1) cap'))) :=
        NotedR.more HN0.out H.out hn hS.only hS.blk hown hgrow hat'
      clear hat hat' hown hgrow hS
      go_wp2
      refine bodyPost_ret (results_none rfl _ _ _) rfl ?_
      exact HN.out

/-- nothing is noted -/
theorem rnoteTimes_off (b : Nat) (k s n : Int) (w : World) (hn : n < 1) :
    Calls Try.prog 78 #[.pointer (some ⟨b, 0, none⟩), .agg #[.int .u8 k, .int .i64 s], .int .i64 n] w fun e w' => e = .returned (.tuple #[]) ∧ Below w.heap.size w w' := by
  go_enter Try.func78, Try.ntmps78
  go_wp2_with fail
  refine bodyPost_ret (results_none rfl _ _ _) rfl ?_
  exact ⟨rfl, (Below.refl _ _).alloc (Nat.le_refl _) _⟩
theorem rnoteTimes_nil (k s n : Int) (w : World) :
    Calls Try.prog 78 #[.pointer none, .agg #[.int .u8 k, .int .i64 s], .int .i64 n] w fun e w' => e = .returned (.tuple #[]) ∧ Below w.heap.size w w' := by
  go_enter Try.func78, Try.ntmps78
  go_wp2_with fail
  refine bodyPost_ret (results_none rfl _ _ _) rfl ?_
  exact ⟨rfl, (Below.refl _ _).alloc (Nat.le_refl _) _⟩
/-- a note of n events, n above 0 -/
theorem rnoteTimes_any (b : Nat) (v : Value) (rs : List Rn) (k s n : Int) (w : World) (h : LedR w b v rs) (hn : 1 ≤ n) (hb : tot rs + n < 9223372036854775808) (hl : rs.length ≤ 5497558138880) :
    Calls Try.prog 78 #[.pointer (some ⟨b, 0, none⟩), .agg #[.int .u8 k, .int .i64 s], .int .i64 n] w (NotedR b v (noteL rs k s n) w) := by
  rcases List.eq_nil_or_concat rs with rfl | ⟨rs0, r, rfl⟩
  · exact rnoteTimes_new b v [] k s n w h hn hb hl (.inl rfl)
  · rw [List.concat_eq_append] at *
    by_cases hk : r.k = k
    · by_cases hs : r.s = s
      · subst hk; subst hs
        obtain ⟨g, cap, rfl, _⟩ := h.row.form (by simp)
        rw [noteL_same]
        exact rnoteTimes_same b g cap rs0 r n w h hn hb
      · rw [noteL_other _ _ _ _ _ (fun e => hs e.2)]
        exact rnoteTimes_new b v _ k s n w h hn hb hl (.inr ⟨rs0, r, rfl, .inr ⟨by rw [hk]; exact beq_self_eq_true _, beq_eq_false_iff_ne.2 hs⟩⟩)
    · rw [noteL_other _ _ _ _ _ (fun e => hk e.1)]
      exact rnoteTimes_new b v _ k s n w h hn hb hl (.inr ⟨rs0, r, rfl, .inl (beq_eq_false_iff_ne.2 hk)⟩)
set_option maxHeartbeats 400000 in
theorem rnote_any (b : Nat) (v : Value) (rs : List Rn) (k s : Int) (w : World) (h : LedR w b v rs) (hb : tot rs + 1 < 9223372036854775808) (hl : rs.length ≤ 5497558138880) :
    Calls Try.prog 72 #[.pointer (some ⟨b, 0, none⟩), .agg #[.int .u8 k, .int .i64 s]] w (NotedR b v (noteL rs k s 1) w) := by
  have H := Lib.hid h
  have HB := Lib.hid hb
  clear h hb
  go_enter Try.func72, Try.ntmps72
  go_wp2_with fail
  have h1 : LedR (w.alloc (.cells #[.int .u8 k, .int .i64 s] 81)) b v rs := H.out.keep ((Only.refl (fun _ => False) w).alloc _) (fun _ _ h => h)
  refine (rnoteTimes_any b v rs k s 1 _ h1 (by omega) HB.out hl).mono ?_
  rintro e w1 ⟨rfl, v', g1, g2, g3⟩
  have G1 := Lib.hid g1
  have G2 := Lib.hid g2
  have G3 := Lib.hid g3
  clear g1 g2 g3
  go_wp2
  refine bodyPost_end (results_none rfl _ _ _) rfl ?_
  refine ⟨rfl, v', G1.out, ((Only.refl _ w).alloc _).trans G2.out (fun x hx => .inl hx), fun x hx => (G3.out x hx).imp id (fun hh => ?_)⟩
  simp at hh
  omega
theorem rnote_nil (k s : Int) (w : World) :
    Calls Try.prog 72 #[.pointer none, .agg #[.int .u8 k, .int .i64 s]] w fun e w' => e = .returned (.tuple #[]) ∧ Below w.heap.size w w' := by
  go_enter Try.func72, Try.ntmps72
  go_wp2_with fail
  refine (rnoteTimes_nil k s 1 _).mono ?_
  rintro e w1 ⟨rfl, g1⟩
  go_wp2
  refine bodyPost_end (results_none rfl _ _ _) rfl ?_
  exact ⟨rfl, ((Below.refl _ _).alloc (Nat.le_refl _) _).trans (g1.mono (by simp))⟩
end Go.Proofs.Ytpampcokonicfaa
/- Slices that are read, whatever their elements' size, and append from any of them. No program in sight. -/
namespace Go.Proofs.Ytpampcokonicfaa
open Go.RowKit

/-- v is a slice of n elements (size cells each) whose cells are xs -/
structure Sl (w : World) (size : Nat) (v : Value) (n : Nat) (xs : List Value) : Prop where
  len : xs.length = n * size
  one : ∀ u ∈ xs, u.oneCell' = true
  form : ∃ ao cap, v = .slice ao n cap ∧ n ≤ cap ∧ cap ≤ 9223372036854775807 ∧ (ao = none → cap = 0) ∧
    ∀ j u, xs[j]? = some u → ∃ b off, ao = some ⟨b, off, none⟩ ∧ w.cell? ⟨b, off + j, none⟩ = some u
theorem add_lit (b off j : Nat) : (⟨b, off, none⟩ : Addr).add j = ⟨b, off + j, none⟩ := by unfold Addr.add; split <;> simp_all
theorem Sl.keep {w w' : World} {size n : Nat} {v : Value} {xs : List Value} (h : Sl w size v n xs) (hk : ∀ b, v.ownBlock = some b → b < w.heap.size → w'.heap[b]? = w.heap[b]?) : Sl w' size v n xs := by
  obtain ⟨ao, cap, rfl, h1, h2, h3, h4⟩ := h.form
  refine ⟨h.len, h.one, ao, cap, rfl, h1, h2, h3, fun j u hj => ?_⟩
  obtain ⟨b, off, rfl, hc⟩ := h4 j u hj
  have hlt : b < w.heap.size := World.block_lt_of_cell? w _ hc
  exact ⟨b, off, rfl, (World.cell?_of_block (w := w) (hk b rfl hlt)).trans hc⟩
theorem Sl.only {S : Nat → Prop} {w w' : World} {size n : Nat} {v : Value} {xs : List Value} (h : Sl w size v n xs) (ho : Only S w w') (hv : ∀ b, v.ownBlock = some b → ¬ S b) : Sl w' size v n xs :=
  h.keep fun b hb hlt => ho.block b hlt (hv b hb)
theorem Sl.grow {w w' : World} {size n : Nat} {v : Value} {xs : List Value} (h : Sl w size v n xs) (hb : Below w.heap.size w w') : Sl w' size v n xs := h.keep fun b _ hlt => hb.block b hlt
theorem Sl.nil (w : World) (size : Nat) : Sl w size (.slice none 0 0) 0 [] := ⟨by simp, (fun _ h => by cases h), none, 0, rfl, Nat.le_refl _, by omega, fun _ => rfl, (fun j u h => by simp at h)⟩
theorem Sl.of_own {w : World} {base : Nat} {e : TypeId} {size n : Nat} {v : Value} {xs : List Value} (h : w.ownsRow base e size v n xs) (h1 : ∀ u ∈ xs, u.oneCell' = true) : Sl w size v n xs := by
  refine ⟨h.1, h1, ?_⟩
  rcases h.2 with ⟨rfl, rfl⟩ | ⟨g, cap, cur, rfl, _, hg, hnc, hcm, _, htake⟩
  · refine ⟨none, 0, rfl, Nat.le_refl _, by omega, fun _ => rfl, fun j u hj => ?_⟩
    have : xs = [] := List.eq_nil_of_length_eq_zero (by simpa using h.1)
    subst this
    simp at hj
  · refine ⟨some ⟨g, 0, none⟩, cap, rfl, hnc, hcm, (fun h => by cases h), fun j u hj => ⟨g, 0, rfl, ?_⟩⟩
    have := World.ownsRow.cells (w := w) (v := .slice (some ⟨g, 0, none⟩) n cap) h rfl j u hj
    rwa [add_lit] at this
theorem Sl.of_bytes {w : World} {v : Value} {l : List UInt8} (h : Bs w v l) : Sl w 1 v l.length (l.map B) := by
  obtain ⟨ao, cap, rfl, h1, h2, h3, h4⟩ := h.form
  refine ⟨by simp, fun u hu => ?_, ao, cap, rfl, h1, h2, h3, fun j u hj => ?_⟩
  · obtain ⟨x, _, rfl⟩ := List.mem_map.1 hu
    rfl
  · have hlt : j < l.length := by
      have := (List.getElem?_eq_some_iff.1 hj).1
      simpa using this
    obtain ⟨b, off, hao, hc⟩ := h4 j hlt
    refine ⟨b, off, hao, ?_⟩
    rw [hc]
    rw [List.getElem?_map, List.getElem?_eq_getElem hlt] at hj
    rw [List.getD_eq_getElem?_getD, List.getElem?_eq_getElem hlt]
    simpa [B] using hj
theorem Sl.bytes {w : World} {v : Value} {l : List UInt8} (h : Sl w 1 v l.length (l.map B)) : Bs w v l := by
  obtain ⟨ao, cap, rfl, h1, h2, h3, h4⟩ := h.form
  refine ⟨ao, cap, rfl, h1, h2, h3, fun j hj => ?_⟩
  refine h4 j _ ?_
  rw [List.getElem?_map, List.getElem?_eq_getElem hj, List.getD_eq_getElem?_getD, List.getElem?_eq_getElem hj]
  rfl

section
variable {P : Program} (w : World)
/-- append onto a row of the call's own, from whatever slice -/
theorem run_append_sl (t ty e : TypeId) (i : TypeInfo) (z : Value) (size bytes : Nat) (ht : P.underlying t = some (.slice e)) (hi : P.info? e = some i) (hz : i.zero = some z)
    (hsize : i.size = size) (hby : i.bytes = bytes) (hzs : z.cells.size = size) (hsz : 0 < size)
    (v : Value) (n : Nat) (xs : List Value) (hown : w.ownsRow 0 e size v n xs) (y : Value) (m : Nat) (news : List Value) (hy : Sl w size y m news)
    (h63 : n + m ≤ maxLen) (hbytes : (n + m) * bytes ≤ 140737488355328) :
    ∃ v' w', (Builtin.append_ #[t, t] ty #[v, y]).run P w = .ok v' w' ∧ w'.ownsRow 0 e size v' (n + m) (xs ++ news) ∧ w.grownBy w' v.ownBlock ∧ (v'.ownBlock = v.ownBlock ∨ v'.ownBlock = some w.heap.size) ∧ (v ≠ .slice none 0 0 → v' ≠ .slice none 0 0) := by
  obtain ⟨ao, cap, rfl, h1, h2, h3, h4⟩ := hy.form
  cases ao with
  | none =>
    obtain rfl : cap = 0 := h3 rfl
    obtain rfl : m = 0 := by omega
    have hn : news = [] := List.eq_nil_of_length_eq_zero (by simpa using hy.len)
    subst hn
    exact ⟨v, w, run_append_owned_none (P := P) (w := w) 0 t ty e i size ht hi v n xs hown, by simpa using hown, ⟨rfl, rfl, rfl, Nat.le_refl _, fun _ _ _ => rfl⟩, .inl rfl, id⟩
  | some ad =>
    have hnews : ∀ j u, news[j]? = some u → w.cell? (ad.add j) = some u := fun j u hj => by
      obtain ⟨b, off, hab, hc⟩ := h4 j u hj
      injection hab with hab
      subst hab
      rw [add_lit]
      exact hc
    obtain ⟨v', w', hr, g1, g2, g3, g4⟩ := run_append_own_at (P := P) w 0 t ty e i z size bytes ht hi hz hsize hby hzs hsz v n xs hown ad m cap news hy.len hnews hy.one h63 hbytes (Nat.zero_le _)
    exact ⟨v', w', hr, g1, g2, g4, fun hv hv' => hv (g3.1 hv').1⟩
theorem wp_append_sl {o : Oper} {a : Act} {K : Act → World → Prop} {Q : Exit → Act → World → Prop} (s x : Operand) (t : TypeId)
    (ho : o.op = .call { callee := .builtin .append, args := #[s, x], argTypes := #[t, t] })
    (e : TypeId) (i : TypeInfo) (z : Value) (size bytes : Nat) (ht : P.underlying t = some (.slice e)) (hi : P.info? e = some i) (hz : i.zero = some z)
    (hsize : i.size = size) (hby : i.bytes = bytes) (hzs : z.cells.size = size) (hsz : 0 < size)
    (v : Value) (n : Nat) (xs : List Value) (hs : a.eval s = v) (hown : w.ownsRow 0 e size v n xs) (y : Value) (m : Nat) (news : List Value) (hx : a.eval x = y) (hy : Sl w size y m news)
    (h63 : n + m ≤ maxLen) (hbytes : (n + m) * bytes ≤ 140737488355328)
    (h : ∀ v' w', w'.ownsRow 0 e size v' (n + m) (xs ++ news) → w.grownBy w' v.ownBlock → (v'.ownBlock = v.ownBlock ∨ v'.ownBlock = some w.heap.size) → (v ≠ .slice none 0 0 → v' ≠ .slice none 0 0) → K (a.put o.dst v') w') : o.wp P a w K Q := by
  obtain ⟨v', w', hr, g1, g2, g3, g4⟩ := run_append_sl (P := P) w t o.type e i z size bytes ht hi hz hsize hby hzs hsz v n xs hown y m news hy h63 hbytes
  unfold Oper.wp execOp
  simp only [ho, resolve, invoke, builtin, Sem.run_bind, Sem.run_pure, Result.andThen_ok, List.map_toArray, List.map_cons, List.map_nil, hs, hx, hr]
  exact h v' w' g1 g2 g3 g4
theorem wpList_append_sl {ops : Array Oper} {rest : List Oper} {o : Oper} {a : Act} {Q : Exit → Act → World → Prop} (hgd : o.guard = none) (s x : Operand) (t : TypeId)
    (ho : o.op = .call { callee := .builtin .append, args := #[s, x], argTypes := #[t, t] })
    (e : TypeId) (i : TypeInfo) (z : Value) (size bytes : Nat) (ht : P.underlying t = some (.slice e)) (hi : P.info? e = some i) (hz : i.zero = some z)
    (hsize : i.size = size) (hby : i.bytes = bytes) (hzs : z.cells.size = size) (hsz : 0 < size)
    (v : Value) (n : Nat) (xs : List Value) (hs : a.eval s = v) (hown : w.ownsRow 0 e size v n xs) (y : Value) (m : Nat) (news : List Value) (hx : a.eval x = y) (hy : Sl w size y m news)
    (h63 : n + m ≤ maxLen) (hbytes : (n + m) * bytes ≤ 140737488355328)
    (h : ∀ v' w', w'.ownsRow 0 e size v' (n + m) (xs ++ news) → w.grownBy w' v.ownBlock → (v'.ownBlock = v.ownBlock ∨ v'.ownBlock = some w.heap.size) → (v ≠ .slice none 0 0 → v' ≠ .slice none 0 0) → wpList P ops Q rest (a.put o.dst v') w') : wpList P ops Q (o :: rest) a w :=
  wpList_plain hgd fun _ hK => wp_append_sl w s x t ho e i z size bytes ht hi hz hsize hby hzs hsz v n xs hs hown y m news hx hy h63 hbytes fun v' w' g1 g2 g3 g4 => hK _ _ (h v' w' g1 g2 g3 g4)
end
end Go.Proofs.Ytpampcokonicfaa
/- The contracts of both ledgers' New, Runs, Len, and of the kit's SameRuns. Conditions: at most 2^40 runs; counts in their kind. -/
namespace Go.Proofs.Ytpampcokonicfaa
open Go.RowKit
set_option maxRecDepth 100000

theorem flatR_one' (rs : List Rn) : ∀ u ∈ flatR rs, u.oneCell' = true := by
  intro u hu
  obtain ⟨r, _, hr⟩ := List.mem_flatMap.1 hu
  exact three_cells r.k r.s r.c u hr
/-- a slice of runs that is read -/
def RunsRd (w : World) (v : Value) (rs : List Rn) : Prop := Sl w 3 v rs.length (flatR rs)
theorem RunsAt.rd {w : World} {v : Value} {rs : List Rn} (h : RunsAt w v rs) : RunsRd w v rs := Sl.of_own h (flatR_one' rs)
theorem RunsRd.cells {w : World} {ao : Option Addr} {cap : Nat} {rs : List Rn} (h : RunsRd w (.slice ao rs.length cap) rs) (i : Nat) (r : Rn) (hr : rs[i]? = some r) :
    ∃ b off, ao = some ⟨b, off, none⟩ ∧ w.cell? ⟨b, off + i * 3, none⟩ = some (.int .u8 r.k) ∧ w.cell? ⟨b, off + i * 3 + 1, none⟩ = some (.int .i64 r.s) ∧ w.cell? ⟨b, off + i * 3 + 2, none⟩ = some (.int .i64 r.c) := by
  obtain ⟨ao', cap', hv, _, _, _, h4⟩ := h.form
  obtain ⟨h1, h2, h3⟩ := flatR_at rs i r hr
  injection hv with e1 e2 e3
  subst e1
  obtain ⟨b, off, hao, c1⟩ := h4 _ _ h1
  obtain ⟨b2, off2, hao2, c2⟩ := h4 _ _ h2
  obtain ⟨b3, off3, hao3, c3⟩ := h4 _ _ h3
  rw [hao] at hao2 hao3
  injection hao2 with e2; injection e2 with e4 e5; subst e4; subst e5
  injection hao3 with e3; injection e3 with e6 e7; subst e6; subst e7
  exact ⟨b, off, hao, c1, by rw [Nat.add_assoc]; exact c2, by rw [Nat.add_assoc]; exact c3⟩

theorem maxl0 {n : Nat} (h : n ≤ 5497558138880) : 0 + n ≤ maxLen := by unfold maxLen; omega
theorem byt0 {n : Nat} (h : n ≤ 5497558138880) : (0 + n) * 24 ≤ 140737488355328 := by omega
theorem newP_any (w : World) : Calls Try.prog 17 #[] w fun e w' => e = .returned (.pointer (some ⟨w.heap.size, 0, none⟩)) ∧ LedP w' w.heap.size (.slice none 0 0) [] ∧ Below w.heap.size w w' := by
  go_enter Try.func17, Try.ntmps17
  go_wp2
  go_ret
  exact ⟨rfl, ⟨Blk.at rfl rfl, RunsAt.nil _, fun h => by simp [fp, Value.ownBlock] at h, Posi.nil⟩, (Below.refl _ _).alloc (Nat.le_refl _) _⟩
theorem newR_any (w : World) : Calls Try.prog 34 #[] w fun e w' => e = .returned (.pointer (some ⟨w.heap.size, 0, none⟩)) ∧ LedR w' w.heap.size (.slice none 0 0) [] ∧ Below w.heap.size w w' := by
  go_enter Try.func34, Try.ntmps34
  go_wp2
  go_ret
  exact ⟨rfl, ⟨Blk.at rfl rfl, RunsAt.nil _, fun h => by simp [fp, Value.ownBlock] at h, Posi.nil⟩, (Below.refl _ _).alloc (Nat.le_refl _) _⟩

theorem lenP_any (b : Nat) (v : Value) (rs : List Rn) (w : World) (h : LedP w b v rs) : Calls Try.prog 19 #[.pointer (some ⟨b, 0, none⟩)] w fun e w' => e = .returned (.int .i64 (tot rs)) ∧ w = w' := by
  have c1 := h.blk.cellAt 1 (v := .int .i64 (tot rs)) rfl
  have hb := h.blk.lt
  have H := Lib.hid h
  clear h
  go_enter Try.func19, Try.ntmps19
  go_wp2
  go_ret
  exact ⟨rfl, rfl⟩

/-- runs told in new memory -/
def NewRuns (rs : List Rn) (w : World) (e : Ending) (w' : World) : Prop :=
  ∃ v, e = .returned v ∧ RunsAt w' v rs ∧ Below w.heap.size w w' ∧ ∀ x, fp v x → w.heap.size ≤ x
set_option maxHeartbeats 400000 in
theorem runsP_any (b : Nat) (v : Value) (rs : List Rn) (w : World) (h : LedP w b v rs) (hl : rs.length ≤ 5497558138880) : Calls Try.prog 24 #[.pointer (some ⟨b, 0, none⟩)] w (NewRuns rs w) := by
  obtain ⟨i0, hi, hz0, hz1, hz2⟩ := info_parts infoRun
  have HI := Lib.hid (And.intro hi (And.intro hz0 (And.intro hz1 hz2)))
  clear hi hz0 hz1 hz2
  have c0 := h.blk.cellAt 0 (v := v) rfl
  have hb := h.blk.lt
  have H := Lib.hid h
  clear h
  go_enter Try.func24, Try.ntmps24
  have hown0 : (w.alloc (.cells #[] 97)).ownsRow 0 97 3 (.slice (some ⟨w.heap.size, 0, none⟩) 0 0) 0 [] := World.ownsRow_lit w #[] 0 (Nat.zero_le _) (by decide) rfl
  have hy : Sl (w.alloc (.cells #[] 97)) 3 v rs.length (flatR rs) := H.out.row.rd.grow ((Below.refl _ _).alloc (Nat.le_refl _) _)
  obtain ⟨hi, hz0, hz1, hz2⟩ := HI.out
  go_wp2_with (at_builtin; refine wpList_append_sl _ rfl _ _ 48 rfl 97 i0 _ 3 24 Try.underlying48 hi hz0 hz1 hz2 rfl (by decide) (.slice (some ⟨w.heap.size, 0, none⟩) 0 0) 0 [] rfl hown0 v rs.length (flatR rs) rfl hy (maxl0 hl) (byt0 hl) ?_)
  intro v' w1 hown hgrow hat _
  have HN : Hid (NewRuns rs w (.returned v') w1) := by
    refine ⟨v', rfl, ?_, ?_, ?_⟩
    · unfold RunsAt
      simpa using hown
    · exact ((Below.refl w.heap.size w).alloc (Nat.le_refl _) _).grown hgrow (by simp) (fun k hk => by simp [Value.ownBlock] at hk; omega)
    · intro x hx
      rcases hat with hat | hat
      · have : fp v' x := hx
        rw [fp, hat] at this
        simp [Value.ownBlock] at this
        omega
      · have : fp v' x := hx
        rw [fp, hat] at this
        simp at this
        omega
  clear hown hgrow hat hown0 hy hi hz0 hz1 hz2
  go_wp2
  go_ret
  exact HN.out

theorem runsP_nil (w : World) : Calls Try.prog 24 #[.pointer none] w fun e w' => e = .returned (.slice none 0 0) ∧ w = w' := by
  go_enter Try.func24, Try.ntmps24
  go_wp2
  go_ret
  exact ⟨rfl, rfl⟩

/-- the document's Runs: one append a run -/
def RunsLoop (rs : List Rn) (w : World) (k : Nat) (v : Value) (w1 : World) : Prop :=
  RunsAt w1 v (rs.take k) ∧ Below w.heap.size w w1 ∧ ∀ x, fp v x → w.heap.size ≤ x
theorem take_succ_get (rs : List Rn) (k : Nat) (r : Rn) (h : rs[k]? = some r) : rs.take (k + 1) = rs.take k ++ [r] := by
  rw [List.take_add_one, h]; rfl
set_option maxHeartbeats 1000000 in
theorem runsR_any (b : Nat) (v : Value) (rs : List Rn) (w : World) (h : LedR w b v rs) (hl : rs.length ≤ 5497558138880) : Calls Try.prog 38 #[.pointer (some ⟨b, 0, none⟩)] w (NewRuns rs w) := by
  obtain ⟨i0, hi, hz0, hz1, hz2⟩ := info_parts infoRun
  have HI := Lib.hid (And.intro hi (And.intro hz0 (And.intro hz1 hz2)))
  clear hi hz0 hz1 hz2
  have hb := h.blk.lt
  have HRD : Hid (RunsRd w v rs) := h.row.rd
  obtain ⟨ao, cap, rfl⟩ := h.row.any
  have c0 := h.blk.cellAt 0 (v := .slice ao rs.length cap) rfl
  have H := Lib.hid h
  clear h
  go_enter Try.func38, Try.ntmps38
  go_wp2_with fail
  go_loopw [3, 4] (fun o i w1 => ∃ k : Nat, k ≤ rs.length ∧ i = .int .i64 (k : Int) ∧ RunsLoop rs w k o w1) (fun _ i _ => rs.length - (intOf i).toNat)
  case atStart => exact ⟨0, Nat.zero_le _, rfl, by rw [List.take_zero]; exact RunsAt.nil w, Below.refl _ _, fun x hx => by simp [fp, Value.ownBlock] at hx⟩
  case round =>
    obtain ⟨k, hk, rfl, hr⟩ := hrel
    have c1 : wr.cell? ⟨b, 0, none⟩ = some (.slice ao rs.length cap) := (hr.2.1.cell hb).trans c0
    by_cases hlt : k < rs.length
    · obtain ⟨r, hrk⟩ : ∃ r, rs[k]? = some r := ⟨_, List.getElem?_eq_getElem hlt⟩
      obtain ⟨g, off, rfl, d1, d2, d3⟩ := RunsRd.cells HRD.out k r hrk
      have hgl : g < w.heap.size := World.block_lt_of_cell? w _ d1
      have e1 : wr.cell? ⟨g, off + k * 3, none⟩ = some (.int .u8 r.k) := (hr.2.1.cell hgl).trans d1
      have e2 : wr.cell? ⟨g, off + k * 3 + 1, none⟩ = some (.int .i64 r.s) := (hr.2.1.cell hgl).trans d2
      have e3 : wr.cell? ⟨g, off + k * 3 + 2, none⟩ = some (.int .i64 r.c) := (hr.2.1.cell hgl).trans d3
      have HR := Lib.hid hr
      have HK := Lib.hid hrk
      clear hr hrk d1 d2 d3
      have HOWN : RunsAt (wr.alloc (.cells #[.int .u8 r.k, .int .i64 r.s, .int .i64 r.c] 97)) u3 (rs.take k) := RunsAt.keep HR.out.1 ((Only.refl (fun _ => False) wr).alloc _) (fun _ _ h => h)
      have htk : (rs.take k).length = k := by rw [List.length_take]; omega
      have htl : k ≤ 5497558138880 := by omega
      unfold RunsAt at HOWN
      rw [htk] at HOWN
      have HTK := Lib.hid htk
      clear htk
      obtain ⟨hi, hz0, hz1, hz2⟩ := HI.out
      go_wp2_with (at_builtin; refine wpList_append_lies _ rfl _ _ 48 rfl 0 97 i0 _ 3 24 Try.underlying48 hi hz0 hz1 hz2 rfl (by decide) u3 k (flatR (rs.take k)) rfl HOWN ⟨wr.heap.size, 0, none⟩ 1 1 [.int .u8 r.k, .int .i64 r.s, .int .i64 r.c] rfl rfl (World.news_of_block (heap_alloc_new _ _)) (three_cells r.k r.s r.c) (by decide) (maxl htl) (byt htl) (Nat.zero_le _) _ rfl ?_)
      intro g' cap' w2 hown hgrow hat hlt2
      have HN : Hid (RunsLoop rs w (k + 1) (.slice (some ⟨g', 0, none⟩) (k + 1) cap') w2) := by
        obtain ⟨q1, q2, q3⟩ := HR.out
        refine ⟨?_, ?_, ?_⟩
        · rw [take_succ_get rs k r HK.out]
          unfold RunsAt
          rw [flatR_append, flatR_one, List.length_append, HTK.out]
          exact hown
        · exact (q2.alloc q2.size _).grown hgrow (by simp; have := q2.size; omega) (fun x hx => q3 x hx)
        · intro x hx
          have e : g' = x := by simpa [fp, Value.ownBlock] using hx
          subst e
          rcases hat with hat | hat
          · exact q3 g' hat
          · rw [hat]; simp; have := q2.size; omega
      clear hown hgrow hat hlt2 HOWN htl hi hz0 hz1 hz2
      go_wp2
      go_roundw
      case rel => exact ⟨k + 1, by omega, by go_num, HN.out⟩
      case measure => simp [intOf]; omega
    · obtain rfl : k = rs.length := by omega
      have HN : Hid (NewRuns rs w (.returned u3) wr) := by
        obtain ⟨q1, q2, q3⟩ := hr
        rw [List.take_length] at q1
        exact ⟨u3, rfl, q1, q2, q3⟩
      clear hr
      go_wp2
      go_ret
      exact HN.out

/-! ### SameRuns -/
theorem run_eq_run (r q : Rn) (h : r.k = q.k ∧ r.s = q.s ∧ r.c = q.c) : r = q := by
  obtain ⟨a, b, c⟩ := r; obtain ⟨x, y, z⟩ := q
  simp at h
  simp [h.1, h.2.1, h.2.2]
def sameTo (xs ys : List Rn) : Nat → Nat → Bool
  | 0, _ => true
  | n + 1, k => if xs[k]? = ys[k]? then sameTo xs ys n (k + 1) else false
theorem sameTo_eq (xs ys : List Rn) (hl : xs.length = ys.length) : ∀ n k, k + n = xs.length → (sameTo xs ys n k = true ↔ ∀ j, k ≤ j → xs[j]? = ys[j]?)
  | 0, k, h => by
    simp only [sameTo, true_iff]
    intro j hj
    rw [List.getElem?_eq_none (by omega), List.getElem?_eq_none (by omega)]
  | n + 1, k, h => by
    simp only [sameTo]
    by_cases e : xs[k]? = ys[k]?
    · rw [if_pos e, sameTo_eq xs ys hl n (k + 1) (by omega)]
      constructor
      · intro hh j hj
        by_cases ejk : j = k
        · subst ejk; exact e
        · exact hh j (by omega)
      · intro hh j hj
        exact hh j (by omega)
    · rw [if_neg e]
      simp only [Bool.false_eq_true, false_iff]
      intro hh
      exact e (hh k (Nat.le_refl _))
theorem sameTo_all (xs ys : List Rn) (hl : xs.length = ys.length) : sameTo xs ys xs.length 0 = decide (xs = ys) := by
  rw [Bool.eq_iff_iff, sameTo_eq xs ys hl _ 0 (by omega), decide_eq_true_eq]
  constructor
  · intro h; exact List.ext_getElem? fun j => h j (Nat.zero_le _)
  · rintro rfl _ _; rfl
theorem three_eq (a x b y c z : Int) : ((a == x) = true ∧ (b == y) = true ∧ (c == z) = true ∧ (⟨a, b, c⟩ : Rn) = ⟨x, y, z⟩) ∨ ((a == x) = false ∧ ¬ (⟨a, b, c⟩ : Rn) = ⟨x, y, z⟩) ∨
    ((a == x) = true ∧ (b == y) = false ∧ ¬ (⟨a, b, c⟩ : Rn) = ⟨x, y, z⟩) ∨ ((a == x) = true ∧ (b == y) = true ∧ (c == z) = false ∧ ¬ (⟨a, b, c⟩ : Rn) = ⟨x, y, z⟩) := by
  by_cases h1 : a = x
  · by_cases h2 : b = y
    · by_cases h3 : c = z
      · left; simp [h1, h2, h3]
      · right; right; right; simp [h1, h2, h3]
    · right; right; left; simp [h1, h2]
  · right; left; simp [h1]
set_option maxHeartbeats 1000000 in
theorem sameRuns_any (u v : Value) (xs ys : List Rn) (w : World) (hu : RunsRd w u xs) (hv : RunsRd w v ys) :
    Calls Try.prog 23 #[u, v] w fun e w' => e = .returned (.bool (decide (xs = ys))) ∧ ∃ m, w' = w.drewN m := by
  have HU := Lib.hid hu
  have HV := Lib.hid hv
  obtain ⟨ao, cap, rfl, h1, h2, _, _⟩ := hu.form
  obtain ⟨bo, dap, rfl, h3, h4, _, _⟩ := hv.form
  clear hu hv
  have hla : xs.length ≤ 9223372036854775807 := by omega
  have hlb : ys.length ≤ 9223372036854775807 := by omega
  by_cases hl : xs.length = ys.length
  · have HS := Lib.hid (sameTo_all xs ys hl)
    have hlI : ((xs.length : Int) != (ys.length : Int)) = false := by rw [hl]; simp
    have HL := Lib.hid hl
    clear hl
    go_enter Try.func23, Try.ntmps23
    go_wp2_with fail
    go_loopw [5] (fun i w1 => ∃ k : Nat, k ≤ xs.length ∧ i = .int .i64 (k : Int) ∧ Hid (sameTo xs ys (xs.length - k) k = decide (xs = ys)) ∧ ∃ m, w1 = w.drewN m) (fun i _ => xs.length - (intOf i).toNat)
    case atStart => exact ⟨0, Nat.zero_le _, rfl, HS, 0, rfl⟩
    case round =>
      obtain ⟨k, hk, rfl, HE, m, rfl⟩ := hrel
      by_cases hlt : k < xs.length
      · obtain ⟨r, hrk⟩ : ∃ r, xs[k]? = some r := ⟨_, List.getElem?_eq_getElem hlt⟩
        have hlt2 : k < ys.length := by rw [← HL.out]; exact hlt
        obtain ⟨q, hqk⟩ : ∃ q, ys[k]? = some q := ⟨_, List.getElem?_eq_getElem hlt2⟩
        obtain ⟨g, off, rfl, d1, d2, d3⟩ := RunsRd.cells HU.out k r hrk
        obtain ⟨g2, off2, rfl, e1, e2, e3⟩ := RunsRd.cells HV.out k q hqk
        have HE2 : Hid ((if r = q then sameTo xs ys (xs.length - (k + 1)) (k + 1) else false) = decide (xs = ys)) := by
          have h := HE.out
          rw [show xs.length - k = (xs.length - (k + 1)) + 1 from by omega] at h
          simp only [sameTo, hrk, hqk, Option.some.injEq] at h
          exact h
        clear HE hrk hqk
        obtain ⟨rk, rs, rc⟩ := r
        obtain ⟨qk, qs, qc⟩ := q
        dsimp only at d1 d2 d3 e1 e2 e3
        rcases three_eq rk qk rs qs rc qc with ⟨h1, h2, h3, he⟩ | ⟨h1, hn⟩ | ⟨h1, h2, hn⟩ | ⟨h1, h2, h3, hn⟩
        · have HE3 : Hid (sameTo xs ys (xs.length - (k + 1)) (k + 1) = decide (xs = ys)) := by
            have h := HE2.out
            rw [if_pos he] at h
            exact h
          clear he HE2
          go_wp2_with fail
          go_quiet (fail)
          go_wp2_with fail
          go_roundw
          case rel => exact ⟨k + 1, by omega, by go_num, HE3, m + nq, rfl⟩
          case measure => simp [intOf]; omega
        all_goals
          have HE3 : Hid (decide (xs = ys) = false) := by
            have h := HE2.out
            rw [if_neg hn] at h
            exact h.symm
          clear hn HE2
          go_wp2_with fail
          go_quiet (fail)
          go_wp2
          go_ret
          exact ⟨by rw [HE3.out]; rfl, m + nq, by simp⟩
      · obtain rfl : k = xs.length := by omega
        have HF : Hid (decide (xs = ys) = true) := by
          have h := HE.out
          rw [Nat.sub_self] at h
          exact h.symm
        go_wp2
        go_ret
        exact ⟨by rw [HF.out]; rfl, m, rfl⟩
  · have hlI : ((xs.length : Int) != (ys.length : Int)) = true := by simp; omega
    have HF : Hid (decide (xs = ys) = false) := Lib.hid (by simp; intro h; exact hl (by rw [h]))
    clear hl
    go_enter Try.func23, Try.ntmps23
    go_wp2
    go_ret
    exact ⟨by rw [HF.out]; rfl, 0, rfl⟩
end Go.Proofs.Ytpampcokonicfaa
/- A handle of a ledger: a pointer to one, or nil; and who owns which block. -/
namespace Go.Proofs.Ytpampcokonicfaa
open Go.RowKit
set_option maxRecDepth 100000

/-- the program's ledger at a pointer: with its runs, or nil; F: its blocks -/
def LgP (w : World) (p : Value) (F : Nat → Prop) : Option (List Rn) → Prop
  | none => p = .pointer none ∧ F = fun _ => False
  | some rs => ∃ b v, p = .pointer (some ⟨b, 0, none⟩) ∧ F = lfp b v ∧ LedP w b v rs
def LgR (w : World) (p : Value) (F : Nat → Prop) : Option (List Rn) → Prop
  | none => p = .pointer none ∧ F = fun _ => False
  | some rs => ∃ b v, p = .pointer (some ⟨b, 0, none⟩) ∧ F = lfp b v ∧ LedR w b v rs
/-- room for n more events -/
def Room (o : Option (List Rn)) (n : Int) : Prop := ∀ rs, o = some rs → tot rs + n < 9223372036854775808 ∧ rs.length ≤ 5497558138880
theorem Room.none (n : Int) : Room none n := fun _ h => by cases h
theorem Room.some {rs : List Rn} {n : Int} (h1 : tot rs + n < 9223372036854775808) (h2 : rs.length ≤ 5497558138880) : Room (some rs) n := fun _ h => by cases h; exact ⟨h1, h2⟩
def noteO (o : Option (List Rn)) (k s n : Int) : Option (List Rn) := o.map fun rs => noteL rs k s n
theorem LgP.keep {w w' : World} {p : Value} {F : Nat → Prop} {o : Option (List Rn)} (h : LgP w p F o) {S : Nat → Prop} (ho : Only S w w') (hd : ∀ x, F x → ¬ S x) : LgP w' p F o := by
  cases o with
  | none => exact h
  | some rs =>
    obtain ⟨b, v, hp, rfl, hl⟩ := h
    exact ⟨b, v, hp, rfl, hl.keep ho hd⟩
theorem LgR.keep {w w' : World} {p : Value} {F : Nat → Prop} {o : Option (List Rn)} (h : LgR w p F o) {S : Nat → Prop} (ho : Only S w w') (hd : ∀ x, F x → ¬ S x) : LgR w' p F o := by
  cases o with
  | none => exact h
  | some rs =>
    obtain ⟨b, v, hp, rfl, hl⟩ := h
    exact ⟨b, v, hp, rfl, hl.keep ho hd⟩
theorem LgP.lt {w : World} {p : Value} {F : Nat → Prop} {o : Option (List Rn)} (h : LgP w p F o) : ∀ x, F x → x < w.heap.size := by
  cases o with
  | none => obtain ⟨_, rfl⟩ := h; exact fun _ h => h.elim
  | some rs => obtain ⟨b, v, _, rfl, hl⟩ := h; exact hl.lt
theorem LgR.lt {w : World} {p : Value} {F : Nat → Prop} {o : Option (List Rn)} (h : LgR w p F o) : ∀ x, F x → x < w.heap.size := by
  cases o with
  | none => obtain ⟨_, rfl⟩ := h; exact fun _ h => h.elim
  | some rs => obtain ⟨b, v, _, rfl, hl⟩ := h; exact hl.lt
theorem LgP.draw {w : World} {p : Value} {F : Nat → Prop} {o : Option (List Rn)} (h : LgP w p F o) (n : Nat) : LgP (w.drewN n) p F o :=
  h.keep ((Only.refl (fun _ => False) w).draw n) (fun _ _ h => h)
theorem LgR.draw {w : World} {p : Value} {F : Nat → Prop} {o : Option (List Rn)} (h : LgR w p F o) (n : Nat) : LgR (w.drewN n) p F o :=
  h.keep ((Only.refl (fun _ => False) w).draw n) (fun _ _ h => h)
theorem LgP.nil (w : World) : LgP w (.pointer none) (fun _ => False) none := ⟨rfl, rfl⟩
theorem LgR.nil (w : World) : LgR w (.pointer none) (fun _ => False) none := ⟨rfl, rfl⟩
/-- what a call leaves of a ledger: o, in the old blocks and new ones; nothing else has turned -/
def LaidP (p : Value) (F : Nat → Prop) (o : Option (List Rn)) (w w' : World) : Prop := ∃ F', LgP w' p F' o ∧ Only F w w' ∧ ∀ x, F' x → F x ∨ w.heap.size ≤ x
def LaidR (p : Value) (F : Nat → Prop) (o : Option (List Rn)) (w w' : World) : Prop := ∃ F', LgR w' p F' o ∧ Only F w w' ∧ ∀ x, F' x → F x ∨ w.heap.size ≤ x
theorem LaidP.draw {p : Value} {F : Nat → Prop} {o : Option (List Rn)} {w w' : World} (h : LaidP p F o w w') (n : Nat) : LaidP p F o w (w'.drewN n) := by
  obtain ⟨F', h1, h2, h3⟩ := h
  exact ⟨F', h1.draw n, h2.draw n, h3⟩
theorem LaidR.draw {p : Value} {F : Nat → Prop} {o : Option (List Rn)} {w w' : World} (h : LaidR p F o w w') (n : Nat) : LaidR p F o w (w'.drewN n) := by
  obtain ⟨F', h1, h2, h3⟩ := h
  exact ⟨F', h1.draw n, h2.draw n, h3⟩
theorem LaidP.same {p : Value} {F : Nat → Prop} {o : Option (List Rn)} {w w' : World} (h : LgP w p F o) (n : Nat) (e : w' = w.drewN n) : LaidP p F o w w' := by
  subst e
  exact ⟨F, h.draw n, (Only.refl F w).draw n, fun x hx => .inl hx⟩
theorem LaidR.same {p : Value} {F : Nat → Prop} {o : Option (List Rn)} {w w' : World} (h : LgR w p F o) (n : Nat) (e : w' = w.drewN n) : LaidR p F o w w' := by
  subst e
  exact ⟨F, h.draw n, (Only.refl F w).draw n, fun x hx => .inl hx⟩
theorem LaidP.pre {p : Value} {F : Nat → Prop} {o : Option (List Rn)} {w w1 w' : World} (hb : Below w.heap.size w w1) (h : LaidP p F o w1 w') : LaidP p F o w w' := by
  obtain ⟨F', h1, h2, h3⟩ := h
  exact ⟨F', h1, (Only.of_below hb F).trans h2 (fun x hx => .inl hx), fun x hx => (h3 x hx).imp id (fun hh => Nat.le_trans hb.size hh)⟩
theorem LaidR.pre {p : Value} {F : Nat → Prop} {o : Option (List Rn)} {w w1 w' : World} (hb : Below w.heap.size w w1) (h : LaidR p F o w1 w') : LaidR p F o w w' := by
  obtain ⟨F', h1, h2, h3⟩ := h
  exact ⟨F', h1, (Only.of_below hb F).trans h2 (fun x hx => .inl hx), fun x hx => (h3 x hx).imp id (fun hh => Nat.le_trans hb.size hh)⟩

theorem gnoteP_any (p : Value) (F : Nat → Prop) (o : Option (List Rn)) (k s : Int) (w : World) (h : LgP w p F o) (hb : Room o 1) :
    Calls Try.prog 41 #[p, .agg #[.int .u8 k, .int .i64 s]] w fun e w' => e = .returned (.tuple #[]) ∧ LaidP p F (noteO o k s 1) w w' := by
  cases o with
  | none =>
    obtain ⟨rfl, rfl⟩ := h
    refine (note_nil k s w).mono ?_
    rintro e w' ⟨rfl, hb⟩
    exact ⟨rfl, fun _ => False, ⟨rfl, rfl⟩, Only.of_below hb _, fun _ h => h.elim⟩
  | some rs =>
    obtain ⟨b, v, rfl, rfl, hl⟩ := h
    obtain ⟨b1, b2⟩ := hb rs rfl
    refine (note_any b v rs k s w hl b1 b2).mono ?_
    rintro e w' ⟨rfl, v', h1, h2, h3⟩
    refine ⟨rfl, lfp b v', ⟨b, v', rfl, rfl, h1⟩, h2, fun x hx => ?_⟩
    rcases hx with hx | hx
    · exact .inl (.inl hx)
    · exact (h3 x hx).imp .inr id
theorem gnoteR_any (p : Value) (F : Nat → Prop) (o : Option (List Rn)) (k s : Int) (w : World) (h : LgR w p F o) (hb : Room o 1) :
    Calls Try.prog 72 #[p, .agg #[.int .u8 k, .int .i64 s]] w fun e w' => e = .returned (.tuple #[]) ∧ LaidR p F (noteO o k s 1) w w' := by
  cases o with
  | none =>
    obtain ⟨rfl, rfl⟩ := h
    refine (rnote_nil k s w).mono ?_
    rintro e w' ⟨rfl, hb⟩
    exact ⟨rfl, fun _ => False, ⟨rfl, rfl⟩, Only.of_below hb _, fun _ h => h.elim⟩
  | some rs =>
    obtain ⟨b, v, rfl, rfl, hl⟩ := h
    obtain ⟨b1, b2⟩ := hb rs rfl
    refine (rnote_any b v rs k s w hl b1 b2).mono ?_
    rintro e w' ⟨rfl, v', h1, h2, h3⟩
    refine ⟨rfl, lfp b v', ⟨b, v', rfl, rfl, h1⟩, h2, fun x hx => ?_⟩
    rcases hx with hx | hx
    · exact .inl (.inl hx)
    · exact (h3 x hx).imp .inr id

theorem LaidP.only {p : Value} {F : Nat → Prop} {o' : Option (List Rn)} {w w' : World} (hl : LaidP p F o' w w') : Only F w w' := by
  obtain ⟨_, _, h, _⟩ := hl; exact h
theorem LaidR.only {p : Value} {F : Nat → Prop} {o' : Option (List Rn)} {w w' : World} (hl : LaidR p F o' w w') : Only F w w' := by
  obtain ⟨_, _, h, _⟩ := hl; exact h
end Go.Proofs.Ytpampcokonicfaa
/- Ledgers as things of a law's world. -/
namespace Go.Proofs.Ytpampcokonicfaa
open Go.RowKit
set_option maxRecDepth 100000
set_option linter.unusedVariables false

def obP (p : Value) (o : Option (List Rn)) : Ob := ⟨fun w F => LgP w p F o, fun h ho hd => h.keep ho hd, fun h => h.lt⟩
def obR (p : Value) (o : Option (List Rn)) : Ob := ⟨fun w F => LgR w p F o, fun h ho hd => h.keep ho hd, fun h => h.lt⟩
def obRuns (v : Value) (rs : List Rn) : Ob := ⟨fun w F => RunsAt w v rs ∧ F = fp v, fun h ho hd => ⟨h.1.keep ho (by rw [← h.2]; exact hd), h.2⟩, fun h => by rw [h.2]; exact h.1.lt⟩
theorem Env.lgP {w0 w : World} {obs : List Ob} (h : Env w0 w obs) (i : Nat) {p : Value} {o : Option (List Rn)} (hi : obs[i]? = some (obP p o)) :
    ∃ F, LgP w p F o ∧ (∀ x, x < w0.heap.size → ¬ F x) ∧ ∀ w' o', LaidP p F o' w w' → Env w0 w' (obs.set i (obP p o')) := by
  obtain ⟨F, h1, h2, h3, h4⟩ := h.get i hi
  refine ⟨F, h1, h2, fun w' o' hl => ?_⟩
  obtain ⟨F', g1, g2, g3⟩ := hl
  exact h4 w' F' (obP p o') g1 g2 g3
theorem Env.lgR {w0 w : World} {obs : List Ob} (h : Env w0 w obs) (i : Nat) {p : Value} {o : Option (List Rn)} (hi : obs[i]? = some (obR p o)) :
    ∃ F, LgR w p F o ∧ (∀ x, x < w0.heap.size → ¬ F x) ∧ ∀ w' o', LaidR p F o' w w' → Env w0 w' (obs.set i (obR p o')) := by
  obtain ⟨F, h1, h2, h3, h4⟩ := h.get i hi
  refine ⟨F, h1, h2, fun w' o' hl => ?_⟩
  obtain ⟨F', g1, g2, g3⟩ := hl
  exact h4 w' F' (obR p o') g1 g2 g3
theorem Env.runs {w0 w : World} {obs : List Ob} (h : Env w0 w obs) (i : Nat) {v : Value} {l : List Rn} (hi : obs[i]? = some (obRuns v l)) : RunsAt w v l := by
  obtain ⟨F, h1, _⟩ := h.get i hi
  exact h1.1
theorem Env.pushRuns {w0 w w' : World} {obs : List Ob} (h : Env w0 w obs) {v : Value} {l : List Rn} (hb : RunsAt w' v l) (hw : Below w.heap.size w w') (hn : ∀ x, fp v x → w.heap.size ≤ x) : Env w0 w' (obs ++ [obRuns v l]) :=
  h.push (obRuns v l) ⟨hb, rfl⟩ hw hn
theorem Env.pushP {w0 w w' : World} {obs : List Ob} (h : Env w0 w obs) (hb : LedP w' w.heap.size (.slice none 0 0) []) (hw : Below w.heap.size w w') : Env w0 w' (obs ++ [obP (.pointer (some ⟨w.heap.size, 0, none⟩)) (some [])]) :=
  h.push (F' := lfp w.heap.size (.slice none 0 0)) (obP _ (some [])) ⟨_, _, rfl, rfl, hb⟩ hw (fun x hx => by
    rcases hx with rfl | hx
    · exact Nat.le_refl _
    · simp [fp, Value.ownBlock] at hx)
theorem Env.pushR {w0 w w' : World} {obs : List Ob} (h : Env w0 w obs) (hb : LedR w' w.heap.size (.slice none 0 0) []) (hw : Below w.heap.size w w') : Env w0 w' (obs ++ [obR (.pointer (some ⟨w.heap.size, 0, none⟩)) (some [])]) :=
  h.push (F' := lfp w.heap.size (.slice none 0 0)) (obR _ (some [])) ⟨_, _, rfl, rfl, hb⟩ hw (fun x hx => by
    rcases hx with rfl | hx
    · exact Nat.le_refl _
    · simp [fp, Value.ownBlock] at hx)
/-! ### the contracts over a law's world -/
/-- so many notes -/
def timesO (o : Option (List Rn)) (k s n : Int) : Option (List Rn) := if n < 1 then o else noteO o k s n
section
variable {w0 w : World} {obs : List Ob}
theorem newP_env' (h : Env w0 w obs) : Calls Try.prog 17 #[] w fun e w' => ∃ p, e = .returned p ∧ Env w0 w' (obs ++ [obP p (some [])]) :=
  (newP_any w).mono fun e w' ⟨he, h1, h2⟩ => ⟨_, he, h.pushP h1 h2⟩
theorem noteP_env (h : Env w0 w obs) (i : Nat) {p : Value} {o : Option (List Rn)} (hi : obs[i]? = some (obP p o)) (k s : Int) (hb : Room o 1) :
    Calls Try.prog 41 #[p, .agg #[.int .u8 k, .int .i64 s]] w fun e w' => e = .returned (.tuple #[]) ∧ Env w0 w' (obs.set i (obP p (noteO o k s 1))) := by
  obtain ⟨F, f1, _, f4⟩ := h.lgP i hi
  exact (gnoteP_any p F o k s w f1 hb).mono fun e w' ⟨he, h1⟩ => ⟨he, f4 w' _ h1⟩
theorem gtimesP_any (p : Value) (F : Nat → Prop) (o : Option (List Rn)) (k s n : Int) (w : World) (h : LgP w p F o) (hb : Room o n) :
    Calls Try.prog 66 #[p, .agg #[.int .u8 k, .int .i64 s], .int .i64 n] w fun e w' => e = .returned (.tuple #[]) ∧ LaidP p F (timesO o k s n) w w' := by
  unfold timesO
  cases o with
  | none =>
    obtain ⟨rfl, rfl⟩ := h
    refine (noteTimes_nil k s n w).mono ?_
    rintro e w' ⟨rfl, hb⟩
    refine ⟨rfl, fun _ => False, ?_, Only.of_below hb _, fun _ h => h.elim⟩
    split <;> exact ⟨rfl, rfl⟩
  | some rs =>
    obtain ⟨b, v, rfl, rfl, hl⟩ := h
    by_cases hn : n < 1
    · rw [if_pos hn]
      refine (noteTimes_off b k s n w hn).mono ?_
      rintro e w' ⟨rfl, hb⟩
      exact ⟨rfl, lfp b v, ⟨b, v, rfl, rfl, hl.keep (Only.nothing hb) (fun _ _ h => h)⟩, Only.of_below hb _, fun x hx => .inl hx⟩
    · rw [if_neg hn]
      obtain ⟨b1, b2⟩ := hb rs rfl
      refine (noteTimes_any b v rs k s n w hl (by omega) b1 b2).mono ?_
      rintro e w' ⟨rfl, v', h1, h2, h3⟩
      refine ⟨rfl, lfp b v', ⟨b, v', rfl, rfl, h1⟩, h2, fun x hx => ?_⟩
      rcases hx with hx | hx
      · exact .inl (.inl hx)
      · exact (h3 x hx).imp .inr id
theorem timesP_env (h : Env w0 w obs) (i : Nat) {p : Value} {o : Option (List Rn)} (hi : obs[i]? = some (obP p o)) (k s n : Int) (hb : Room o n) :
    Calls Try.prog 66 #[p, .agg #[.int .u8 k, .int .i64 s], .int .i64 n] w fun e w' => e = .returned (.tuple #[]) ∧ Env w0 w' (obs.set i (obP p (timesO o k s n))) := by
  obtain ⟨F, f1, _, f4⟩ := h.lgP i hi
  exact (gtimesP_any p F o k s n w f1 hb).mono fun e w' ⟨he, h1⟩ => ⟨he, f4 w' _ h1⟩
theorem runsP_env' (h : Env w0 w obs) (i : Nat) {p : Value} {rs : List Rn} (hi : obs[i]? = some (obP p (some rs))) (hl : rs.length ≤ 5497558138880) :
    Calls Try.prog 24 #[p] w fun e w' => ∃ v, e = .returned v ∧ Env w0 w' (obs ++ [obRuns v rs]) := by
  obtain ⟨F, f1, _⟩ := h.lgP i hi
  obtain ⟨b, v, rfl, rfl, f2⟩ := f1
  exact (runsP_any b v rs w f2 hl).mono fun e w' ⟨v, he, h1, h2, h3⟩ => ⟨v, he, h.pushRuns h1 h2 h3⟩
theorem lenP_env' (h : Env w0 w obs) (i : Nat) {p : Value} {rs : List Rn} (hi : obs[i]? = some (obP p (some rs))) :
    Calls Try.prog 19 #[p] w fun e w' => e = .returned (.int .i64 (tot rs)) ∧ w = w' := by
  obtain ⟨F, f1, _⟩ := h.lgP i hi
  obtain ⟨b, v, rfl, rfl, f2⟩ := f1
  exact lenP_any b v rs w f2
theorem sameRuns_env' (h : Env w0 w obs) {u v : Value} {xs ys : List Rn} (hu : RunsRd w u xs) (hv : RunsRd w v ys) :
    Calls Try.prog 23 #[u, v] w fun e w' => e = .returned (.bool (decide (xs = ys))) ∧ Env w0 w' obs :=
  (sameRuns_any u v xs ys w hu hv).mono fun e w' ⟨he, m, hm⟩ => ⟨he, by rw [hm]; exact h.draw m⟩
end
end Go.Proofs.Ytpampcokonicfaa
/- '==' and '!=' of two arrays of bytes as one step of a walk, and the literal of an array of noughts; whole loads under a guard. No program in sight. -/
namespace Go.Proofs.Ytpampcokonicfaa
open Go.RowKit
set_option linter.unusedSimpArgs false
section
variable {P : Program} {ops : Array Oper} {rest : List Oper} {a : Act} {w : World} {Q : Exit → Act → World → Prop} {d : Option Tmp} {t ot : TypeId} {x y : Operand} {pos : String} {aft : Array Edge} {gd : Option (Nat × Bool)}
theorem wpList_value {o : Oper} (v : Value) (hw : Region.wanted o (yielded ops a.tmps) = true) (h : (execOp a.eval o).run P w = .ok (.value v) w) (kk : wpList P ops Q rest (a.put o.dst v) w) : wpList P ops Q (o :: rest) a w :=
  wpList_step fun K hK => by
    rw [if_pos hw]
    unfold Oper.wp
    rw [h]
    exact hK _ _ kk
theorem wpList_eql_arr {ty : TypeId} (l m : List UInt8) (b : Bool) (hw : Region.wanted ⟨d, .binOp .eql ty x y t, ot, pos, aft, gd⟩ (yielded ops a.tmps) = true) (hx : a.eval x = .agg (barr l)) (hy : a.eval y = .agg (barr m)) (hg : P.eqGuardType P.depth ty = false)
    (he : ∀ w, (Op.equalIn 10000 ty (.agg (barr l)) (.agg (barr m))).run P w = .ok b w)
    (kk : wpList P ops Q rest (a.put d (.bool b)) w) : wpList P ops Q (⟨d, .binOp .eql ty x y t, ot, pos, aft, gd⟩ :: rest) a w := by
  refine wpList_value (.bool b) hw ?_ kk
  simp only [execOp, Sem.run_bind, hx, hy, run_eqGuard_agg w .eql ty x y _ _ hg, Result.andThen_ok, run_eql_struct, he, Sem.run_pure]
theorem wpList_neq_arr {ty : TypeId} (l m : List UInt8) (b : Bool) (hw : Region.wanted ⟨d, .binOp .neq ty x y t, ot, pos, aft, gd⟩ (yielded ops a.tmps) = true) (hx : a.eval x = .agg (barr l)) (hy : a.eval y = .agg (barr m)) (hg : P.eqGuardType P.depth ty = false)
    (he : ∀ w, (Op.equalIn 10000 ty (.agg (barr l)) (.agg (barr m))).run P w = .ok b w)
    (kk : wpList P ops Q rest (a.put d (.bool (!b))) w) : wpList P ops Q (⟨d, .binOp .neq ty x y t, ot, pos, aft, gd⟩ :: rest) a w := by
  refine wpList_value (.bool (!b)) hw ?_ kk
  simp only [execOp, Sem.run_bind, hx, hy, run_eqGuard_agg w .neq ty x y _ _ hg, Result.andThen_ok, run_neq_struct, he, Sem.run_pure]
theorem exec_eql_arr {ty : TypeId} (l m : List UInt8) (b : Bool) (hx : a.eval x = .agg (barr l)) (hy : a.eval y = .agg (barr m)) (hg : P.eqGuardType P.depth ty = false)
    (he : ∀ w, (Op.equalIn 10000 ty (.agg (barr l)) (.agg (barr m))).run P w = .ok b w) : (execOp a.eval ⟨d, .binOp .eql ty x y t, ot, pos, aft, gd⟩).run P w = .ok (.value (.bool b)) w := by
  simp only [execOp, Sem.run_bind, hx, hy, run_eqGuard_agg w .eql ty x y _ _ hg, Result.andThen_ok, run_eql_struct, he, Sem.run_pure]
theorem exec_neq_arr {ty : TypeId} (l m : List UInt8) (b : Bool) (hx : a.eval x = .agg (barr l)) (hy : a.eval y = .agg (barr m)) (hg : P.eqGuardType P.depth ty = false)
    (he : ∀ w, (Op.equalIn 10000 ty (.agg (barr l)) (.agg (barr m))).run P w = .ok b w) : (execOp a.eval ⟨d, .binOp .neq ty x y t, ot, pos, aft, gd⟩).run P w = .ok (.value (.bool (!b))) w := by
  simp only [execOp, Sem.run_bind, hx, hy, run_eqGuard_agg w .neq ty x y _ _ hg, Result.andThen_ok, run_neq_struct, he, Sem.run_pure]
/-- a whole block is stored; the world behind it is a variable -/
theorem wpList_store_var (g : Nat) (cells : Array Value) (hx : a.eval x = .pointer (some ⟨g, 0, none⟩)) (hy : a.eval y = .agg cells) {bt ty : TypeId} {old : Array Value} {n : Nat} (hg : Blk w g bt old)
    (hi : (P.info? ty).map (·.size) = some n) (hn : cells.size = n) (ho : old.size = n) (h1 : ∀ v ∈ cells.toList, v.oneCell' = true)
    (h : ∀ w', Blk w' g bt cells → Only (fun x => x = g) w w' → wpList P ops Q rest (a.put d undef) w') : wpList P ops Q (⟨d, .store ty x y, ot, pos, aft, none⟩ :: rest) a w :=
  wpList_store_blk g cells hx hy hg hi hn ho h1 (h _ (hg.row _) (Only.row (S := fun x => x = g) (Only.refl _ w) (.inl rfl) _))
theorem run_index_bytes {ty e : TypeId} {n : Nat} (hu : P.underlying ty = some (.array n e)) (hk : P.plainKey e = true) (hs : (P.info? e).map (·.size) = some 1) (l : List UInt8) (k : Nat) (hl : k < l.length) (hn : k < n) (w : World) :
    (Instr.index ty (.agg (barr l)) (.int .i64 (k : Int))).run P w = .ok (.int .u8 ((l.getD k 0).toNat : Int)) w := by
  have h1 := run_part_plain w hk (barr_getD l k hl)
  cases hq : P.info? e with
  | none => simp [hq] at hs
  | some i =>
    have hi : i.size = 1 := by simpa [hq] using hs
    have hc : (0 : Int) ≤ (k : Int) ∧ (k : Int) < (n : Int) := by omega
    simp only [Instr.index, asIntOf, Sem.run_bind, Sem.run_pure, Result.andThen_ok, run_underlying hu]
    rw [if_pos hc]
    simp only [Sem.run_bind, sizeOf, typeInfo, hq, hi, Sem.run_pure, Result.andThen_ok, Int.toNat_natCast, Nat.mul_one]
    simpa [hq, hi] using h1
end
end Go.Proofs.Ytpampcokonicfaa
/- copy into a block that is known whole: of the blocks that were there only that one turns. No program in sight. -/
namespace Go.Proofs.Ytpampcokonicfaa
open Go.RowKit
theorem wpList_copy_only {P : Program} {w : World} {ops : Array Oper} {rest : List Oper} {o : Oper} {a : Act} {Q : Exit → Act → World → Prop} (hgd : o.guard = none) (d s : Operand) (dT sT : TypeId)
    (ho : o.op = .call { callee := .builtin .copy, args := #[d, s], argTypes := #[dT, sT] }) (elem : TypeId) (hu : P.underlying dT = some (.slice elem)) (hsz : (P.info? elem).map (·.size) = some 1)
    (dp sp : Option Addr) (dLen dCap sLen sCap : Nat) (hd : a.eval d = .slice dp dLen dCap) (hs : a.eval s = .slice sp sLen sCap)
    (g off : Nat) (cur : List Value) (t : TypeId) (hg : w.heap[g]? = some (.cells cur.toArray t (0, 0))) (cs : List Value) (hn : cs.length = Nat.min sLen dLen)
    (hpos : 0 < cs.length → dp = some ⟨g, off, none⟩ ∧ ∃ ad, sp = some ad ∧ ∀ j v, cs[j]? = some v → w.cell? (ad.add j) = some v)
    (hfit : off + cs.length ≤ cur.length) (h1 : ∀ v ∈ cs, v.oneCell' = true)
    (h : ∀ w', Hid (w'.heap[g]? = some (.cells (splice cur off cs).toArray t (0, 0))) → Only (fun x => x = g) w w' → wpList P ops Q rest (a.put o.dst (goInt cs.length)) w') :
    wpList P ops Q (o :: rest) a w := by
  by_cases h0 : cs.length = 0
  · obtain rfl : cs = [] := List.eq_nil_of_length_eq_zero h0
    refine wpList_copy_nothing hgd d s dT sT ho elem hu hsz dp sp dLen dCap sLen sCap hd hs (by simpa using hn.symm) ?_
    exact h w (show _ = _ by simpa [splice] using hg) (Only.refl _ _)
  · obtain ⟨rfl, ad, rfl, hsrc⟩ := hpos (by omega)
    refine wpList_copy_own hgd d s dT sT ho elem hu hsz g off dLen dCap ad sLen sCap hd hs cur.toArray t hg cs hn hsrc (by simpa using hfit) h1 ?_
    exact h _ (show _ = _ by simpa [splice] using setRow_heap w g _ _ t _ hg) (Only.row (S := fun x => x = g) (Only.refl _ w) (.inl rfl) _)
end Go.Proofs.Ytpampcokonicfaa
namespace Go.Proofs.Ytpampcokonicfaa
open Go.RowKit
set_option maxRecDepth 100000
set_option linter.unusedVariables false
set_option linter.unusedSimpArgs false

theorem mulU_any (x y : UInt8) (w : World) : Calls Try.prog 68 #[.int .u8 (x.toNat : Int), .int .u8 (y.toNat : Int)] w fun e w' => e = .returned (.int .u8 ((gmU x y).toNat : Int)) ∧ w = w' := by
  refine (mul_any _ _ w (by omega) (u8_hi x) (by omega) (u8_hi y)).mono ?_
  rintro e w' ⟨rfl, h⟩
  refine ⟨?_, h⟩
  rw [gmU_nat]
  rfl
theorem boxU_any (x : UInt8) (w : World) : Calls Try.prog 46 #[.int .u8 (x.toNat : Int)] w fun e w' => e = .returned (.int .u8 ((boxU x).toNat : Int)) ∧ ∃ m, w' = w.drewN m := by
  refine (box_any _ w (by omega) (u8_hi x)).mono ?_
  rintro e w' ⟨rfl, h⟩
  refine ⟨?_, h⟩
  rw [boxU_nat]
  rfl
theorem drew_below (w : World) (n : Nat) : Below w.heap.size w (w.drewN n) := ⟨rfl, rfl, rfl, Nat.le_refl _, fun _ _ => rfl⟩
/-! ### a cipher -/
def cipC (k : Nat) (K : List UInt8) : Array Value := (Value.int .i64 (k : Int) :: K.map B).toArray
theorem cipC_size (k : Nat) (K : List UInt8) : (cipC k K).size = K.length + 1 := by simp [cipC]
theorem cipC_one (k : Nat) (K : List UInt8) : ∀ v ∈ (cipC k K).toList, v.oneCell' = true := by
  intro v hv
  have hv' : v ∈ Value.int .i64 (k : Int) :: K.map B := by simpa [cipC] using hv
  rcases List.mem_cons.1 hv' with rfl | hv'
  · rfl
  · obtain ⟨x, _, rfl⟩ := List.mem_map.1 hv'
    rfl
/-- a cipher in memory; of a key of no bytes: none -/
def CipAt (w : World) (b : Nat) (k : Nat) (K : List UInt8) : Prop := Blk w b 85 (cipC k K) ∧ K.length = 240
theorem CipAt.key {w : World} {b k : Nat} {K : List UInt8} (h : CipAt w b k K) : w.cell? ⟨b, 0, none⟩ = some (.int .i64 (k : Int)) := h.1.cellAt 0 (by simp [cipC])
theorem CipAt.lt {w : World} {b k : Nat} {K : List UInt8} (h : CipAt w b k K) : b < w.heap.size := h.1.lt
theorem CipAt.round {w : World} {b k : Nat} {K : List UInt8} (h : CipAt w b k K) (r : Nat) (hr : r < 15) : w.rangeAt b (1 + r * 16) (((K.drop (16 * r)).take 16).map B) := by
  intro j v hv
  refine h.1.cellAt _ ?_
  have hj : j < 16 := by
    have := (List.getElem?_eq_some_iff.1 hv).1
    rw [List.length_map, List.length_take] at this
    omega
  rw [List.getElem?_map, List.getElem?_take_of_lt hj, List.getElem?_drop] at hv
  simp only [cipC, List.getElem?_toArray]
  rw [show 1 + r * 16 + j = (16 * r + j) + 1 from by omega, List.getElem?_cons_succ, List.getElem?_map]
  exact hv
theorem CipAt.only {w w' : World} {b k : Nat} {K : List UInt8} (h : CipAt w b k K) {S : Nat → Prop} (ho : Only S w w') (hb : ¬ S b) : CipAt w' b k K := ⟨h.1.only ho hb, h.2⟩
theorem CipAt.below {w w' : World} {b k : Nat} {K : List UInt8} (h : CipAt w b k K) (hb : Below w.heap.size w w') : CipAt w' b k K := ⟨h.1.below hb h.lt, h.2⟩

/-! ### blocks of sixteen bytes, made place by place -/
theorem tab_self (l : List UInt8) {n : Nat} (h : l.length = n) : tab n (fun j => l.getD j 0) = l := by
  apply List.ext_getElem?
  intro j
  by_cases hj : j < n
  · simp only [tab, List.getElem?_map, List.getElem?_range hj, Option.map_some, List.getD_eq_getElem?_getD]
    rw [List.getElem?_eq_getElem (by omega)]
    rfl
  · rw [List.getElem?_eq_none (by simp [tab]; omega), List.getElem?_eq_none (by omega)]
/-- the first k places are g's, the others f's -/
def mixT (n : Nat) (g f : Nat → UInt8) (k : Nat) : List UInt8 := tab n fun j => if j < k then g j else f j
theorem mixT_len (n : Nat) (g f : Nat → UInt8) (k : Nat) : (mixT n g f k).length = n := tab_length _ _
theorem mixT_zero (n : Nat) (g f : Nat → UInt8) : mixT n g f 0 = tab n f := tab_ext _ _ _ fun j _ => by simp
theorem mixT_end (n : Nat) (g f : Nat → UInt8) : mixT n g f n = tab n g := tab_ext _ _ _ fun j hj => by simp [hj]
theorem mixT_succ (n : Nat) (g f : Nat → UInt8) (k : Nat) : (mixT n g f k).set k (g k) = mixT n g f (k + 1) := by
  unfold mixT
  rw [tab_set]
  refine tab_ext _ _ _ fun j _ => ?_
  by_cases e : j = k
  · subst e; simp
  · rw [if_neg e]
    by_cases h : j < k
    · rw [if_pos h, if_pos (by omega)]
    · rw [if_neg h, if_neg (by omega)]
theorem mixT_at (n : Nat) (g f : Nat → UInt8) (k : Nat) (hk : k < n) : (mixT n g f k).getD k 0 = f k := by
  unfold mixT
  rw [tab_getD _ _ _ hk, if_neg (by omega)]
theorem withK_tab (K b : List UInt8) (r : Nat) : withK K b r = tab 16 (fun i => b.getD i 0 ^^^ K.getD (16 * r + i) 0) := rfl
theorem size16 : (Try.prog.info? 31).map (·.size) = some 16 := by kernel_rfl
theorem size4 : (Try.prog.info? 89).map (·.size) = some 4 := by kernel_rfl
theorem xorU (x y : UInt8) : bits .xor .u8 (x.toNat : Int) (y.toNat : Int) = ((x ^^^ y).toNat : Int) := by
  rw [u8_xor_nat _ _ x.toNat_lt y.toNat_lt, UInt8.toNat_xor]

set_option maxHeartbeats 1000000 in
theorem with_any (b k : Nat) (K l : List UInt8) (r : Nat) (w : World) (h : CipAt w b k K) (hl : l.length = 16) (hr : r < 15) :
    Calls Try.prog 44 #[.pointer (some ⟨b, 0, none⟩), .agg (barr l), .int .i64 (r : Int)] w fun e w' => e = .returned (.agg (barr (withK K l r))) ∧ Below w.heap.size w w' := by
  have hb := h.lt
  have HC : Hid (CipAt ((w.alloc (.cells (barr l) 31)).alloc (.cells (barr (List.replicate 16 0)) 31)) b k K) := Lib.hid (h.below (((Below.refl _ _).alloc (Nat.le_refl _) _).alloc (by simp) _))
  have hKl := h.2
  obtain ⟨R, hR⟩ : ∃ R, R = (K.drop (16 * r)).take 16 := ⟨_, rfl⟩
  have hRl : R.length = 16 := by rw [hR]; simp; omega
  have hRg : ∀ j, j < 16 → R.getD j 0 = K.getD (16 * r + j) 0 := by
    intro j hj
    rw [hR, List.getD_eq_getElem?_getD, List.getD_eq_getElem?_getD, List.getElem?_take_of_lt hj, List.getElem?_drop]
  have HRG := Lib.hid hRg
  have rng := HC.out.round r hr
  rw [← hR] at rng
  have RNG := Lib.hid rng
  have hrm : (R.map B).length = 16 := by rw [List.length_map]; exact hRl
  have HL := Lib.hid hl
  clear h hR rng hRg
  go_enter Try.func44, Try.ntmps44
  go_wp2_with (first | ((with_reducible change wpList _ _ _ (Oper.mk _ (Op.load 31 _) _ _ _ _ :: _) _ _); refine wpList_load_mid rfl 31 _ rfl b (1 + r * 16) rfl (R.map B) _ RNG.out Try.underlying31 rfl (size16.trans (by rw [hrm])) ?_))
  go_loopw [15] (fun i w1 => ∃ k : Nat, k ≤ 16 ∧ i = .int .i64 (k : Int) ∧ Blk w1 w.heap.size 31 (barr (mixT 16 (fun j => l.getD j 0 ^^^ K.getD (16 * r + j) 0) (fun j => l.getD j 0) k)) ∧ Blk w1 (w.heap.size + 1) 31 (barr (List.replicate 16 0)) ∧ Below w.heap.size w w1) (fun i _ => 16 - (intOf i).toNat)
  case atStart =>
    refine ⟨0, by omega, rfl, ?_, ?_, ?_⟩
    · rw [mixT_zero, tab_self l HL.out]
      exact (Blk.at rfl rfl).alloc _
    · exact Blk.at (by simp) rfl
    · exact ((Below.refl _ _).alloc (Nat.le_refl _) _).alloc (by simp) _
  case round =>
    obtain ⟨k, hk, rfl, h0, h1, hbl⟩ := hrel
    by_cases hlt : k < 16
    · have c0 := h0.cellAt k (barr_getD _ k (by rw [mixT_len]; exact hlt))
      rw [mixT_at _ _ _ _ hlt] at c0
      have f0 := h0.unfrozen k
      have ck : ∀ w, (Instr.index 31 (.agg (R.map B).toArray) (.int .i64 (k : Int))).run Try.prog w = .ok (.int .u8 ((R.getD k 0).toNat : Int)) w := fun w => run_index_bytes Try.underlying31 (by kernel_rfl) (by kernel_rfl) R k (by rw [hRl]; exact hlt) hlt w
      have hg := HRG.out k hlt
      generalize hx : l.getD k 0 = x at c0
      generalize hy : R.getD k 0 = y at ck hg
      have HX := Lib.hid hx
      have HG := Lib.hid hg
      clear hx hy hg
      go_wp2_with fail
      go_roundw
      case rel =>
        refine ⟨k + 1, by omega, by go_num, ?_, h1.set_ne (by simp) _, hbl.setCell (by simp) _⟩
        have h := h0.set k (.int .u8 ((x ^^^ y).toNat : Int))
        have e : mixT 16 (fun j => l.getD j 0 ^^^ K.getD (16 * r + j) 0) (fun j => l.getD j 0) (k + 1) = (mixT 16 (fun j => l.getD j 0 ^^^ K.getD (16 * r + j) 0) (fun j => l.getD j 0) k).set k (x ^^^ y) := by
          rw [← mixT_succ]
          rw [HX.out, ← HG.out]
        rw [barr_set, ← e] at h
        rw [xorU]
        exact h
      case measure => simp [intOf]; omega
    · obtain rfl : k = 16 := by omega
      rw [mixT_end, ← withK_tab] at h0
      have hs : (barr (withK K l r)).size = 16 := by rw [barr_size, withK_len]
      go_wp2_with (first | ((with_reducible change wpList _ _ _ (Oper.mk _ (Op.load 31 _) _ _ _ _ :: _) _ _); refine wpList_load_blk (ty := 31) w.heap.size rfl h0 Try.underlying31 rfl size16 hs ?_) | ((with_reducible change wpList _ _ _ (Oper.mk _ (Op.store 31 _ _) _ _ _ _ :: _) _ _); refine wpList_store_blk (ty := 31) (w.heap.size + 1) (barr (withK K l r)) rfl rfl h1 size16 hs (barr_size _) (barr_one _) ?_))
      refine bodyPost_ret (results_cell_blk rfl _ _ (w.heap.size + 1) rfl (h1.row _) Try.underlying31 rfl size16 hs) rfl ⟨rfl, below_row hbl (by simp) _⟩
end Go.Proofs.Ytpampcokonicfaa
