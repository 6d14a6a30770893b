/- A handle of a ledger: a pointer to one, or nil; and who owns which block. -/
import Derived.Test.YthegjgbidhbmfaaRows
import Derived.Test.YthegjgbidhbmfaaLedRuns
import Derived.Test.YthegjgbidhbmfaaBytes
namespace Go.Proofs.Ythegjgbidhbmfaa
open Go.RowKit
set_option maxRecDepth 100000

/-- the program's ledger at a pointer: with its runs, or nil; F: its blocks -/
def LgP (w : World) (p : Value) (F : Nat → Prop) : Option (List Rn) → Prop
  | none => p = .pointer none ∧ F = fun _ => False
  | some rs => ∃ b v, p = .pointer (some ⟨b, 0, none⟩) ∧ F = lfp b v ∧ LedP w b v rs
def LgR (w : World) (p : Value) (F : Nat → Prop) : Option (List Rn) → Prop
  | none => p = .pointer none ∧ F = fun _ => False
  | some rs => ∃ b v, p = .pointer (some ⟨b, 0, none⟩) ∧ F = lfp b v ∧ LedR w b v rs
/-- room for n more events -/
def Room (o : Option (List Rn)) (n : Int) : Prop := ∀ rs, o = some rs → tot rs + n < 9223372036854775808 ∧ rs.length ≤ 1099511627776
theorem Room.none (n : Int) : Room none n := fun _ h => by cases h
theorem Room.some {rs : List Rn} {n : Int} (h1 : tot rs + n < 9223372036854775808) (h2 : rs.length ≤ 1099511627776) : Room (some rs) n := fun _ h => by cases h; exact ⟨h1, h2⟩
def noteO (o : Option (List Rn)) (k s n : Int) : Option (List Rn) := o.map fun rs => noteL rs k s n
theorem LgP.keep {w w' : World} {p : Value} {F : Nat → Prop} {o : Option (List Rn)} (h : LgP w p F o) {S : Nat → Prop} (ho : Only S w w') (hd : ∀ x, F x → ¬ S x) : LgP w' p F o := by
  cases o with
  | none => exact h
  | some rs =>
    obtain ⟨b, v, hp, rfl, hl⟩ := h
    exact ⟨b, v, hp, rfl, hl.keep ho hd⟩
theorem LgR.keep {w w' : World} {p : Value} {F : Nat → Prop} {o : Option (List Rn)} (h : LgR w p F o) {S : Nat → Prop} (ho : Only S w w') (hd : ∀ x, F x → ¬ S x) : LgR w' p F o := by
  cases o with
  | none => exact h
  | some rs =>
    obtain ⟨b, v, hp, rfl, hl⟩ := h
    exact ⟨b, v, hp, rfl, hl.keep ho hd⟩
theorem LgP.lt {w : World} {p : Value} {F : Nat → Prop} {o : Option (List Rn)} (h : LgP w p F o) : ∀ x, F x → x < w.heap.size := by
  cases o with
  | none => obtain ⟨_, rfl⟩ := h; exact fun _ h => h.elim
  | some rs => obtain ⟨b, v, _, rfl, hl⟩ := h; exact hl.lt
theorem LgR.lt {w : World} {p : Value} {F : Nat → Prop} {o : Option (List Rn)} (h : LgR w p F o) : ∀ x, F x → x < w.heap.size := by
  cases o with
  | none => obtain ⟨_, rfl⟩ := h; exact fun _ h => h.elim
  | some rs => obtain ⟨b, v, _, rfl, hl⟩ := h; exact hl.lt
theorem LgP.draw {w : World} {p : Value} {F : Nat → Prop} {o : Option (List Rn)} (h : LgP w p F o) (n : Nat) : LgP (w.drewN n) p F o :=
  h.keep ((Only.refl (fun _ => False) w).draw n) (fun _ _ h => h)
theorem LgR.draw {w : World} {p : Value} {F : Nat → Prop} {o : Option (List Rn)} (h : LgR w p F o) (n : Nat) : LgR (w.drewN n) p F o :=
  h.keep ((Only.refl (fun _ => False) w).draw n) (fun _ _ h => h)
theorem LgP.nil (w : World) : LgP w (.pointer none) (fun _ => False) none := ⟨rfl, rfl⟩
theorem LgR.nil (w : World) : LgR w (.pointer none) (fun _ => False) none := ⟨rfl, rfl⟩
/-- what a call leaves of a ledger: o, in the old blocks and new ones; nothing else has turned -/
def LaidP (p : Value) (F : Nat → Prop) (o : Option (List Rn)) (w w' : World) : Prop := ∃ F', LgP w' p F' o ∧ Only F w w' ∧ ∀ x, F' x → F x ∨ w.heap.size ≤ x
def LaidR (p : Value) (F : Nat → Prop) (o : Option (List Rn)) (w w' : World) : Prop := ∃ F', LgR w' p F' o ∧ Only F w w' ∧ ∀ x, F' x → F x ∨ w.heap.size ≤ x
theorem LaidP.draw {p : Value} {F : Nat → Prop} {o : Option (List Rn)} {w w' : World} (h : LaidP p F o w w') (n : Nat) : LaidP p F o w (w'.drewN n) := by
  obtain ⟨F', h1, h2, h3⟩ := h
  exact ⟨F', h1.draw n, h2.draw n, h3⟩
theorem LaidR.draw {p : Value} {F : Nat → Prop} {o : Option (List Rn)} {w w' : World} (h : LaidR p F o w w') (n : Nat) : LaidR p F o w (w'.drewN n) := by
  obtain ⟨F', h1, h2, h3⟩ := h
  exact ⟨F', h1.draw n, h2.draw n, h3⟩
theorem LaidP.same {p : Value} {F : Nat → Prop} {o : Option (List Rn)} {w w' : World} (h : LgP w p F o) (n : Nat) (e : w' = w.drewN n) : LaidP p F o w w' := by
  subst e
  exact ⟨F, h.draw n, (Only.refl F w).draw n, fun x hx => .inl hx⟩
theorem LaidR.same {p : Value} {F : Nat → Prop} {o : Option (List Rn)} {w w' : World} (h : LgR w p F o) (n : Nat) (e : w' = w.drewN n) : LaidR p F o w w' := by
  subst e
  exact ⟨F, h.draw n, (Only.refl F w).draw n, fun x hx => .inl hx⟩
theorem LaidP.pre {p : Value} {F : Nat → Prop} {o : Option (List Rn)} {w w1 w' : World} (hb : Below w.heap.size w w1) (h : LaidP p F o w1 w') : LaidP p F o w w' := by
  obtain ⟨F', h1, h2, h3⟩ := h
  exact ⟨F', h1, (Only.of_below hb F).trans h2 (fun x hx => .inl hx), fun x hx => (h3 x hx).imp id (fun hh => Nat.le_trans hb.size hh)⟩
theorem LaidR.pre {p : Value} {F : Nat → Prop} {o : Option (List Rn)} {w w1 w' : World} (hb : Below w.heap.size w w1) (h : LaidR p F o w1 w') : LaidR p F o w w' := by
  obtain ⟨F', h1, h2, h3⟩ := h
  exact ⟨F', h1, (Only.of_below hb F).trans h2 (fun x hx => .inl hx), fun x hx => (h3 x hx).imp id (fun hh => Nat.le_trans hb.size hh)⟩

theorem gnoteP_any (p : Value) (F : Nat → Prop) (o : Option (List Rn)) (k s : Int) (w : World) (h : LgP w p F o) (hb : Room o 1) :
    Calls Try.prog 43 #[p, .agg #[.int .u8 k, .int .i64 s]] w fun e w' => e = .returned (.tuple #[]) ∧ LaidP p F (noteO o k s 1) w w' := by
  cases o with
  | none =>
    obtain ⟨rfl, rfl⟩ := h
    refine (note_nil k s w).mono ?_
    rintro e w' ⟨rfl, hb⟩
    exact ⟨rfl, fun _ => False, ⟨rfl, rfl⟩, Only.of_below hb _, fun _ h => h.elim⟩
  | some rs =>
    obtain ⟨b, v, rfl, rfl, hl⟩ := h
    obtain ⟨b1, b2⟩ := hb rs rfl
    refine (note_any b v rs k s w hl b1 b2).mono ?_
    rintro e w' ⟨rfl, v', h1, h2, h3⟩
    refine ⟨rfl, lfp b v', ⟨b, v', rfl, rfl, h1⟩, h2, fun x hx => ?_⟩
    rcases hx with hx | hx
    · exact .inl (.inl hx)
    · exact (h3 x hx).imp .inr id
theorem gnoteR_any (p : Value) (F : Nat → Prop) (o : Option (List Rn)) (k s : Int) (w : World) (h : LgR w p F o) (hb : Room o 1) :
    Calls Try.prog 39 #[p, .agg #[.int .u8 k, .int .i64 s]] w fun e w' => e = .returned (.tuple #[]) ∧ LaidR p F (noteO o k s 1) w w' := by
  cases o with
  | none =>
    obtain ⟨rfl, rfl⟩ := h
    refine (rnote_nil k s w).mono ?_
    rintro e w' ⟨rfl, hb⟩
    exact ⟨rfl, fun _ => False, ⟨rfl, rfl⟩, Only.of_below hb _, fun _ h => h.elim⟩
  | some rs =>
    obtain ⟨b, v, rfl, rfl, hl⟩ := h
    obtain ⟨b1, b2⟩ := hb rs rfl
    refine (rnote_any b v rs k s w hl b1 b2).mono ?_
    rintro e w' ⟨rfl, v', h1, h2, h3⟩
    refine ⟨rfl, lfp b v', ⟨b, v', rfl, rfl, h1⟩, h2, fun x hx => ?_⟩
    rcases hx with hx | hx
    · exact .inl (.inl hx)
    · exact (h3 x hx).imp .inr id

/-! ### who owns which block -/
/-- new blocks go to i -/
def grab (own : Nat → Nat) (s : Nat) (i : Nat) : Nat → Nat := fun x => if x < s then own x else i
/-- a law's world: what was there when it began belongs to nobody (0), and is as it was -/
structure St (w0 : World) (own : Nat → Nat) (w : World) : Prop where
  below : Below w0.heap.size w0 w
  old : ∀ x, x < w0.heap.size → own x = 0
theorem St.start (w : World) : St w (fun _ => 0) w := ⟨Below.refl _ _, fun _ _ => rfl⟩
theorem Only.below0 {S : Nat → Prop} {w w' : World} (h : Only S w w') {b : Nat} (hb : ∀ x, x < b → ¬ S x) (hle : b ≤ w.heap.size) : Below b w w' :=
  ⟨h.os, h.tape, h.output, h.size, fun x hx => h.block x (Nat.lt_of_lt_of_le hx hle) (hb x hx)⟩
theorem St.step {w0 w w' : World} {own : Nat → Nat} (h : St w0 own w) {i : Nat} (hi : i ≠ 0) {S : Nat → Prop} (ho : Only S w w') (hS : ∀ x, S x → own x = i) : St w0 (grab own w.heap.size i) w' := by
  refine ⟨h.below.trans (ho.below0 (fun x hx hs => hi ?_) h.below.size), fun x hx => ?_⟩
  · rw [← hS x hs, h.old x hx]
  · unfold grab
    rw [if_pos (Nat.lt_of_lt_of_le hx h.below.size)]
    exact h.old x hx
theorem grab_new {own : Nat → Nat} {s i x : Nat} (h : s ≤ x) : grab own s i x = i := by unfold grab; rw [if_neg (by omega)]
theorem grab_old {own : Nat → Nat} {s i x : Nat} (h : x < s) : grab own s i x = own x := by unfold grab; rw [if_pos h]
/-- F belongs to i, and is made -/
def Own (own : Nat → Nat) (i : Nat) (w : World) (F : Nat → Prop) : Prop := ∀ x, F x → own x = i ∧ x < w.heap.size
theorem Own.keep {own : Nat → Nat} {i j : Nat} {w w' : World} {F : Nat → Prop} (h : Own own i w F) (hs : w.heap.size ≤ w'.heap.size) : Own (grab own w.heap.size j) i w' F := fun x hx =>
  ⟨by rw [grab_old (h x hx).2]; exact (h x hx).1, Nat.lt_of_lt_of_le (h x hx).2 hs⟩
theorem Own.apart {own : Nat → Nat} {i j : Nat} {w : World} {F : Nat → Prop} (h : Own own i w F) {S : Nat → Prop} (hS : ∀ x, S x → own x = j) (hij : i ≠ j) : ∀ x, F x → ¬ S x := fun x hx hs =>
  hij ((h x hx).1.symm.trans (hS x hs))
theorem Own.turn {own : Nat → Nat} {i : Nat} {w w' : World} {F F' : Nat → Prop} (h : Own own i w F) (hlt : ∀ x, F' x → x < w'.heap.size) (hx : ∀ x, F' x → F x ∨ w.heap.size ≤ x) : Own (grab own w.heap.size i) i w' F' := fun x h' => by
  refine ⟨?_, hlt x h'⟩
  rcases hx x h' with a | a
  · rw [grab_old (h x a).2]; exact (h x a).1
  · exact grab_new a
theorem Own.new {own : Nat → Nat} {i : Nat} {w w' : World} {F' : Nat → Prop} (hlt : ∀ x, F' x → x < w'.heap.size) (hx : ∀ x, F' x → w.heap.size ≤ x) : Own (grab own w.heap.size i) i w' F' := fun x h' =>
  ⟨grab_new (hx x h'), hlt x h'⟩

/-- a ledger that belongs to i -/
def OLgP (own : Nat → Nat) (i : Nat) (w : World) (p : Value) (o : Option (List Rn)) : Prop := ∃ F, LgP w p F o ∧ Own own i w F
def OLgR (own : Nat → Nat) (i : Nat) (w : World) (p : Value) (o : Option (List Rn)) : Prop := ∃ F, LgR w p F o ∧ Own own i w F
def OOB (own : Nat → Nat) (i : Nat) (w : World) (v : Value) (l : List UInt8) : Prop := OB w v l ∧ Own own i w (fpv v)
theorem OLgP.keep {own : Nat → Nat} {i j : Nat} {w w' : World} {p : Value} {o : Option (List Rn)} (h : OLgP own i w p o) {S : Nat → Prop} (ho : Only S w w') (hS : ∀ x, S x → own x = j) (hij : i ≠ j) : OLgP (grab own w.heap.size j) i w' p o := by
  obtain ⟨F, h1, h2⟩ := h
  exact ⟨F, h1.keep ho (h2.apart hS hij), h2.keep ho.size⟩
theorem OLgR.keep {own : Nat → Nat} {i j : Nat} {w w' : World} {p : Value} {o : Option (List Rn)} (h : OLgR own i w p o) {S : Nat → Prop} (ho : Only S w w') (hS : ∀ x, S x → own x = j) (hij : i ≠ j) : OLgR (grab own w.heap.size j) i w' p o := by
  obtain ⟨F, h1, h2⟩ := h
  exact ⟨F, h1.keep ho (h2.apart hS hij), h2.keep ho.size⟩
theorem OOB.keep {own : Nat → Nat} {i j : Nat} {w w' : World} {v : Value} {l : List UInt8} (h : OOB own i w v l) {S : Nat → Prop} (ho : Only S w w') (hS : ∀ x, S x → own x = j) (hij : i ≠ j) : OOB (grab own w.heap.size j) i w' v l :=
  ⟨h.1.keep ho (h.2.apart hS hij), h.2.keep ho.size⟩
theorem OLgP.laid {own : Nat → Nat} {i : Nat} {w w' : World} {p : Value} {F : Nat → Prop} {o' : Option (List Rn)} (h : Own own i w F) (hl : LaidP p F o' w w') : OLgP (grab own w.heap.size i) i w' p o' := by
  obtain ⟨F', h1, _, h3⟩ := hl
  exact ⟨F', h1, h.turn h1.lt h3⟩
theorem OLgR.laid {own : Nat → Nat} {i : Nat} {w w' : World} {p : Value} {F : Nat → Prop} {o' : Option (List Rn)} (h : Own own i w F) (hl : LaidR p F o' w w') : OLgR (grab own w.heap.size i) i w' p o' := by
  obtain ⟨F', h1, _, h3⟩ := hl
  exact ⟨F', h1, h.turn h1.lt h3⟩
theorem LaidP.only {p : Value} {F : Nat → Prop} {o' : Option (List Rn)} {w w' : World} (hl : LaidP p F o' w w') : Only F w w' := by
  obtain ⟨_, _, h, _⟩ := hl; exact h
theorem LaidR.only {p : Value} {F : Nat → Prop} {o' : Option (List Rn)} {w w' : World} (hl : LaidR p F o' w w') : Only F w w' := by
  obtain ⟨_, _, h, _⟩ := hl; exact h
end Go.Proofs.Ythegjgbidhbmfaa
