/- A handle of a ledger: a pointer to one, or nil; and who owns which block. -/
import Derived.Test.YtideobdggdmeiaaRows
import Derived.Test.YtideobdggdmeiaaLedRuns
import Derived.Test.YtideobdggdmeiaaBase
namespace Go.Proofs.Ytideobdggdmeiaa
open Go.RowKit
set_option maxRecDepth 100000

/-- the program's ledger at a pointer: with its runs, or nil; F: its blocks -/
def LgP (w : World) (p : Value) (F : Nat → Prop) : Option (List Rn) → Prop
  | none => p = .pointer none ∧ F = fun _ => False
  | some rs => ∃ b v, p = .pointer (some ⟨b, 0, none⟩) ∧ F = lfp b v ∧ LedP w b v rs
/-- room for n more events -/
def Room (o : Option (List Rn)) (n : Int) : Prop := ∀ rs, o = some rs → tot rs + n < 9223372036854775808 ∧ rs.length ≤ 5497558138880
theorem Room.none (n : Int) : Room none n := fun _ h => by cases h
theorem Room.some {rs : List Rn} {n : Int} (h1 : tot rs + n < 9223372036854775808) (h2 : rs.length ≤ 5497558138880) : Room (some rs) n := fun _ h => by cases h; exact ⟨h1, h2⟩
def noteO (o : Option (List Rn)) (k s n : Int) : Option (List Rn) := o.map fun rs => noteL rs k s n
theorem LgP.keep {w w' : World} {p : Value} {F : Nat → Prop} {o : Option (List Rn)} (h : LgP w p F o) {S : Nat → Prop} (ho : Only S w w') (hd : ∀ x, F x → ¬ S x) : LgP w' p F o := by
  cases o with
  | none => exact h
  | some rs =>
    obtain ⟨b, v, hp, rfl, hl⟩ := h
    exact ⟨b, v, hp, rfl, hl.keep ho hd⟩
theorem LgP.lt {w : World} {p : Value} {F : Nat → Prop} {o : Option (List Rn)} (h : LgP w p F o) : ∀ x, F x → x < w.heap.size := by
  cases o with
  | none => obtain ⟨_, rfl⟩ := h; exact fun _ h => h.elim
  | some rs => obtain ⟨b, v, _, rfl, hl⟩ := h; exact hl.lt
theorem LgP.draw {w : World} {p : Value} {F : Nat → Prop} {o : Option (List Rn)} (h : LgP w p F o) (n : Nat) : LgP (w.drewN n) p F o :=
  h.keep ((Only.refl (fun _ => False) w).draw n) (fun _ _ h => h)
theorem LgP.nil (w : World) : LgP w (.pointer none) (fun _ => False) none := ⟨rfl, rfl⟩
/-- what a call leaves of a ledger: o, in the old blocks and new ones; nothing else has turned -/
def LaidP (p : Value) (F : Nat → Prop) (o : Option (List Rn)) (w w' : World) : Prop := ∃ F', LgP w' p F' o ∧ Only F w w' ∧ ∀ x, F' x → F x ∨ w.heap.size ≤ x
theorem LaidP.draw {p : Value} {F : Nat → Prop} {o : Option (List Rn)} {w w' : World} (h : LaidP p F o w w') (n : Nat) : LaidP p F o w (w'.drewN n) := by
  obtain ⟨F', h1, h2, h3⟩ := h
  exact ⟨F', h1.draw n, h2.draw n, h3⟩
theorem LaidP.same {p : Value} {F : Nat → Prop} {o : Option (List Rn)} {w w' : World} (h : LgP w p F o) (n : Nat) (e : w' = w.drewN n) : LaidP p F o w w' := by
  subst e
  exact ⟨F, h.draw n, (Only.refl F w).draw n, fun x hx => .inl hx⟩
theorem LaidP.pre {p : Value} {F : Nat → Prop} {o : Option (List Rn)} {w w1 w' : World} (hb : Below w.heap.size w w1) (h : LaidP p F o w1 w') : LaidP p F o w w' := by
  obtain ⟨F', h1, h2, h3⟩ := h
  exact ⟨F', h1, (Only.of_below hb F).trans h2 (fun x hx => .inl hx), fun x hx => (h3 x hx).imp id (fun hh => Nat.le_trans hb.size hh)⟩
theorem gnoteP_any (p : Value) (F : Nat → Prop) (o : Option (List Rn)) (k s : Int) (w : World) (h : LgP w p F o) (hb : Room o 1) :
    Calls Try.prog 47 #[p, .agg #[.int .u8 k, .int .i64 s]] w fun e w' => e = .returned (.tuple #[]) ∧ LaidP p F (noteO o k s 1) w w' := by
  cases o with
  | none =>
    obtain ⟨rfl, rfl⟩ := h
    refine (note_nil k s w).mono ?_
    rintro e w' ⟨rfl, hb⟩
    exact ⟨rfl, fun _ => False, ⟨rfl, rfl⟩, Only.of_below hb _, fun _ h => h.elim⟩
  | some rs =>
    obtain ⟨b, v, rfl, rfl, hl⟩ := h
    obtain ⟨b1, b2⟩ := hb rs rfl
    refine (note_any b v rs k s w hl b1 b2).mono ?_
    rintro e w' ⟨rfl, v', h1, h2, h3⟩
    refine ⟨rfl, lfp b v', ⟨b, v', rfl, rfl, h1⟩, h2, fun x hx => ?_⟩
    rcases hx with hx | hx
    · exact .inl (.inl hx)
    · exact (h3 x hx).imp .inr id
theorem LaidP.only {p : Value} {F : Nat → Prop} {o' : Option (List Rn)} {w w' : World} (hl : LaidP p F o' w w') : Only F w w' := by
  obtain ⟨_, _, h, _⟩ := hl; exact h
end Go.Proofs.Ytideobdggdmeiaa
