/- Opening a list of lists of bytes, a list of Booleans, a list of bytes of whatever length. -/
import Derived.Test.YtaphjdfpffhpfaaRows
import Derived.Test.YtaphjdfpffhpfaaOpenF
import Derived.Test.YtaphjdfpffhpfaaSl
import Derived.Deep.Slices
namespace Go.Proofs.Ytaphjdfpffhpfaa
open Go.RowKit Go.ChangeShapes Go.WideShapes Go.ChangeAt Go.Deep
set_option maxRecDepth 100000
theorem addr_plain {w : World} {a : Addr} {v : Value} (h : w.cell? a = some v) : ∃ b off, a = ⟨b, off, none⟩ := by
  obtain ⟨b, off, spot⟩ := a
  cases spot with
  | none => exact ⟨b, off, rfl⟩
  | some s =>
    unfold World.cell? at h
    split at h <;> simp at h
/-- a slice that came in, of one-cell elements that each read as p says -/
theorem open_ones {H : Type} {enc : TypeId × Value → H} {P : Program} {W : World} {base : Nat} {α : Type} {t e : TypeId} {v : Value} {d : DataW H} {p : List MemPlace} (ht : P.underlying t = some (.slice e)) (hC : P.cellsOf e = 1) (R : Value → α → Prop) (z : α)
    (dec : ∀ n c y, DataW.trod enc P W 0 (fun _ => true) true n e [c] = some y → ∃ x, R c x)
    (hval : Value.okWide P W .any base t v) (h : DataW.Trod enc P W 0 (fun _ => true) true t v d p) :
    ∃ (ls : List α) (ao : Option Addr) (cap : Nat), v = .slice ao ls.length cap ∧ ls.length ≤ cap ∧ cap ≤ 9223372036854775807 ∧ ∀ i l, ls[i]? = some l → ∃ b off c, ao = some ⟨b, off, none⟩ ∧ W.cell? ⟨b, off + i, none⟩ = some c ∧ R c l := by
  obtain ⟨a0, len0, cap0, rfl⟩ := Go.WideShapes.okWide_slice ht hval
  obtain ⟨fuel, hf⟩ := h
  rcases open_slice1 ht hC hf with ⟨hcs, _⟩ | ⟨a, len, cap, m, n, V, D, Pl, hcs, _, hl, hm, hmm, hx, hi⟩
  · simp only [Value.cells] at hcs
    injection hcs with hcs _
    rw [hcs]
    exact ⟨[], none, 0, rfl, Nat.le_refl _, by omega, fun i l h => by simp at h⟩
  · simp only [Value.cells] at hcs
    injection hcs with hcs _
    rw [hcs]
    simp only [if_true] at hmm
    obtain ⟨L, hL⟩ : ∃ L : Nat → α, ∀ i, i < len → R (V i) (L i) :=
      ⟨fun i => if hh : i < len then Classical.choose (dec _ _ _ (hi i (by omega)).2) else z, fun i hh => by
        simp only [hh, dif_pos]
        exact Classical.choose_spec (dec _ _ _ (hi i (by omega)).2)⟩
    refine ⟨(List.range len).map L, some a, cap, by simp, by simpa using hl, by simp only [maxLen] at hm; omega, fun i l h => ?_⟩
    have hlt : i < len := by
      have := (List.getElem?_eq_some_iff.1 h).1
      simpa using this
    have hc := (hi i (by omega)).1
    have hc0 := (hi 0 (by omega)).1
    rw [List.getElem?_map, List.getElem?_range hlt] at h
    simp at h
    subst h
    obtain ⟨b, off, spot⟩ := a
    have hsp : spot = none := by
      cases spot with
      | none => rfl
      | some s =>
        rw [show (⟨b, off, some s⟩ : Addr).add 0 = ⟨b, off, some s⟩ from by simp [Addr.add]] at hc0
        unfold World.cell? at hc0
        split at hc0 <;> simp at hc0
    subst hsp
    rw [add_lit] at hc
    exact ⟨b, off, V i, rfl, hc, hL i hlt⟩
/-- a list of lists of bytes that came in -/
def InL (W : World) (v : Value) (ls : List (List UInt8)) : Prop := ∃ (ao : Option Addr) (cap : Nat), v = .slice ao ls.length cap ∧ ls.length ≤ cap ∧ cap ≤ 9223372036854775807 ∧ ∀ i l, ls[i]? = some l → ∃ b off c, ao = some ⟨b, off, none⟩ ∧ W.cell? ⟨b, off + i, none⟩ = some c ∧ Bs W c l
theorem openLists {H : Type} {enc : TypeId × Value → H} {W : World} {base : Nat} {v : Value} {d : DataW H} {p : List MemPlace}
    (hval : Value.okWide Try.prog W .any base 39 v) (h : DataW.Trod enc Try.prog W 0 (fun _ => true) true 39 v d p) : ∃ ls, InL W v ls :=
  open_ones Try.underlying39 (by kernel_rfl) (fun c l => Bs W c l) [] (fun n c y h => bytes_cell Try.underlying35 Try.underlying5 cellsU8 h) hval h
/-- a list of Booleans that came in -/
def InBo (W : World) (v : Value) (bs : List Bool) : Prop := ∃ (ao : Option Addr) (cap : Nat), v = .slice ao bs.length cap ∧ bs.length ≤ cap ∧ cap ≤ 9223372036854775807 ∧ ∀ i b, bs[i]? = some b → ∃ g off c, ao = some ⟨g, off, none⟩ ∧ W.cell? ⟨g, off + i, none⟩ = some c ∧ c = .bool b
theorem openBools {H : Type} {enc : TypeId × Value → H} {W : World} {base : Nat} {v : Value} {d : DataW H} {p : List MemPlace}
    (hval : Value.okWide Try.prog W .any base 68 v) (h : DataW.Trod enc Try.prog W 0 (fun _ => true) true 68 v d p) : ∃ bs, InBo W v bs :=
  open_ones Try.underlying68 (by kernel_rfl) (fun c b => c = .bool b) false (fun n c y h => bool_cell Try.underlying4 h) hval h
/-- bytes that came in, of whatever length -/
theorem openBytesP {H : Type} {enc : TypeId × Value → H} {W : World} {base : Nat} {v : Value} {d : DataW H} {p : List MemPlace}
    (hval : Value.okWide Try.prog W .any base 35 v) (h : DataW.Trod enc Try.prog W 0 (fun _ => true) true 35 v d p) : ∃ l, Bs W v l := by
  obtain ⟨l, hl, _⟩ := open_bytes_sized Try.underlying35 Try.underlying5 cellsU8 hval h
  exact ⟨l, hl⟩
end Go.Proofs.Ytaphjdfpffhpfaa
