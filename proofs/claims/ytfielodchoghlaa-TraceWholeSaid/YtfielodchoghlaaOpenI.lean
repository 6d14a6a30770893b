/- Opening a list of ints, with the form's own reach. -/
import Derived.Test.YtfielodchoghlaaRows
import Derived.Test.YtfielodchoghlaaInts
import Derived.Test.YtfielodchoghlaaLaw
import Derived.SizedLaws
namespace Go.Proofs.Ytfielodchoghlaa
open Go.RowKit Go.ChangeShapes Go.WideShapes Go.ChangeAt
set_option maxRecDepth 100000
theorem open_ints_sized {H : Type} {enc : TypeId × Value → H} {P : Program} {W : World} {base : Nat} {t e : TypeId} {v : Value} {d : DataW H} {p : List MemPlace} (ht : P.underlying t = some (.slice e)) (he : P.underlying e = some (.int .i64)) (hce : P.cellsOf e = 1)
    (hval : Value.okWide P W .any base t v) (h : DataW.Trod enc P W 0 (fun _ => true) true t v d p) : ∃ l : List Int, KI.R W v l ∧ (l = [] ∨ ∃ es sp, d = .slice es sp ∧ es.length = l.length) := by
  obtain ⟨a0, len, cap, rfl⟩ := Go.WideShapes.okWide_slice ht hval
  obtain ⟨fuel, hf⟩ := h
  rcases Go.ChangeShapes.open_ints ht he hce hf with ⟨hcs, _⟩ | ⟨a, len', cap', zs, hcs, _, hl, hm, hz, hx, hcell, hwz⟩
  · simp only [Value.cells] at hcs
    injection hcs with hcs _
    rw [hcs]
    exact ⟨[], Knd.R.nil W, .inl rfl⟩
  · simp only [Value.cells] at hcs
    injection hcs with hcs _
    rw [hcs]
    simp only [if_true] at hz
    have hlen : (zs.take len').length = len' := by rw [List.length_take]; omega
    injection hx with hx1 hx2
    have hfl : KI.fl (zs.take len') = (zs.take len').map (Value.int .i64) := (List.map_eq_flatMap ..).symm
    refine ⟨zs.take len', ⟨KI.fl_len _, KI.fl_cells _, some a, cap', by rw [hlen], by rw [hlen]; exact hl, hm, (fun h => by cases h), fun j u hj => ?_⟩, .inr ⟨_, _, hx1, by simp [Go.ChangeShapes.lits]⟩⟩
    rw [hfl] at hj
    have hjl : j < len' := by
      have := (List.getElem?_eq_some_iff.1 hj).1
      rw [List.length_map, hlen] at this
      exact this
    have hc := hcell j (by omega)
    obtain ⟨b, off, spot⟩ := a
    have hsp : spot = none := by
      cases spot with
      | none => rfl
      | some s =>
        have hc0 := hcell 0 (by omega)
        rw [show (⟨b, off, some s⟩ : Addr).add 0 = ⟨b, off, some s⟩ from by simp [Addr.add]] at hc0
        unfold World.cell? at hc0
        split at hc0 <;> simp at hc0
    subst hsp
    refine ⟨b, off, rfl, ?_⟩
    rw [add_lit] at hc
    rw [hc]
    rw [List.getElem?_map, List.getElem?_take, if_pos hjl, List.getElem?_eq_getElem (by omega : j < zs.length)] at hj
    rw [List.getD_eq_getElem?_getD, List.getElem?_eq_getElem (by omega : j < zs.length)]
    exact hj
theorem bytes64 : Try.prog.bytesOf 3 = 8 := by kernel_rfl
theorem cellsI64 : Try.prog.cellsOf 3 = 1 := by kernel_rfl
/-- a list of ints that came in: what it reads as, and that it is within the reach -/
def InI (W : World) (v : Value) (l : List Int) : Prop := KI.R W v l ∧ l.length ≤ 17592186043904
theorem openIntsS {H : Type} {enc : TypeId × Value → H} {W : World} {base : Nat} {v : Value} {d : DataW H} {p : List MemPlace} {ts : List TypeId} {ds : List (DataW H)}
    (hsz : (DataW.weightsEach Try.prog ts ds).all (· ≤ reachBytes) = true) (j : Nat) (hj : ts[j]? = some 22) (hd : ds[j]? = some d)
    (hval : Value.okWide Try.prog W .any base 22 v) (h : DataW.Trod enc Try.prog W 0 (fun _ => true) true 22 v d p) : ∃ l : List Int, InI W v l := by
  obtain ⟨l, hl, hh⟩ := open_ints_sized Try.underlying22 Try.underlying3 cellsI64 hval h
  refine ⟨l, hl, ?_⟩
  rcases hh with rfl | ⟨es, sp, rfl, hlen⟩
  · simp
  · have := sized_slice hsz hj hd Try.underlying22
    rw [bytes64] at this
    simp only [reachBytes] at this
    omega
end Go.Proofs.Ytfielodchoghlaa
