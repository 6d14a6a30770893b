/- Opening arguments that are structs of one-cell fields; a cell that reads as bytes. -/
import Derived.Test.YtaphjdfpffhpfaaRows
import Derived.Test.YtaphjdfpffhpfaaLaw
import Derived.Test.YtaphjdfpffhpfaaOpen
import Derived.Lib.SmallJoins
namespace Go.Proofs.Ytaphjdfpffhpfaa
open Go.RowKit Go.ChangeShapes Go.WideShapes Go.ChangeAt
set_option maxRecDepth 100000
section
variable {H : Type} {enc : TypeId × Value → H} {P : Program} {W : World}
/-- the cells of a struct of one-cell fields: each reads by itself -/
theorem trod_fields {b0 : Nat} {sp : Nat → Bool} {hd : Bool} {t : TypeId} {fs : Array Field} {cs : List Value} {fuel : Nat} {x : DataW H × List MemPlace} (hs : P.underlying t = some (.struct fs)) (hone : Go.Deep.oneCellFields P fs = true) (hC : P.cellsOf t = fs.size)
    (h : DataW.trod enc P W b0 sp hd fuel t cs = some x) :
    cs.length = fs.size ∧ ∃ n, ∀ (i : Nat) (f : Field), fs[i]? = some f → ∃ c y, cs[i]? = some c ∧ DataW.trod enc P W b0 sp hd n f.type [c] = some y := by
  obtain ⟨xs, n, _, rfl, hl, hlen, hf⟩ := DataW.trod_struct hs h
  rw [hC] at hl
  refine ⟨hl, n, fun i f hi => ?_⟩
  obtain ⟨h1, h2⟩ := Go.Deep.hone_of hone i f hi
  have hi2 : i < fs.size := (Array.getElem?_eq_some_iff.1 hi).1
  have h3 := hf i f hi
  rw [h1, h2, List.drop_eq_getElem_cons (by omega), List.take_succ_cons, List.take_zero, List.getElem?_eq_getElem (by omega)] at h3
  exact ⟨cs[i]'(by omega), _, List.getElem?_eq_getElem (by omega), h3⟩
/-- a struct argument of one-cell fields -/
theorem open_fields {base b0 : Nat} {sp : Nat → Bool} {hd : Bool} {t : TypeId} {fs : Array Field} {v : Value} {d : DataW H} {p : List MemPlace} (hs : P.underlying t = some (.struct fs)) (hone : Go.Deep.oneCellFields P fs = true) (hC : P.cellsOf t = fs.size)
    (hval : Value.okWide P W .any base t v) (h : DataW.Trod enc P W b0 sp hd t v d p) :
    ∃ cs : List Value, v = .agg cs.toArray ∧ cs.length = fs.size ∧ ∃ n, ∀ (i : Nat) (f : Field), fs[i]? = some f → ∃ c y, cs[i]? = some c ∧ DataW.trod enc P W b0 sp hd n f.type [c] = some y := by
  obtain ⟨⟨cs⟩, rfl, hsz⟩ := Go.WideShapes.okWide_struct hs hval
  obtain ⟨fuel, hf⟩ := h
  obtain ⟨h1, h2⟩ := trod_fields (cs := cs) hs hone hC (by simpa [Value.cells] using hf)
  exact ⟨cs, rfl, h1, h2⟩
/-- a cell that reads as bytes -/
theorem bytes_cell {t e : TypeId} {c : Value} {n : Nat} {y : DataW H × List MemPlace} (ht : P.underlying t = some (.slice e)) (he : P.underlying e = some (.int .u8)) (hce : P.cellsOf e = 1)
    (h : DataW.trod enc P W 0 (fun _ => true) true n t [c] = some y) : ∃ l : List UInt8, Bs W c l := by
  rcases Go.ChangeShapes.open_ints ht he hce h with ⟨hcs, _⟩ | ⟨a, len', cap', zs, hcs, _, hl, hm, hz, hx, hcell, hwz⟩
  · injection hcs with hcs _
    rw [hcs]
    exact ⟨[], Bs.nil W⟩
  · injection hcs with hcs _
    rw [hcs]
    simp only [if_true] at hz
    have hn : ∀ j, (zs.getD j 0) ≥ 0 ∧ (zs.getD j 0) < 256 := by
      intro j
      rw [List.getD_eq_getElem?_getD]
      rcases hj : zs[j]? with _ | n
      · simp
      · have := bounds_u8 (hwz n (List.mem_of_getElem? hj))
        simp only [Option.getD_some]
        omega
    have hlen : ((zs.take len').map fun n => UInt8.ofNat n.toNat).length = len' := by
      rw [List.length_map, List.length_take]; omega
    refine ⟨(zs.take len').map fun n => UInt8.ofNat n.toNat, some a, cap', ?_, ?_, ?_, (fun h => by cases h), fun j hj => ?_⟩
    · rw [hlen]
    · rw [hlen]; exact hl
    · exact hm
    · rw [hlen] at hj
      have hc := hcell j (by omega)
      obtain ⟨b, off, spot⟩ := a
      have hsp : spot = none := by
        cases spot with
        | none => rfl
        | some s =>
          have hc0 := hcell 0 (by omega)
          rw [show (⟨b, off, some s⟩ : Addr).add 0 = ⟨b, off, some s⟩ from by simp [Addr.add]] at hc0
          unfold World.cell? at hc0
          split at hc0 <;> simp at hc0
      subst hsp
      refine ⟨b, off, rfl, ?_⟩
      rw [show (⟨b, off, none⟩ : Addr).add j = ⟨b, off + j, none⟩ from by unfold Addr.add; split <;> simp_all] at hc
      rw [hc]
      have h1 := hn j
      have e : (((zs.take len').map fun n => UInt8.ofNat n.toNat).getD j 0) = UInt8.ofNat (zs.getD j 0).toNat := by
        rw [List.getD_eq_getElem?_getD, List.getD_eq_getElem?_getD, List.getElem?_map, List.getElem?_take, if_pos hj]
        rw [List.getElem?_eq_getElem (by omega : j < zs.length)]
        rfl
      rw [e, u8_of _ (by omega)]
      congr 2
      omega
/-- a cell that reads as an integer, a Boolean -/
theorem int_cell {b0 : Nat} {sp : Nat → Bool} {hd : Bool} {t : TypeId} {k : IntKind} {c : Value} {n : Nat} {y : DataW H × List MemPlace} (ht : P.underlying t = some (.int k)) (h : DataW.trod enc P W b0 sp hd n t [c] = some y) : ∃ a : Int, c = .int k a ∧ (Lit.int k a).wf = true := by
  obtain ⟨a, e, _, hw⟩ := DataW.trod_int ht h
  injection e with e _
  exact ⟨a, e, hw⟩
theorem bool_cell {b0 : Nat} {sp : Nat → Bool} {hd : Bool} {t : TypeId} {c : Value} {n : Nat} {y : DataW H × List MemPlace} (ht : P.underlying t = some .bool) (h : DataW.trod enc P W b0 sp hd n t [c] = some y) : ∃ a : Bool, c = .bool a := by
  obtain ⟨a, e, _⟩ := DataW.trod_bool ht h
  injection e with e _
  exact ⟨a, e⟩
end
end Go.Proofs.Ytaphjdfpffhpfaa
