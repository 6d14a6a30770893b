/- Opening arguments, with the form's own reach: a list of bytes has at most 2^47 - 4096. -/
import Derived.Test.YtideobdggdmeiaaRows
import Derived.Test.YtideobdggdmeiaaMem
import Derived.Test.YtideobdggdmeiaaLaw
import Derived.SizedLaws
namespace Go.Proofs.Ytideobdggdmeiaa
open Go.RowKit Go.ChangeShapes Go.WideShapes Go.ChangeAt
set_option maxRecDepth 100000

/-- a slice argument, opened, with the form's own reach -/
theorem open_bytes_sized {H : Type} {enc : TypeId × Value → H} {P : Program} {W : World} {base : Nat} {t e : TypeId} {v : Value} {d : DataW H} {p : List MemPlace} (ht : P.underlying t = some (.slice e)) (he : P.underlying e = some (.int .u8)) (hce : P.cellsOf e = 1)
    (hval : Value.okWide P W .any base t v) (h : DataW.Trod enc P W 0 (fun _ => true) true t v d p) : ∃ l : List UInt8, Bs W v l ∧ (l = [] ∨ ∃ es sp, d = .slice es sp ∧ es.length = l.length) := by
  obtain ⟨a0, len, cap, rfl⟩ := Go.WideShapes.okWide_slice ht hval
  obtain ⟨fuel, hf⟩ := h
  rcases Go.ChangeShapes.open_ints ht he hce hf with ⟨hcs, _⟩ | ⟨a, len', cap', zs, hcs, _, hl, hm, hz, hx, hcell, hwz⟩
  · simp only [Value.cells] at hcs
    injection hcs with hcs _
    rw [hcs]
    exact ⟨[], Bs.nil W, .inl rfl⟩
  · simp only [Value.cells] at hcs
    injection hcs with hcs _
    rw [hcs]
    simp only [if_true] at hz
    have hn : ∀ j, (zs.getD j 0) ≥ 0 ∧ (zs.getD j 0) < 256 := by
      intro j
      rw [List.getD_eq_getElem?_getD]
      rcases hj : zs[j]? with _ | n
      · simp
      · have := bounds_u8 (hwz n (List.mem_of_getElem? hj))
        simp only [Option.getD_some]
        omega
    have hlen : ((zs.take len').map fun n => UInt8.ofNat n.toNat).length = len' := by
      rw [List.length_map, List.length_take]; omega
    injection hx with hx1 hx2
    refine ⟨(zs.take len').map fun n => UInt8.ofNat n.toNat, ⟨some a, cap', ?_, ?_, ?_, (fun h => by cases h), fun j hj => ?_⟩, .inr ⟨_, _, hx1, by simp [Go.ChangeShapes.lits]⟩⟩
    · rw [hlen]
    · rw [hlen]; exact hl
    · exact hm
    · rw [hlen] at hj
      have hc := hcell j (by omega)
      obtain ⟨b, off, spot⟩ := a
      have hsp : spot = none := by
        cases spot with
        | none => rfl
        | some s =>
          have hc0 := hcell 0 (by omega)
          rw [show (⟨b, off, some s⟩ : Addr).add 0 = ⟨b, off, some s⟩ from by simp [Addr.add]] at hc0
          unfold World.cell? at hc0
          split at hc0 <;> simp at hc0
      subst hsp
      refine ⟨b, off, rfl, ?_⟩
      rw [show (⟨b, off, none⟩ : Addr).add j = ⟨b, off + j, none⟩ from by unfold Addr.add; split <;> simp_all] at hc
      rw [hc]
      have h1 := hn j
      have e : (((zs.take len').map fun n => UInt8.ofNat n.toNat).getD j 0) = UInt8.ofNat (zs.getD j 0).toNat := by
        rw [List.getD_eq_getElem?_getD, List.getD_eq_getElem?_getD, List.getElem?_map, List.getElem?_take, if_pos hj]
        rw [List.getElem?_eq_getElem (by omega : j < zs.length)]
        rfl
      rw [e, u8_of _ (by omega)]
      congr 2
      omega

theorem bytes8 : Try.prog.bytesOf 5 = 1 := by kernel_rfl
theorem cellsU8 : Try.prog.cellsOf 5 = 1 := by kernel_rfl
/-- a list of bytes that came in: what it reads as, and that it is within the reach -/
def In (W : World) (v : Value) (l : List UInt8) : Prop := Bs W v l ∧ l.length ≤ 140737488351232
theorem openBytesS {H : Type} {enc : TypeId × Value → H} {W : World} {base : Nat} {v : Value} {d : DataW H} {p : List MemPlace} {ts : List TypeId} {ds : List (DataW H)}
    (hsz : (DataW.weightsEach Try.prog ts ds).all (· ≤ reachBytes) = true) (j : Nat) (hj : ts[j]? = some 22) (hd : ds[j]? = some d)
    (hval : Value.okWide Try.prog W .any base 22 v) (h : DataW.Trod enc Try.prog W 0 (fun _ => true) true 22 v d p) : ∃ l : List UInt8, In W v l := by
  obtain ⟨l, hl, hh⟩ := open_bytes_sized Try.underlying22 Try.underlying5 cellsU8 hval h
  refine ⟨l, hl, ?_⟩
  rcases hh with rfl | ⟨es, sp, rfl, hlen⟩
  · simp
  · have := sized_slice hsz hj hd Try.underlying22
    rw [bytes8] at this
    simp only [reachBytes] at this
    omega
end Go.Proofs.Ytideobdggdmeiaa
