/- Opening a list of structs of one-cell fields, with what the form says of the size of what lies inside. -/
import Derived.Test.YtaphjdfpffhpfaaRows
import Derived.Test.YtaphjdfpffhpfaaOpenL
namespace Go.Proofs.Ytaphjdfpffhpfaa
open Go.RowKit Go.ChangeShapes Go.WideShapes Go.ChangeAt Go.Deep
set_option maxRecDepth 100000
section
variable {H : Type} {enc : TypeId × Value → H} {P : Program} {W : World}
theorem trod_fields2 {b0 : Nat} {sp : Nat → Bool} {hd : Bool} {t : TypeId} {fs : Array Field} {cs : List Value} {fuel : Nat} {x : DataW H × List MemPlace} (hs : P.underlying t = some (.struct fs)) (hone : Go.Deep.oneCellFields P fs = true) (hC : P.cellsOf t = fs.size)
    (h : DataW.trod enc P W b0 sp hd fuel t cs = some x) :
    cs.length = fs.size ∧ ∃ (n : Nat) (xs : List (DataW H × List MemPlace)), x.1 = .agg (xs.map (·.1)) ∧ ∀ (i : Nat) (f : Field), fs[i]? = some f → ∃ c y, cs[i]? = some c ∧ xs[i]? = some y ∧ DataW.trod enc P W b0 sp hd n f.type [c] = some y := by
  obtain ⟨xs, n, _, rfl, hl, hlen, hf⟩ := DataW.trod_struct hs h
  rw [hC] at hl
  refine ⟨hl, n, xs, rfl, fun i f hi => ?_⟩
  obtain ⟨h1, h2⟩ := Go.Deep.hone_of hone i f hi
  have hi2 : i < fs.size := (Array.getElem?_eq_some_iff.1 hi).1
  have h3 := hf i f hi
  rw [h1, h2, List.drop_eq_getElem_cons (by omega), List.take_succ_cons, List.take_zero] at h3
  have h4 : xs[i]? = some (xs[i]'(by omega)) := List.getElem?_eq_getElem (by omega)
  exact ⟨cs[i]'(by omega), xs[i]'(by omega), List.getElem?_eq_getElem (by omega), h4, h3.trans h4⟩
theorem weights_all {e : TypeId} : ∀ {ds : List (DataW H)} {i : Nat} {d : DataW H}, ds[i]? = some d → ∀ n ∈ d.weights P e, n ∈ DataW.weightsAll P e ds
  | d0 :: ds, 0, d, hd, n, hn => by
    simp only [List.getElem?_cons_zero, Option.some.injEq] at hd
    subst hd
    simp only [DataW.weightsAll, List.mem_append]
    exact .inl hn
  | d0 :: ds, i + 1, d, hd, n, hn => by
    simp only [List.getElem?_cons_succ] at hd
    simp only [DataW.weightsAll, List.mem_append]
    exact .inr (weights_all hd n hn)
  | [], _, _, hd, _, _ => by simp at hd
theorem weights_elem {t e : TypeId} (hu : P.underlying t = some (.slice e)) {el sp : List (DataW H)} {i : Nat} {d : DataW H} (hd : el[i]? = some d) (n : Nat) (hn : n ∈ d.weights P e) : n ∈ (DataW.slice el sp).weights P t := by
  simp only [DataW.weights, hu, List.mem_cons, List.mem_append]
  exact .inr (.inl (weights_all hd n hn))
theorem weights_part {t : TypeId} {fs : Array Field} (hu : P.underlying t = some (.struct fs)) {parts : List (DataW H)} {i : Nat} {f : Field} {d : DataW H} (hf : fs[i]? = some f) (hd : parts[i]? = some d) (n : Nat) (hn : n ∈ d.weights P f.type) : n ∈ (DataW.agg parts).weights P t := by
  simp only [DataW.weights, hu]
  refine DataW.weights_mem_each (j := i) (t := f.type) (d := d) ?_ hd n hn
  rw [List.getElem?_map, Array.getElem?_toList, hf]
  rfl
/-- a list of structs of one-cell fields -/
theorem open_structs {base : Nat} {t e : TypeId} {fs : Array Field} {v : Value} {d : DataW H} {p : List MemPlace} (ht : P.underlying t = some (.slice e)) (he : P.underlying e = some (.struct fs)) (hone : Go.Deep.oneCellFields P fs = true) (hC : P.cellsOf e = fs.size) (hp : 0 < fs.size)
    (hval : Value.okWide P W .any base t v) (h : DataW.Trod enc P W 0 (fun _ => true) true t v d p) :
    ∃ (n : Nat) (ao : Option Addr) (cap : Nat) (C : Nat → List Value) (D : Nat → DataW H), v = .slice ao n cap ∧ n ≤ cap ∧ cap ≤ 9223372036854775807 ∧
      (∀ i, i < n → (∀ j c, (C i)[j]? = some c → ∃ b off, ao = some ⟨b, off, none⟩ ∧ W.cell? ⟨b, off + (i * fs.size + j), none⟩ = some c) ∧
        ∃ (m : Nat) (xs : List (DataW H × List MemPlace)), D i = .agg (xs.map (·.1)) ∧ ∀ (j : Nat) (f : Field), fs[j]? = some f → ∃ c y, (C i)[j]? = some c ∧ xs[j]? = some y ∧ DataW.trod enc P W 0 (fun _ => true) true m f.type [c] = some y) ∧
      (n = 0 ∨ ∃ el sp, d = .slice el sp ∧ el.length = n ∧ ∀ i, i < n → el[i]? = some (D i)) := by
  obtain ⟨a0, len0, cap0, rfl⟩ := Go.WideShapes.okWide_slice ht hval
  obtain ⟨fuel, hf⟩ := h
  rcases open_slice ht hf with ⟨hcs, _⟩ | ⟨a, len, cap, m, n, D, Pl, hcs, _, hl, hm, hmm, hx, hi⟩
  · simp only [Value.cells] at hcs
    injection hcs with hcs _
    rw [hcs]
    exact ⟨0, none, 0, fun _ => [], fun _ => d, rfl, Nat.le_refl _, by omega, fun i hi => by omega, .inl rfl⟩
  · simp only [Value.cells] at hcs
    injection hcs with hcs _
    rw [hcs]
    simp only [if_true] at hmm
    subst hmm
    rw [hC] at hi
    obtain ⟨C, hCC⟩ : ∃ C : Nat → List Value, ∀ i, i < len → W.cells? 0 (a.add (i * fs.size)) fs.size = some (C i) ∧ DataW.trod enc P W 0 (fun _ => true) true n e (C i) = some (D i, Pl i) :=
      ⟨fun i => if hh : i < len then Classical.choose (hi i (by omega)) else [], fun i hh => by
        simp only [hh, dif_pos]
        exact Classical.choose_spec (hi i (by omega))⟩
    injection hx with hx1 hx2
    refine ⟨len, some a, m, C, D, rfl, hl, by simp only [maxLen] at hm; omega, fun i hil => ?_, .inr ⟨_, _, hx1, by simp, fun i hil => by rw [List.getElem?_map, List.getElem?_range hil]; rfl⟩⟩
    obtain ⟨h1, h2⟩ := hCC i hil
    obtain ⟨h3, n2, xs, h4, h5⟩ := trod_fields2 he hone hC h2
    refine ⟨fun j c hj => ?_, n2, xs, h4, h5⟩
    have hjl : j < fs.size := by
      have := (List.getElem?_eq_some_iff.1 hj).1
      omega
    have hcell := (World.cells?_some h1).2.2 j hjl
    rw [hj] at hcell
    obtain ⟨b, off, spot⟩ := a
    have hsp : spot = none := by
      cases spot with
      | none => rfl
      | some s =>
        have h0 := (World.cells?_some (hCC 0 (by omega)).1).2.2 0 hp
        rw [Nat.zero_mul, show ((⟨b, off, some s⟩ : Addr).add 0).add 0 = ⟨b, off, some s⟩ from by simp [Addr.add], List.getElem?_eq_getElem (by have := (trod_fields2 he hone hC (hCC 0 (by omega)).2).1; omega)] at h0
        unfold World.cell? at h0
        split at h0 <;> simp at h0
    subst hsp
    rw [add_lit, add_lit, Nat.add_assoc] at hcell
    exact ⟨b, off, rfl, hcell⟩
theorem bytes_cell2 {t e : TypeId} {c : Value} {n : Nat} {y : DataW H × List MemPlace} (ht : P.underlying t = some (.slice e)) (he : P.underlying e = some (.int .u8)) (hce : P.cellsOf e = 1)
    (h : DataW.trod enc P W 0 (fun _ => true) true n t [c] = some y) : ∃ l : List UInt8, Bs W c l ∧ (l = [] ∨ ∃ es sp, y.1 = .slice es sp ∧ es.length = l.length) := by
  obtain ⟨l, hl⟩ := bytes_cell ht he hce h
  refine ⟨l, hl, ?_⟩
  rcases Go.ChangeShapes.open_ints ht he hce h with ⟨hcs, _⟩ | ⟨a, len', cap', zs, hcs, _, hl2, hm, hz, hx, hcell, hwz⟩
  · injection hcs with hcs _
    obtain ⟨ao, cap, hv, _⟩ := hl.form
    rw [hcs] at hv
    injection hv with _ hv _
    exact .inl (List.eq_nil_of_length_eq_zero hv.symm)
  · injection hcs with hcs _
    obtain ⟨ao, cap, hv, _⟩ := hl.form
    rw [hcs] at hv
    injection hv with _ hv _
    simp only [if_true] at hz
    exact .inr ⟨_, _, by rw [hx], by rw [← hv]; simp [Go.ChangeShapes.lits, List.length_take]; omega⟩
end
end Go.Proofs.Ytaphjdfpffhpfaa
