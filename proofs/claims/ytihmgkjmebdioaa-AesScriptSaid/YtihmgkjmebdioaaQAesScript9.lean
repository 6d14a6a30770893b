/- The statement AesScript: for every input turnkey/turnkeylaw10.AesScript returns true, and each argument reads as it did. Its walk is proved in AesScript; here is the step from the walk to the row. -/
import Derived.Test.YtihmgkjmebdioaaRows
import Derived.Lib.SmallJoins
import Derived.Deep.Slices
import Derived.SizedLaws
import Derived.Test.YtihmgkjmebdioaaQAesScript1
import Derived.Test.YtihmgkjmebdioaaQAesScript2
import Derived.Test.YtihmgkjmebdioaaQAesScript8
/- Opening arguments that are structs of one-cell fields; a cell that reads as bytes. -/
namespace Go.Proofs.Ytihmgkjmebdioaa
open Go.RowKit Go.ChangeShapes Go.WideShapes Go.ChangeAt
set_option maxRecDepth 100000
section
variable {H : Type} {enc : TypeId × Value → H} {P : Program} {W : World}
/-- the cells of a struct of one-cell fields: each reads by itself -/
theorem trod_fields {b0 : Nat} {sp : Nat → Bool} {hd : Bool} {t : TypeId} {fs : Array Field} {cs : List Value} {fuel : Nat} {x : DataW H × List MemPlace} (hs : P.underlying t = some (.struct fs)) (hone : Go.Deep.oneCellFields P fs = true) (hC : P.cellsOf t = fs.size)
    (h : DataW.trod enc P W b0 sp hd fuel t cs = some x) :
    cs.length = fs.size ∧ ∃ n, ∀ (i : Nat) (f : Field), fs[i]? = some f → ∃ c y, cs[i]? = some c ∧ DataW.trod enc P W b0 sp hd n f.type [c] = some y := by
  obtain ⟨xs, n, _, rfl, hl, hlen, hf⟩ := DataW.trod_struct hs h
  rw [hC] at hl
  refine ⟨hl, n, fun i f hi => ?_⟩
  obtain ⟨h1, h2⟩ := Go.Deep.hone_of hone i f hi
  have hi2 : i < fs.size := (Array.getElem?_eq_some_iff.1 hi).1
  have h3 := hf i f hi
  rw [h1, h2, List.drop_eq_getElem_cons (by omega), List.take_succ_cons, List.take_zero, List.getElem?_eq_getElem (by omega)] at h3
  exact ⟨cs[i]'(by omega), _, List.getElem?_eq_getElem (by omega), h3⟩
/-- a struct argument of one-cell fields -/
theorem open_fields {base b0 : Nat} {sp : Nat → Bool} {hd : Bool} {t : TypeId} {fs : Array Field} {v : Value} {d : DataW H} {p : List MemPlace} (hs : P.underlying t = some (.struct fs)) (hone : Go.Deep.oneCellFields P fs = true) (hC : P.cellsOf t = fs.size)
    (hval : Value.okWide P W .any base t v) (h : DataW.Trod enc P W b0 sp hd t v d p) :
    ∃ cs : List Value, v = .agg cs.toArray ∧ cs.length = fs.size ∧ ∃ n, ∀ (i : Nat) (f : Field), fs[i]? = some f → ∃ c y, cs[i]? = some c ∧ DataW.trod enc P W b0 sp hd n f.type [c] = some y := by
  obtain ⟨⟨cs⟩, rfl, hsz⟩ := Go.WideShapes.okWide_struct hs hval
  obtain ⟨fuel, hf⟩ := h
  obtain ⟨h1, h2⟩ := trod_fields (cs := cs) hs hone hC (by simpa [Value.cells] using hf)
  exact ⟨cs, rfl, h1, h2⟩
/-- a cell that reads as bytes -/
theorem bytes_cell {t e : TypeId} {c : Value} {n : Nat} {y : DataW H × List MemPlace} (ht : P.underlying t = some (.slice e)) (he : P.underlying e = some (.int .u8)) (hce : P.cellsOf e = 1)
    (h : DataW.trod enc P W 0 (fun _ => true) true n t [c] = some y) : ∃ l : List UInt8, Bs W c l := by
  rcases Go.ChangeShapes.open_ints ht he hce h with ⟨hcs, _⟩ | ⟨a, len', cap', zs, hcs, _, hl, hm, hz, hx, hcell, hwz⟩
  · injection hcs with hcs _
    rw [hcs]
    exact ⟨[], Bs.nil W⟩
  · injection hcs with hcs _
    rw [hcs]
    simp only [if_true] at hz
    have hn : ∀ j, (zs.getD j 0) ≥ 0 ∧ (zs.getD j 0) < 256 := by
      intro j
      rw [List.getD_eq_getElem?_getD]
      rcases hj : zs[j]? with _ | n
      · simp
      · have := bounds_u8 (hwz n (List.mem_of_getElem? hj))
        simp only [Option.getD_some]
        omega
    have hlen : ((zs.take len').map fun n => UInt8.ofNat n.toNat).length = len' := by
      rw [List.length_map, List.length_take]; omega
    refine ⟨(zs.take len').map fun n => UInt8.ofNat n.toNat, some a, cap', ?_, ?_, ?_, (fun h => by cases h), fun j hj => ?_⟩
    · rw [hlen]
    · rw [hlen]; exact hl
    · exact hm
    · rw [hlen] at hj
      have hc := hcell j (by omega)
      obtain ⟨b, off, spot⟩ := a
      have hsp : spot = none := by
        cases spot with
        | none => rfl
        | some s =>
          have hc0 := hcell 0 (by omega)
          rw [show (⟨b, off, some s⟩ : Addr).add 0 = ⟨b, off, some s⟩ from by simp [Addr.add]] at hc0
          unfold World.cell? at hc0
          split at hc0 <;> simp at hc0
      subst hsp
      refine ⟨b, off, rfl, ?_⟩
      rw [show (⟨b, off, none⟩ : Addr).add j = ⟨b, off + j, none⟩ from by unfold Addr.add; split <;> simp_all] at hc
      rw [hc]
      have h1 := hn j
      have e : (((zs.take len').map fun n => UInt8.ofNat n.toNat).getD j 0) = UInt8.ofNat (zs.getD j 0).toNat := by
        rw [List.getD_eq_getElem?_getD, List.getD_eq_getElem?_getD, List.getElem?_map, List.getElem?_take, if_pos hj]
        rw [List.getElem?_eq_getElem (by omega : j < zs.length)]
        rfl
      rw [e, u8_of _ (by omega)]
      congr 2
      omega
/-- a cell that reads as an integer, a Boolean -/
theorem int_cell {b0 : Nat} {sp : Nat → Bool} {hd : Bool} {t : TypeId} {k : IntKind} {c : Value} {n : Nat} {y : DataW H × List MemPlace} (ht : P.underlying t = some (.int k)) (h : DataW.trod enc P W b0 sp hd n t [c] = some y) : ∃ a : Int, c = .int k a ∧ (Lit.int k a).wf = true := by
  obtain ⟨a, e, _, hw⟩ := DataW.trod_int ht h
  injection e with e _
  exact ⟨a, e, hw⟩
theorem bool_cell {b0 : Nat} {sp : Nat → Bool} {hd : Bool} {t : TypeId} {c : Value} {n : Nat} {y : DataW H × List MemPlace} (ht : P.underlying t = some .bool) (h : DataW.trod enc P W b0 sp hd n t [c] = some y) : ∃ a : Bool, c = .bool a := by
  obtain ⟨a, e, _⟩ := DataW.trod_bool ht h
  injection e with e _
  exact ⟨a, e⟩
end
end Go.Proofs.Ytihmgkjmebdioaa
/- Opening a list of lists of bytes, a list of Booleans, a list of bytes of whatever length. -/
namespace Go.Proofs.Ytihmgkjmebdioaa
open Go.RowKit Go.ChangeShapes Go.WideShapes Go.ChangeAt Go.Deep
set_option maxRecDepth 100000
theorem addr_plain {w : World} {a : Addr} {v : Value} (h : w.cell? a = some v) : ∃ b off, a = ⟨b, off, none⟩ := by
  obtain ⟨b, off, spot⟩ := a
  cases spot with
  | none => exact ⟨b, off, rfl⟩
  | some s =>
    unfold World.cell? at h
    split at h <;> simp at h
/-- a slice that came in, of one-cell elements that each read as p says -/
theorem open_ones {H : Type} {enc : TypeId × Value → H} {P : Program} {W : World} {base : Nat} {α : Type} {t e : TypeId} {v : Value} {d : DataW H} {p : List MemPlace} (ht : P.underlying t = some (.slice e)) (hC : P.cellsOf e = 1) (R : Value → α → Prop) (z : α)
    (dec : ∀ n c y, DataW.trod enc P W 0 (fun _ => true) true n e [c] = some y → ∃ x, R c x)
    (hval : Value.okWide P W .any base t v) (h : DataW.Trod enc P W 0 (fun _ => true) true t v d p) :
    ∃ (ls : List α) (ao : Option Addr) (cap : Nat), v = .slice ao ls.length cap ∧ ls.length ≤ cap ∧ cap ≤ 9223372036854775807 ∧ ∀ i l, ls[i]? = some l → ∃ b off c, ao = some ⟨b, off, none⟩ ∧ W.cell? ⟨b, off + i, none⟩ = some c ∧ R c l := by
  obtain ⟨a0, len0, cap0, rfl⟩ := Go.WideShapes.okWide_slice ht hval
  obtain ⟨fuel, hf⟩ := h
  rcases open_slice1 ht hC hf with ⟨hcs, _⟩ | ⟨a, len, cap, m, n, V, D, Pl, hcs, _, hl, hm, hmm, hx, hi⟩
  · simp only [Value.cells] at hcs
    injection hcs with hcs _
    rw [hcs]
    exact ⟨[], none, 0, rfl, Nat.le_refl _, by omega, fun i l h => by simp at h⟩
  · simp only [Value.cells] at hcs
    injection hcs with hcs _
    rw [hcs]
    simp only [if_true] at hmm
    obtain ⟨L, hL⟩ : ∃ L : Nat → α, ∀ i, i < len → R (V i) (L i) :=
      ⟨fun i => if hh : i < len then Classical.choose (dec _ _ _ (hi i (by omega)).2) else z, fun i hh => by
        simp only [hh, dif_pos]
        exact Classical.choose_spec (dec _ _ _ (hi i (by omega)).2)⟩
    refine ⟨(List.range len).map L, some a, cap, by simp, by simpa using hl, by simp only [maxLen] at hm; omega, fun i l h => ?_⟩
    have hlt : i < len := by
      have := (List.getElem?_eq_some_iff.1 h).1
      simpa using this
    have hc := (hi i (by omega)).1
    have hc0 := (hi 0 (by omega)).1
    rw [List.getElem?_map, List.getElem?_range hlt] at h
    simp at h
    subst h
    obtain ⟨b, off, spot⟩ := a
    have hsp : spot = none := by
      cases spot with
      | none => rfl
      | some s =>
        rw [show (⟨b, off, some s⟩ : Addr).add 0 = ⟨b, off, some s⟩ from by simp [Addr.add]] at hc0
        unfold World.cell? at hc0
        split at hc0 <;> simp at hc0
    subst hsp
    rw [add_lit] at hc
    exact ⟨b, off, V i, rfl, hc, hL i hlt⟩
/-- a list of lists of bytes that came in -/
def InL (W : World) (v : Value) (ls : List (List UInt8)) : Prop := ∃ (ao : Option Addr) (cap : Nat), v = .slice ao ls.length cap ∧ ls.length ≤ cap ∧ cap ≤ 9223372036854775807 ∧ ∀ i l, ls[i]? = some l → ∃ b off c, ao = some ⟨b, off, none⟩ ∧ W.cell? ⟨b, off + i, none⟩ = some c ∧ Bs W c l
theorem openLists {H : Type} {enc : TypeId × Value → H} {W : World} {base : Nat} {v : Value} {d : DataW H} {p : List MemPlace}
    (hval : Value.okWide Try.prog W .any base 57 v) (h : DataW.Trod enc Try.prog W 0 (fun _ => true) true 57 v d p) : ∃ ls, InL W v ls :=
  open_ones Try.underlying57 (by kernel_rfl) (fun c l => Bs W c l) [] (fun n c y h => bytes_cell Try.underlying22 Try.underlying5 cellsU8 h) hval h
/-- a list of Booleans that came in -/
def InBo (W : World) (v : Value) (bs : List Bool) : Prop := ∃ (ao : Option Addr) (cap : Nat), v = .slice ao bs.length cap ∧ bs.length ≤ cap ∧ cap ≤ 9223372036854775807 ∧ ∀ i b, bs[i]? = some b → ∃ g off c, ao = some ⟨g, off, none⟩ ∧ W.cell? ⟨g, off + i, none⟩ = some c ∧ c = .bool b
/-- bytes that came in, of whatever length -/
theorem openBytesP {H : Type} {enc : TypeId × Value → H} {W : World} {base : Nat} {v : Value} {d : DataW H} {p : List MemPlace}
    (hval : Value.okWide Try.prog W .any base 22 v) (h : DataW.Trod enc Try.prog W 0 (fun _ => true) true 22 v d p) : ∃ l, Bs W v l := by
  obtain ⟨l, hl, _⟩ := open_bytes_sized Try.underlying22 Try.underlying5 cellsU8 hval h
  exact ⟨l, hl⟩
end Go.Proofs.Ytihmgkjmebdioaa
/- Opening a list of structs of one-cell fields, with what the form says of the size of what lies inside. -/
namespace Go.Proofs.Ytihmgkjmebdioaa
open Go.RowKit Go.ChangeShapes Go.WideShapes Go.ChangeAt Go.Deep
set_option maxRecDepth 100000
section
variable {H : Type} {enc : TypeId × Value → H} {P : Program} {W : World}
theorem trod_fields2 {b0 : Nat} {sp : Nat → Bool} {hd : Bool} {t : TypeId} {fs : Array Field} {cs : List Value} {fuel : Nat} {x : DataW H × List MemPlace} (hs : P.underlying t = some (.struct fs)) (hone : Go.Deep.oneCellFields P fs = true) (hC : P.cellsOf t = fs.size)
    (h : DataW.trod enc P W b0 sp hd fuel t cs = some x) :
    cs.length = fs.size ∧ ∃ (n : Nat) (xs : List (DataW H × List MemPlace)), x.1 = .agg (xs.map (·.1)) ∧ ∀ (i : Nat) (f : Field), fs[i]? = some f → ∃ c y, cs[i]? = some c ∧ xs[i]? = some y ∧ DataW.trod enc P W b0 sp hd n f.type [c] = some y := by
  obtain ⟨xs, n, _, rfl, hl, hlen, hf⟩ := DataW.trod_struct hs h
  rw [hC] at hl
  refine ⟨hl, n, xs, rfl, fun i f hi => ?_⟩
  obtain ⟨h1, h2⟩ := Go.Deep.hone_of hone i f hi
  have hi2 : i < fs.size := (Array.getElem?_eq_some_iff.1 hi).1
  have h3 := hf i f hi
  rw [h1, h2, List.drop_eq_getElem_cons (by omega), List.take_succ_cons, List.take_zero] at h3
  have h4 : xs[i]? = some (xs[i]'(by omega)) := List.getElem?_eq_getElem (by omega)
  exact ⟨cs[i]'(by omega), xs[i]'(by omega), List.getElem?_eq_getElem (by omega), h4, h3.trans h4⟩
theorem weights_all {e : TypeId} : ∀ {ds : List (DataW H)} {i : Nat} {d : DataW H}, ds[i]? = some d → ∀ n ∈ d.weights P e, n ∈ DataW.weightsAll P e ds
  | d0 :: ds, 0, d, hd, n, hn => by
    simp only [List.getElem?_cons_zero, Option.some.injEq] at hd
    subst hd
    simp only [DataW.weightsAll, List.mem_append]
    exact .inl hn
  | d0 :: ds, i + 1, d, hd, n, hn => by
    simp only [List.getElem?_cons_succ] at hd
    simp only [DataW.weightsAll, List.mem_append]
    exact .inr (weights_all hd n hn)
  | [], _, _, hd, _, _ => by simp at hd
theorem weights_elem {t e : TypeId} (hu : P.underlying t = some (.slice e)) {el sp : List (DataW H)} {i : Nat} {d : DataW H} (hd : el[i]? = some d) (n : Nat) (hn : n ∈ d.weights P e) : n ∈ (DataW.slice el sp).weights P t := by
  simp only [DataW.weights, hu, List.mem_cons, List.mem_append]
  exact .inr (.inl (weights_all hd n hn))
theorem weights_part {t : TypeId} {fs : Array Field} (hu : P.underlying t = some (.struct fs)) {parts : List (DataW H)} {i : Nat} {f : Field} {d : DataW H} (hf : fs[i]? = some f) (hd : parts[i]? = some d) (n : Nat) (hn : n ∈ d.weights P f.type) : n ∈ (DataW.agg parts).weights P t := by
  simp only [DataW.weights, hu]
  refine DataW.weights_mem_each (j := i) (t := f.type) (d := d) ?_ hd n hn
  rw [List.getElem?_map, Array.getElem?_toList, hf]
  rfl
/-- a list of structs of one-cell fields -/
theorem open_structs {base : Nat} {t e : TypeId} {fs : Array Field} {v : Value} {d : DataW H} {p : List MemPlace} (ht : P.underlying t = some (.slice e)) (he : P.underlying e = some (.struct fs)) (hone : Go.Deep.oneCellFields P fs = true) (hC : P.cellsOf e = fs.size) (hp : 0 < fs.size)
    (hval : Value.okWide P W .any base t v) (h : DataW.Trod enc P W 0 (fun _ => true) true t v d p) :
    ∃ (n : Nat) (ao : Option Addr) (cap : Nat) (C : Nat → List Value) (D : Nat → DataW H), v = .slice ao n cap ∧ n ≤ cap ∧ cap ≤ 9223372036854775807 ∧
      (∀ i, i < n → (∀ j c, (C i)[j]? = some c → ∃ b off, ao = some ⟨b, off, none⟩ ∧ W.cell? ⟨b, off + (i * fs.size + j), none⟩ = some c) ∧
        ∃ (m : Nat) (xs : List (DataW H × List MemPlace)), D i = .agg (xs.map (·.1)) ∧ ∀ (j : Nat) (f : Field), fs[j]? = some f → ∃ c y, (C i)[j]? = some c ∧ xs[j]? = some y ∧ DataW.trod enc P W 0 (fun _ => true) true m f.type [c] = some y) ∧
      (n = 0 ∨ ∃ el sp, d = .slice el sp ∧ el.length = n ∧ ∀ i, i < n → el[i]? = some (D i)) := by
  obtain ⟨a0, len0, cap0, rfl⟩ := Go.WideShapes.okWide_slice ht hval
  obtain ⟨fuel, hf⟩ := h
  rcases open_slice ht hf with ⟨hcs, _⟩ | ⟨a, len, cap, m, n, D, Pl, hcs, _, hl, hm, hmm, hx, hi⟩
  · simp only [Value.cells] at hcs
    injection hcs with hcs _
    rw [hcs]
    exact ⟨0, none, 0, fun _ => [], fun _ => d, rfl, Nat.le_refl _, by omega, fun i hi => by omega, .inl rfl⟩
  · simp only [Value.cells] at hcs
    injection hcs with hcs _
    rw [hcs]
    simp only [if_true] at hmm
    subst hmm
    rw [hC] at hi
    obtain ⟨C, hCC⟩ : ∃ C : Nat → List Value, ∀ i, i < len → W.cells? 0 (a.add (i * fs.size)) fs.size = some (C i) ∧ DataW.trod enc P W 0 (fun _ => true) true n e (C i) = some (D i, Pl i) :=
      ⟨fun i => if hh : i < len then Classical.choose (hi i (by omega)) else [], fun i hh => by
        simp only [hh, dif_pos]
        exact Classical.choose_spec (hi i (by omega))⟩
    injection hx with hx1 hx2
    refine ⟨len, some a, m, C, D, rfl, hl, by simp only [maxLen] at hm; omega, fun i hil => ?_, .inr ⟨_, _, hx1, by simp, fun i hil => by rw [List.getElem?_map, List.getElem?_range hil]; rfl⟩⟩
    obtain ⟨h1, h2⟩ := hCC i hil
    obtain ⟨h3, n2, xs, h4, h5⟩ := trod_fields2 he hone hC h2
    refine ⟨fun j c hj => ?_, n2, xs, h4, h5⟩
    have hjl : j < fs.size := by
      have := (List.getElem?_eq_some_iff.1 hj).1
      omega
    have hcell := (World.cells?_some h1).2.2 j hjl
    rw [hj] at hcell
    obtain ⟨b, off, spot⟩ := a
    have hsp : spot = none := by
      cases spot with
      | none => rfl
      | some s =>
        have h0 := (World.cells?_some (hCC 0 (by omega)).1).2.2 0 hp
        rw [Nat.zero_mul, show ((⟨b, off, some s⟩ : Addr).add 0).add 0 = ⟨b, off, some s⟩ from by simp [Addr.add], List.getElem?_eq_getElem (by have := (trod_fields2 he hone hC (hCC 0 (by omega)).2).1; omega)] at h0
        unfold World.cell? at h0
        split at h0 <;> simp at h0
    subst hsp
    rw [add_lit, add_lit, Nat.add_assoc] at hcell
    exact ⟨b, off, rfl, hcell⟩
theorem bytes_cell2 {t e : TypeId} {c : Value} {n : Nat} {y : DataW H × List MemPlace} (ht : P.underlying t = some (.slice e)) (he : P.underlying e = some (.int .u8)) (hce : P.cellsOf e = 1)
    (h : DataW.trod enc P W 0 (fun _ => true) true n t [c] = some y) : ∃ l : List UInt8, Bs W c l ∧ (l = [] ∨ ∃ es sp, y.1 = .slice es sp ∧ es.length = l.length) := by
  obtain ⟨l, hl⟩ := bytes_cell ht he hce h
  refine ⟨l, hl, ?_⟩
  rcases Go.ChangeShapes.open_ints ht he hce h with ⟨hcs, _⟩ | ⟨a, len', cap', zs, hcs, _, hl2, hm, hz, hx, hcell, hwz⟩
  · injection hcs with hcs _
    obtain ⟨ao, cap, hv, _⟩ := hl.form
    rw [hcs] at hv
    injection hv with _ hv _
    exact .inl (List.eq_nil_of_length_eq_zero hv.symm)
  · injection hcs with hcs _
    obtain ⟨ao, cap, hv, _⟩ := hl.form
    rw [hcs] at hv
    injection hv with _ hv _
    simp only [if_true] at hz
    exact .inr ⟨_, _, by rw [hx], by rw [← hv]; simp [Go.ChangeShapes.lits, List.length_take]; omega⟩
end
end Go.Proofs.Ytihmgkjmebdioaa
/- Opening a list of calls of ciphers. -/
namespace Go.Proofs.Ytihmgkjmebdioaa
open Go.RowKit Go.ChangeShapes Go.WideShapes Go.ChangeAt Go.Deep
set_option maxRecDepth 100000
structure Ac10 where
  on : Int
  kd : Int
  mute : Bool
  p : List UInt8
def Ac10At (W : World) (ao : Option Addr) (i : Nat) (s : Ac10) : Prop := ∃ b off c, ao = some ⟨b, off, none⟩ ∧ W.cell? ⟨b, off + i * 4, none⟩ = some (.int .i64 s.on) ∧ W.cell? ⟨b, off + i * 4 + 1, none⟩ = some (.int .i64 s.kd) ∧ W.cell? ⟨b, off + i * 4 + 2, none⟩ = some c ∧ W.cell? ⟨b, off + i * 4 + 3, none⟩ = some (.bool s.mute) ∧ Bs W c s.p ∧ s.p.length ≤ 140737488351232
def InA10 (W : World) (v : Value) (ls : List Ac10) : Prop := ∃ (ao : Option Addr) (cap : Nat), v = .slice ao ls.length cap ∧ ls.length ≤ cap ∧ cap ≤ 9223372036854775807 ∧ ls.length ≤ 3518437208781 ∧ ∀ i s, ls[i]? = some s → Ac10At W ao i s
theorem bytesAct10 : Try.prog.bytesOf 63 = 48 := by kernel_rfl
theorem openActs10 {H : Type} {enc : TypeId × Value → H} {W : World} {base : Nat} {v : Value} {d : DataW H} {p : List MemPlace} {ts : List TypeId} {ds : List (DataW H)}
    (hsz : (DataW.weightsEach Try.prog ts ds).all (· ≤ reachBytes) = true) (j : Nat) (hj : ts[j]? = some 50) (hd : ds[j]? = some d)
    (hval : Value.okWide Try.prog W .any base 50 v) (h : DataW.Trod enc Try.prog W 0 (fun _ => true) true 50 v d p) : ∃ ls, InA10 W v ls := by
  obtain ⟨n, ao, cap, C, D, rfl, h1, h2, h3, h4⟩ := open_structs Try.underlying50 Try.underlying63 (by kernel_rfl) (by kernel_rfl) (by decide) hval h
  have hn : n ≤ 3518437208781 := by
    rcases h4 with rfl | ⟨el, sp, rfl, hl, _⟩
    · omega
    · have := sized_slice hsz hj hd Try.underlying50
      rw [bytesAct10, hl] at this
      simp only [reachBytes] at this
      omega
  have key : ∀ i, i < n → ∃ s, Ac10At W ao i s := by
    intro i hi
    obtain ⟨hc, m, xs, hD, hf⟩ := h3 i hi
    obtain ⟨c0, y0, e0, x0, t0⟩ := hf 0 _ rfl
    obtain ⟨c1, y1, e1, x1, t1⟩ := hf 1 _ rfl
    obtain ⟨c2, y2, e2, x2, t2⟩ := hf 2 _ rfl
    obtain ⟨c3, y3, e3, x3, t3⟩ := hf 3 _ rfl
    obtain ⟨a0, rfl, _⟩ := int_cell Try.underlying3 t0
    obtain ⟨a1, rfl, w1⟩ := int_cell Try.underlying3 t1
    obtain ⟨l, hb, hl⟩ := bytes_cell2 Try.underlying22 Try.underlying5 cellsU8 t2
    obtain ⟨mu, rfl⟩ := bool_cell Try.underlying4 t3
    obtain ⟨b, off, hao, g0⟩ := hc 0 _ e0
    obtain ⟨b1, off1, hao1, g1⟩ := hc 1 _ e1
    obtain ⟨b2, off2, hao2, g2⟩ := hc 2 _ e2
    obtain ⟨b3, off3, hao3, g3⟩ := hc 3 _ e3
    rw [hao] at hao1 hao2 hao3
    injection hao1 with hao1
    injection hao1 with q1 q2 _
    subst q1; subst q2
    injection hao2 with hao2
    injection hao2 with q1 q2 _
    subst q1; subst q2
    injection hao3 with hao3
    injection hao3 with q1 q2 _
    subst q1; subst q2
    refine ⟨⟨a0, a1, mu, l⟩, b, off, c2, hao, g0, g1, g2, g3, hb, ?_⟩
    rcases hl with rfl | ⟨es, sp, hy, hel⟩
    · simp
    · rcases h4 with rfl | ⟨el, sp2, rfl, hl2, hel2⟩
      · omega
      · have hw1 : (es.length + sp.length) * Try.prog.bytesOf 5 ∈ (DataW.slice es sp).weights Try.prog 22 := by simp [DataW.weights, Try.underlying22]
        have hw2 : (es.length + sp.length) * Try.prog.bytesOf 5 ∈ (D i).weights Try.prog 63 := by
          rw [hD]
          refine weights_part (i := 2) Try.underlying63 rfl (d := y2.1) ?_ _ (by rw [hy]; exact hw1)
          rw [List.getElem?_map, x2]
          rfl
        have hw3 := weights_elem (sp := sp2) Try.underlying50 (hel2 i hi) _ hw2
        have := List.all_eq_true.1 hsz _ (DataW.weights_mem_each hj hd _ hw3)
        rw [bytes8, decide_eq_true_eq] at this
        simp only [reachBytes] at this
        show l.length ≤ _
        omega
  obtain ⟨S, hS⟩ : ∃ S : Nat → Ac10, ∀ i, i < n → Ac10At W ao i (S i) :=
    ⟨fun i => if hh : i < n then Classical.choose (key i hh) else ⟨0, 0, false, []⟩, fun i hh => by
      simp only [hh, dif_pos]
      exact Classical.choose_spec (key i hh)⟩
  refine ⟨(List.range n).map S, ao, cap, by simp, by simpa using h1, h2, by simpa using hn, fun i s hs => ?_⟩
  have hi : i < n := by
    have := (List.getElem?_eq_some_iff.1 hs).1
    simpa using this
  rw [List.getElem?_map, List.getElem?_range hi] at hs
  simp at hs
  subst hs
  exact hS i hi
end Go.Proofs.Ytihmgkjmebdioaa
/- AesScript: two ciphers, call by call, beside the document's. -/
namespace Go.Proofs.Ytihmgkjmebdioaa
open Go.RowKit
set_option maxRecDepth 100000
set_option linter.unusedVariables false
set_option linter.unusedSimpArgs false
attribute [local go_sem] Oper.semAt_some
def x010 : St10 := ⟨.pointer none, .pointer none, none, none, .slice none 0 0, .slice none 0 0, [], none, none, [], []⟩
theorem OK10.start : OK10 0 x010 := ⟨trivial, trivial, by simp [x010, tot], by simp [x010, tot], by simp [x010], by simp [x010], rfl, fun y hy => by simp [x010] at hy⟩
theorem Env.pushNone {w0 w : World} {obs : List Ob} (h : Env w0 w obs) (ob : Ob) (hat : ob.at' w (fun _ => False)) : Env w0 w (obs ++ [ob]) :=
  h.push (F' := fun _ => False) ob hat (Below.refl _ _) (fun x hx => hx.elim)
theorem WL_start {w0 w : World} {P : Nat} {pl pw : Value} (h : Env w0 w [obP pl (some []), obR pw (some []), obK P 59 #[.pointer none, .pointer none, .pointer none, .pointer none, pl, pw, .slice none 0 0, .slice none 0 0]]) : Env w0 w (WL P pl pw x010) := by
  have h1 := (h.pushNone (obC (.pointer none) none) ⟨rfl, rfl⟩).pushNone (obC (.pointer none) none) ⟨rfl, rfl⟩
  have h2 := h1.pushNone (obR2 none none) ⟨trivial, trivial, fun x y hx => (by cases hx), fun x hx => hx.elim⟩
  have h3 : Env w0 w (_ ++ [obT (.slice none 0 0) []]) := h2.llNil (st := 22) (e := 5) (sz := 1)
  have h4 : Env w0 w (_ ++ [obT (.slice none 0 0) []]) := h3.llNil (st := 22) (e := 5) (sz := 1)
  have h5 := (h4.pushNone (obP (.pointer none) none) (LgP.nil w)).pushNone (obR (.pointer none) none) ⟨rfl, rfl⟩
  refine h5.pick (fun j => [2, 0, 1, 3, 4, 5, 6, 7, 8, 9].getD j 0) ?_ ?_
  · intro i j hi hj
    rw [WL_len] at hi hj
    exact (by decide : ∀ i, i < 10 → ∀ j, j < 10 → [2, 0, 1, 3, 4, 5, 6, 7, 8, 9].getD i 0 = [2, 0, 1, 3, 4, 5, 6, 7, 8, 9].getD j 0 → i = j) i hi j hj
  · intro j ob hj
    match j, hj with
    | 0, hj | 1, hj | 2, hj | 3, hj | 4, hj | 5, hj | 6, hj | 7, hj | 8, hj | 9, hj => exact hj
    | j + 10, hj => simp [WL] at hj
/-- the law's world after i calls -/
def CS10 (w wx : World) (P : Nat) (pl pw : Value) (i : Nat) : Prop := ∃ x, Env w wx (WL P pl pw x) ∧ OK10 i x
structure Sc (P : Nat) (pl pw : Value) (W : World) : Prop where
  l : W.cell? ⟨P, 4, none⟩ = some pl
  w : W.cell? ⟨P, 5, none⟩ = some pw
theorem Sc.fl {P : Nat} {pl pw : Value} (W : World) (h : Sc P pl pw W) : W.cell? ⟨P, 4, none⟩ = some pl := h.l
theorem Sc.fw {P : Nat} {pl pw : Value} (W : World) (h : Sc P pl pw W) : W.cell? ⟨P, 5, none⟩ = some pw := h.w
theorem CS10.sc {w wx : World} {P : Nat} {pl pw : Value} {i : Nat} (h : CS10 w wx P pl pw i) : Sc P pl pw wx := by
  obtain ⟨x, h, _⟩ := h
  exact ⟨(h.blk 0 rfl).cellAt 4 rfl, (h.blk 0 rfl).cellAt 5 rfl⟩
theorem make10' {w0 w : World} {P : Nat} {pl pw : Value} {i : Nat} (h : CS10 w0 w P pl pw i) (hi : i ≤ 1000) (k : Nat) (hk : k < 2) {u : Value} {key : List UInt8} (hu : Bs w0 u key) (hkl : key.length + 6 ≤ 140737488355328) :
    Calls Try.prog 24 #[.pointer (some ⟨P, 0, none⟩), .int .i64 (k : Int), u, pl, pw] w fun e w' => e = .returned (.bool true) ∧ CS10 w0 w' P pl pw (i + 1) := by
  obtain ⟨x, h, hx⟩ := h
  exact (make10 h hx hi k hk hu hkl (.inl ⟨rfl, rfl, rfl, rfl, rfl⟩)).mono fun e w' h => ⟨h.ex.1, h.ex.2⟩
theorem act10' {w0 w : World} {P : Nat} {pl pw : Value} {i : Nat} (h : CS10 w0 w P pl pw i) (hi : i ≤ 300) (on kd : Int) {bv : Value} {bl : List UInt8} (mute : Bool) (hu : Bs w0 bv bl) (hbl : bl.length + 6 ≤ 140737488355328) :
    Calls Try.prog 25 #[.pointer (some ⟨P, 0, none⟩), actV10 on kd bv mute] w fun e w' => e = .returned (.bool true) ∧ CS10 w0 w' P pl pw (i + 1) := by
  obtain ⟨x, h, hx⟩ := h
  exact (act10 h hx hi on kd mute hu hbl).mono fun e w' h => ⟨h.ex.1, h.ex.2⟩
/-- what the comparison of the forms reads -/
structure Sf (P gu gv j : Nat) (u v a b : Value) (W : World) : Prop where
  u : W.cell? ⟨P, 6, none⟩ = some u
  v : W.cell? ⟨P, 7, none⟩ = some v
  a : W.cell? ⟨gu, j, none⟩ = some a
  b : W.cell? ⟨gv, j, none⟩ = some b
theorem Sf.fu {P gu gv j : Nat} {u v a b : Value} (W : World) (h : Sf P gu gv j u v a b W) : W.cell? ⟨P, 6, none⟩ = some u := h.u
theorem Sf.fv {P gu gv j : Nat} {u v a b : Value} (W : World) (h : Sf P gu gv j u v a b W) : W.cell? ⟨P, 7, none⟩ = some v := h.v
theorem Sf.fa {P gu gv j : Nat} {u v a b : Value} (W : World) (h : Sf P gu gv j u v a b W) : W.cell? ⟨gu, j, none⟩ = some a := h.a
theorem Sf.fb {P gu gv j : Nat} {u v a b : Value} (W : World) (h : Sf P gu gv j u v a b W) : W.cell? ⟨gv, j, none⟩ = some b := h.b
theorem F6.f {P : Nat} {pl pw fv : Value} (W : World) (h : W.cell? ⟨P, 6, none⟩ = some fv ∧ Sc P pl pw W) : W.cell? ⟨P, 6, none⟩ = some fv := h.1
theorem F6.l {P : Nat} {pl pw fv : Value} (W : World) (h : W.cell? ⟨P, 6, none⟩ = some fv ∧ Sc P pl pw W) : W.cell? ⟨P, 4, none⟩ = some pl := h.2.l
theorem F6.w {P : Nat} {pl pw fv : Value} (W : World) (h : W.cell? ⟨P, 6, none⟩ = some fv ∧ Sc P pl pw W) : W.cell? ⟨P, 5, none⟩ = some pw := h.2.w
set_option maxHeartbeats 8000000 in
theorem aesScript.walk {w : World} (v0 : Value) (key : List UInt8) (e0 : In w v0 key) (v1 : Value) (other : List UInt8) (e1 : In w v1 other) (v2 : Value) (acts : List Ac10) (e2 : InA10 w v2 acts) :
    Calls Try.prog 6 #[v0, v1, v2] w fun e w' => e = .returned (.bool true) ∧ Below w.heap.size w w' := by
  obtain ⟨ao, cap, rfl, hc1, hc2, _, hat⟩ := e2
  have HAT := Lib.hid hat
  have E0 := Lib.hid e0
  have E1 := Lib.hid e1
  clear hat e0 e1
  go_enter Try.func6, Try.ntmps6
  by_cases hlen : 100 < acts.length
  · have t1 : decide (100 < (acts.length : Int)) = true := by rw [decide_eq_true_eq]; omega
    have t2 : decide (100 < acts.length) = true := by rw [decide_eq_true_eq]; omega
    clear hlen
    go_wp2_with fail
    go_ret
    exact ⟨rfl, Below.refl _ _⟩
  · have t1 : decide (100 < (acts.length : Int)) = false := by rw [decide_eq_false_iff_not]; omega
    have t2 : decide (100 < acts.length) = false := by rw [decide_eq_false_iff_not]; omega
    go_wp2_with fail
    refine (newP_envB (Env.start w)).mono ?_
    rintro e w2 ⟨p, rfl, h5⟩
    have H2 := Lib.hid h5
    clear h5 t1 t2
    go_wp2_with fail
    refine (newR_env' H2.out).mono ?_
    rintro e w3 ⟨q, rfl, h5⟩
    have H3 := Lib.hid h5
    clear h5 H2
    go_upto_region 4 with fail
    have h6 := WL_start (H3.out.newK 59 #[.pointer none, .pointer none, .pointer none, .pointer none, .pointer (some ⟨p, 0, none⟩), .pointer (some ⟨q, 0, none⟩), .slice none 0 0, .slice none 0 0])
    obtain ⟨P, hP⟩ : ∃ y, w3.heap.size = y := ⟨_, rfl⟩
    obtain ⟨w4, hw4⟩ : ∃ y, w3.alloc (.cells #[.pointer none, .pointer none, .pointer none, .pointer none, .pointer (some ⟨p, 0, none⟩), .pointer (some ⟨q, 0, none⟩), .slice none 0 0, .slice none 0 0] 59) = y := ⟨_, rfl⟩
    rw [hP, hw4] at h6
    have H6 : Hid (CS10 w w4 P (.pointer (some ⟨p, 0, none⟩)) (.pointer (some ⟨q, 0, none⟩)) 0) := Lib.hid ⟨_, h6, OK10.start⟩
    clear h6 H3
    try rw [hP]
    try rw [hw4]
    clear hP hw4
    refine hd_start (Sc P (.pointer (some ⟨p, 0, none⟩)) (.pointer (some ⟨q, 0, none⟩))) (by kernel_rfl) ?_
    intro w5 hw'
    subst hw'
    have H7 : Hid (CS10 w (w4.drewN 1) P (.pointer (some ⟨p, 0, none⟩)) (.pointer (some ⟨q, 0, none⟩)) 0) := by
      obtain ⟨y, h, hy⟩ := H6.out
      exact Lib.hid ⟨y, h.draw 1, hy⟩
    clear H6
    have S7 := H7.out.sc
    refine hd_take (v := ?_) 0 rfl (by kernel_rfl) (fun _ _ d _ _ h => (by cases d <;> exact h)) (by kernel_rfl) S7 (fun w' hS => ?_) ?_
    rotate_left
    focus (have q0 := Sc.fl w' hS; have q1 := Sc.fw w' hS; clear hS; go_simp; try rfl; done)
    simp only [List.getElem_toArray, List.getElem_cons_succ, List.getElem_cons_zero, Act.put, List.setIfInBounds_toArray, List.set_cons_zero, List.set_cons_succ]
    refine hd_take (v := ?_) 1 rfl (by kernel_rfl) (fun _ _ d _ _ h => (by cases d <;> exact h)) (by kernel_rfl) S7 (fun w' hS => ?_) ?_
    rotate_left
    focus (have q0 := Sc.fl w' hS; have q1 := Sc.fw w' hS; clear hS; go_simp; try rfl; done)
    simp only [List.getElem_toArray, List.getElem_cons_succ, List.getElem_cons_zero, Act.put, List.setIfInBounds_toArray, List.set_cons_zero, List.set_cons_succ]
    refine hd_take (v := ?_) 2 rfl (by kernel_rfl) (fun _ _ d _ _ h => (by cases d <;> exact h)) (by kernel_rfl) S7 (fun w' hS => ?_) ?_
    rotate_left
    focus (have q0 := Sc.fl w' hS; have q1 := Sc.fw w' hS; clear hS; go_simp; try rfl; done)
    simp only [List.getElem_toArray, List.getElem_cons_succ, List.getElem_cons_zero, Act.put, List.setIfInBounds_toArray, List.set_cons_zero, List.set_cons_succ]
    refine hd_take (v := ?_) 3 rfl (by kernel_rfl) (fun _ _ d _ _ h => (by cases d <;> exact h)) (by kernel_rfl) S7 (fun w' hS => ?_) ?_
    rotate_left
    focus (have q0 := Sc.fl w' hS; have q1 := Sc.fw w' hS; clear hS; go_simp; try rfl; done)
    simp only [List.getElem_toArray, List.getElem_cons_succ, List.getElem_cons_zero, Act.put, List.setIfInBounds_toArray, List.set_cons_zero, List.set_cons_succ]
    refine hd_take (v := ?_) 4 rfl (by kernel_rfl) (fun _ _ d _ _ h => (by cases d <;> exact h)) (by kernel_rfl) S7 (fun w' hS => ?_) ?_
    rotate_left
    focus (have q0 := Sc.fl w' hS; have q1 := Sc.fw w' hS; clear hS; go_simp; try rfl; done)
    simp only [List.getElem_toArray, List.getElem_cons_succ, List.getElem_cons_zero, Act.put, List.setIfInBounds_toArray, List.set_cons_zero, List.set_cons_succ]
    refine hd_take (v := ?_) 5 rfl (by kernel_rfl) (fun _ _ d _ _ h => (by cases d <;> exact h)) (by kernel_rfl) S7 (fun w' hS => ?_) ?_
    rotate_left
    focus (have q0 := Sc.fl w' hS; have q1 := Sc.fw w' hS; clear hS; go_simp; try rfl; done)
    simp only [List.getElem_toArray, List.getElem_cons_succ, List.getElem_cons_zero, Act.put, List.setIfInBounds_toArray, List.set_cons_zero, List.set_cons_succ]
    refine hd_take (v := ?_) 6 rfl (by kernel_rfl) (fun _ _ d _ _ h => (by cases d <;> exact h)) (by kernel_rfl) S7 (fun w' hS => ?_) ?_
    rotate_left
    focus (have q0 := Sc.fl w' hS; have q1 := Sc.fw w' hS; clear hS; go_simp; try rfl; done)
    simp only [List.getElem_toArray, List.getElem_cons_succ, List.getElem_cons_zero, Act.put, List.setIfInBounds_toArray, List.set_cons_zero, List.set_cons_succ]
    refine hd_take (v := ?_) 7 rfl (by kernel_rfl) (fun _ _ d _ _ h => (by cases d <;> exact h)) (by kernel_rfl) S7 (fun w' hS => ?_) ?_
    rotate_left
    focus (have q0 := Sc.fl w' hS; have q1 := Sc.fw w' hS; clear hS; go_simp; try rfl; done)
    simp only [List.getElem_toArray, List.getElem_cons_succ, List.getElem_cons_zero, Act.put, List.setIfInBounds_toArray, List.set_cons_zero, List.set_cons_succ]
    refine hd_take (v := ?_) 8 rfl (by kernel_rfl) (fun _ _ d _ _ h => (by cases d <;> exact h)) (by kernel_rfl) S7 (fun w' hS => ?_) ?_
    rotate_left
    focus (have q0 := Sc.fl w' hS; have q1 := Sc.fw w' hS; clear hS; go_simp; try rfl; done)
    simp only [List.getElem_toArray, List.getElem_cons_succ, List.getElem_cons_zero, Act.put, List.setIfInBounds_toArray, List.set_cons_zero, List.set_cons_succ]
    refine hd_take (v := ?_) 9 rfl (by kernel_rfl) (fun _ _ d _ _ h => (by cases d <;> exact h)) (by kernel_rfl) S7 (fun w' hS => ?_) ?_
    rotate_left
    focus (have q0 := Sc.fl w' hS; have q1 := Sc.fw w' hS; clear hS; go_simp; try rfl; done)
    simp only [List.getElem_toArray, List.getElem_cons_succ, List.getElem_cons_zero, Act.put, List.setIfInBounds_toArray, List.set_cons_zero, List.set_cons_succ]
    refine hd_one 10 (by kernel_rfl) ?_
    refine op_call rfl (by kernel_rfl) (by go_simp; first | exact ⟨rfl, rfl⟩ | rfl) ?_
    refine (make10' H7.out (by omega) 0 (by omega) E0.out.1 (by have := E0.out.2; omega)).mono ?_
    rintro e w6 ⟨he, h5⟩
    subst he
    have H8 := Lib.hid h5
    clear h5
    have hS2 := H8.out.sc
    have S8 := hS2
    refine ⟨_, rfl, hS2, ?_⟩
    simp only [List.getElem_toArray, List.getElem_cons_succ, List.getElem_cons_zero, Act.put, List.setIfInBounds_toArray, List.set_cons_zero, List.set_cons_succ]
    refine hd_take (v := ?_) 11 rfl (by kernel_rfl) (fun _ _ d _ _ h => (by cases d <;> exact h)) (by kernel_rfl) S8 (fun w' hS => ?_) ?_
    rotate_left
    focus (have q0 := Sc.fl w' hS; have q1 := Sc.fw w' hS; clear hS; go_simp; try rfl; done)
    simp only [List.getElem_toArray, List.getElem_cons_succ, List.getElem_cons_zero, Act.put, List.setIfInBounds_toArray, List.set_cons_zero, List.set_cons_succ]
    refine hd_take (v := ?_) 12 rfl (by kernel_rfl) (fun _ _ d _ _ h => (by cases d <;> exact h)) (by kernel_rfl) S8 (fun w' hS => ?_) ?_
    rotate_left
    focus (have q0 := Sc.fl w' hS; have q1 := Sc.fw w' hS; clear hS; go_simp; try rfl; done)
    simp only [List.getElem_toArray, List.getElem_cons_succ, List.getElem_cons_zero, Act.put, List.setIfInBounds_toArray, List.set_cons_zero, List.set_cons_succ]
    refine hd_take (v := ?_) 13 rfl (by kernel_rfl) (fun _ _ d _ _ h => (by cases d <;> exact h)) (by kernel_rfl) S8 (fun w' hS => ?_) ?_
    rotate_left
    focus (have q0 := Sc.fl w' hS; have q1 := Sc.fw w' hS; clear hS; go_simp; try rfl; done)
    simp only [List.getElem_toArray, List.getElem_cons_succ, List.getElem_cons_zero, Act.put, List.setIfInBounds_toArray, List.set_cons_zero, List.set_cons_succ]
    refine hd_take (v := ?_) 14 rfl (by kernel_rfl) (fun _ _ d _ _ h => (by cases d <;> exact h)) (by kernel_rfl) S8 (fun w' hS => ?_) ?_
    rotate_left
    focus (have q0 := Sc.fl w' hS; have q1 := Sc.fw w' hS; clear hS; go_simp; try rfl; done)
    simp only [List.getElem_toArray, List.getElem_cons_succ, List.getElem_cons_zero, Act.put, List.setIfInBounds_toArray, List.set_cons_zero, List.set_cons_succ]
    refine hd_take (v := ?_) 15 rfl (by kernel_rfl) (fun _ _ d _ _ h => (by cases d <;> exact h)) (by kernel_rfl) S8 (fun w' hS => ?_) ?_
    rotate_left
    focus (have q0 := Sc.fl w' hS; have q1 := Sc.fw w' hS; clear hS; go_simp; try rfl; done)
    simp only [List.getElem_toArray, List.getElem_cons_succ, List.getElem_cons_zero, Act.put, List.setIfInBounds_toArray, List.set_cons_zero, List.set_cons_succ]
    refine hd_take (v := ?_) 16 rfl (by kernel_rfl) (fun _ _ d _ _ h => (by cases d <;> exact h)) (by kernel_rfl) S8 (fun w' hS => ?_) ?_
    rotate_left
    focus (have q0 := Sc.fl w' hS; have q1 := Sc.fw w' hS; clear hS; go_simp; try rfl; done)
    simp only [List.getElem_toArray, List.getElem_cons_succ, List.getElem_cons_zero, Act.put, List.setIfInBounds_toArray, List.set_cons_zero, List.set_cons_succ]
    refine hd_take (v := ?_) 17 rfl (by kernel_rfl) (fun _ _ d _ _ h => (by cases d <;> exact h)) (by kernel_rfl) S8 (fun w' hS => ?_) ?_
    rotate_left
    focus (have q0 := Sc.fl w' hS; have q1 := Sc.fw w' hS; clear hS; go_simp; try rfl; done)
    simp only [List.getElem_toArray, List.getElem_cons_succ, List.getElem_cons_zero, Act.put, List.setIfInBounds_toArray, List.set_cons_zero, List.set_cons_succ]
    refine hd_take (v := ?_) 18 rfl (by kernel_rfl) (fun _ _ d _ _ h => (by cases d <;> exact h)) (by kernel_rfl) S8 (fun w' hS => ?_) ?_
    rotate_left
    focus (have q0 := Sc.fl w' hS; have q1 := Sc.fw w' hS; clear hS; go_simp; try rfl; done)
    simp only [List.getElem_toArray, List.getElem_cons_succ, List.getElem_cons_zero, Act.put, List.setIfInBounds_toArray, List.set_cons_zero, List.set_cons_succ]
    refine hd_take (v := ?_) 19 rfl (by kernel_rfl) (fun _ _ d _ _ h => (by cases d <;> exact h)) (by kernel_rfl) S8 (fun w' hS => ?_) ?_
    rotate_left
    focus (have q0 := Sc.fl w' hS; have q1 := Sc.fw w' hS; clear hS; go_simp; try rfl; done)
    simp only [List.getElem_toArray, List.getElem_cons_succ, List.getElem_cons_zero, Act.put, List.setIfInBounds_toArray, List.set_cons_zero, List.set_cons_succ]
    refine hd_take (v := ?_) 20 rfl (by kernel_rfl) (fun _ _ d _ _ h => (by cases d <;> exact h)) (by kernel_rfl) S8 (fun w' hS => ?_) ?_
    rotate_left
    focus (have q0 := Sc.fl w' hS; have q1 := Sc.fw w' hS; clear hS; go_simp; try rfl; done)
    simp only [List.getElem_toArray, List.getElem_cons_succ, List.getElem_cons_zero, Act.put, List.setIfInBounds_toArray, List.set_cons_zero, List.set_cons_succ]
    refine hd_take (v := ?_) 21 rfl (by kernel_rfl) (fun _ _ d _ _ h => (by cases d <;> exact h)) (by kernel_rfl) S8 (fun w' hS => ?_) ?_
    rotate_left
    focus (have q0 := Sc.fl w' hS; have q1 := Sc.fw w' hS; clear hS; go_simp; try rfl; done)
    simp only [List.getElem_toArray, List.getElem_cons_succ, List.getElem_cons_zero, Act.put, List.setIfInBounds_toArray, List.set_cons_zero, List.set_cons_succ]
    refine hd_take (v := ?_) 22 rfl (by kernel_rfl) (fun _ _ d _ _ h => (by cases d <;> exact h)) (by kernel_rfl) S8 (fun w' hS => ?_) ?_
    rotate_left
    focus (have q0 := Sc.fl w' hS; have q1 := Sc.fw w' hS; clear hS; go_simp; try rfl; done)
    simp only [List.getElem_toArray, List.getElem_cons_succ, List.getElem_cons_zero, Act.put, List.setIfInBounds_toArray, List.set_cons_zero, List.set_cons_succ]
    refine hd_one 23 (by kernel_rfl) ?_
    refine op_call rfl (by kernel_rfl) (by go_simp; first | exact ⟨rfl, rfl⟩ | rfl) ?_
    refine (make10' H8.out (by omega) 1 (by omega) E1.out.1 (by have := E1.out.2; omega)).mono ?_
    rintro e w7 ⟨he, h5⟩
    subst he
    have H9 := Lib.hid h5
    clear h5
    have hS2 := H9.out.sc
    have S9 := hS2
    refine ⟨_, rfl, hS2, ?_⟩
    simp only [List.getElem_toArray, List.getElem_cons_succ, List.getElem_cons_zero, Act.put, List.setIfInBounds_toArray, List.set_cons_zero, List.set_cons_succ]
    refine hd_take (v := ?_) 24 rfl (by kernel_rfl) (fun _ _ d _ _ h => (by cases d <;> exact h)) (by kernel_rfl) S9 (fun w' hS => ?_) ?_
    rotate_left
    focus (clear hS; go_simp; try rfl; done)
    simp only [List.getElem_toArray, List.getElem_cons_succ, List.getElem_cons_zero, Act.put, List.setIfInBounds_toArray, List.set_cons_zero, List.set_cons_succ]
    refine hd_take (v := ?_) 25 rfl (by kernel_rfl) (fun _ _ d _ _ h => (by cases d <;> exact h)) (by kernel_rfl) S9 (fun w' hS => ?_) ?_
    rotate_left
    focus (clear hS; go_simp; try rfl; done)
    simp only [List.getElem_toArray, List.getElem_cons_succ, List.getElem_cons_zero, Act.put, List.setIfInBounds_toArray, List.set_cons_zero, List.set_cons_succ]
    refine hd_done (by kernel_rfl) ?_
    clear S7 S8 S9 H7 H8
    go_wp2_with fail
    go_loopw [8] (fun iv wx => ∃ i : Nat, i ≤ acts.length ∧ iv = .int .i64 (i : Int) ∧ Hid (CS10 w wx P (.pointer (some ⟨p, 0, none⟩)) (.pointer (some ⟨q, 0, none⟩)) (i + 2))) (fun i _ => acts.length - (intOf i).toNat)
    case atStart => exact ⟨0, Nat.zero_le _, rfl, H9⟩
    case round =>
      obtain ⟨i, hi, rfl, H⟩ := hrel
      clear H9
      by_cases hlt : i < acts.length
      · obtain ⟨y, hy⟩ : ∃ y, acts[i]? = some y := ⟨_, List.getElem?_eq_getElem hlt⟩
        obtain ⟨b, off, bv, hb, c0, c1, c2, c3, hbs, hbl⟩ := HAT.out i y hy
        subst hb
        have hblt : b < w.heap.size := World.block_lt_of_cell? w _ c0
        obtain ⟨co, cc, rfl, _⟩ := hbs.form
        have hbase : Below w.heap.size w wr := by
          obtain ⟨z, h, _⟩ := H.out
          exact h.base
        have d0 := (hbase.cell hblt).trans c0
        have d1 := (hbase.cell hblt).trans c1
        have d2 := (hbase.cell hblt).trans c2
        have d3 := (hbase.cell hblt).trans c3
        have HBS := Lib.hid (And.intro hbs hbl)
        have t3 : decide ((i : Int) < (acts.length : Int)) = true := by rw [decide_eq_true_eq]; omega
        have bi : 0 ≤ (i : Int) ∧ (i : Int) < (acts.length : Int) := by omega
        clear c0 c1 c2 c3 hbs hbl hbase hy
        go_wp2_with fail
        refine (act10' H.out (by omega) y.on y.kd y.mute HBS.out.1 (by have := HBS.out.2; omega)).mono ?_
        rintro e w8 ⟨rfl, h5⟩
        have H8 := Lib.hid h5
        clear h5 d0 d1 d2 d3 H
        have hw1 : IntKind.i64.wrap ((i : Int) + 1) = ((i + 1 : Nat) : Int) := by rw [IntWalk.i64_in _ (by omega)]; omega
        go_wp2_with fail
        refine ⟨⟨i + 1, by omega, rfl, by rw [show i + 1 + 2 = i + 2 + 1 from by omega]; exact H8⟩, ?_⟩
        simp only [intOf]
        omega
      · have t3 : decide ((i : Int) < (acts.length : Int)) = false := by rw [decide_eq_false_iff_not]; omega
        obtain ⟨n, hn, hn102⟩ : ∃ n, i + 2 = n ∧ n ≤ 102 := ⟨_, rfl, by omega⟩
        rw [hn] at H
        clear hn
        go_wp2_with fail
        go_loopw [9] (fun kv wx => ∃ k : Nat, k ≤ 2 ∧ kv = .int .i64 (k : Int) ∧ Hid (CS10 w wx P (.pointer (some ⟨p, 0, none⟩)) (.pointer (some ⟨q, 0, none⟩)) (n + 3 * k))) (fun k _ => 2 - (intOf k).toNat)
        case atStart => exact ⟨0, by omega, rfl, H⟩
        case round =>
          obtain ⟨k, hk, rfl, HK⟩ := hrel
          clear H
          by_cases hk2 : k < 2
          · have t4 : decide ((k : Int) < 2) = true := by rw [decide_eq_true_eq]; omega
            go_wp2_with fail
            refine (act10' HK.out (by omega) (k : Int) 2 false (Bs.nil w) (by simp)).mono ?_
            rintro e w5 ⟨rfl, h5⟩
            have H5 := Lib.hid h5
            clear h5 HK
            go_wp2_with fail
            refine (act10' H5.out (by omega) (k : Int) 3 false (Bs.nil w) (by simp)).mono ?_
            rintro e w6 ⟨rfl, h5⟩
            have H6 := Lib.hid h5
            clear h5 H5
            go_wp2_with fail
            refine (act10' H6.out (by omega) (k : Int) 0 false (Bs.nil w) (by simp)).mono ?_
            rintro e w7 ⟨rfl, h5⟩
            have H7 := Lib.hid h5
            clear h5 H6
            have hw1 : IntKind.i64.wrap ((k : Int) + 1) = ((k + 1 : Nat) : Int) := by rw [IntWalk.i64_in _ (by omega)]; omega
            go_wp2_with fail
            refine ⟨⟨k + 1, by omega, rfl, by rw [show n + 3 * (k + 1) = n + 3 * k + 1 + 1 + 1 from by omega]; exact H7⟩, ?_⟩
            simp only [intOf]
            omega
          · have t4 : decide ((k : Int) < 2) = false := by rw [decide_eq_false_iff_not]; omega
            obtain ⟨x, hE, hx⟩ := HK.out
            have HE0 := Lib.hid hE
            have HX := Lib.hid hx
            obtain ⟨fo, fc, hfv, hf1, hf2⟩ := obT_form hE 6 (u := x.fv) (ts := x.ts) rfl
            obtain ⟨go, gc, hwv, hg1, hg2⟩ := obT_form hE 7 (u := x.wv) (ts := x.ws) rfl
            have HFV := Lib.hid (And.intro hfv hwv)
            have hwl := hx.wl
            have htl := hx.tl
            rw [hwl] at hg1
            clear hE hx HK hfv hwv
            have HWL := Lib.hid hwl
            clear hwl
            go_wp2_with fail
            go_loopw [10] (fun jv wx => ∃ j : Nat, j ≤ x.ts.length ∧ jv = .int .i64 (j : Int) ∧ Hid (Env w wx (WL P (.pointer (some ⟨p, 0, none⟩)) (.pointer (some ⟨q, 0, none⟩)) x))) (fun j _ => x.ts.length - (intOf j).toNat)
            case atStart => exact ⟨0, Nat.zero_le _, rfl, HE0⟩
            case round =>
              obtain ⟨j, hj, rfl, HE⟩ := hrel
              clear HE0
              have e6 : wr.cell? ⟨P, 6, none⟩ = some (.slice fo x.ts.length fc) := by rw [← HFV.out.1]; exact (HE.out.blk 0 rfl).cellAt 6 rfl
              by_cases hjl : j < x.ts.length
              · have t6 : decide ((j : Int) < (x.ts.length : Int)) = true := by rw [decide_eq_true_eq]; omega
                obtain ⟨⟨xv, l⟩, hx⟩ : ∃ z, x.ts[j]? = some z := ⟨_, List.getElem?_eq_getElem hjl⟩
                obtain ⟨⟨yv, l'⟩, hy⟩ : ∃ z, x.ws[j]? = some z := ⟨_, List.getElem?_eq_getElem (by have := HWL.out; omega)⟩
                have hll : l = l' := by
                  have e := congrArg (fun z => z[j]?) HX.out.same
                  simpa [List.getElem?_map, hx, hy] using e
                subst hll
                obtain ⟨gu, cu, hgu, _, _⟩ := obT_slice HE.out 6 (u := x.fv) (ts := x.ts) rfl (by omega)
                obtain ⟨gv, cv, hgv, _, _⟩ := obT_slice HE.out 7 (u := x.wv) (ts := x.ws) rfl (by have := HWL.out; omega)
                have hfu : (Value.slice fo x.ts.length fc) = .slice (some ⟨gu, 0, none⟩) x.ts.length cu := HFV.out.1.symm.trans hgu
                have hfw : (Value.slice go x.ws.length gc) = .slice (some ⟨gv, 0, none⟩) x.ws.length cv := HFV.out.2.symm.trans hgv
                injection hfu with q1 _ q2
                injection hfw with q3 _ q4
                subst q1; subst q2; subst q3; subst q4
                have hsf : ∀ W, Env w W (WL P (.pointer (some ⟨p, 0, none⟩)) (.pointer (some ⟨q, 0, none⟩)) x) → Sf P gu gv j (.slice (some ⟨gu, 0, none⟩) x.ts.length fc) (.slice (some ⟨gv, 0, none⟩) x.ts.length gc) xv yv W := fun W hW =>
                  ⟨by rw [← HFV.out.1]; exact (hW.blk 0 rfl).cellAt 6 rfl, by rw [← HWL.out, ← HFV.out.2]; exact (hW.blk 0 rfl).cellAt 7 rfl, obT_cell (n := x.ts.length) (c := fc) hW 6 (by rw [← HFV.out.1]; rfl) hx, obT_cell (n := x.ws.length) (c := gc) hW 7 (by rw [← HFV.out.2]; rfl) hy⟩
                have HSF := Lib.hid hsf
                have bx : Bs wr xv l := obT_get HE.out 6 (u := x.fv) rfl hx
                have byy : Bs wr yv l := obT_get HE.out 7 (u := x.wv) rfl hy
                obtain ⟨xo, xc, rfl, _⟩ := bx.form
                obtain ⟨yo, yc, rfl, _⟩ := byy.form
                have HXY := Lib.hid (And.intro hx hy)
                have bj : 0 ≤ (j : Int) ∧ (j : Int) < (x.ts.length : Int) := by omega
                clear hsf hx hy hgu hgv bx byy
                go_upto_region 19 with fail
                clear e6
                refine hd_start (Sf P gu gv j (.slice (some ⟨gu, 0, none⟩) x.ts.length fc) (.slice (some ⟨gv, 0, none⟩) x.ts.length gc) (.slice xo l.length xc) (.slice yo l.length yc)) (by kernel_rfl) ?_
                intro w4 hw'
                have H4 := Lib.hid (HE.out.draw 1)
                rw [← hw'] at H4
                clear hw' HE
                have S4 := HSF.out _ H4.out
                refine hd_take (v := ?_) 0 rfl (by kernel_rfl) (fun _ _ d _ _ h => (by cases d <;> exact h)) (by kernel_rfl) S4 (fun w' hS => ?_) ?_
                rotate_left
                focus (have q0 := Sf.fu w' hS; have q1 := Sf.fv w' hS; have q2 := Sf.fa w' hS; have q3 := Sf.fb w' hS; clear hS; go_simp; try rfl; done)
                simp only [List.getElem_toArray, List.getElem_cons_succ, List.getElem_cons_zero, Act.put, List.setIfInBounds_toArray, List.set_cons_zero, List.set_cons_succ]
                refine hd_take (v := ?_) 1 rfl (by kernel_rfl) (fun _ _ d _ _ h => (by cases d <;> exact h)) (by kernel_rfl) S4 (fun w' hS => ?_) ?_
                rotate_left
                focus (have q0 := Sf.fu w' hS; have q1 := Sf.fv w' hS; have q2 := Sf.fa w' hS; have q3 := Sf.fb w' hS; clear hS; go_simp; try rfl; done)
                simp only [List.getElem_toArray, List.getElem_cons_succ, List.getElem_cons_zero, Act.put, List.setIfInBounds_toArray, List.set_cons_zero, List.set_cons_succ]
                refine hd_take (v := ?_) 2 rfl (by kernel_rfl) (fun _ _ d _ _ h => (by cases d <;> exact h)) (by kernel_rfl) S4 (fun w' hS => ?_) ?_
                rotate_left
                focus (have q0 := Sf.fu w' hS; have q1 := Sf.fv w' hS; have q2 := Sf.fa w' hS; have q3 := Sf.fb w' hS; clear hS; go_simp; try rfl; done)
                simp only [List.getElem_toArray, List.getElem_cons_succ, List.getElem_cons_zero, Act.put, List.setIfInBounds_toArray, List.set_cons_zero, List.set_cons_succ]
                refine hd_take (v := ?_) 3 rfl (by kernel_rfl) (fun _ _ d _ _ h => (by cases d <;> exact h)) (by kernel_rfl) S4 (fun w' hS => ?_) ?_
                rotate_left
                focus (have q0 := Sf.fu w' hS; have q1 := Sf.fv w' hS; have q2 := Sf.fa w' hS; have q3 := Sf.fb w' hS; clear hS; go_simp; try rfl; done)
                simp only [List.getElem_toArray, List.getElem_cons_succ, List.getElem_cons_zero, Act.put, List.setIfInBounds_toArray, List.set_cons_zero, List.set_cons_succ]
                refine hd_take (v := ?_) 4 rfl (by kernel_rfl) (fun _ _ d _ _ h => (by cases d <;> exact h)) (by kernel_rfl) S4 (fun w' hS => ?_) ?_
                rotate_left
                focus (have q0 := Sf.fu w' hS; have q1 := Sf.fv w' hS; have q2 := Sf.fa w' hS; have q3 := Sf.fb w' hS; clear hS; go_simp; try rfl; done)
                simp only [List.getElem_toArray, List.getElem_cons_succ, List.getElem_cons_zero, Act.put, List.setIfInBounds_toArray, List.set_cons_zero, List.set_cons_succ]
                refine hd_take (v := ?_) 5 rfl (by kernel_rfl) (fun _ _ d _ _ h => (by cases d <;> exact h)) (by kernel_rfl) S4 (fun w' hS => ?_) ?_
                rotate_left
                focus (have q0 := Sf.fu w' hS; have q1 := Sf.fv w' hS; have q2 := Sf.fa w' hS; have q3 := Sf.fb w' hS; clear hS; go_simp; try rfl; done)
                simp only [List.getElem_toArray, List.getElem_cons_succ, List.getElem_cons_zero, Act.put, List.setIfInBounds_toArray, List.set_cons_zero, List.set_cons_succ]
                refine hd_take (v := ?_) 6 rfl (by kernel_rfl) (fun _ _ d _ _ h => (by cases d <;> exact h)) (by kernel_rfl) S4 (fun w' hS => ?_) ?_
                rotate_left
                focus (have q0 := Sf.fu w' hS; have q1 := Sf.fv w' hS; have q2 := Sf.fa w' hS; have q3 := Sf.fb w' hS; clear hS; go_simp; try rfl; done)
                simp only [List.getElem_toArray, List.getElem_cons_succ, List.getElem_cons_zero, Act.put, List.setIfInBounds_toArray, List.set_cons_zero, List.set_cons_succ]
                refine hd_take (v := ?_) 7 rfl (by kernel_rfl) (fun _ _ d _ _ h => (by cases d <;> exact h)) (by kernel_rfl) S4 (fun w' hS => ?_) ?_
                rotate_left
                focus (have q0 := Sf.fu w' hS; have q1 := Sf.fv w' hS; have q2 := Sf.fa w' hS; have q3 := Sf.fb w' hS; clear hS; go_simp; try rfl; done)
                simp only [List.getElem_toArray, List.getElem_cons_succ, List.getElem_cons_zero, Act.put, List.setIfInBounds_toArray, List.set_cons_zero, List.set_cons_succ]
                refine hd_take (v := ?_) 8 rfl (by kernel_rfl) (fun _ _ d _ _ h => (by cases d <;> exact h)) (by kernel_rfl) S4 (fun w' hS => ?_) ?_
                rotate_left
                focus (have q0 := Sf.fu w' hS; have q1 := Sf.fv w' hS; have q2 := Sf.fa w' hS; have q3 := Sf.fb w' hS; clear hS; go_simp; try rfl; done)
                simp only [List.getElem_toArray, List.getElem_cons_succ, List.getElem_cons_zero, Act.put, List.setIfInBounds_toArray, List.set_cons_zero, List.set_cons_succ]
                refine hd_take (v := ?_) 9 rfl (by kernel_rfl) (fun _ _ d _ _ h => (by cases d <;> exact h)) (by kernel_rfl) S4 (fun w' hS => ?_) ?_
                rotate_left
                focus (have q0 := Sf.fu w' hS; have q1 := Sf.fv w' hS; have q2 := Sf.fa w' hS; have q3 := Sf.fb w' hS; clear hS; go_simp; try rfl; done)
                simp only [List.getElem_toArray, List.getElem_cons_succ, List.getElem_cons_zero, Act.put, List.setIfInBounds_toArray, List.set_cons_zero, List.set_cons_succ]
                refine hd_take (v := ?_) 10 rfl (by kernel_rfl) (fun _ _ d _ _ h => (by cases d <;> exact h)) (by kernel_rfl) S4 (fun w' hS => ?_) ?_
                rotate_left
                focus (have q0 := Sf.fu w' hS; have q1 := Sf.fv w' hS; have q2 := Sf.fa w' hS; have q3 := Sf.fb w' hS; clear hS; go_simp; try rfl; done)
                simp only [List.getElem_toArray, List.getElem_cons_succ, List.getElem_cons_zero, Act.put, List.setIfInBounds_toArray, List.set_cons_zero, List.set_cons_succ]
                refine hd_take (v := ?_) 11 rfl (by kernel_rfl) (fun _ _ d _ _ h => (by cases d <;> exact h)) (by kernel_rfl) S4 (fun w' hS => ?_) ?_
                rotate_left
                focus (have q0 := Sf.fu w' hS; have q1 := Sf.fv w' hS; have q2 := Sf.fa w' hS; have q3 := Sf.fb w' hS; clear hS; go_simp; try rfl; done)
                simp only [List.getElem_toArray, List.getElem_cons_succ, List.getElem_cons_zero, Act.put, List.setIfInBounds_toArray, List.set_cons_zero, List.set_cons_succ]
                refine hd_take (v := ?_) 12 rfl (by kernel_rfl) (fun _ _ d _ _ h => (by cases d <;> exact h)) (by kernel_rfl) S4 (fun w' hS => ?_) ?_
                rotate_left
                focus (have q0 := Sf.fu w' hS; have q1 := Sf.fv w' hS; have q2 := Sf.fa w' hS; have q3 := Sf.fb w' hS; clear hS; go_simp; try rfl; done)
                simp only [List.getElem_toArray, List.getElem_cons_succ, List.getElem_cons_zero, Act.put, List.setIfInBounds_toArray, List.set_cons_zero, List.set_cons_succ]
                refine hd_take (v := ?_) 13 rfl (by kernel_rfl) (fun _ _ d _ _ h => (by cases d <;> exact h)) (by kernel_rfl) S4 (fun w' hS => ?_) ?_
                rotate_left
                focus (have q0 := Sf.fu w' hS; have q1 := Sf.fv w' hS; have q2 := Sf.fa w' hS; have q3 := Sf.fb w' hS; clear hS; go_simp; try rfl; done)
                simp only [List.getElem_toArray, List.getElem_cons_succ, List.getElem_cons_zero, Act.put, List.setIfInBounds_toArray, List.set_cons_zero, List.set_cons_succ]
                refine hd_one 14 (by kernel_rfl) ?_
                refine op_call rfl (by kernel_rfl) (by go_simp; first | exact ⟨rfl, rfl⟩ | rfl) ?_
                refine (sameBytes_env H4.out (obT_get H4.out 6 (u := x.fv) rfl HXY.out.1) (obT_get H4.out 7 (u := x.wv) rfl HXY.out.2)).mono ?_
                rintro e w5 ⟨he, h5⟩
                rw [decide_eq_true rfl] at he
                subst he
                have H5 := Lib.hid h5
                clear h5
                have hS2 := HSF.out _ H5.out
                have S5 := hS2
                refine ⟨_, rfl, hS2, ?_⟩
                simp only [List.getElem_toArray, List.getElem_cons_succ, List.getElem_cons_zero, Act.put, List.setIfInBounds_toArray, List.set_cons_zero, List.set_cons_succ]
                refine hd_take (v := ?_) 15 rfl (by kernel_rfl) (fun _ _ d _ _ h => (by cases d <;> exact h)) (by kernel_rfl) S5 (fun w' hS => ?_) ?_
                rotate_left
                focus (clear hS; go_simp; try rfl; done)
                simp only [List.getElem_toArray, List.getElem_cons_succ, List.getElem_cons_zero, Act.put, List.setIfInBounds_toArray, List.set_cons_zero, List.set_cons_succ]
                refine hd_done (by kernel_rfl) ?_
                clear S4 S5 HSF
                have hw1 : IntKind.i64.wrap ((j : Int) + 1) = ((j + 1 : Nat) : Int) := by rw [IntWalk.i64_in _ (by omega)]; omega
                go_wp2_with fail
                refine ⟨⟨j + 1, by omega, rfl, H5⟩, ?_⟩
                simp only [intOf]
                omega
              · have t6 : decide ((j : Int) < (x.ts.length : Int)) = false := by rw [decide_eq_false_iff_not]; omega
                go_upto_region 21 with fail
                clear e6 t6
                have htop : Env w wr (obT x.fv x.ts :: [obK P 59 (pairC (.pointer (some ⟨p, 0, none⟩)) (.pointer (some ⟨q, 0, none⟩)) x), obP (.pointer (some ⟨p, 0, none⟩)) (some x.rs), obR (.pointer (some ⟨q, 0, none⟩)) (some x.rs)]) := by
                  refine HE.out.pick (fun j => [6, 0, 1, 2].getD j 0) ?_ ?_
                  · intro i j hi hj
                    simp at hi hj
                    exact (by decide : ∀ i, i < 4 → ∀ j, j < 4 → [6, 0, 1, 2].getD i 0 = [6, 0, 1, 2].getD j 0 → i = j) i hi j hj
                  · intro j ob hj
                    match j, hj with
                    | 0, hj | 1, hj | 2, hj | 3, hj => exact hj
                    | j + 4, hj => simp at hj
                have HT := Lib.hid htop
                clear htop HE
                refine hd_start (fun W => W.cell? ⟨P, 6, none⟩ = some (.slice fo x.ts.length fc) ∧ Sc P (.pointer (some ⟨p, 0, none⟩)) (.pointer (some ⟨q, 0, none⟩)) W) (by kernel_rfl) ?_
                intro w4 hw'
                have H4 := Lib.hid (HT.out.draw 1)
                rw [← hw'] at H4
                clear hw' HT
                have hsc : ∀ (W : World) (i : Nat) (L : List Ob), Env w W L → L[i]? = some (obK P 59 (pairC (.pointer (some ⟨p, 0, none⟩)) (.pointer (some ⟨q, 0, none⟩)) x)) → W.cell? ⟨P, 6, none⟩ = some (.slice fo x.ts.length fc) ∧ Sc P (.pointer (some ⟨p, 0, none⟩)) (.pointer (some ⟨q, 0, none⟩)) W := fun W i L hW hi => ⟨by rw [← HFV.out.1]; exact (hW.blk i hi).cellAt 6 rfl, (hW.blk i hi).cellAt 4 rfl, (hW.blk i hi).cellAt 5 rfl⟩
                have HSC := Lib.hid hsc
                clear hsc
                have S4 := HSC.out _ 1 _ H4.out rfl
                refine hd_take (v := ?_) 0 rfl (by kernel_rfl) (fun _ _ d _ _ h => (by cases d <;> exact h)) (by kernel_rfl) S4 (fun w' hS => ?_) ?_
                rotate_left
                focus (have q0 := F6.f w' hS; clear hS; go_simp; try rfl; done)
                simp only [List.getElem_toArray, List.getElem_cons_succ, List.getElem_cons_zero, Act.put, List.setIfInBounds_toArray, List.set_cons_zero, List.set_cons_succ]
                refine hd_take (v := ?_) 1 rfl (by kernel_rfl) (fun _ _ d _ _ h => (by cases d <;> exact h)) (by kernel_rfl) S4 (fun w' hS => ?_) ?_
                rotate_left
                focus (have q0 := F6.f w' hS; clear hS; go_simp; try rfl; done)
                simp only [List.getElem_toArray, List.getElem_cons_succ, List.getElem_cons_zero, Act.put, List.setIfInBounds_toArray, List.set_cons_zero, List.set_cons_succ]
                refine hd_take (v := ?_) 2 rfl (by kernel_rfl) (fun _ _ d _ _ h => (by cases d <;> exact h)) (by kernel_rfl) S4 (fun w' hS => ?_) ?_
                rotate_left
                focus (have q0 := F6.f w' hS; clear hS; go_simp; try rfl; done)
                simp only [List.getElem_toArray, List.getElem_cons_succ, List.getElem_cons_zero, Act.put, List.setIfInBounds_toArray, List.set_cons_zero, List.set_cons_succ]
                refine hd_take (v := ?_) 3 rfl (by kernel_rfl) (fun _ _ d _ _ h => (by cases d <;> exact h)) (by kernel_rfl) S4 (fun w' hS => ?_) ?_
                rotate_left
                focus (have q0 := F6.f w' hS; clear hS; go_simp; try rfl; done)
                simp only [List.getElem_toArray, List.getElem_cons_succ, List.getElem_cons_zero, Act.put, List.setIfInBounds_toArray, List.set_cons_zero, List.set_cons_succ]
                refine hd_one 4 (by kernel_rfl) ?_
                refine op_call rfl (by kernel_rfl) (by go_simp; first | exact ⟨rfl, rfl⟩ | rfl) ?_
                refine (apart_told (u := .slice fo x.ts.length fc) (by rw [← HFV.out.1]; exact H4.out) (fun y hy => by have := HX.out.small y hy; omega) (by omega)).mono ?_
                rintro e w5 ⟨he, h5⟩
                subst he
                have H5 := Lib.hid h5
                clear h5
                have hS2 := HSC.out _ 0 _ H5.out rfl
                have S5 := hS2
                refine ⟨_, rfl, hS2, ?_⟩
                simp only [List.getElem_toArray, List.getElem_cons_succ, List.getElem_cons_zero, Act.put, List.setIfInBounds_toArray, List.set_cons_zero, List.set_cons_succ]
                refine hd_take (v := ?_) 5 rfl (by kernel_rfl) (fun _ _ d _ _ h => (by cases d <;> exact h)) (by kernel_rfl) S5 (fun w' hS => ?_) ?_
                rotate_left
                focus (have q0 := F6.l w' hS; have q1 := F6.w w' hS; clear hS; go_simp; try rfl; done)
                simp only [List.getElem_toArray, List.getElem_cons_succ, List.getElem_cons_zero, Act.put, List.setIfInBounds_toArray, List.set_cons_zero, List.set_cons_succ]
                refine hd_take (v := ?_) 6 rfl (by kernel_rfl) (fun _ _ d _ _ h => (by cases d <;> exact h)) (by kernel_rfl) S5 (fun w' hS => ?_) ?_
                rotate_left
                focus (have q0 := F6.l w' hS; have q1 := F6.w w' hS; clear hS; go_simp; try rfl; done)
                simp only [List.getElem_toArray, List.getElem_cons_succ, List.getElem_cons_zero, Act.put, List.setIfInBounds_toArray, List.set_cons_zero, List.set_cons_succ]
                refine hd_take (v := ?_) 7 rfl (by kernel_rfl) (fun _ _ d _ _ h => (by cases d <;> exact h)) (by kernel_rfl) S5 (fun w' hS => ?_) ?_
                rotate_left
                focus (have q0 := F6.l w' hS; have q1 := F6.w w' hS; clear hS; go_simp; try rfl; done)
                simp only [List.getElem_toArray, List.getElem_cons_succ, List.getElem_cons_zero, Act.put, List.setIfInBounds_toArray, List.set_cons_zero, List.set_cons_succ]
                refine hd_take (v := ?_) 8 rfl (by kernel_rfl) (fun _ _ d _ _ h => (by cases d <;> exact h)) (by kernel_rfl) S5 (fun w' hS => ?_) ?_
                rotate_left
                focus (have q0 := F6.l w' hS; have q1 := F6.w w' hS; clear hS; go_simp; try rfl; done)
                simp only [List.getElem_toArray, List.getElem_cons_succ, List.getElem_cons_zero, Act.put, List.setIfInBounds_toArray, List.set_cons_zero, List.set_cons_succ]
                refine hd_take (v := ?_) 9 rfl (by kernel_rfl) (fun _ _ d _ _ h => (by cases d <;> exact h)) (by kernel_rfl) S5 (fun w' hS => ?_) ?_
                rotate_left
                focus (have q0 := F6.l w' hS; have q1 := F6.w w' hS; clear hS; go_simp; try rfl; done)
                simp only [List.getElem_toArray, List.getElem_cons_succ, List.getElem_cons_zero, Act.put, List.setIfInBounds_toArray, List.set_cons_zero, List.set_cons_succ]
                refine hd_take (v := ?_) 11 rfl (by kernel_rfl) (fun _ _ d _ _ h => (by cases d <;> exact h)) (by kernel_rfl) S5 (fun w' hS => ?_) ?_
                rotate_left
                focus (have q0 := F6.l w' hS; have q1 := F6.w w' hS; clear hS; go_simp; try rfl; done)
                simp only [List.getElem_toArray, List.getElem_cons_succ, List.getElem_cons_zero, Act.put, List.setIfInBounds_toArray, List.set_cons_zero, List.set_cons_succ]
                refine hd_take (v := ?_) 12 rfl (by kernel_rfl) (fun _ _ d _ _ h => (by cases d <;> exact h)) (by kernel_rfl) S5 (fun w' hS => ?_) ?_
                rotate_left
                focus (have q0 := F6.l w' hS; have q1 := F6.w w' hS; clear hS; go_simp; try rfl; done)
                simp only [List.getElem_toArray, List.getElem_cons_succ, List.getElem_cons_zero, Act.put, List.setIfInBounds_toArray, List.set_cons_zero, List.set_cons_succ]
                refine hd_take (v := ?_) 13 rfl (by kernel_rfl) (fun _ _ d _ _ h => (by cases d <;> exact h)) (by kernel_rfl) S5 (fun w' hS => ?_) ?_
                rotate_left
                focus (have q0 := F6.l w' hS; have q1 := F6.w w' hS; clear hS; go_simp; try rfl; done)
                simp only [List.getElem_toArray, List.getElem_cons_succ, List.getElem_cons_zero, Act.put, List.setIfInBounds_toArray, List.set_cons_zero, List.set_cons_succ]
                refine hd_take (v := ?_) 14 rfl (by kernel_rfl) (fun _ _ d _ _ h => (by cases d <;> exact h)) (by kernel_rfl) S5 (fun w' hS => ?_) ?_
                rotate_left
                focus (have q0 := F6.l w' hS; have q1 := F6.w w' hS; clear hS; go_simp; try rfl; done)
                simp only [List.getElem_toArray, List.getElem_cons_succ, List.getElem_cons_zero, Act.put, List.setIfInBounds_toArray, List.set_cons_zero, List.set_cons_succ]
                refine hd_one 10 (by kernel_rfl) ?_
                refine op_call rfl (by kernel_rfl) (by go_simp; first | exact ⟨rfl, rfl⟩ | rfl) ?_
                refine (runsP_env' H5.out 1 rfl (by have := HX.out.len; omega)).mono ?_
                rintro e w6 ⟨rv, he, h5⟩
                subst he
                have H6 := Lib.hid h5
                clear h5
                have hS2 := HSC.out _ 0 _ H6.out rfl
                have S6 := hS2
                refine ⟨_, rfl, hS2, ?_⟩
                simp only [List.getElem_toArray, List.getElem_cons_succ, List.getElem_cons_zero, Act.put, List.setIfInBounds_toArray, List.set_cons_zero, List.set_cons_succ]
                refine hd_one 15 (by kernel_rfl) ?_
                refine op_call rfl (by kernel_rfl) (by go_simp; first | exact ⟨rfl, rfl⟩ | rfl) ?_
                refine (runsR_env' H6.out 2 rfl (by have := HX.out.len; omega)).mono ?_
                rintro e w7 ⟨qv, he, h5⟩
                subst he
                have H7 := Lib.hid h5
                clear h5
                have hS2 := HSC.out _ 0 _ H7.out rfl
                have S7 := hS2
                refine ⟨_, rfl, hS2, ?_⟩
                simp only [List.getElem_toArray, List.getElem_cons_succ, List.getElem_cons_zero, Act.put, List.setIfInBounds_toArray, List.set_cons_zero, List.set_cons_succ]
                refine hd_one 16 (by kernel_rfl) ?_
                refine op_call rfl (by kernel_rfl) (by go_simp; first | exact ⟨rfl, rfl⟩ | rfl) ?_
                refine (sameRuns_env' H7.out (H7.out.runs (v := rv) (l := x.rs) 3 rfl).rd (H7.out.runs (v := qv) (l := x.rs) 4 rfl).rd).mono ?_
                rintro e w8 ⟨he, h5⟩
                rw [decide_eq_true rfl] at he
                subst he
                have H8 := Lib.hid h5
                clear h5
                have hS2 := HSC.out _ 0 _ H8.out rfl
                have S8 := hS2
                refine ⟨_, rfl, hS2, ?_⟩
                simp only [List.getElem_toArray, List.getElem_cons_succ, List.getElem_cons_zero, Act.put, List.setIfInBounds_toArray, List.set_cons_zero, List.set_cons_succ]
                refine hd_take (v := ?_) 17 rfl (by kernel_rfl) (fun _ _ d _ _ h => (by cases d <;> exact h)) (by kernel_rfl) S8 (fun w' hS => ?_) ?_
                rotate_left
                focus (clear hS; go_simp; try rfl; done)
                simp only [List.getElem_toArray, List.getElem_cons_succ, List.getElem_cons_zero, Act.put, List.setIfInBounds_toArray, List.set_cons_zero, List.set_cons_succ]
                refine hd_take (v := ?_) 18 rfl (by kernel_rfl) (fun _ _ d _ _ h => (by cases d <;> exact h)) (by kernel_rfl) S8 (fun w' hS => ?_) ?_
                rotate_left
                focus (clear hS; go_simp; try rfl; done)
                simp only [List.getElem_toArray, List.getElem_cons_succ, List.getElem_cons_zero, Act.put, List.setIfInBounds_toArray, List.set_cons_zero, List.set_cons_succ]
                refine hd_done (by kernel_rfl) ?_
                clear S4 S5 S6 S7 S8
                go_wp2_with fail
                go_ret
                exact ⟨rfl, H8.out.base⟩
end Go.Proofs.Ytihmgkjmebdioaa
namespace Go.Proofs.Ytihmgkjmebdioaa.aesScript
open Go.ChangeShapes Go.WideShapes Go.ChangeAt Go.RowKit
set_option linter.unusedVariables false

set_option maxRecDepth 100000 in
theorem lifted (os : Os) (started : os.Started) (H : Type) (enc : TypeId × Value → H) :
    ReturnsInHanded {} Try.checked os 6 .any (Rows.aesScriptSpec.pre6 enc Try.prog Try.f6 Rows.aesScriptRow.domain false) (Rows.aesScriptSpec.post enc Try.prog Try.f6 false true false false) := by
  refine returnsInHanded_of_change_sized (C := Try.checked) own started (by kernel_rfl) Try.func6
    (ChangeSpec.witness6 (enc := enc) (C := Try.checked) false ⟨#[], #[.slice none 0 0, .slice none 0 0, .slice none 0 0], []⟩ 8 (by kernel_rfl) (by kernel_rfl) (by kernel_rfl) (by kernel_rfl)) ?_
  intro W base args ds gs before hval0 hW hcnd hsz _
  have hval : ∀ (j : Nat) t v, Try.f6.params[j]? = some t → args[j]? = some v → Value.okWide Try.prog W .any base t v := hval0
  have hW' := hW
  obtain ⟨p, q, hA0, hV, rfl, hfz, hnd⟩ := hW
  have hA : DataW.TrodAll enc Try.prog W 0 (fun _ => true) true Try.f6.params.toList args.toList ds p := hA0
  rw [Try.params6] at hA hval
  obtain ⟨v0, vs0, d0, ds0, p0, q0, hargs, rfl, rfl, h0, r0⟩ := trodAll_cons hA
  obtain ⟨v1, vs1, d1, ds1, p1, q1, rfl, rfl, rfl, h1, r1⟩ := trodAll_cons r0
  obtain ⟨v2, vs2, d2, ds2, p2, q2, rfl, rfl, rfl, h2, r2⟩ := trodAll_cons r1
  obtain ⟨rfl, rfl, rfl⟩ := trodAll_nil r2
  obtain rfl : args = #[v0, v1, v2] := by cases args; simp_all
  obtain ⟨rfl, rfl⟩ := trodVars_none hV
  obtain ⟨a0, e0⟩ := openBytesS hsz 0 rfl rfl (hval 0 22 v0 rfl rfl) h0
  obtain ⟨a1, e1⟩ := openBytesS hsz 1 rfl rfl (hval 1 22 v1 rfl rfl) h1
  obtain ⟨a2, e2⟩ := openActs10 hsz 2 rfl rfl (hval 2 50 v2 rfl rfl) h2
  clear hA0 hval0
  simp only [List.append_nil] at hW'
  refine (walk v0 a0 e0 v1 a1 e1 v2 a2 e2).mono fun e W' ⟨he, hg⟩ => ?_
  subst he
  exact ⟨_, rfl, law_post laidOut (by kernel_rfl) rfl rfl Try.underlying4 hW' hg rfl rfl rfl⟩

theorem over : Rows.aesScriptRow.holds Try.pinned (OpenSpec.ofChange Rows.aesScriptSpec) :=
  OpenClaim.holds_of_wide 6 Try.f6 rfl rfl rfl rfl rfl rfl rfl ⟨rfl, rfl, rfl, rfl, rfl⟩ rfl rfl rfl rfl rfl (by kernel_rfl) Try.func6 (by kernel_rfl)
    (of_decide_eq_true (by kernel_rfl)) (by unfold Func.isWrapper; rw [if_neg (of_decide_eq_false (by kernel_rfl))]; exact ⟨rfl, rfl⟩)
    (fun os started H enc _ => lifted os started H enc)

theorem proved : Rows.AesScriptSaid := over
end Go.Proofs.Ytihmgkjmebdioaa.aesScript
