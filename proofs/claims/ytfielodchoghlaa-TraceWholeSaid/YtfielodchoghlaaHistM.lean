/- The map keyed by events: how often each stands there. -/
import Derived.Test.YtfielodchoghlaaRows
import Derived.Test.YtfielodchoghlaaHistP
import Derived.Test.YtfielodchoghlaaLaw
import Derived.Maps.OwnOps
import Derived.Maps.RangeWalk
import Derived.WideKeyEntry
import Derived.DeepKeys4
namespace Go.Proofs.Ytfielodchoghlaa
open Go.RowKit Go.Maps
set_option maxRecDepth 1000000
set_option linter.unusedVariables false
set_option linter.unusedSimpArgs false
def evV (e : Ev) : Value := .agg #[.int .u8 e.k, .int .i64 e.s]
def okE (e : Ev) : Prop := (0 ≤ e.k ∧ e.k ≤ 255) ∧ (-9223372036854775808 ≤ e.s ∧ e.s ≤ 9223372036854775807)
theorem evLaw : WideMaps.KeyLaw Try.prog 49 := deep_law_laid laidOut (m := 2) (by omega) (of_decide_eq_true (by kernel_rfl)) (by kernel_rfl) (by kernel_rfl)
theorem evK : Keyed Try.prog 49 := Keyed.of_law evLaw
theorem evRow : ∃ fs, Try.prog.underlying 49 = some (.struct fs) := ⟨_, Try.underlying49⟩
theorem u8_wf {n : Int} : (Lit.int .u8 n).wf = true ↔ 0 ≤ n ∧ n ≤ 255 := by
  simp [Lit.wf, IntKind.min, IntKind.max, IntKind.signed, IntKind.bits]
theorem i64_wf {n : Int} : (Lit.int .i64 n).wf = true ↔ -9223372036854775808 ≤ n ∧ n ≤ 9223372036854775807 := by
  simp [Lit.wf, IntKind.min, IntKind.max, IntKind.signed, IntKind.bits]
theorem evLits (n : Nat) {e : Ev} (h : okE e) : Try.prog.keyLits (n + 2) 49 [.int .u8 e.k, .int .i64 e.s] = some [.int .u8 e.k, .int .i64 e.s] := by
  have c2 : Try.prog.cellsOf 49 = 2 := by kernel_rfl
  have c1 : Try.prog.cellsOf 47 = 1 := by kernel_rfl
  have c0 : Try.prog.cellsOf 3 = 1 := by kernel_rfl
  have w1 := u8_wf.2 h.1
  have w2 := i64_wf.2 h.2
  simp [Program.keyLits, Try.underlying49, Try.underlying47, Try.underlying3, c0, c1, c2, w1, w2]
theorem typesN : Try.prog.types.size + 1 = (Try.prog.types.size - 1) + 2 := by
  have : 1 ≤ Try.prog.types.size := of_decide_eq_true (by kernel_rfl)
  omega
theorem evForm (e : Ev) : (Try.prog.keyType 49 && (evV e).formed Try.prog 49) = true := by
  have h1 : Try.prog.keyType 49 = true := by kernel_rfl
  have c2 : Try.prog.cellsOf 49 = 2 := by kernel_rfl
  rw [h1]
  simp [Value.formed, evV, Try.underlying49, c2]
theorem evKey {e : Ev} (h : okE e) : ∃ kl, keyOf Try.prog 49 (evV e) = some kl := by
  refine ⟨.string (keyBytes [.int .u8 e.k, .int .i64 e.s]), ?_⟩
  unfold keyOf
  rw [Try.underlying49]
  dsimp only
  rw [if_pos (evForm e), typesN]
  show ((Try.prog.keyLits _ 49 [.int .u8 e.k, .int .i64 e.s]).map _) = _
  rw [evLits _ h]
  rfl
theorem evTwo {key : Value} (h : key.formed Try.prog 49 = true) : ∃ a b, key = .agg #[a, b] := by
  have c2 : Try.prog.cellsOf 49 = 2 := by kernel_rfl
  cases key with
  | agg cs =>
    simp [Value.formed, Try.underlying49, c2] at h
    obtain ⟨cl⟩ := cs
    match cl, h with
    | [a, b], _ => exact ⟨a, b, rfl⟩
  | _ => simp [Value.formed, Try.underlying49] at h
theorem evLitsInv (n : Nat) {a b : Value} {ls : List Lit} (h : Try.prog.keyLits (n + 2) 49 [a, b] = some ls) : ∃ e, okE e ∧ Value.agg #[a, b] = evV e := by
  have c2 : Try.prog.cellsOf 49 = 2 := by kernel_rfl
  have c1 : Try.prog.cellsOf 47 = 1 := by kernel_rfl
  have c0 : Try.prog.cellsOf 3 = 1 := by kernel_rfl
  have ha : ∃ k, a = .int .u8 k ∧ (Lit.int .u8 k).wf = true := by
    cases a with
    | int q k =>
      by_cases hq : q = .u8 ∧ (Lit.int .u8 k).wf = true
      · exact ⟨k, by rw [hq.1], hq.2⟩
      · exfalso
        have hq2 : ¬ (q = .u8 ∧ (Lit.int .u8 k).wf = true) := hq
        simp [Program.keyLits, Try.underlying49, Try.underlying47, Try.underlying3, c0, c1, c2, hq2] at h
    | _ => simp [Program.keyLits, Try.underlying49, Try.underlying47, Try.underlying3, c0, c1, c2] at h
  obtain ⟨k, rfl, w1⟩ := ha
  have hb : ∃ k, b = .int .i64 k ∧ (Lit.int .i64 k).wf = true := by
    cases b with
    | int q s =>
      by_cases hq : q = .i64 ∧ (Lit.int .i64 s).wf = true
      · exact ⟨s, by rw [hq.1], hq.2⟩
      · exfalso
        have hq2 : ¬ (q = .i64 ∧ (Lit.int .i64 s).wf = true) := hq
        simp [Program.keyLits, Try.underlying49, Try.underlying47, Try.underlying3, c0, c1, c2, w1, hq2] at h
    | _ => simp [Program.keyLits, Try.underlying49, Try.underlying47, Try.underlying3, c0, c1, c2, w1] at h
  obtain ⟨s, rfl, w2⟩ := hb
  exact ⟨⟨k, s⟩, ⟨u8_wf.1 w1, i64_wf.1 w2⟩, rfl⟩
theorem evInv {key : Value} {kl : Lit} (h : keyOf Try.prog 49 key = some kl) : ∃ e, key = evV e ∧ okE e := by
  unfold keyOf at h
  rw [Try.underlying49] at h
  dsimp only at h
  by_cases hf : (Try.prog.keyType 49 && key.formed Try.prog 49) = true
  · rw [if_pos hf, typesN] at h
    rw [Bool.and_eq_true] at hf
    obtain ⟨a, b, rfl⟩ := evTwo hf.2
    cases hk : Try.prog.keyLits (Try.prog.types.size - 1 + 2) 49 (Value.agg #[a, b]).cells.toList with
    | none => rw [hk] at h; simp at h
    | some ls =>
      obtain ⟨e, he, hv⟩ := evLitsInv _ (show Try.prog.keyLits (Try.prog.types.size - 1 + 2) 49 [a, b] = some ls from hk)
      exact ⟨e, hv, he⟩
  · rw [if_neg hf] at h
    cases h
/-- an event's key -/
noncomputable def evL (e : Ev) : Lit := (keyOf Try.prog 49 (evV e)).getD .nil
theorem evL_key {e : Ev} (h : okE e) : keyOf Try.prog 49 (evV e) = some (evL e) := by
  obtain ⟨kl, hk⟩ := evKey h
  unfold evL
  rw [hk]
  rfl
theorem evV_inj {e f : Ev} (h : evV e = evV f) : e = f := by
  obtain ⟨k, s⟩ := e
  obtain ⟨k', s'⟩ := f
  simp [evV] at h
  simp [h.1, h.2]
theorem evL_inj {e f : Ev} (he : okE e) (hf : okE f) (h : evL e = evL f) : e = f :=
  evV_inj (evK.inj (evL_key he) (by rw [h]; exact evL_key hf))
/-! ### what the map stands for -/
abbrev MD := DataW Unit
def litI (n : Int) : MD := .lit (.int .i64 n)
structure RepE (D : MD) (l : List Rn) : Prop where
  map : IsMap D
  has : ∀ e, okE e → (Maps.has D (evL e) = true ↔ hasE l e)
  val : ∀ e, okE e → D.atKey (evL e) (litI 0) = litI (cntE l e)
theorem RepE.nil : RepE (.map []) [] := ⟨isMap_empty, fun e _ => by simp [Maps.has, hasE], fun e _ => by rfl⟩
theorem hasE_snoc (l : List Rn) (r : Rn) (e : Ev) : hasE (l ++ [r]) e ↔ hasE l e ∨ r.ev = e := by
  simp only [hasE, List.mem_append, List.mem_singleton, or_and_right, exists_or, exists_eq_left]
theorem cntE_snoc (l : List Rn) (r : Rn) (e : Ev) : cntE (l ++ [r]) e = cntE l e + if r.ev = e then r.c else 0 := by
  rw [cnt_app]
  simp [cntE]
theorem RepE.put {D : MD} {l : List Rn} (h : RepE D l) {r : Rn} (hr : okE r.ev) : RepE (D.put (evL r.ev) (litI (cntE l r.ev + r.c))) (l ++ [r]) := by
  have hkl := evK.key (evL_key hr)
  refine ⟨h.map.put _ _, fun e he => ?_, fun e he => ?_⟩
  · rw [hasE_snoc]
    by_cases c : r.ev = e
    · subst c
      rw [has_put_same h.map hkl]
      simp
    · rw [has_put_other (fun hh => c (evL_inj hr he hh.symm)), h.has e he]
      simp [c]
  · rw [cntE_snoc]
    by_cases c : r.ev = e
    · subst c
      rw [atKey_put_same h.map hkl, if_pos rfl]
    · rw [atKey_put_other (fun hh => c (evL_inj hr he hh.symm)), h.val e he, if_neg c, Int.add_zero]
noncomputable abbrev evR := plainElem (H := Unit) Try.prog 3
/-- the entry is made ready, then stored into -/
theorem own_add {w : World} {b n : Nat} {D : MD} (h : w.ownsMap Try.prog 49 evR b n D) (hn : n < maxLen) {e : Ev} (he : okE e) {c : Int} (hc : (Lit.int .i64 c).wf = true) :
    ∃ (v0 : Value) (st : Nat) (w1 w2 : World), (Instr.mapEntry 65 (.map (some b)) (evV e)).run Try.prog w = .ok (.tuple #[v0, goInt st]) w1 ∧
      (Instr.entryStore 65 (.map (some b)) (goInt st) (.int .i64 c)).run Try.prog w1 = .ok () w2 ∧
      w2.ownsMap Try.prog 49 evR b (n + 1) (D.put (evL e) (litI c)) ∧ w.grownBy w2 (some b) := by
  have hval : evR (.int .i64 c) = some (litI c, []) := plainElem_int Try.underlying3 hc
  obtain ⟨w2, hrun, h1, h2⟩ := h.update evK Try.underlying65 hn (evL_key he) hval
  obtain ⟨es, clock, hb, F, hs, hD⟩ := h
  obtain ⟨v0, st, es1, clock1, e1, _, e2⟩ := Go.WideElems.entry_then_store evLaw Try.underlying65 (z := .int .i64 0) (fun u => by kernel_rfl) hb F (evL_key he)
  have hlt : b < w.heap.size := (Array.getElem?_eq_some_iff.1 hb).1
  have hb1 : (ChangeMaps.setBlock w b (.map es1 clock1)).heap[b]? = some (.map es1 clock1) := by
    simp [ChangeMaps.setBlock, hlt]
  obtain ⟨es', clock', e3, e4⟩ := e2 (ChangeMaps.setBlock w b (.map es1 clock1)) (.int .i64 c) hb1
  refine ⟨v0, st, _, w2, e1, ?_, h1, h2⟩
  rw [e3]
  rw [e4] at hrun
  injection hrun with _ hw
  rw [← hw]
  congr 1
  simp [ChangeMaps.setBlock]
section
open Go.WideElems Go.MapKept Go.ChangeMaps
/-- the entry that is made ready holds what was there, or nought -/
theorem entry_is {w : World} {b : Nat} {es : Array MapEntry} {clock : Nat} {R : Value → Option (MD × List MemPlace)} (hb : w.heap[b]? = some (.map es clock)) (F : Fit Try.prog 49 R es clock) {e : Ev} (he : okE e) :
    ∃ (v0 : Value) (st : Nat) (w1 : World), (Instr.mapEntry 65 (.map (some b)) (evV e)).run Try.prog w = .ok (.tuple #[v0, goInt st]) w1 ∧ (Instr.mapUpdate 65 (.map (some b)) (evV e) v0).run Try.prog w = .ok () w1 ∧
      (Instr.lookup 65 (.map (some b)) (evV e) false).run Try.prog w = .ok v0 w := by
  have ht : Try.prog.underlying 65 = some (.map 49 3) := Try.underlying65
  have hz : ∀ u : World, (zeroValue 3).run Try.prog u = .ok (.int .i64 0) u := fun u => by kernel_rfl
  have hkey := evL_key he
  rcases evLaw.find w hkey es.toList F.keys with ⟨h1, h2⟩ | ⟨j, e0, h1, h2, h3⟩
  · refine ⟨.int .i64 0, clock, setBlock w b (.map (es.push ⟨evV e, .int .i64 0, clock⟩) (clock + 1)), ?_, ?_, ?_⟩
    · simp [Instr.mapEntry, run_underlying ht, MapKept.run_getObj_map hb, evLaw.check w false hkey, h1, hz, MapKept.run_setObj_map _ hb, Result.andThen, setBlock]
    · simp [Instr.mapUpdate, run_underlying ht, MapKept.run_getObj_map hb, evLaw.check w false hkey, h1, MapKept.run_setObj_map _ hb, Result.andThen, setBlock]
    · simp [Instr.lookup, run_underlying ht, MapKept.run_getObj_map hb, evLaw.check w es.isEmpty hkey, h1, hz, Result.andThen]
  · have hj : es[j]? = some e0 := by simpa using h2
    have hsame : es.modify j (fun x => { x with key := evV e }) = es := by
      apply Array.ext'
      rw [Array.toList_modify, modify_eq_set _ _ _ _ h2]
      have : ({ e0 with key := evV e } : MapEntry) = e0 := by rw [← h3]
      rw [this]
      exact set_self _ _ _ h2
    have hsame2 : es.modify j (fun x => { x with key := evV e, val := e0.val }) = es := by
      apply Array.ext'
      rw [Array.toList_modify, modify_eq_set _ _ _ _ h2]
      have : ({ e0 with key := evV e, val := e0.val } : MapEntry) = e0 := by rw [← h3]
      rw [this]
      exact set_self _ _ _ h2
    refine ⟨e0.val, e0.born, setBlock w b (.map es clock), ?_, ?_, ?_⟩
    · simp [Instr.mapEntry, run_underlying ht, MapKept.run_getObj_map hb, evLaw.check w false hkey, h1, hj, h3, evLaw.stays w hkey, hsame, MapKept.run_setObj_map _ hb, Result.andThen, setBlock]
    · simp [Instr.mapUpdate, run_underlying ht, MapKept.run_getObj_map hb, evLaw.check w false hkey, h1, hj, h3, evLaw.stays w hkey, hsame2, MapKept.run_setObj_map _ hb, Result.andThen, setBlock]
    · simp [Instr.lookup, run_underlying ht, MapKept.run_getObj_map hb, evLaw.check w es.isEmpty hkey, h1, Result.andThen]
end
/-- 'times[e] += c': the look-up, the entry, the store, whichever of the first two comes first -/
structure AddAt (w : World) (b n : Nat) (D : MD) (e : Ev) (c0 c : Int) (st : Nat) (w1 w2 : World) : Prop where
  look : (Instr.lookup 65 (.map (some b)) (evV e) false).run Try.prog w = .ok (.int .i64 c0) w
  entry : (Instr.mapEntry 65 (.map (some b)) (evV e)).run Try.prog w = .ok (.tuple #[.int .i64 c0, goInt st]) w1
  look1 : (Instr.lookup 65 (.map (some b)) (evV e) false).run Try.prog w1 = .ok (.int .i64 c0) w1
  store : (Instr.entryStore 65 (.map (some b)) (goInt st) (.int .i64 (c0 + c))).run Try.prog w1 = .ok () w2
  grown1 : w.grownBy w1 (some b)
  grown2 : w.grownBy w2 (some b)
  owns : w2.ownsMap Try.prog 49 evR b (n + 1) (D.put (evL e) (litI (c0 + c)))
theorem add_at {w : World} {b n : Nat} {D : MD} {l : List Rn} (h : w.ownsMap Try.prog 49 evR b n D) (hr : RepE D l) (hn : n < 1000000000) {e : Ev} (he : okE e) {c : Int} (h0 : -1000000000000000000 ≤ cntE l e ∧ cntE l e ≤ 1000000000000000000) (h1 : 0 ≤ c ∧ c ≤ 1000000000000000000) :
    ∃ (st : Nat) (w1 w2 : World), AddAt w b n D e (cntE l e) c st w1 w2 := by
  have hm : n < maxLen := by unfold maxLen; omega
  have hz : (zeroValue 3).run Try.prog w = .ok (.int .i64 0) w := by kernel_rfl
  obtain ⟨c0, hrun, hat, hwc⟩ := h.lookup_int evK Try.underlying65 Try.underlying3 hz (evL_key he)
  have ec : c0 = cntE l e := by
    have := hr.val e he
    unfold litI at this
    rw [hat] at this
    injection this with this
    injection this
  subst ec
  obtain ⟨es, clock, hb, F, hs, hD⟩ := h
  obtain ⟨v0, st0, w1, e1, e2, e3⟩ := entry_is hb F he
  have hv : v0 = .int .i64 (cntE l e) := by
    rw [e3] at hrun
    injection hrun
  subst hv
  have h' : w.ownsMap Try.prog 49 evR b n D := ⟨es, clock, hb, F, hs, hD⟩
  obtain ⟨w1', r1, o1, g1⟩ := h'.update evK Try.underlying65 hm (evL_key he) (plainElem_int Try.underlying3 hwc)
  have ew : w1' = w1 := by
    rw [e2] at r1
    injection r1 with _ r1
    exact r1.symm
  subst ew
  have hz1 : (zeroValue 3).run Try.prog w1' = .ok (.int .i64 0) w1' := by kernel_rfl
  obtain ⟨c1, hrun1, hat1, _⟩ := o1.lookup_int evK Try.underlying65 Try.underlying3 hz1 (evL_key he)
  have ec1 : c1 = cntE l e := by
    rw [atKey_put_same hr.map (evK.key (evL_key he))] at hat1
    injection hat1 with hat1
    injection hat1 with _ hat1
    exact hat1.symm
  subst ec1
  have hwf : (Lit.int .i64 (cntE l e + c)).wf = true := i64_wf.2 (by omega)
  obtain ⟨v2, st, w1'', w2, f1, f2, f3, f4⟩ := own_add h' hm he hwf
  have ef : w1'' = w1' ∧ st = st0 := by
    rw [e1] at f1
    injection f1 with f1 f5
    refine ⟨f5.symm, ?_⟩
    injection f1 with f1
    simp [goInt] at f1
    have := f1.2
    omega
  obtain ⟨rfl, rfl⟩ := ef
  exact ⟨st, w1'', w2, hrun, e1, hrun1, f2, g1, f4, f3⟩
/-! ### the map's entries, collected in whatever order -/
structure CollE (D : MD) (left : Lit → Bool) (rs l : List Rn) : Prop where
  nd : (l.map Rn.ev).Nodup
  mem : ∀ e, okE e → (e ∈ l.map Rn.ev ↔ Maps.has D (evL e) = true ∧ left (evL e) = false)
  ok : ∀ x ∈ l, okE x.ev ∧ x.c = cntE rs x.ev
theorem CollE.start (D : MD) (rs : List Rn) : CollE D (Maps.has D) rs [] := ⟨List.nodup_nil, fun e _ => by cases Maps.has D (evL e) <;> simp, fun x hx => by simp at hx⟩
theorem same_self {e : Ev} (h : okE e) : (evL e).sameKey (evL e) = true := by
  obtain ⟨s, hs⟩ := evLaw.str (evL_key h)
  rw [hs]
  simp [Lit.sameKey]
theorem CollE.step {D : MD} {left : Lit → Bool} {rs l : List Rn} (h : CollE D left rs l) (hr : RepE D rs) {e : Ev} (he : okE e) {c : Int} (hlk : left (evL e) = true) (hat : ∀ zd, D.atKey (evL e) zd = litI c) :
    CollE D (fun z => left z && !z.sameKey (evL e)) rs (l ++ [⟨e.k, e.s, c⟩]) := by
  have hhas : Maps.has D (evL e) = true := has_true_of_atKey hat
  have hnew : e ∉ l.map Rn.ev := fun hx => by have := ((h.mem e he).1 hx).2; rw [hlk] at this; cases this
  have hc : c = cntE rs e := by
    have h1 := hr.val e he
    rw [hat] at h1
    unfold litI at h1
    injection h1 with h1
    injection h1
  have hev : (⟨e.k, e.s, c⟩ : Rn).ev = e := rfl
  refine ⟨?_, fun f hf => ?_, fun x hx => ?_⟩
  · rw [List.map_append, List.map_cons, List.map_nil, hev]
    exact List.nodup_append.2 ⟨h.nd, by simp, fun a ha b hb => by simp at hb; subst hb; exact fun e => hnew (e ▸ ha)⟩
  · rw [List.map_append, List.map_cons, List.map_nil, hev, List.mem_append, h.mem f hf, List.mem_singleton]
    by_cases hy : f = e
    · subst hy
      simp [hhas, same_self hf]
    · have : (evL f).sameKey (evL e) = false := sameKey_ne (fun hh => hy (evL_inj hf he hh))
      simp [hy, this]
  · rcases List.mem_append.1 hx with hx | hx
    · exact h.ok x hx
    · rw [List.mem_singleton] at hx
      subst hx
      exact ⟨he, hc⟩
theorem CollE.all {D : MD} {left : Lit → Bool} {rs l : List Rn} (h : CollE D left rs l) (hr : RepE D rs) (hok : ∀ r ∈ rs, okE r.ev) (hl : ∀ kl, left kl = false) : ∀ e, e ∈ l.map Rn.ev ↔ hasE rs e := by
  intro e
  by_cases he : okE e
  · rw [h.mem e he, hr.has e he, hl]
    simp
  · constructor
    · intro hx
      obtain ⟨x, hx2, rfl⟩ := List.mem_map.1 hx
      exact absurd (h.ok x hx2).1 he
    · rintro ⟨r, hr, rfl⟩
      exact absurd (hok r hr) he
end Go.Proofs.Ytfielodchoghlaa
