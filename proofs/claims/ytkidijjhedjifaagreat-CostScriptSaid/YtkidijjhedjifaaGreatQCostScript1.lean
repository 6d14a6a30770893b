/- The contract of Ledger.Count. Condition: the ledger's events are fewer than 2^63. -/
import Derived.Test.YtkidijjhedjifaaGreatRows
import Derived.Maps.RangeWalk
import Derived.Deep.AppendLies
import Derived.IntWalk
import Derived.Test.YtkidijjhedjifaaGreatQCostScript0
/- Ledgers as things of a law's world. -/
namespace Go.Proofs.YtkidijjhedjifaaGreat
open Go.RowKit
set_option maxRecDepth 100000
set_option linter.unusedVariables false

def obP (p : Value) (o : Option (List Rn)) : Ob := ⟨fun w F => LgP w p F o, fun h ho hd => h.keep ho hd, fun h => h.lt⟩
def obRuns (v : Value) (rs : List Rn) : Ob := ⟨fun w F => RunsAt w v rs ∧ F = fp v, fun h ho hd => ⟨h.1.keep ho (by rw [← h.2]; exact hd), h.2⟩, fun h => by rw [h.2]; exact h.1.lt⟩
theorem Env.lgP {w0 w : World} {obs : List Ob} (h : Env w0 w obs) (i : Nat) {p : Value} {o : Option (List Rn)} (hi : obs[i]? = some (obP p o)) :
    ∃ F, LgP w p F o ∧ (∀ x, x < w0.heap.size → ¬ F x) ∧ ∀ w' o', LaidP p F o' w w' → Env w0 w' (obs.set i (obP p o')) := by
  obtain ⟨F, h1, h2, h3, h4⟩ := h.get i hi
  refine ⟨F, h1, h2, fun w' o' hl => ?_⟩
  obtain ⟨F', g1, g2, g3⟩ := hl
  exact h4 w' F' (obP p o') g1 g2 g3
theorem Env.runs {w0 w : World} {obs : List Ob} (h : Env w0 w obs) (i : Nat) {v : Value} {l : List Rn} (hi : obs[i]? = some (obRuns v l)) : RunsAt w v l := by
  obtain ⟨F, h1, _⟩ := h.get i hi
  exact h1.1
theorem Env.pushRuns {w0 w w' : World} {obs : List Ob} (h : Env w0 w obs) {v : Value} {l : List Rn} (hb : RunsAt w' v l) (hw : Below w.heap.size w w') (hn : ∀ x, fp v x → w.heap.size ≤ x) : Env w0 w' (obs ++ [obRuns v l]) :=
  h.push (obRuns v l) ⟨hb, rfl⟩ hw hn
theorem Env.pushP {w0 w w' : World} {obs : List Ob} (h : Env w0 w obs) (hb : LedP w' w.heap.size (.slice none 0 0) []) (hw : Below w.heap.size w w') : Env w0 w' (obs ++ [obP (.pointer (some ⟨w.heap.size, 0, none⟩)) (some [])]) :=
  h.push (F' := lfp w.heap.size (.slice none 0 0)) (obP _ (some [])) ⟨_, _, rfl, rfl, hb⟩ hw (fun x hx => by
    rcases hx with rfl | hx
    · exact Nat.le_refl _
    · simp [fp, Value.ownBlock] at hx)
/-! ### the contracts over a law's world -/
/-- so many notes -/
def timesO (o : Option (List Rn)) (k s n : Int) : Option (List Rn) := if n < 1 then o else noteO o k s n
section
variable {w0 w : World} {obs : List Ob}
theorem newP_env' (h : Env w0 w obs) : Calls Tryz.prog 17 #[] w fun e w' => ∃ p, e = .returned p ∧ Env w0 w' (obs ++ [obP p (some [])]) :=
  (newP_any w).mono fun e w' ⟨he, h1, h2⟩ => ⟨_, he, h.pushP h1 h2⟩
theorem noteP_env (h : Env w0 w obs) (i : Nat) {p : Value} {o : Option (List Rn)} (hi : obs[i]? = some (obP p o)) (k s : Int) (hb : Room o 1) :
    Calls Tryz.prog 18 #[p, .agg #[.int .u8 k, .int .i64 s]] w fun e w' => e = .returned (.tuple #[]) ∧ Env w0 w' (obs.set i (obP p (noteO o k s 1))) := by
  obtain ⟨F, f1, _, f4⟩ := h.lgP i hi
  exact (gnoteP_any p F o k s w f1 hb).mono fun e w' ⟨he, h1⟩ => ⟨he, f4 w' _ h1⟩
theorem gtimesP_any (p : Value) (F : Nat → Prop) (o : Option (List Rn)) (k s n : Int) (w : World) (h : LgP w p F o) (hb : Room o n) :
    Calls Tryz.prog 46 #[p, .agg #[.int .u8 k, .int .i64 s], .int .i64 n] w fun e w' => e = .returned (.tuple #[]) ∧ LaidP p F (timesO o k s n) w w' := by
  unfold timesO
  cases o with
  | none =>
    obtain ⟨rfl, rfl⟩ := h
    refine (noteTimes_nil k s n w).mono ?_
    rintro e w' ⟨rfl, hb⟩
    refine ⟨rfl, fun _ => False, ?_, Only.of_below hb _, fun _ h => h.elim⟩
    split <;> exact ⟨rfl, rfl⟩
  | some rs =>
    obtain ⟨b, v, rfl, rfl, hl⟩ := h
    by_cases hn : n < 1
    · rw [if_pos hn]
      refine (noteTimes_off b k s n w hn).mono ?_
      rintro e w' ⟨rfl, hb⟩
      exact ⟨rfl, lfp b v, ⟨b, v, rfl, rfl, hl.keep (Only.nothing hb) (fun _ _ h => h)⟩, Only.of_below hb _, fun x hx => .inl hx⟩
    · rw [if_neg hn]
      obtain ⟨b1, b2⟩ := hb rs rfl
      refine (noteTimes_any b v rs k s n w hl (by omega) b1 b2).mono ?_
      rintro e w' ⟨rfl, v', h1, h2, h3⟩
      refine ⟨rfl, lfp b v', ⟨b, v', rfl, rfl, h1⟩, h2, fun x hx => ?_⟩
      rcases hx with hx | hx
      · exact .inl (.inl hx)
      · exact (h3 x hx).imp .inr id
theorem timesP_env (h : Env w0 w obs) (i : Nat) {p : Value} {o : Option (List Rn)} (hi : obs[i]? = some (obP p o)) (k s n : Int) (hb : Room o n) :
    Calls Tryz.prog 46 #[p, .agg #[.int .u8 k, .int .i64 s], .int .i64 n] w fun e w' => e = .returned (.tuple #[]) ∧ Env w0 w' (obs.set i (obP p (timesO o k s n))) := by
  obtain ⟨F, f1, _, f4⟩ := h.lgP i hi
  exact (gtimesP_any p F o k s n w f1 hb).mono fun e w' ⟨he, h1⟩ => ⟨he, f4 w' _ h1⟩
theorem runsP_env' (h : Env w0 w obs) (i : Nat) {p : Value} {rs : List Rn} (hi : obs[i]? = some (obP p (some rs))) (hl : rs.length ≤ 5497558138880) :
    Calls Tryz.prog 19 #[p] w fun e w' => ∃ v, e = .returned v ∧ Env w0 w' (obs ++ [obRuns v rs]) := by
  obtain ⟨F, f1, _⟩ := h.lgP i hi
  obtain ⟨b, v, rfl, rfl, f2⟩ := f1
  exact (runsP_any b v rs w f2 hl).mono fun e w' ⟨v, he, h1, h2, h3⟩ => ⟨v, he, h.pushRuns h1 h2 h3⟩
theorem sameRuns_env' (h : Env w0 w obs) {u v : Value} {xs ys : List Rn} (hu : RunsRd w u xs) (hv : RunsRd w v ys) :
    Calls Tryz.prog 10 #[u, v] w fun e w' => e = .returned (.bool (decide (xs = ys))) ∧ Env w0 w' obs :=
  (sameRuns_any u v xs ys w hu hv).mono fun e w' ⟨he, m, hm⟩ => ⟨he, by rw [hm]; exact h.draw m⟩
end
end Go.Proofs.YtkidijjhedjifaaGreat
/- The contracts of the kit's helpers on lists of bytes: CopyBytes, LentBytes, SameBytes, KeptBytes, OverBytes, Pick. Conditions: a list has at most 2^47 - 6 bytes. -/
namespace Go.Proofs.YtkidijjhedjifaaGreat
open Go.RowKit
set_option maxRecDepth 100000

/-- a slice value that owns the bytes l, at a row of its own -/
def OB (w : World) (v : Value) (l : List UInt8) : Prop := w.ownsRow 0 5 1 v l.length (l.map B)
theorem bytes_one (l : List UInt8) : ∀ u ∈ l.map B, u.oneCell' = true := by
  intro u hu
  obtain ⟨x, _, rfl⟩ := List.mem_map.1 hu
  rfl
theorem OB.sl {w : World} {v : Value} {l : List UInt8} (h : OB w v l) : Sl w 1 v l.length (l.map B) := Sl.of_own h (bytes_one l)
theorem OB.rd {w : World} {v : Value} {l : List UInt8} (h : OB w v l) : Bs w v l := h.sl.bytes
theorem OB.keep {w w' : World} {v : Value} {l : List UInt8} (h : OB w v l) {S : Nat → Prop} (ho : Only S w w') (hd : ∀ x, fpv v x → ¬ S x) : OB w' v l := by
  refine ⟨h.1, ?_⟩
  rcases h.2 with h2 | ⟨g, cap, cur, rfl, hb, hg, r⟩
  · exact .inl h2
  · exact .inr ⟨g, cap, cur, rfl, hb, (ho.block g (Array.getElem?_eq_some_iff.1 hg).1 (hd g rfl)).trans hg, r⟩
theorem OB.lt {w : World} {v : Value} {l : List UInt8} (h : OB w v l) : ∀ x, fpv v x → x < w.heap.size := fun x hx => (World.ownsRow.lt h x hx).2
theorem OB.nil (w : World) : OB w (.slice none 0 0) [] := World.ownsRow_nil w 0 _ 1
theorem OB.any {w : World} {v : Value} {l : List UInt8} (h : OB w v l) : ∃ ao cap, v = .slice ao l.length cap := by
  rcases h.2 with ⟨hv, h0⟩ | ⟨g, cap, cur, hv, _⟩
  · exact ⟨none, 0, by rw [h0]; exact hv⟩
  · exact ⟨some ⟨g, 0, none⟩, cap, hv⟩
theorem OB.form {w : World} {v : Value} {l : List UInt8} (h : OB w v l) (h0 : 0 < l.length) : ∃ g cap, v = .slice (some ⟨g, 0, none⟩) l.length cap := by
  obtain ⟨g, cap, hv, _⟩ := World.ownsRow.form h h0
  exact ⟨g, cap, hv⟩
theorem OB.set {w : World} {g cap : Nat} {l : List UInt8} (h : OB w (.slice (some ⟨g, 0, none⟩) l.length cap) l) (i : Nat) (x : UInt8) :
    OB (w.setCell ⟨g, i, none⟩ (.int .u8 (x.toNat : Int))) (.slice (some ⟨g, 0, none⟩) l.length cap) (l.set i x) := by
  have h1 := (World.ownsRow.stored h i (.int .u8 (x.toNat : Int))).1
  unfold OB
  rw [List.length_set, List.map_set]
  exact h1

/-- as OB, in a row of whatever type -/
def OT (t : TypeId) (w : World) (v : Value) (l : List UInt8) : Prop := w.ownsRow 0 t 1 v l.length (l.map B)
theorem OT.set {t : TypeId} {w : World} {g cap : Nat} {l : List UInt8} (h : OT t w (.slice (some ⟨g, 0, none⟩) l.length cap) l) (i : Nat) (x : UInt8) :
    OT t (w.setCell ⟨g, i, none⟩ (.int .u8 (x.toNat : Int))) (.slice (some ⟨g, 0, none⟩) l.length cap) (l.set i x) := by
  have h1 := (World.ownsRow.stored h i (.int .u8 (x.toNat : Int))).1
  unfold OT
  rw [List.length_set, List.map_set]
  exact h1
theorem OT.rd {t : TypeId} {w : World} {v : Value} {l : List UInt8} (h : OT t w v l) : Bs w v l := (Sl.of_own h (bytes_one l)).bytes
/-! ### SameBytes, KeptBytes -/
/-! ### OverBytes -/
def mark9 (i : Nat) : UInt8 := UInt8.ofNat ((64 + i) % 256)
def over (n : Nat) : List UInt8 := (List.range n).map mark9
end Go.Proofs.YtkidijjhedjifaaGreat
/- A law's world as a list of things, each with its own blocks: what a call does to one leaves the others. -/
namespace Go.Proofs.YtkidijjhedjifaaGreat
open Go.RowKit
set_option maxRecDepth 100000

def obB (v : Value) (l : List UInt8) : Ob := ⟨fun w F => OB w v l ∧ F = fpv v, fun h ho hd => ⟨h.1.keep ho (by rw [← h.2]; exact hd), h.2⟩, fun h => by rw [h.2]; exact h.1.lt⟩
/-! ### what is needed of one thing -/
theorem Env.bytes {w0 w : World} {obs : List Ob} (h : Env w0 w obs) (i : Nat) {v : Value} {l : List UInt8} (hi : obs[i]? = some (obB v l)) : OB w v l := by
  obtain ⟨F, h1, _⟩ := h.get i hi
  exact h1.1
/-- what was there when the law began -/
theorem Env.old {w0 w : World} {obs : List Ob} (h : Env w0 w obs) {v : Value} {l : List UInt8} (hv : Bs w0 v l) : Bs w v l := hv.grow h.base
end Go.Proofs.YtkidijjhedjifaaGreat
/- The handles that are held, as a map in memory; the table of the kinds of operations; what is public of a vault, as one thing of a law's world. -/
namespace Go.Proofs.YtkidijjhedjifaaGreat
open Go.RowKit Go.Maps
set_option maxRecDepth 100000
set_option linter.unusedVariables false
set_option linter.unusedSimpArgs false
def th0 : Th := ⟨0, 0, 0, 0, 0⟩
def thV (t : Th) : Value := .agg #[.int .u8 t.alg, .int .i64 t.out, .int .i64 t.key, .int .i64 t.custom, .int .i64 t.msg]
def thD (t : Th) : DataW Unit := .agg [.lit (.int .u8 t.alg), .lit (.int .i64 t.out), .lit (.int .i64 t.key), .lit (.int .i64 t.custom), .lit (.int .i64 t.msg)]
theorem thV_inj {a b : Th} (h : thV a = thV b) : a = b := by
  obtain ⟨a1, a2, a3, a4, a5⟩ := a
  obtain ⟨b1, b2, b3, b4, b5⟩ := b
  simp [thV] at h
  simp [h]
theorem thD_inj {a b : Th} (h : thD a = thD b) : a = b := by
  obtain ⟨a1, a2, a3, a4, a5⟩ := a
  obtain ⟨b1, b2, b3, b4, b5⟩ := b
  simp [thD] at h
  simp [h]
open Classical in
noncomputable def thR (v : Value) : Option (DataW Unit × List MemPlace) := if h : ∃ t, v = thV t then some (thD (Classical.choose h), []) else none
theorem thR_mk (t : Th) : thR (thV t) = some (thD t, []) := by
  have h : ∃ t', thV t = thV t' := ⟨t, rfl⟩
  unfold thR
  rw [dif_pos h, ← thV_inj (Classical.choose_spec h)]
theorem thR_inv {v : Value} {z : DataW Unit × List MemPlace} (h : thR v = some z) : ∃ t, v = thV t ∧ z = (thD t, []) := by
  unfold thR at h
  split at h
  · rename_i hx
    injection h with h
    exact ⟨_, Classical.choose_spec hx, h.symm⟩
  · cases h
theorem thR_at {v : Value} {t : Th} {ps : List MemPlace} (h : thR v = some (thD t, ps)) : v = thV t := by
  obtain ⟨t', h1, h2⟩ := thR_inv h
  injection h2 with h2 _
  rw [h1, thD_inj h2]
theorem heldK : Keyed Tryz.prog 3 := int_keyed Tryz.underlying3
def okI (n : Int) : Prop := -9223372036854775808 ≤ n ∧ n ≤ 9223372036854775807
theorem okI.wf {n : Int} (h : okI n) : (Lit.int .i64 n).wf = true := WalkArith.wf_i64 h
theorem keyI {n : Int} (h : okI n) : keyOf Tryz.prog 3 (.int .i64 n) = some (.int .i64 n) := keyOf_int_mk Tryz.underlying3 h.wf
theorem zeroTh (w : World) : (zeroValue 97).run Tryz.prog w = .ok (thV th0) w := by kernel_rfl
/-- a map as read that holds what σ says -/
structure Rep (D : DataW Unit) (σ : Hs) : Prop where
  tidy : Tidy D
  has : ∀ h : Int, okI h → Maps.has D (.int .i64 h) = (σ h).isSome
  at' : ∀ (h : Int) (t : Th), okI h → σ h = some t → ∀ z, D.atKey (.int .i64 h) z = thD t
  size : Maps.size D = cntH σ
  dom : ∀ (h : Int) (t : Th), σ h = some t → 0 ≤ h ∧ h < 64
theorem Rep.start : Rep (.map []) hs0 := ⟨tidy_empty, fun h _ => rfl, fun h t _ e => (nomatch (show none = some t from e)), rfl, fun h t e => (nomatch (show none = some t from e))⟩
theorem keyLitI (n : Int) : WideAt.IsKeyLit (.int .i64 n) := trivial
theorem litNe {a b : Int} (h : a ≠ b) : Lit.int .i64 a ≠ .int .i64 b := fun e => by injection e with _ e; exact h e
theorem Rep.put {D : DataW Unit} {σ : Hs} (r : Rep D σ) (h : Int) (hh : 0 ≤ h ∧ h < 64) (t : Th) : Rep (D.put (.int .i64 h) (thD t)) (σ.put h (some t)) := by
  refine ⟨r.tidy.put (keyLitI h) _, fun x hx => ?_, fun x t' hx e z => ?_, ?_, fun x t' e => ?_⟩
  · unfold Hs.put
    by_cases e : x = h
    · rw [if_pos e, e, has_put_same r.tidy.isMap (keyLitI h)]
      rfl
    · rw [if_neg e, has_put_other (litNe e), r.has x hx]
  · unfold Hs.put at e
    by_cases e' : x = h
    · rw [if_pos e'] at e
      injection e with e
      rw [e', e, atKey_put_same r.tidy.isMap (keyLitI h)]
    · rw [if_neg e'] at e
      rw [atKey_put_other (litNe e'), r.at' x t' hx e]
  · have hx : okI h := ⟨by omega, by omega⟩
    rw [size_put r.tidy, r.has h hx, r.size]
    obtain ⟨n, rfl⟩ : ∃ n : Nat, h = (n : Int) := ⟨h.toNat, by omega⟩
    have := cntHT_put σ n (some t) 64 (by omega)
    show _ = cntHT _ 64
    simp only [Option.isSome_some, if_true] at this
    unfold cntH
    cases hs : (σ (n : Int)).isSome
    · rw [hs] at this
      simp at this ⊢
      omega
    · rw [hs] at this
      simp at this ⊢
      omega
  · unfold Hs.put at e
    split at e
    · omega
    · exact r.dom x t' e
theorem Rep.del {D : DataW Unit} {σ : Hs} (r : Rep D σ) (h : Int) (hh : 0 ≤ h ∧ h < 64) : Rep (D.del (.int .i64 h)) (σ.put h none) := by
  refine ⟨r.tidy.del _, fun x hx => ?_, fun x t' hx e z => ?_, ?_, fun x t' e => ?_⟩
  · unfold Hs.put
    by_cases e : x = h
    · rw [if_pos e, e, has_del_same]
      rfl
    · rw [if_neg e, has_del_other (litNe e), r.has x hx]
  · unfold Hs.put at e
    by_cases e' : x = h
    · rw [if_pos e'] at e
      cases e
    · rw [if_neg e'] at e
      rw [atKey_del_other (litNe e'), r.at' x t' hx e]
  · have hx : okI h := ⟨by omega, by omega⟩
    have h1 := size_del (k := .int .i64 h) r.tidy
    rw [r.has h hx, r.size] at h1
    obtain ⟨n, rfl⟩ : ∃ n : Nat, h = (n : Int) := ⟨h.toNat, by omega⟩
    have := cntHT_put σ n none 64 (by omega)
    show _ = cntHT _ 64
    simp only [Option.isSome_none, Bool.false_eq_true, if_false] at this
    unfold cntH at h1
    omega
  · unfold Hs.put at e
    split at e
    · cases e
    · exact r.dom x t' e
theorem cntH_le (σ : Hs) : cntH σ ≤ 64 := cntHT_le σ 64
def MapH (w : World) (b : Nat) (σ : Hs) : Prop := ∃ D : DataW Unit, w.ownsMap Tryz.prog 3 thR b 64 D ∧ Rep D σ
theorem ownsMap_norm {w : World} {P : Program} {k : TypeId} {R : Value → Option (DataW Unit × List MemPlace)} {b n : Nat} {D : DataW Unit} (h : w.ownsMap P k R b n D) {m : Nat} (hm : Maps.size D ≤ m) : w.ownsMap P k R b m D := by
  obtain ⟨es, clock, hb, F, hs, hD⟩ := h
  refine ⟨es, clock, hb, F, ?_, hD⟩
  rw [hD] at hm
  have e1 : Maps.size (DataW.map ((es.toList.map (WideElems.rg P k R)).foldr DataW.insert [])) = es.size := by simp [Maps.size, length_sorted]
  rw [e1] at hm
  exact hm
section
variable {w : World} {b : Nat} {σ : Hs}
theorem MapH.made (w : World) : MapH (w.alloc (.map #[] 0)) w.heap.size hs0 := ⟨.map [], (World.ownsMap_made w _ _ _).mono (by omega), Rep.start⟩
theorem MapH.lt (h : MapH w b σ) : b < w.heap.size := by
  obtain ⟨D, h1, _⟩ := h
  exact h1.lt
theorem MapH.look_ok (h : MapH w b σ) {x : Int} (hx : okI x) : (Instr.lookup 47 (.map (some b)) (.int .i64 x) true).run Tryz.prog w = .ok (.tuple #[thV ((σ x).getD th0), .bool (σ x).isSome]) w := by
  obtain ⟨D, h1, r⟩ := h
  obtain ⟨v, ps, hrun, hv⟩ := h1.look_ok heldK Tryz.underlying47 (zeroTh w) (thR_mk th0) (keyI hx)
  rw [hrun, r.has x hx]
  cases e : σ x with
  | none =>
    have hn : Maps.has D (.int .i64 x) = false := by rw [r.has x hx, e]; rfl
    rw [atKey_of_not_has hn] at hv
    rw [thR_at hv]
    rfl
  | some t =>
    rw [r.at' x t hx e] at hv
    rw [thR_at hv]
    rfl
theorem MapH.look (h : MapH w b σ) {x : Int} (hx : okI x) : (Instr.lookup 47 (.map (some b)) (.int .i64 x) false).run Tryz.prog w = .ok (thV ((σ x).getD th0)) w := by
  obtain ⟨D, h1, r⟩ := h
  obtain ⟨v, ps, hrun, hv⟩ := h1.lookup heldK Tryz.underlying47 (zeroTh w) (thR_mk th0) (keyI hx)
  rw [hrun]
  cases e : σ x with
  | none =>
    have hn : Maps.has D (.int .i64 x) = false := by rw [r.has x hx, e]; rfl
    rw [atKey_of_not_has hn] at hv
    rw [thR_at hv]
    rfl
  | some t =>
    rw [r.at' x t hx e] at hv
    rw [thR_at hv]
    rfl
theorem MapH.len (h : MapH w b σ) (ty : TypeId) : (Builtin.len_ #[47] ty #[.map (some b)]).run Tryz.prog w = .ok (.int .i64 (cntH σ)) w := by
  obtain ⟨D, h1, r⟩ := h
  rw [h1.len Tryz.underlying47, r.size]
theorem mapTurned.only {w' : World} (h : w.mapTurned w' b) : Only (fun x => x = b) w w' := by
  have hg := h.grown
  exact ⟨hg.os, hg.tape, hg.output, hg.size, fun x hx hn => hg.block x hx (fun e => hn (by injection e))⟩
theorem MapH.store (h : MapH w b σ) {x : Int} (hx : 0 ≤ x ∧ x < 64) (t : Th) : ∃ w', (Instr.mapUpdate 47 (.map (some b)) (.int .i64 x) (thV t)).run Tryz.prog w = .ok () w' ∧ MapH w' b (σ.put x (some t)) ∧ Only (fun x => x = b) w w' := by
  obtain ⟨D, h1, r⟩ := h
  obtain ⟨w', hrun, h2, h3⟩ := h1.store heldK Tryz.underlying47 (by unfold maxLen; omega) (keyI (n := x) ⟨by omega, by omega⟩) (thR_mk t)
  have r' := r.put x hx t
  exact ⟨w', hrun, ⟨_, ownsMap_norm h2 (by rw [r'.size]; exact cntH_le _), r'⟩, mapTurned.only h3⟩
theorem MapH.drop (h : MapH w b σ) {x : Int} (hx : 0 ≤ x ∧ x < 64) (ty : TypeId) : ∃ w', (Builtin.delete_ #[47, 3] ty #[.map (some b), .int .i64 x]).run Tryz.prog w = .ok (.tuple #[]) w' ∧ MapH w' b (σ.put x none) ∧ Only (fun x => x = b) w w' := by
  obtain ⟨D, h1, r⟩ := h
  obtain ⟨w', hrun, h2, h3⟩ := h1.drop heldK Tryz.underlying47 (keyI (n := x) ⟨by omega, by omega⟩) ty
  have r' := r.del x hx
  exact ⟨w', hrun, ⟨_, ownsMap_norm h2 (by rw [r'.size]; exact cntH_le _), r'⟩, mapTurned.only h3⟩
theorem MapH.only {w' : World} {S : Nat → Prop} (h : MapH w b σ) (ho : Only S w w') (hs : ¬ S b) : MapH w' b σ := by
  have hlt := h.lt
  obtain ⟨D, ⟨es, clock, hb, F, hn, hD⟩, r⟩ := h
  exact ⟨D, ⟨es, clock, (ho.block b hlt hs).trans hb, F, hn, hD⟩, r⟩
end
/-! ### the kinds -/
def kdC : Nat → Nat
  | 1 => 26 | 2 => 28 | 3 => 30 | 4 => 32 | 5 => 34
  | 6 => 36 | 7 => 38 | 8 => 40 | 9 => 42 | _ => 44
def kdO : Nat → Nat
  | 1 => 27 | 2 => 29 | 3 => 31 | 4 => 33 | 5 => 35
  | 6 => 37 | 7 => 39 | 8 => 41 | 9 => 43 | _ => 45
def kdV (k : Nat) : Value := if k = 0 then .agg #[.nilFunc, .nilFunc] else .agg #[.func (.func (kdC k)) #[] #[], .func (.func (kdO k)) #[] #[]]
def kdD (k : Nat) : DataW Unit := .lit (.int .i64 (k : Int))
theorem kdD_inj {a b : Nat} (h : kdD a = kdD b) : a = b := by
  simp [kdD] at h
  omega
theorem kdV_inj : ∀ a b : Nat, a ≤ 10 → b ≤ 10 → kdV a = kdV b → a = b := by
  intro a b ha hb h
  have ea : a = 0 ∨ a = 1 ∨ a = 2 ∨ a = 3 ∨ a = 4 ∨ a = 5 ∨ a = 6 ∨ a = 7 ∨ a = 8 ∨ a = 9 ∨ a = 10 := by omega
  have eb : b = 0 ∨ b = 1 ∨ b = 2 ∨ b = 3 ∨ b = 4 ∨ b = 5 ∨ b = 6 ∨ b = 7 ∨ b = 8 ∨ b = 9 ∨ b = 10 := by omega
  rcases ea with rfl | rfl | rfl | rfl | rfl | rfl | rfl | rfl | rfl | rfl | rfl <;> rcases eb with rfl | rfl | rfl | rfl | rfl | rfl | rfl | rfl | rfl | rfl | rfl <;> first | rfl | (exfalso; simp [kdV, kdC, kdO] at h)
open Classical in
noncomputable def kdR (v : Value) : Option (DataW Unit × List MemPlace) := if h : ∃ k, k ≤ 10 ∧ v = kdV k then some (kdD (Classical.choose h), []) else none
theorem kdR_mk (k : Nat) (hk : k ≤ 10) : kdR (kdV k) = some (kdD k, []) := by
  have h : ∃ k', k' ≤ 10 ∧ kdV k = kdV k' := ⟨k, hk, rfl⟩
  unfold kdR
  have hs := Classical.choose_spec h
  rw [dif_pos h, ← kdV_inj _ _ hk hs.1 hs.2]
theorem kdR_at {v : Value} {k : Nat} {ps : List MemPlace} (h : kdR v = some (kdD k, ps)) : v = kdV k := by
  unfold kdR at h
  split at h
  · rename_i hx
    injection h with h
    injection h with h _
    have hs := Classical.choose_spec hx
    rw [← kdD_inj h]
    exact hs.2
  · cases h
theorem kindK : Keyed Tryz.prog 37 := int_keyed Tryz.underlying37
def okU (n : Int) : Prop := 0 ≤ n ∧ n ≤ 255
theorem wf_u8 {n : Int} (h : okU n) : (Lit.int .u8 n).wf = true := by
  obtain ⟨h1, h2⟩ := h
  simp [Lit.wf]
  exact ⟨h1, h2⟩
theorem keyU {n : Int} (h : okU n) : keyOf Tryz.prog 37 (.int .u8 n) = some (.int .u8 n) := keyOf_int_mk Tryz.underlying37 (wf_u8 h)
theorem zeroKd (w : World) : (zeroValue 68).run Tryz.prog w = .ok (kdV 0) w := by kernel_rfl
/-- the table holds the kinds 1 to n -/
structure RepK (D : DataW Unit) (n : Nat) : Prop where
  tidy : Tidy D
  has : ∀ k : Nat, k ≤ 255 → Maps.has D (.int .u8 (k : Int)) = decide (1 ≤ k ∧ k ≤ n)
  at' : ∀ k : Nat, 1 ≤ k → k ≤ n → ∀ z, D.atKey (.int .u8 (k : Int)) z = kdD k
def MapK (w : World) (b n : Nat) : Prop := ∃ D : DataW Unit, w.ownsMap Tryz.prog 37 kdR b n D ∧ RepK D n
section
variable {w : World} {b n : Nat}
theorem MapK.made (w : World) : MapK (w.alloc (.map #[] 0)) w.heap.size 0 := ⟨.map [], World.ownsMap_made w _ _ _, tidy_empty, fun k _ => by
  have e : decide (1 ≤ k ∧ k ≤ 0) = false := by rw [decide_eq_false_iff_not]; omega
  rw [e]
  rfl, fun k h1 h2 => by omega⟩
theorem MapK.lt (h : MapK w b n) : b < w.heap.size := by
  obtain ⟨D, h1, _⟩ := h
  exact h1.lt
theorem keyLitU (n : Int) : WideAt.IsKeyLit (.int .u8 n) := trivial
theorem litNeU {a b : Nat} (h : a ≠ b) : Lit.int .u8 (a : Int) ≠ .int .u8 (b : Int) := fun e => by injection e with _ e; exact h (by omega)
theorem MapK.more (h : MapK w b n) (hn : n < 10) : ∃ w', (Instr.mapUpdate 48 (.map (some b)) (.int .u8 ((n + 1 : Nat) : Int)) (kdV (n + 1))).run Tryz.prog w = .ok () w' ∧ MapK w' b (n + 1) ∧ Only (fun x => x = b) w w' := by
  obtain ⟨D, h1, r⟩ := h
  obtain ⟨w', hrun, h2, h3⟩ := h1.store kindK Tryz.underlying48 (by unfold maxLen; omega) (keyU (n := ((n + 1 : Nat) : Int)) ⟨by omega, by omega⟩) (kdR_mk (n + 1) (by omega))
  refine ⟨w', hrun, ⟨_, h2, r.tidy.put (keyLitU _) _, fun k hk => ?_, fun k k1 k2 z => ?_⟩, mapTurned.only h3⟩
  · by_cases e : k = n + 1
    · subst e
      rw [has_put_same r.tidy.isMap (keyLitU _)]
      exact (decide_eq_true (by omega)).symm
    · rw [has_put_other (litNeU e), r.has k hk]
      exact decide_eq_decide.2 (by omega)
  · by_cases e : k = n + 1
    · subst e
      rw [atKey_put_same r.tidy.isMap (keyLitU _)]
    · rw [atKey_put_other (litNeU e), r.at' k k1 (by omega)]
theorem MapK.look (h : MapK w b 10) {k : Nat} (hk : k ≤ 255) : (Instr.lookup 48 (.map (some b)) (.int .u8 (k : Int)) true).run Tryz.prog w = .ok (.tuple #[kdV (if 1 ≤ k ∧ k ≤ 10 then k else 0), .bool (decide (1 ≤ k ∧ k ≤ 10))]) w := by
  obtain ⟨D, h1, r⟩ := h
  obtain ⟨v, ps, hrun, hv⟩ := h1.look_ok kindK Tryz.underlying48 (zeroKd w) (kdR_mk 0 (by omega)) (keyU (n := (k : Int)) ⟨by omega, by omega⟩)
  rw [hrun, r.has k hk]
  by_cases e : 1 ≤ k ∧ k ≤ 10
  · rw [r.at' k e.1 e.2] at hv
    rw [kdR_at hv, if_pos e]
  · have hn : Maps.has D (.int .u8 (k : Int)) = false := by rw [r.has k hk]; exact decide_eq_false e
    rw [atKey_of_not_has hn] at hv
    rw [kdR_at hv, if_neg e]
theorem MapK.only {w' : World} {S : Nat → Prop} (h : MapK w b n) (ho : Only S w w') (hs : ¬ S b) : MapK w' b n := by
  have hlt := h.lt
  obtain ⟨D, ⟨es, clock, hb, F, hn, hD⟩, r⟩ := h
  exact ⟨D, ⟨es, clock, (ho.block b hlt hs).trans hb, F, hn, hD⟩, r⟩
end
/-! ### what is public of a vault -/
structure PubAt (w : World) (p m k : Nat) (σ : Hs) : Prop where
  blk : Blk w p 51 #[.map (some m), .map (some k)]
  held : MapH w m σ
  kinds : MapK w k 10
  pm : p ≠ m
  pk : p ≠ k
  nk : m ≠ k
def pfp (p m k : Nat) : Nat → Prop := fun x => x = p ∨ x = m ∨ x = k
def obPub (p m k : Nat) (σ : Hs) : Ob := ⟨fun w F => PubAt w p m k σ ∧ F = pfp p m k, fun {w w' F S} h ho hd => ⟨⟨h.1.blk.only ho (hd p (by rw [h.2]; exact .inl rfl)), h.1.held.only ho (hd m (by rw [h.2]; exact .inr (.inl rfl))), h.1.kinds.only ho (hd k (by rw [h.2]; exact .inr (.inr rfl))), h.1.pm, h.1.pk, h.1.nk⟩, h.2⟩,
  fun {w F} h => by
    rw [h.2]
    rintro x (rfl | rfl | rfl)
    · exact h.1.blk.lt
    · exact h.1.held.lt
    · exact h.1.kinds.lt⟩
def pV (p : Nat) : Value := .pointer (some ⟨p, 0, none⟩)
section
variable {w0 w w' : World} {obs : List Ob} {p m k : Nat} {σ σ' : Hs}
theorem Env.pub (h : Env w0 w obs) (i : Nat) (hi : obs[i]? = some (obPub p m k σ)) : PubAt w p m k σ := by
  obtain ⟨F, h1, _⟩ := h.get i hi
  exact h1.1
theorem Env.turnPub (h : Env w0 w obs) (i : Nat) (hi : obs[i]? = some (obPub p m k σ)) (hm : MapH w' m σ') (ho : Only (fun x => x = m) w w') : Env w0 w' (obs.set i (obPub p m k σ')) := by
  obtain ⟨F, h1, _, _, h4⟩ := h.get i hi
  obtain ⟨h1, rfl⟩ := h1
  refine h4 w' (pfp p m k) (obPub p m k σ') ⟨⟨h1.blk.only ho h1.pm, hm, h1.kinds.only ho (fun e => h1.nk e.symm), h1.pm, h1.pk, h1.nk⟩, rfl⟩ ?_ (fun x hx => .inl hx)
  exact ⟨ho.os, ho.tape, ho.output, ho.size, fun x hx hn => ho.block x hx (fun e => hn (.inr (.inl e)))⟩
end
/-- what the walks read of it -/
structure SPub (p m : Nat) (x : Int) (t : Th) (is : Bool) (W : World) : Prop where
  c : W.cell? ⟨p, 0, none⟩ = some (.map (some m))
  ok : (Instr.lookup 47 (.map (some m)) (.int .i64 x) true).run Tryz.prog W = .ok (.tuple #[.agg #[.int .u8 t.alg, .int .i64 t.out, .int .i64 t.key, .int .i64 t.custom, .int .i64 t.msg], .bool is]) W
  at' : (Instr.lookup 47 (.map (some m)) (.int .i64 x) false).run Tryz.prog W = .ok (.agg #[.int .u8 t.alg, .int .i64 t.out, .int .i64 t.key, .int .i64 t.custom, .int .i64 t.msg]) W
theorem PubAt.s {w : World} {p m k : Nat} {σ : Hs} (h : PubAt w p m k σ) {x : Int} (hx : okI x) : SPub p m x ((σ x).getD th0) (σ x).isSome w := ⟨h.blk.cellAt 0 rfl, h.held.look_ok hx, h.held.look hx⟩
end Go.Proofs.YtkidijjhedjifaaGreat
/- Lists that were told are marked, gone on with, looked at (the kit's Apart..), whatever their elements: what lies where at each point. No program in sight. -/
namespace Go.Proofs.YtkidijjhedjifaaGreat
open Go.RowKit
set_option maxRecDepth 100000
set_option linter.unusedVariables false

/-- the elements of such lists: their slices' type, their type, how many cells they have, mark i of list k -/
structure Mkr where
  st : TypeId
  e : TypeId
  sz : Nat
  el : Nat → Nat → List Value
  pos : 0 < sz
  len : ∀ k i, (el k i).length = sz
  one : ∀ k i, ∀ u ∈ el k i, u.oneCell' = true

/-- cells are written from o on -/
def putAt : List Value → Nat → List Value → List Value
  | xs, _, [] => xs
  | xs, o, v :: r => putAt (xs.set o v) (o + 1) r
theorem putAt_app : ∀ (vs a b : List Value), vs.length ≤ b.length → putAt (a ++ b) a.length vs = a ++ vs ++ b.drop vs.length
  | [], a, b, _ => by simp [putAt]
  | v :: vs, a, [], h => by simp at h
  | v :: vs, a, x :: b, h => by
    have h1 : (a ++ x :: b).set a.length v = (a ++ [v]) ++ b := by rw [List.set_append_right _ _ (Nat.le_refl _), Nat.sub_self]; simp
    have h2 := putAt_app vs (a ++ [v]) b (by simpa using h)
    rw [putAt, h1, show a.length + 1 = (a ++ [v]).length from by simp, h2]
    simp
theorem ownsRow_setCells {base : Nat} {e : TypeId} {size g n cap : Nat} : ∀ (vs : List Value) (w : World) (xs : List Value) (o : Nat), w.ownsRow base e size (.slice (some ⟨g, 0, none⟩) n cap) n xs →
    (w.setCells g o vs).ownsRow base e size (.slice (some ⟨g, 0, none⟩) n cap) n (putAt xs o vs)
  | [], w, xs, o, h => h
  | v :: vs, w, xs, o, h => by
    rw [World.setCells, putAt]
    exact ownsRow_setCells vs _ _ _ (World.ownsRow.stored h o v).1
theorem Only.sets {S : Nat → Prop} {a : World} {g : Nat} (hp : S g ∨ a.heap.size ≤ g) : ∀ (vs : List Value) (o : Nat) (b : World), Only S a b → Only S a (b.setCells g o vs)
  | [], o, b, h => h
  | v :: vs, o, b, h => by
    rw [World.setCells]
    exact Only.sets hp vs _ _ (h.set hp v)

section
variable (M : Mkr)
def Mkr.marks (k n : Nat) : List Value := (List.range n).flatMap (M.el k)
theorem Mkr.marks_len (k n : Nat) : (M.marks k n).length = n * M.sz := by
  unfold Mkr.marks
  induction n with
  | zero => simp
  | succ n ih => rw [List.range_succ, List.flatMap_append, List.length_append, ih]; simp [M.len]; rw [Nat.add_mul]; omega
theorem Mkr.marks_succ (k n : Nat) : M.marks k (n + 1) = M.marks k n ++ M.el k n := by
  unfold Mkr.marks
  rw [List.range_succ, List.flatMap_append]
  simp
theorem Mkr.marks_get (k c : Nat) (hc : c < M.sz) : ∀ n i, i < n → (M.marks k n)[i * M.sz + c]? = (M.el k i)[c]?
  | 0, i, h => by omega
  | n + 1, i, h => by
    rw [M.marks_succ]
    by_cases e : i = n
    · subst e
      rw [List.getElem?_append_right (by rw [M.marks_len]; omega), M.marks_len, show i * M.sz + c - i * M.sz = c from by omega]
    · have : i * M.sz + c < n * M.sz := by
        have := Nat.mul_le_mul_right M.sz (show i + 1 ≤ n by omega)
        rw [Nat.add_mul] at this
        omega
      rw [List.getElem?_append_left (by rw [M.marks_len]; exact this)]
      exact Mkr.marks_get k c hc n i (by omega)
theorem Mkr.marks_one (k n : Nat) : ∀ u ∈ M.marks k n, u.oneCell' = true := by
  intro u hu
  unfold Mkr.marks at hu
  obtain ⟨i, _, h⟩ := List.mem_flatMap.1 hu
  exact M.one k i u h
/-- the first i elements are marked -/
def Mkr.to (k : Nat) (cs : List Value) (i : Nat) : List Value := M.marks k i ++ cs.drop (i * M.sz)
theorem Mkr.to_zero (k : Nat) (cs : List Value) : M.to k cs 0 = cs := by simp [Mkr.to, Mkr.marks]
theorem Mkr.to_end (k n : Nat) (cs : List Value) (h : cs.length = n * M.sz) : M.to k cs n = M.marks k n := by simp [Mkr.to, ← h]
theorem Mkr.to_succ (k i n : Nat) (cs : List Value) (h : cs.length = n * M.sz) (hi : i < n) : putAt (M.to k cs i) (i * M.sz) (M.el k i) = M.to k cs (i + 1) := by
  have := Nat.mul_le_mul_right M.sz (show i + 1 ≤ n by omega)
  rw [Nat.add_mul] at this
  unfold Mkr.to
  have h1 := putAt_app (M.el k i) (M.marks k i) (cs.drop (i * M.sz)) (by rw [M.len, List.length_drop]; omega)
  rw [M.marks_len] at h1
  rw [h1, M.marks_succ, List.drop_drop, M.len, Nat.add_mul, Nat.one_mul]

/-- a slice's header -/
def Hd (v : Value) (n : Nat) : Prop := (v = .slice none 0 0 ∧ n = 0) ∨ ∃ b cap, v = .slice (some ⟨b, 0, none⟩) n cap
theorem Hd.of {w : World} {base : Nat} {e : TypeId} {size n : Nat} {v : Value} {xs : List Value} (h : w.ownsRow base e size v n xs) : Hd v n := by
  rcases h.2 with h2 | ⟨g, cap, cur, rfl, _⟩
  · exact .inl h2
  · exact .inr ⟨g, cap, rfl⟩
/-- a list that was told, and what it was gone on with: both hold marks; they may share a block -/
def obPair (v g : Value) (n m : Nat) (cv cg : List Value) : Ob where
  at' w F := w.ownsRow 0 M.e M.sz g m cg ∧ Sl w M.sz v n cv ∧ (∀ x, fpv v x → x < w.heap.size) ∧ F = fun x => fpv v x ∨ fpv g x
  keep := fun {w w' F S} h ho hd => by
    obtain ⟨h1, h2, h3, rfl⟩ := h
    exact ⟨ownsRow_keep h1 ho (fun x hx => hd x (.inr hx)), h2.only ho (fun x hx => hd x (.inl hx)), fun x hx => Nat.lt_of_lt_of_le (h3 x hx) ho.size, rfl⟩
  lt := fun {w F} h x hx => by
    obtain ⟨h1, h2, h3, rfl⟩ := h
    rcases hx with hx | hx
    · exact h3 x hx
    · exact (World.ownsRow.lt h1 x hx).2
theorem pair_append {w w2 : World} {v g g' : Value} {k n m : Nat} (hnm : n ≤ m) (hv : Sl w M.sz v n (M.marks k n)) (h0 : Hd v n) (hown : w2.ownsRow 0 M.e M.sz g' (m + 1) (M.marks k (m + 1))) (hgrow : w.grownBy w2 g.ownBlock)
    (hat : g'.ownBlock = g.ownBlock ∨ g'.ownBlock = some w.heap.size ∧ ∀ b, b < w.heap.size → w2.heap[b]? = w.heap[b]?) : Sl w2 M.sz v n (M.marks k n) := by
  by_cases hsame : g'.ownBlock = g.ownBlock ∧ v.ownBlock = g.ownBlock
  · obtain ⟨ao, cap, hvv, h1, h2, h3, h4⟩ := hv.form
    refine ⟨hv.len, hv.one, ao, cap, hvv, h1, h2, h3, fun j u hj => ?_⟩
    obtain ⟨b, off, hao, hc⟩ := h4 j u hj
    refine ⟨b, off, hao, ?_⟩
    have hjl : j < n * M.sz := by
      have := (List.getElem?_eq_some_iff.1 hj).1
      rwa [M.marks_len] at this
    have hjm : j < (m + 1) * M.sz := Nat.lt_of_lt_of_le hjl (Nat.mul_le_mul_right _ (by omega))
    obtain ⟨gg, gcap, hgf, _⟩ := World.ownsRow.form hown (by omega)
    have hb : gg = b := by
      have e1 : g'.ownBlock = v.ownBlock := hsame.1.trans hsame.2.symm
      rw [hgf, hvv, hao] at e1
      simpa [Value.ownBlock] using e1
    subst hb
    have hoff : off = 0 := by
      rcases h0 with ⟨h0, _⟩ | ⟨b2, cap2, h0⟩
      · rw [hvv, hao] at h0; simp at h0
      · rw [hvv, hao] at h0; simp at h0; exact h0.1.2
    subst hoff
    subst hgf
    have hsp : M.marks k (m + 1) = M.marks k n ++ (M.marks k (m + 1)).drop (n * M.sz) := by
      have e : ∀ d, (M.marks k (n + d)).take (n * M.sz) = M.marks k n := by
        intro d
        induction d with
        | zero => rw [Nat.add_zero, ← M.marks_len k n, List.take_length]
        | succ d ih =>
          rw [← Nat.add_assoc, M.marks_succ, List.take_append_of_le_length (by rw [M.marks_len]; exact Nat.mul_le_mul_right _ (by omega)), ih]
      have := e (m + 1 - n)
      rw [show n + (m + 1 - n) = m + 1 from by omega] at this
      conv => lhs; rw [← List.take_append_drop (n * M.sz) (M.marks k (m + 1)), this]
    rw [Nat.zero_add, World.ownsRow.cellAt hown j hjm, hsp, List.getElem?_append_left (by rw [M.marks_len]; exact hjl)]
    exact hj
  · refine hv.keep fun b hb hlt => ?_
    rcases hat with hat | ⟨_, hat⟩
    · refine hgrow.block b hlt fun e => hsame ⟨hat, hb.trans e⟩
    · exact hat b hlt
theorem pair_go {w0 w w2 : World} {obs : List Ob} (h : Env w0 w obs) (i : Nat) {v g g' : Value} {k n m : Nat} (hnm : n ≤ m) (hi : obs[i]? = some (obPair M v g n m (M.marks k n) (M.marks k m))) (h0 : Hd v n)
    (hown : w2.ownsRow 0 M.e M.sz g' (m + 1) (M.marks k (m + 1))) (hgrow : w.grownBy w2 g.ownBlock) (hat : g'.ownBlock = g.ownBlock ∨ g'.ownBlock = some w.heap.size ∧ ∀ b, b < w.heap.size → w2.heap[b]? = w.heap[b]?) :
    Env w0 w2 (obs.set i (obPair M v g' n (m + 1) (M.marks k n) (M.marks k (m + 1)))) := by
  obtain ⟨F, h1, _, _, h4⟩ := h.get i hi
  obtain ⟨h1, h2, h3, rfl⟩ := h1
  refine h4 w2 (fun x => fpv v x ∨ fpv g' x) (obPair M v g' n (m + 1) (M.marks k n) (M.marks k (m + 1))) ⟨hown, pair_append M hnm h2 h0 hown hgrow hat, fun x hx => Nat.lt_of_lt_of_le (h3 x hx) hgrow.size, rfl⟩
    ((Only.refl (fun x => fpv v x ∨ fpv g x) w).grown hgrow (fun k hk => .inl (.inr hk))) (fun x hx => ?_)
  rcases hx with hx | hx
  · exact .inl (.inl hx)
  · have hx' : g'.ownBlock = some x := hx
    rcases hat with hat | ⟨hat, _⟩
    · exact .inl (.inr (by show g.ownBlock = some x; rw [← hat]; exact hx'))
    · rw [hat] at hx'
      injection hx' with hx'
      exact .inr (by omega)

/-! ### the world: a slice of slices, its lists, the rest -/
def Tv (vs : List Value) (j : Nat) : Value := vs.getD j (.slice none 0 0)
theorem Tv_get {vs : List Value} {j : Nat} (h : j < vs.length) : vs[j]? = some (Tv vs j) := by
  unfold Tv
  rw [List.getD_eq_getElem?_getD, List.getElem?_eq_getElem h]
  rfl
def AEnv (w0 w : World) (u : Value) (vs : List Value) (T : Nat → Ob) (rest : List Ob) : Prop := Env w0 w (obE M.st 1 u vs.length vs :: ((List.range vs.length).map T ++ rest))
variable {M}
theorem AEnv.at {w0 w : World} {u : Value} {vs : List Value} {T : Nat → Ob} {rest : List Ob} (k : Nat) (hk : k < vs.length) : (obE M.st 1 u vs.length vs :: ((List.range vs.length).map T ++ rest))[k + 1]? = some (T k) := by
  rw [List.getElem?_cons_succ, List.getElem?_append_left (by simpa using hk), List.getElem?_map, List.getElem?_range hk]
  rfl
theorem AEnv.atRest {w0 w : World} {u : Value} {vs : List Value} {T : Nat → Ob} {rest : List Ob} (k : Nat) : (obE M.st 1 u vs.length vs :: ((List.range vs.length).map T ++ rest))[vs.length + 1 + k]? = rest[k]? := by
  rw [show vs.length + 1 + k = (vs.length + k) + 1 from by omega, List.getElem?_cons_succ, List.getElem?_append_right (by simp)]
  congr 1
  simp
theorem AEnv.row {w0 w : World} {u : Value} {vs : List Value} {T : Nat → Ob} {rest : List Ob} (h : AEnv M w0 w u vs T rest) : w.ownsRow 0 M.st 1 u vs.length vs := Env.row h 0 rfl
theorem AEnv.set {w0 w : World} {u : Value} {vs : List Value} {T T' : Nat → Ob} {rest : List Ob} (k : Nat) (hk : k < vs.length) {ob : Ob} (h : Env w0 w ((obE M.st 1 u vs.length vs :: ((List.range vs.length).map T ++ rest)).set (k + 1) ob)) (h1 : T' k = ob) (h2 : ∀ j, j < vs.length → j ≠ k → T' j = T j) : AEnv M w0 w u vs T' rest := by
  have e : (obE M.st 1 u vs.length vs :: ((List.range vs.length).map T ++ rest)).set (k + 1) ob = obE M.st 1 u vs.length vs :: ((List.range vs.length).map T' ++ rest) := by
    rw [List.set_cons_succ, List.set_append_left _ _ (by simpa using hk)]
    congr 2
    apply List.ext_getElem?
    intro j
    by_cases hj : j < vs.length
    · by_cases ejk : k = j
      · subst ejk
        rw [List.getElem?_set_self (by simpa using hj), List.getElem?_map, List.getElem?_range hj, ← h1]
        rfl
      · rw [List.getElem?_set_ne ejk, List.getElem?_map, List.getElem?_map, List.getElem?_range hj]
        simp only [Option.map_some]
        rw [h2 j hj (fun e => ejk e.symm)]
    · rw [List.getElem?_eq_none (by simp; omega), List.getElem?_eq_none (by simp; omega)]
  rw [e] at h
  exact h
theorem AEnv.same {w0 w : World} {u : Value} {vs : List Value} {T T' : Nat → Ob} {rest : List Ob} (h : AEnv M w0 w u vs T rest) (h2 : ∀ j, j < vs.length → T' j = T j) : AEnv M w0 w u vs T' rest := by
  have e : (List.range vs.length).map T' = (List.range vs.length).map T := List.map_congr_left fun j hj => h2 j (List.mem_range.1 hj)
  unfold AEnv
  rw [e]
  exact h
theorem AEnv.below {w0 w w' : World} {u : Value} {vs : List Value} {T : Nat → Ob} {rest : List Ob} (h : AEnv M w0 w u vs T rest) (hb : Below w.heap.size w w') : AEnv M w0 w' u vs T rest := Env.below h hb
theorem AEnv.drop {w0 w : World} {u : Value} {vs : List Value} {T : Nat → Ob} {rest : List Ob} (h : AEnv M w0 w u vs T rest) (r : List Ob) (n : Nat) (hr : ∀ (j : Nat) (ob : Ob), r[j]? = some ob → rest[j + n]? = some ob) : Env w0 w r :=
  Env.pick h (fun j => vs.length + 1 + (j + n)) (fun i j _ _ he => by simpa using he) (fun j ob hj => (AEnv.atRest (w0 := w0) (w := w) (j + n)).trans (hr j ob hj))
theorem AEnv.pushRest {w0 w w' : World} {u : Value} {vs : List Value} {T : Nat → Ob} {rest : List Ob} (h : AEnv M w0 w u vs T rest) {F' : Nat → Prop} (ob : Ob) (hat : ob.at' w' F') (hb : Below w.heap.size w w') (hn : ∀ x, F' x → w.heap.size ≤ x) : AEnv M w0 w' u vs T (rest ++ [ob]) := by
  have := Env.push h ob hat hb hn
  unfold AEnv
  simpa using this

/-- such a world is picked out of a law's world -/
theorem AEnv.of {w0 w : World} {obs : List Ob} (h : Env w0 w obs) {u : Value} {vs : List Value} {T : Nat → Ob} {rest : List Ob} (F : Nat → Nat) (hinj : ∀ i j, i < vs.length + 1 + rest.length → j < vs.length + 1 + rest.length → F i = F j → i = j)
    (h0 : obs[F 0]? = some (obE M.st 1 u vs.length vs)) (h1 : ∀ j, j < vs.length → obs[F (j + 1)]? = some (T j)) (h2 : ∀ (j : Nat) (ob : Ob), rest[j]? = some ob → obs[F (vs.length + 1 + j)]? = some ob) : AEnv M w0 w u vs T rest := by
  refine Env.pick h F (fun i j hi hj he => hinj i j (by simpa [Nat.add_assoc, Nat.add_comm, Nat.add_left_comm] using hi) (by simpa [Nat.add_assoc, Nat.add_comm, Nat.add_left_comm] using hj) he) (fun j ob hj => ?_)
  by_cases hj0 : j = 0
  · subst hj0
    rw [h0]
    simpa using hj
  · obtain ⟨j, rfl⟩ : ∃ i, j = i + 1 := ⟨j - 1, by omega⟩
    by_cases hlt : j < vs.length
    · rw [AEnv.at (w0 := w0) (w := w) j hlt] at hj
      rw [h1 j hlt]
      exact hj
    · obtain ⟨i, rfl⟩ : ∃ i, j = vs.length + i := ⟨j - vs.length, by omega⟩
      rw [show vs.length + i + 1 = vs.length + 1 + i from by omega, AEnv.atRest (w0 := w0) (w := w)] at hj
      rw [show vs.length + i + 1 = vs.length + 1 + i from by omega]
      exact h2 i ob hj
/-- .. behind a literal of some of the things: thing F j is list j -/
theorem AEnv.lit {w0 w : World} {obs : List Ob} (h : Env w0 w obs) {vs : List Value} {T : Nat → Ob} {rest : List Ob} (g : Nat) (hg : g = w.heap.size) (F : Nat → Nat) (hinj : ∀ i j, i < vs.length + rest.length → j < vs.length + rest.length → F i = F j → i = j) (hl : vs.length ≤ 900000)
    (h1 : ∀ j, j < vs.length → obs[F j]? = some (T j)) (h2 : ∀ (j : Nat) (ob : Ob), rest[j]? = some ob → obs[F (vs.length + j)]? = some ob) : AEnv M w0 (w.alloc (.cells vs.toArray M.st)) (.slice (some ⟨g, 0, none⟩) vs.length vs.length) vs T rest := by
  subst hg
  have hrow : (w.alloc (.cells vs.toArray M.st)).ownsRow 0 M.st 1 (.slice (some ⟨w.heap.size, 0, none⟩) vs.length vs.length) vs.length vs := by
    have := World.ownsRow_lit (base := 0) (e := M.st) (size := 1) w vs.toArray vs.length (Nat.zero_le _) (by unfold maxLen; omega) (by simp)
    simpa using this
  have hp := Env.pushE h hrow ((Below.refl w.heap.size w).alloc (Nat.le_refl _) _) (fun x hx => by
    have hx' : w.heap.size = x := by simpa [fpv, Value.ownBlock] using hx
    omega)
  have hF : ∀ i, i < vs.length + rest.length → F i < obs.length := by
    intro i hi
    by_cases hlt : i < vs.length
    · exact (List.getElem?_eq_some_iff.1 (h1 i hlt)).1
    · obtain ⟨j, rfl⟩ : ∃ j, i = vs.length + j := ⟨i - vs.length, by omega⟩
      have hj : j < rest.length := by omega
      exact (List.getElem?_eq_some_iff.1 (h2 j _ (List.getElem?_eq_getElem hj))).1
  refine AEnv.of hp (fun i => if i = 0 then obs.length else F (i - 1)) (fun i j hi hj he => ?_) (by simp) (fun j hj => ?_) (fun j ob hj => ?_)
  · by_cases hi0 : i = 0
    · by_cases hj0 : j = 0
      · omega
      · simp only [hi0, if_pos, if_neg hj0] at he
        have := hF (j - 1) (by omega)
        omega
    · by_cases hj0 : j = 0
      · simp only [hj0, if_pos, if_neg hi0] at he
        have := hF (i - 1) (by omega)
        omega
      · simp only [if_neg hi0, if_neg hj0] at he
        have := hinj (i - 1) (j - 1) (by omega) (by omega) he
        omega
  · rw [if_neg (by omega), Nat.add_sub_cancel, List.getElem?_append_left (hF j (by omega))]
    exact h1 j hj
  · have hlt : j < rest.length := (List.getElem?_eq_some_iff.1 hj).1
    rw [if_neg (by omega), show vs.length + 1 + j - 1 = vs.length + j from by omega, List.getElem?_append_left (hF _ (by omega))]
    exact h2 j ob hj

/-! ### phase one: lists before k are marked, list k's first i elements -/
variable (M)
def T1 (vs : List Value) (n : Nat → Nat) (c : Nat → List Value) (k i j : Nat) : Ob :=
  obE M.e M.sz (Tv vs j) (n j) (if j < k then M.marks j (n j) else if j = k then M.to j (c j) i else c j)
/-- phase two: lists before k are pairs, list k has been gone on with by i, if m -/
def T2 (vs gs : List Value) (n : Nat → Nat) (k : Nat) (g : Option (Value × Nat)) (j : Nat) : Ob :=
  if j < k then obPair M (Tv vs j) (Tv gs j) (n j) (n j + 6) (M.marks j (n j)) (M.marks j (n j + 6))
  else if j = k then match g with
    | some (g, i) => obPair M (Tv vs j) g (n j) (n j + i) (M.marks j (n j)) (M.marks j (n j + i))
    | none => obE M.e M.sz (Tv vs j) (n j) (M.marks j (n j))
  else obE M.e M.sz (Tv vs j) (n j) (M.marks j (n j))
variable {M}
theorem T1_zero (vs : List Value) (n : Nat → Nat) (c : Nat → List Value) (j : Nat) : T1 M vs n c 0 0 j = obE M.e M.sz (Tv vs j) (n j) (c j) := by
  unfold T1
  rw [if_neg (by omega)]
  by_cases e : j = 0
  · rw [if_pos e, M.to_zero]
  · rw [if_neg e]
theorem T1_next (vs : List Value) (n : Nat → Nat) (c : Nat → List Value) (k j : Nat) (hc : (c k).length = n k * M.sz) : T1 M vs n c (k + 1) 0 j = T1 M vs n c k (n k) j := by
  unfold T1
  by_cases h1 : j < k
  · rw [if_pos h1, if_pos (by omega)]
  · by_cases h2 : j = k
    · subst h2
      rw [if_neg h1, if_pos (by omega), if_pos rfl, M.to_end _ _ _ hc]
    · rw [if_neg h1, if_neg (by omega), if_neg h2]
      by_cases h3 : j = k + 1
      · subst h3; rw [if_pos rfl, M.to_zero]
      · rw [if_neg h3]
theorem T1_self (vs : List Value) (n : Nat → Nat) (c : Nat → List Value) (k i : Nat) : T1 M vs n c k i k = obE M.e M.sz (Tv vs k) (n k) (M.to k (c k) i) := by
  unfold T1
  rw [if_neg (Nat.lt_irrefl _), if_pos rfl]
theorem T1_other (vs : List Value) (n : Nat → Nat) (c : Nat → List Value) (k i i' j : Nat) (h : j ≠ k) : T1 M vs n c k i j = T1 M vs n c k i' j := by
  unfold T1
  rw [if_neg h, if_neg h]
theorem T1_T2 (vs : List Value) (n : Nat → Nat) (c : Nat → List Value) (j : Nat) (h : j < vs.length) : T2 M vs [] n 0 none j = T1 M vs n c vs.length 0 j := by
  unfold T1 T2
  rw [if_neg (by omega), if_pos h]
  by_cases e : j = 0
  · rw [if_pos e]
  · rw [if_neg e]
theorem T2_self (vs gs : List Value) (n : Nat → Nat) (k : Nat) : T2 M vs gs n k none k = obE M.e M.sz (Tv vs k) (n k) (M.marks k (n k)) := by
  unfold T2
  rw [if_neg (Nat.lt_irrefl _), if_pos rfl]
theorem T2_some (vs gs : List Value) (n : Nat → Nat) (k : Nat) (g : Value) (i : Nat) : T2 M vs gs n k (some (g, i)) k = obPair M (Tv vs k) g (n k) (n k + i) (M.marks k (n k)) (M.marks k (n k + i)) := by
  unfold T2
  rw [if_neg (Nat.lt_irrefl _), if_pos rfl]
theorem T2_other (vs gs : List Value) (n : Nat → Nat) (k j : Nat) (g g' : Option (Value × Nat)) (h : j ≠ k) : T2 M vs gs n k g j = T2 M vs gs n k g' j := by
  unfold T2
  rw [if_neg h, if_neg h]
theorem T2_next (vs gs : List Value) (n : Nat → Nat) (k j : Nat) (g : Value) (hg : gs.length = k) : T2 M vs (gs ++ [g]) n (k + 1) none j = T2 M vs gs n k (some (g, 6)) j := by
  unfold T2
  by_cases h1 : j < k
  · have e : Tv (gs ++ [g]) j = Tv gs j := by unfold Tv; rw [List.getD_eq_getElem?_getD, List.getD_eq_getElem?_getD, List.getElem?_append_left (by omega)]
    rw [if_pos h1, if_pos (by omega), e]
  · by_cases h2 : j = k
    · subst h2
      have e : Tv (gs ++ [g]) j = g := by unfold Tv; rw [List.getD_eq_getElem?_getD, List.getElem?_append_right (by omega), hg, Nat.sub_self]; rfl
      rw [if_neg h1, if_pos (by omega), if_pos rfl, e]
    · rw [if_neg h1, if_neg (by omega), if_neg h2]
      by_cases h3 : j = k + 1
      · rw [if_pos h3]
      · rw [if_neg h3]
theorem T2_end (vs gs : List Value) (n : Nat → Nat) (k j : Nat) (g : Option (Value × Nat)) (h : j < k) : T2 M vs gs n k g j = obPair M (Tv vs j) (Tv gs j) (n j) (n j + 6) (M.marks j (n j)) (M.marks j (n j + 6)) := by
  unfold T2
  rw [if_pos h]

/-! ### the steps -/
/-- mark i of list k is written -/
theorem AEnv.mark {w0 w : World} {u : Value} {vs : List Value} {n : Nat → Nat} {c : Nat → List Value} {rest : List Ob} {k i g cap N : Nat} (h : AEnv M w0 w u vs (T1 M vs n c k i) rest) (hk : k < vs.length) (hc : (c k).length = n k * M.sz) (hi : i < n k)
    (hv : Tv vs k = .slice (some ⟨g, 0, none⟩) N cap) (m : Nat) : AEnv M w0 ((w.drewN m).setCells g (i * M.sz) (M.el k i)) u vs (T1 M vs n c k (i + 1)) rest := by
  have h0 := Env.row h (k + 1) (by rw [AEnv.at (w0 := w0) (w := w) k hk, T1_self])
  have hN : N = n k := by
    rcases h0.2 with ⟨h1, _⟩ | ⟨g', cap', cur, h1, _⟩
    · rw [hv] at h1; simp at h1
    · rw [hv] at h1; simp at h1; exact h1.2.1
  subst hN
  have h1 : (w.drewN m).ownsRow 0 M.e M.sz (.slice (some ⟨g, 0, none⟩) (n k) cap) (n k) (M.to k (c k) i) := by
    rw [hv] at h0
    exact ownsRow_keep h0 ((Only.refl (fun _ => False) w).draw m) (fun _ _ h => h)
  have h2 := ownsRow_setCells (M.el k i) _ _ (i * M.sz) h1
  rw [M.to_succ k i (n k) (c k) hc hi] at h2
  refine AEnv.set k hk (Env.turnE h (k + 1) (by rw [AEnv.at (w0 := w0) (w := w) k hk, T1_self]) (by rw [hv]; exact h2) ?_) (by rw [T1_self]) (fun j hj hjk => T1_other _ _ _ _ _ _ _ hjk)
  rw [hv]
  exact Only.sets (S := fpv (.slice (some ⟨g, 0, none⟩) (n k) cap)) (.inl rfl) _ _ _ ((Only.refl _ w).draw m)
theorem AEnv.mark0 {w0 w : World} {u : Value} {vs : List Value} {n : Nat → Nat} {c : Nat → List Value} {rest : List Ob} {k i g cap N : Nat} (h : AEnv M w0 w u vs (T1 M vs n c k i) rest) (hk : k < vs.length) (hc : (c k).length = n k * M.sz) (hi : i < n k)
    (hv : Tv vs k = .slice (some ⟨g, 0, none⟩) N cap) : AEnv M w0 (w.setCells g (i * M.sz) (M.el k i)) u vs (T1 M vs n c k (i + 1)) rest := by
  have := AEnv.mark h hk hc hi hv 0
  rwa [World.drewN_zero] at this
theorem AEnv.next {w0 w : World} {u : Value} {vs : List Value} {n : Nat → Nat} {c : Nat → List Value} {rest : List Ob} {k : Nat} (h : AEnv M w0 w u vs (T1 M vs n c k (n k)) rest) (hc : (c k).length = n k * M.sz) : AEnv M w0 w u vs (T1 M vs n c (k + 1) 0) rest :=
  h.same fun j _ => T1_next vs n c k j hc
/-- phase two's world: the row of what the lists were gone on with stands behind the rest -/
def PEnv (M : Mkr) (w0 w : World) (u : Value) (vs : List Value) (n : Nat → Nat) (rest : List Ob) (k : Nat) (g : Option (Value × Nat)) (gsv : Value) (gs : List Value) : Prop :=
  AEnv M w0 w u vs (T2 M vs gs n k g) (rest ++ [obE M.st 1 gsv gs.length gs])
theorem PEnv.start {w0 w : World} {u : Value} {vs : List Value} {n : Nat → Nat} {c : Nat → List Value} {rest : List Ob} (h : AEnv M w0 w u vs (T1 M vs n c vs.length 0) rest) : PEnv M w0 w u vs n rest 0 none (.slice none 0 0) [] :=
  (h.same fun j hj => T1_T2 vs n c j hj).pushRest (F' := fpv (.slice none 0 0)) (obE M.st 1 (.slice none 0 0) 0 []) ⟨World.ownsRow_nil w 0 _ 1, rfl⟩ (Below.refl _ _) (fun x hx => by simp [fpv, Value.ownBlock] at hx)
theorem PEnv.row {w0 w : World} {u : Value} {vs : List Value} {n : Nat → Nat} {rest : List Ob} {k : Nat} {g : Option (Value × Nat)} {gsv : Value} {gs : List Value} (h : PEnv M w0 w u vs n rest k g gsv gs) : w.ownsRow 0 M.st 1 u vs.length vs := AEnv.row h
theorem PEnv.gs {w0 w : World} {u : Value} {vs : List Value} {n : Nat → Nat} {rest : List Ob} {k : Nat} {g : Option (Value × Nat)} {gsv : Value} {gs : List Value} (h : PEnv M w0 w u vs n rest k g gsv gs) : w.ownsRow 0 M.st 1 gsv gs.length gs :=
  Env.row h (vs.length + 1 + rest.length) (by rw [AEnv.atRest (w0 := w0) (w := w), List.getElem?_append_right (Nat.le_refl _), Nat.sub_self]; rfl)
theorem PEnv.below {w0 w w' : World} {u : Value} {vs : List Value} {n : Nat → Nat} {rest : List Ob} {k : Nat} {g : Option (Value × Nat)} {gsv : Value} {gs : List Value} (h : PEnv M w0 w u vs n rest k g gsv gs) (hb : Below w.heap.size w w') : PEnv M w0 w' u vs n rest k g gsv gs := AEnv.below h hb
/-- list k is taken -/
theorem PEnv.take {w0 w : World} {u : Value} {vs : List Value} {n : Nat → Nat} {rest : List Ob} {k : Nat} {gsv : Value} {gs : List Value} (h : PEnv M w0 w u vs n rest k none gsv gs) (hk : k < vs.length) : PEnv M w0 w u vs n rest k (some (Tv vs k, 0)) gsv gs := by
  have hi : (obE M.st 1 u vs.length vs :: ((List.range vs.length).map (T2 M vs gs n k none) ++ (rest ++ [obE M.st 1 gsv gs.length gs])))[k + 1]? = some (obE M.e M.sz (Tv vs k) (n k) (M.marks k (n k))) := by
    rw [AEnv.at (w0 := w0) (w := w) k hk, T2_self]
  obtain ⟨F, h1, _, _, h4⟩ := Env.get h (k + 1) hi
  obtain ⟨h1, rfl⟩ := h1
  refine AEnv.set k hk (h4 w (fun x => fpv (Tv vs k) x ∨ fpv (Tv vs k) x) (obPair M (Tv vs k) (Tv vs k) (n k) (n k) (M.marks k (n k)) (M.marks k (n k))) ⟨h1, Sl.of_own h1 (M.marks_one _ _), fun x hx => (World.ownsRow.lt h1 x hx).2, rfl⟩ (Only.refl _ _) (fun x hx => .inl (by rcases hx with hx | hx <;> exact hx))) ?_ (fun j hj hjk => T2_other _ _ _ _ _ _ _ hjk)
  rw [T2_some]
  rfl
theorem PEnv.hd {w0 w : World} {u : Value} {vs : List Value} {n : Nat → Nat} {rest : List Ob} {k : Nat} {gsv : Value} {gs : List Value} (h : PEnv M w0 w u vs n rest k none gsv gs) (hk : k < vs.length) : Hd (Tv vs k) (n k) :=
  Hd.of (Env.row h (k + 1) (by rw [AEnv.at (w0 := w0) (w := w) k hk, T2_self]))
/-- the row that is gone on with -/
theorem PEnv.gone {w0 w : World} {u : Value} {vs : List Value} {n : Nat → Nat} {rest : List Ob} {k : Nat} {gsv : Value} {gs : List Value} {g : Value} {i : Nat} (h : PEnv M w0 w u vs n rest k (some (g, i)) gsv gs) (hk : k < vs.length) : w.ownsRow 0 M.e M.sz g (n k + i) (M.marks k (n k + i)) := by
  obtain ⟨F, h1, _⟩ := Env.get h (k + 1) (by rw [AEnv.at (w0 := w0) (w := w) k hk, T2_some])
  exact h1.1
theorem PEnv.more {w0 w w2 : World} {u : Value} {vs : List Value} {n : Nat → Nat} {rest : List Ob} {k : Nat} {gsv : Value} {gs : List Value} {g g' : Value} {i : Nat} (h : PEnv M w0 w u vs n rest k (some (g, i)) gsv gs) (hk : k < vs.length) (h0 : Hd (Tv vs k) (n k))
    (hown : w2.ownsRow 0 M.e M.sz g' (n k + i + 1) (M.marks k (n k + i) ++ M.el k (n k + i))) (hgrow : w.grownBy w2 g.ownBlock) (hat : g'.ownBlock = g.ownBlock ∨ g'.ownBlock = some w.heap.size ∧ ∀ b, b < w.heap.size → w2.heap[b]? = w.heap[b]?) :
    PEnv M w0 w2 u vs n rest k (some (g', i + 1)) gsv gs := by
  rw [← M.marks_succ] at hown
  refine AEnv.set k hk (pair_go M h (k + 1) (by omega) (by rw [AEnv.at (w0 := w0) (w := w) k hk, T2_some]) h0 hown hgrow hat) ?_ (fun j hj hjk => T2_other _ _ _ _ _ _ _ hjk)
  rw [T2_some]
  rfl
/-- it is put behind the others -/
theorem PEnv.kept {w0 w w2 : World} {u : Value} {vs : List Value} {n : Nat → Nat} {rest : List Ob} {k : Nat} {gsv gsv' : Value} {gs : List Value} {g : Value} (h : PEnv M w0 w u vs n rest k (some (g, 6)) gsv gs) (hgs : gs.length = k)
    (hown : w2.ownsRow 0 M.st 1 gsv' (gs.length + 1) (gs ++ [g])) (hgrow : w.grownBy w2 gsv.ownBlock) (hat : gsv'.ownBlock = gsv.ownBlock ∨ gsv'.ownBlock = some w.heap.size) : PEnv M w0 w2 u vs n rest (k + 1) none gsv' (gs ++ [g]) := by
  have hi : (obE M.st 1 u vs.length vs :: ((List.range vs.length).map (T2 M vs gs n k (some (g, 6))) ++ (rest ++ [obE M.st 1 gsv gs.length gs])))[vs.length + 1 + rest.length]? = some (obE M.st 1 gsv gs.length gs) := by
    rw [AEnv.atRest (w0 := w0) (w := w), List.getElem?_append_right (Nat.le_refl _), Nat.sub_self]; rfl
  obtain ⟨F, h1, _, _, h4⟩ := Env.get h _ hi
  obtain ⟨h1, rfl⟩ := h1
  have h5 := h4 w2 (fpv gsv') (obE M.st 1 gsv' (gs.length + 1) (gs ++ [g])) ⟨hown, rfl⟩ ((Only.refl (fpv gsv) w).grown hgrow (fun k hk => .inl hk)) (fun x hx => by
    have hx' : gsv'.ownBlock = some x := hx
    rcases hat with hat | hat
    · exact .inl (by show gsv.ownBlock = some x; rw [← hat]; exact hx')
    · rw [hat] at hx'
      injection hx' with hx'
      exact .inr (by omega))
  have e : (obE M.st 1 u vs.length vs :: ((List.range vs.length).map (T2 M vs gs n k (some (g, 6))) ++ (rest ++ [obE M.st 1 gsv gs.length gs]))).set (vs.length + 1 + rest.length) (obE M.st 1 gsv' (gs.length + 1) (gs ++ [g]))
      = obE M.st 1 u vs.length vs :: ((List.range vs.length).map (T2 M vs gs n k (some (g, 6))) ++ (rest ++ [obE M.st 1 gsv' (gs.length + 1) (gs ++ [g])])) := by
    rw [show vs.length + 1 + rest.length = (vs.length + rest.length) + 1 from by omega, List.set_cons_succ, List.set_append_right _ _ (by simp), List.set_append_right _ _ (by simp)]
    simp
  rw [e] at h5
  unfold PEnv
  rw [List.length_append]
  exact AEnv.same h5 fun j hj => T2_next vs gs n k j g hgs
/-- what is read in the end: list k, and what it was gone on with -/
theorem PEnv.rows {w0 w : World} {u : Value} {vs : List Value} {n : Nat → Nat} {rest : List Ob} {gsv : Value} {gs : List Value} (h : PEnv M w0 w u vs n rest vs.length none gsv gs) (k : Nat) (hk : k < vs.length) :
    w.ownsRow 0 M.e M.sz (Tv gs k) (n k + 6) (M.marks k (n k + 6)) ∧ Sl w M.sz (Tv vs k) (n k) (M.marks k (n k)) := by
  obtain ⟨F, h1, _⟩ := Env.get h (k + 1) (by rw [AEnv.at (w0 := w0) (w := w) k hk, T2_end _ _ _ _ _ _ hk])
  exact ⟨h1.1, h1.2.1⟩
theorem PEnv.drop {w0 w : World} {u : Value} {vs : List Value} {n : Nat → Nat} {rest : List Ob} {k : Nat} {g : Option (Value × Nat)} {gsv : Value} {gs : List Value} (h : PEnv M w0 w u vs n rest k g gsv gs) : Env w0 w rest :=
  AEnv.drop h rest 0 fun j ob hj => by rw [Nat.add_zero, List.getElem?_append_left (List.getElem?_eq_some_iff.1 hj).1]; exact hj
end
end Go.Proofs.YtkidijjhedjifaaGreat
/- Append onto a row of one's own: if the row moves, the old one stays as it was. -/
namespace Go.Proofs.YtkidijjhedjifaaGreat
open Go.RowKit
section
variable {P : Program} (w : World)
theorem run_append_keep (t ty e : TypeId) (i : TypeInfo) (z : Value) (size bytes : Nat) (ht : P.underlying t = some (.slice e)) (hi : P.info? e = some i) (hz : i.zero = some z)
    (hsize : i.size = size) (hby : i.bytes = bytes) (hzs : z.cells.size = size) (hsz : 0 < size)
    (v : Value) (n : Nat) (xs : List Value) (hown : w.ownsRow 0 e size v n xs) (a : Addr) (m c : Nat) (news : List Value) (hl : news.length = m * size) (hnews : ∀ j u, news[j]? = some u → w.cell? (a.add j) = some u) (h1 : ∀ u ∈ news, u.oneCell' = true)
    (h63 : n + m ≤ maxLen) (hbytes : (n + m) * bytes ≤ 140737488355328) (hm : 0 < m) :
    ∃ v' w', (Builtin.append_ #[t, t] ty #[v, .slice (some a) m c]).run P w = .ok v' w' ∧ w'.ownsRow 0 e size v' (n + m) (xs ++ news) ∧ w.grownBy w' v.ownBlock ∧
      (v'.ownBlock = v.ownBlock ∨ v'.ownBlock = some w.heap.size ∧ ∀ b, b < w.heap.size → w'.heap[b]? = w.heap[b]?) ∧ v' ≠ .slice none 0 0 := by
  obtain ⟨v', w', hr, g1, g2, g3, g4⟩ := run_append_own_at (P := P) w 0 t ty e i z size bytes ht hi hz hsize hby hzs hsz v n xs hown a m c news hl hnews h1 h63 hbytes (Nat.zero_le _)
  refine ⟨v', w', hr, g1, g2, ?_, fun hv => by have := (g3.1 hv).2; omega⟩
  subst hsize; subst hby
  have hsmall : n + m ≤ 9223372036854775807 := by simp only [maxLen] at h63; omega
  have hown' := hown
  rcases hown.2 with ⟨rfl, rfl⟩ | ⟨g, cap, cur, rfl, hbg, hg, hnc, hcm, hcs, htake⟩
  · have hx : xs = [] := List.eq_nil_of_length_eq_zero (by simpa using hown.1)
    subst hx
    rcases g4 with g4 | g4
    · exact .inl g4
    · refine .inr ⟨g4, fun b hb => g2.block b hb (by simp [Value.ownBlock])⟩
  · by_cases hroom : n + m ≤ cap
    · have hr2 := run_append_room (P := P) w t ty e i ht hi g n cap cur hg a m c news hl hnews h1 hroom (by rw [hl, hcs, ← Nat.add_mul]; exact Nat.mul_le_mul_right _ hroom)
      rw [hr] at hr2
      injection hr2 with e1 e2
      subst e1
      exact .inl rfl
    · have hr2 := run_append_grow (P := P) w t ty e i z ht hi hz ⟨g, 0, none⟩ n cap xs hown.1 (hown'.cells (g := g) rfl) a m c news hl hnews (by omega) (by omega) (growslice_fits (by omega) hbytes)
      rw [hr] at hr2
      injection hr2 with e1 e2
      subst e1; subst e2
      exact .inr ⟨rfl, fun b hb => by show (w.drew.heap.push _)[b]? = w.drew.heap[b]?; rw [Array.getElem?_push, if_neg (Nat.ne_of_lt (show b < w.drew.heap.size from hb))]⟩
theorem wp_append_keep {o : Oper} {a : Act} {K : Act → World → Prop} {Q : Exit → Act → World → Prop} (s x : Operand) (t : TypeId)
    (ho : o.op = .call { callee := .builtin .append, args := #[s, x], argTypes := #[t, t] })
    (e : TypeId) (i : TypeInfo) (z : Value) (size bytes : Nat) (ht : P.underlying t = some (.slice e)) (hi : P.info? e = some i) (hz : i.zero = some z)
    (hsize : i.size = size) (hby : i.bytes = bytes) (hzs : z.cells.size = size) (hsz : 0 < size)
    (v : Value) (n : Nat) (xs : List Value) (hs : a.eval s = v) (hown : w.ownsRow 0 e size v n xs) (ad : Addr) (m c : Nat) (news : List Value) (hx : a.eval x = .slice (some ad) m c)
    (hl : news.length = m * size) (hnews : ∀ j u, news[j]? = some u → w.cell? (ad.add j) = some u) (h1 : ∀ u ∈ news, u.oneCell' = true)
    (h63 : n + m ≤ maxLen) (hbytes : (n + m) * bytes ≤ 140737488355328) (hm : 0 < m)
    (h : ∀ v' w', w'.ownsRow 0 e size v' (n + m) (xs ++ news) → w.grownBy w' v.ownBlock → (v'.ownBlock = v.ownBlock ∨ v'.ownBlock = some w.heap.size ∧ ∀ b, b < w.heap.size → w'.heap[b]? = w.heap[b]?) → v' ≠ .slice none 0 0 → K (a.put o.dst v') w') : o.wp P a w K Q := by
  obtain ⟨v', w', hr, g1, g2, g3, g4⟩ := run_append_keep (P := P) w t o.type e i z size bytes ht hi hz hsize hby hzs hsz v n xs hown ad m c news hl hnews h1 h63 hbytes hm
  unfold Oper.wp execOp
  simp only [ho, resolve, invoke, builtin, Sem.run_bind, Sem.run_pure, Result.andThen_ok, List.map_toArray, List.map_cons, List.map_nil, hs, hx, hr]
  exact h v' w' g1 g2 g3 g4
theorem wpList_append_keep {ops : Array Oper} {rest : List Oper} {o : Oper} {a : Act} {Q : Exit → Act → World → Prop} (hgd : o.guard = none) (s x : Operand) (t : TypeId)
    (ho : o.op = .call { callee := .builtin .append, args := #[s, x], argTypes := #[t, t] })
    (e : TypeId) (i : TypeInfo) (z : Value) (size bytes : Nat) (ht : P.underlying t = some (.slice e)) (hi : P.info? e = some i) (hz : i.zero = some z)
    (hsize : i.size = size) (hby : i.bytes = bytes) (hzs : z.cells.size = size) (hsz : 0 < size)
    (v : Value) (n : Nat) (xs : List Value) (hs : a.eval s = v) (hown : w.ownsRow 0 e size v n xs) (ad : Addr) (m c : Nat) (news : List Value) (hx : a.eval x = .slice (some ad) m c)
    (hl : news.length = m * size) (hnews : ∀ j u, news[j]? = some u → w.cell? (ad.add j) = some u) (h1 : ∀ u ∈ news, u.oneCell' = true)
    (h63 : n + m ≤ maxLen) (hbytes : (n + m) * bytes ≤ 140737488355328) (hm : 0 < m)
    (h : ∀ v' w', w'.ownsRow 0 e size v' (n + m) (xs ++ news) → w.grownBy w' v.ownBlock → (v'.ownBlock = v.ownBlock ∨ v'.ownBlock = some w.heap.size ∧ ∀ b, b < w.heap.size → w'.heap[b]? = w.heap[b]?) → v' ≠ .slice none 0 0 → wpList P ops Q rest (a.put o.dst v') w') : wpList P ops Q (o :: rest) a w :=
  wpList_plain hgd fun _ hK => wp_append_keep w s x t ho e i z size bytes ht hi hz hsize hby hzs hsz v n xs hs hown ad m c news hx hl hnews h1 h63 hbytes hm fun v' w' g1 g2 g3 g4 => hK _ _ (h v' w' g1 g2 g3 g4)
end
end Go.Proofs.YtkidijjhedjifaaGreat
/- Lists of elements of any kind: their cells, rows of one's own, what is told in new memory. No program in sight. -/
namespace Go.Proofs.YtkidijjhedjifaaGreat
open Go.RowKit
set_option maxRecDepth 100000
set_option linter.unusedVariables false

/-- a kind of elements: their type, how many cells each has, which -/
structure Knd (α : Type) where
  e : TypeId
  sz : Nat
  cv : α → List Value
  pos : 0 < sz
  len : ∀ x, (cv x).length = sz
  one : ∀ x, ∀ u ∈ cv x, u.oneCell' = true

section
variable {α : Type} (K : Knd α)
def Knd.fl (l : List α) : List Value := l.flatMap K.cv
theorem Knd.fl_app (a b : List α) : K.fl (a ++ b) = K.fl a ++ K.fl b := by simp [Knd.fl]
theorem Knd.fl_one (x : α) : K.fl [x] = K.cv x := by simp [Knd.fl]
theorem Knd.fl_len (l : List α) : (K.fl l).length = l.length * K.sz := by
  induction l with
  | nil => simp [Knd.fl]
  | cons x l ih =>
    have : K.fl (x :: l) = K.cv x ++ K.fl l := by simp [Knd.fl]
    rw [this, List.length_append, ih, K.len, List.length_cons, Nat.add_mul]
    omega
theorem Knd.fl_cells (l : List α) : ∀ u ∈ K.fl l, u.oneCell' = true := by
  intro u hu
  obtain ⟨x, _, hx⟩ := List.mem_flatMap.1 hu
  exact K.one x u hx
theorem Knd.fl_get : ∀ (l : List α) (i c : Nat) (x : α), l[i]? = some x → c < K.sz → (K.fl l)[i * K.sz + c]? = (K.cv x)[c]?
  | [], i, c, x, h, _ => by simp at h
  | y :: l, i, c, x, h, hc => by
    have e : K.fl (y :: l) = K.cv y ++ K.fl l := by simp [Knd.fl]
    rw [e]
    cases i with
    | zero =>
      simp at h
      subst h
      rw [List.getElem?_append_left (by rw [K.len]; omega)]
      simp
    | succ i =>
      have h2 := Knd.fl_get l i c x (by simpa using h) hc
      rw [List.getElem?_append_right (by rw [K.len, Nat.add_mul]; omega), K.len, show (i + 1) * K.sz + c - K.sz = i * K.sz + c from by rw [Nat.add_mul]; omega]
      exact h2
/-- a slice value that owns the elements l, at a row of its own -/
def Knd.O (w : World) (v : Value) (l : List α) : Prop := w.ownsRow 0 K.e K.sz v l.length (K.fl l)
/-- a slice value that reads as l -/
def Knd.R (w : World) (v : Value) (l : List α) : Prop := Sl w K.sz v l.length (K.fl l)
def Knd.ob (v : Value) (l : List α) : Ob := obE K.e K.sz v l.length (K.fl l)
variable {K}
theorem Knd.O.rd {w : World} {v : Value} {l : List α} (h : K.O w v l) : K.R w v l := Sl.of_own h (K.fl_cells l)
theorem Knd.O.keep {w w' : World} {v : Value} {l : List α} (h : K.O w v l) {S : Nat → Prop} (ho : Only S w w') (hd : ∀ x, fpv v x → ¬ S x) : K.O w' v l := ownsRow_keep h ho hd
theorem Knd.O.lt {w : World} {v : Value} {l : List α} (h : K.O w v l) : ∀ x, fpv v x → x < w.heap.size := fun x hx => (World.ownsRow.lt h x hx).2
theorem Knd.O.nil (w : World) : K.O w (.slice none 0 0) [] := World.ownsRow_nil w 0 _ _
theorem Knd.R.nil (w : World) : K.R w (.slice none 0 0) [] := Sl.nil w _
theorem Knd.O.any {w : World} {v : Value} {l : List α} (h : K.O w v l) : ∃ ao cap, v = .slice ao l.length cap := by
  rcases h.2 with ⟨hv, h0⟩ | ⟨g, cap, cur, hv, _⟩
  · exact ⟨none, 0, by rw [h0]; exact hv⟩
  · exact ⟨some ⟨g, 0, none⟩, cap, hv⟩
theorem Knd.O.form {w : World} {v : Value} {l : List α} (h : K.O w v l) (h0 : 0 < l.length) : ∃ g cap, v = .slice (some ⟨g, 0, none⟩) l.length cap := by
  obtain ⟨g, cap, hv, _⟩ := World.ownsRow.form h h0
  exact ⟨g, cap, hv⟩
theorem Knd.R.any {w : World} {v : Value} {l : List α} (h : K.R w v l) : ∃ ao cap, v = .slice ao l.length cap ∧ l.length ≤ cap ∧ cap ≤ 9223372036854775807 ∧ (ao = none → cap = 0) := by
  obtain ⟨ao, cap, hv, h1, h2, h3, _⟩ := h.form
  exact ⟨ao, cap, hv, h1, h2, h3⟩
theorem Knd.R.grow {w w' : World} {v : Value} {l : List α} (h : K.R w v l) (hb : Below w.heap.size w w') : K.R w' v l := Sl.grow h hb
/-- element i, cell by cell -/
theorem Knd.R.get {w : World} {ao : Option Addr} {n cap : Nat} {l : List α} (h : K.R w (.slice ao n cap) l) {i : Nat} {x : α} (hx : l[i]? = some x) : ∃ b off, ao = some ⟨b, off, none⟩ ∧ b < w.heap.size ∧ ∀ c v, (K.cv x)[c]? = some v → w.cell? ⟨b, off + (i * K.sz + c), none⟩ = some v := by
  obtain ⟨ao', cap', hv, _, _, _, h4⟩ := h.form
  injection hv with e1 _ _
  subst e1
  have hc0 : 0 < (K.cv x).length := by rw [K.len]; exact K.pos
  obtain ⟨b, off, hb, hcell⟩ := h4 (i * K.sz + 0) _ ((K.fl_get l i 0 x hx K.pos).trans (List.getElem?_eq_getElem hc0))
  refine ⟨b, off, hb, World.block_lt_of_cell? w _ hcell, fun c v hv => ?_⟩
  have hc : c < K.sz := by
    have := (List.getElem?_eq_some_iff.1 hv).1
    rwa [K.len] at this
  obtain ⟨b2, off2, hb2, hcell2⟩ := h4 (i * K.sz + c) v ((K.fl_get l i c x hx hc).trans hv)
  rw [hb] at hb2
  injection hb2 with e
  injection e with e1 e2
  subst e1; subst e2
  exact hcell2
theorem Knd.O.get {w : World} {g n cap : Nat} {l : List α} (h : K.O w (.slice (some ⟨g, 0, none⟩) n cap) l) {i : Nat} {x : α} (hx : l[i]? = some x) : ∀ c v, (K.cv x)[c]? = some v → w.cell? ⟨g, i * K.sz + c, none⟩ = some v := by
  intro c v hv
  obtain ⟨b, off, hb, _, hc⟩ := Knd.R.get h.rd hx
  injection hb with e
  injection e with e1 e2
  subst e1; subst e2
  have := hc c v hv
  rwa [Nat.zero_add] at this
/-- told in new memory -/
def Knd.New (K : Knd α) (l : List α) (w : World) (e : Ending) (w' : World) : Prop :=
  ∃ v, e = .returned v ∧ K.O w' v l ∧ Below w.heap.size w w' ∧ ∀ x, fpv v x → w.heap.size ≤ x
/-- a row that is made in a loop -/
def Knd.Mk (K : Knd α) (l : List α) (w : World) (v : Value) (w1 : World) : Prop := K.O w1 v l ∧ Below w.heap.size w w1 ∧ ∀ x, fpv v x → w.heap.size ≤ x
theorem Knd.Mk.nil (K : Knd α) (w : World) : K.Mk [] w (.slice none 0 0) w := ⟨Knd.O.nil w, Below.refl _ _, fun x hx => by simp [fpv, Value.ownBlock] at hx⟩
theorem Knd.Mk.draw {K : Knd α} {l : List α} {w w1 : World} {v : Value} (h : K.Mk l w v w1) (n : Nat) : K.Mk l w v (w1.drewN n) :=
  ⟨h.1.keep ((Only.refl (fun _ => False) w1).draw n) (fun _ _ h => h), ⟨h.2.1.os, h.2.1.tape, h.2.1.output, h.2.1.size, h.2.1.block⟩, h.2.2⟩
theorem Knd.Mk.below {K : Knd α} {l : List α} {w w1 w2 : World} {v : Value} (h : K.Mk l w v w1) (hb : Below w1.heap.size w1 w2) : K.Mk l w v w2 :=
  ⟨h.1.keep (Only.nothing hb) (fun _ _ h => h), h.2.1.trans (hb.mono h.2.1.size), h.2.2⟩
/-- one more element, behind its literal and an append -/
theorem Knd.Mk.more {K : Knd α} {l : List α} {w w1 w2 : World} {v v' : Value} {x : α} (h : K.Mk l w v w1) {o : Obj} {N : Nat} (hN : N = l.length) {cs : List Value} (hcs : cs = K.fl l ++ K.cv x) (hown : w2.ownsRow 0 K.e K.sz v' (N + 1) cs) (hgrow : (w1.alloc o).grownBy w2 v.ownBlock)
    (hat : v'.ownBlock = v.ownBlock ∨ v'.ownBlock = some (w1.heap.size + 1)) : K.Mk (l ++ [x]) w v' w2 := by
  subst hN; subst hcs
  obtain ⟨q1, q2, q3⟩ := h
  refine ⟨?_, (q2.alloc q2.size _).grown hgrow (by simp; have := q2.size; omega) (fun x hx => q3 x hx), fun y hy => ?_⟩
  · unfold Knd.O
    rw [K.fl_app, K.fl_one, List.length_append]
    exact hown
  · have hy' : v'.ownBlock = some y := hy
    rcases hat with hat | hat
    · exact q3 y (by show v.ownBlock = some y; rw [← hat]; exact hy')
    · rw [hat] at hy'
      injection hy' with hy'
      have := q2.size
      omega
theorem Knd.Mk.alloc {K : Knd α} {l : List α} {w w1 : World} {v : Value} (h : K.Mk l w v w1) (o : Obj) {N : Nat} (hN : N = l.length) : (w1.alloc o).ownsRow 0 K.e K.sz v N (K.fl l) := by
  subst hN
  exact h.1.keep ((Only.refl (fun _ => False) w1).alloc o) (fun _ _ h => h)
theorem Knd.Mk.new {K : Knd α} {l : List α} {w w1 : World} {v : Value} (h : K.Mk l w v w1) : K.New l w (.returned v) w1 := ⟨v, rfl, h⟩
/-! ### the same? -/
def sameTo' (eq : α → α → Bool) (xs ys : List α) : Nat → Nat → Bool
  | 0, _ => true
  | n + 1, k => match xs[k]?, ys[k]? with
    | some x, some y => if eq x y then sameTo' eq xs ys n (k + 1) else false
    | _, _ => true
def sameL (eq : α → α → Bool) (xs ys : List α) : Bool := if xs.length = ys.length then sameTo' eq xs ys xs.length 0 else false
theorem sameTo_step {eq : α → α → Bool} {xs ys : List α} {n k : Nat} {x y : α} {b : Bool} (hx : xs[k]? = some x) (hy : ys[k]? = some y) (h : sameTo' eq xs ys (n + 1) k = b) : (if eq x y then sameTo' eq xs ys n (k + 1) else false) = b := by
  rw [sameTo', hx, hy] at h
  exact h
theorem sameTo_refl (eq : α → α → Bool) (h : ∀ x, eq x x = true) (xs : List α) : ∀ n k, sameTo' eq xs xs n k = true
  | 0, _ => rfl
  | n + 1, k => by
    rw [sameTo']
    cases hx : xs[k]? with
    | none => rfl
    | some x => simp [h, sameTo_refl eq h xs n (k + 1)]
theorem sameL_refl (eq : α → α → Bool) (h : ∀ x, eq x x = true) (xs : List α) : sameL eq xs xs = true := by
  unfold sameL
  rw [if_pos rfl, sameTo_refl eq h]
/-! ### marks -/
/-- n marks of list k -/
def mks (mk : Int → Int → α) (k : Int) (n : Nat) : List α := (List.range n).map fun (i : Nat) => mk k (i : Int)
theorem mks_len (mk : Int → Int → α) (k : Int) (n : Nat) : (mks mk k n).length = n := by simp [mks]
theorem mks_succ (mk : Int → Int → α) (k : Int) (n : Nat) : mks mk k (n + 1) = mks mk k n ++ [mk k n] := by simp [mks, List.range_succ]
/-- the first i elements are marked -/
def overM (mk : Int → Int → α) (l : List α) (i : Nat) : List α := mks mk 9 i ++ l.drop i
theorem overM_len (mk : Int → Int → α) (l : List α) (i : Nat) (h : i ≤ l.length) : (overM mk l i).length = l.length := by simp [overM, mks]; omega
theorem overM_put (K : Knd α) (mk : Int → Int → α) (l : List α) (i : Nat) (h : i < l.length) : putAt (K.fl (overM mk l i)) (i * K.sz) (K.cv (mk 9 i)) = K.fl (overM mk l (i + 1)) := by
  unfold overM
  have h1 := putAt_app (K.cv (mk 9 i)) (K.fl (mks mk 9 i)) (K.fl (l.drop i)) (by
    rw [K.len, K.fl_len, List.length_drop]
    have := Nat.mul_le_mul_right K.sz (show 1 ≤ l.length - i by omega)
    omega)
  rw [K.fl_len, mks_len] at h1
  rw [K.fl_app, h1, mks_succ, K.fl_app, K.fl_app, K.fl_one, List.drop_eq_getElem_cons h]
  congr 1
  have e : K.fl (l[i] :: l.drop (i + 1)) = K.cv l[i] ++ K.fl (l.drop (i + 1)) := by simp only [Knd.fl, List.flatMap_cons]
  rw [e, K.len, ← K.len l[i], List.drop_left]
theorem Knd.O.put {K : Knd α} {w : World} {g cap N : Nat} {l : List α} (mk : Int → Int → α) {i : Nat} (h : K.O w (.slice (some ⟨g, 0, none⟩) N cap) (overM mk l i)) (hi : i < l.length) (hN : N = l.length) :
    K.O (w.setCells g (i * K.sz) (K.cv (mk 9 i))) (.slice (some ⟨g, 0, none⟩) N cap) (overM mk l (i + 1)) := by
  subst hN
  have hl := overM_len mk l i (by omega)
  have hl2 := overM_len mk l (i + 1) (by omega)
  unfold Knd.O at *
  rw [hl] at h
  have := ownsRow_setCells (K.cv (mk 9 i)) _ _ (i * K.sz) h
  rw [overM_put K mk l i hi] at this
  rw [hl2]
  exact this
/-- marks are the marks of Apart -/
def Mkr.ofK (K : Knd α) (st : TypeId) (mk : Int → Int → α) : Mkr := ⟨st, K.e, K.sz, fun k i => K.cv (mk ((k : Int) + 10) (i : Int)), K.pos, fun _ _ => K.len _, fun _ _ => K.one _⟩
end
theorem header {w : World} {base : Nat} {e : TypeId} {size n : Nat} {v : Value} {xs : List Value} (h : w.ownsRow base e size v n xs) : ∃ ao cap, v = .slice ao n cap ∧ n ≤ cap ∧ cap ≤ 9223372036854775807 ∧ (0 < n → ∃ g, ao = some ⟨g, 0, none⟩) := by
  rcases h.2 with ⟨rfl, rfl⟩ | ⟨g, cap, cur, rfl, _, _, h1, h2, _⟩
  · exact ⟨none, 0, rfl, by omega, by omega, fun h => by omega⟩
  · exact ⟨some ⟨g, 0, none⟩, cap, rfl, h1, h2, fun _ => ⟨g, rfl⟩⟩
end Go.Proofs.YtkidijjhedjifaaGreat
/- Lists of any kind as things of a law's world. No program in sight. -/
namespace Go.Proofs.YtkidijjhedjifaaGreat
open Go.RowKit
set_option maxRecDepth 100000
set_option linter.unusedVariables false
theorem Knd.New.lit {α : Type} (K : Knd α) (l : List α) (w : World) (hl : l.length ≤ 1000) : K.New l w (.returned (.slice (some ⟨w.heap.size, 0, none⟩) l.length l.length)) (w.alloc (.cells (K.fl l).toArray K.e)) := by
  refine ⟨_, rfl, ?_, (Below.refl _ _).alloc (Nat.le_refl _) _, fun x hx => ?_⟩
  · have := World.ownsRow_lit (base := 0) (e := K.e) (size := K.sz) w (K.fl l).toArray l.length (Nat.zero_le _) (by unfold maxLen; omega) (by rw [List.size_toArray, K.fl_len])
    simpa [Knd.O] using this
  · have e : w.heap.size = x := by simpa [fpv, Value.ownBlock] using hx
    omega
section
variable {α : Type} {K : Knd α} {w0 w w' : World} {obs : List Ob}
theorem Env.kO (h : Env w0 w obs) (i : Nat) {v : Value} {l : List α} (hi : obs[i]? = some (K.ob v l)) : K.O w v l := Env.row h i hi
theorem Env.kR (h : Env w0 w obs) (i : Nat) {v : Value} {l : List α} (hi : obs[i]? = some (K.ob v l)) : K.R w v l := (Env.kO h i hi).rd
theorem Env.turnK (h : Env w0 w obs) (i : Nat) {v : Value} {l l' : List α} (hi : obs[i]? = some (K.ob v l)) (hb : K.O w' v l') (ho : Only (fpv v) w w') : Env w0 w' (obs.set i (K.ob v l')) := Env.turnE h i hi hb ho
theorem Env.oldK (h : Env w0 w obs) {v : Value} {l : List α} (hv : K.R w0 v l) : K.R w v l := hv.grow h.base
theorem Env.pushNil (h : Env w0 w obs) (K : Knd α) : Env w0 w (obs ++ [K.ob (.slice none 0 0) []]) := h.pushE (Knd.O.nil w) (Below.refl _ _) (fun x hx => by simp [fpv, Value.ownBlock] at hx)
theorem Env.any (h : Env w0 w obs) (i : Nat) {v : Value} {l : List α} (hi : obs[i]? = some (K.ob v l)) : ∃ ao cap, v = .slice ao l.length cap := (Env.kO h i hi).any
end
end Go.Proofs.YtkidijjhedjifaaGreat
namespace Go.Proofs.YtkidijjhedjifaaGreat
open Go.RowKit
set_option maxRecDepth 100000
set_option linter.unusedVariables false

/-- how many events of the first j runs have the kind k -/
def cntTo (rs : List Rn) (k : Int) : Nat → Int
  | 0 => 0
  | j + 1 => cntTo rs k j + if (rs.getD j ⟨0, 0, 0⟩).k = k then (rs.getD j ⟨0, 0, 0⟩).c else 0
def cnt (rs : List Rn) (k : Int) : Int := cntTo rs k rs.length
end Go.Proofs.YtkidijjhedjifaaGreat
