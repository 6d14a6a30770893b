/- The document's counts of chapter 22: contracts. -/
import Derived.Test.YtkidijjhedjifaaRows
import Derived.Deep.Slices
import Derived.ChangeSame
import Derived.OpenShut
import Derived.ProofKit
import Derived.Carry
import Derived.Deep.Draws
import Derived.Test.YtkidijjhedjifaaQCostRows1
import Derived.Test.YtkidijjhedjifaaQCostRows2
import Derived.Test.YtkidijjhedjifaaQCostRows3
import Derived.Test.YtkidijjhedjifaaQCostRows5
import Derived.Test.YtkidijjhedjifaaQCostRows8
/- The document's examples: what example makes, and awake. -/
namespace Go.Proofs.Ytkidijjhedjifaa
open Go.RowKit
set_option maxRecDepth 100000
set_option linter.unusedVariables false
set_option linter.unusedSimpArgs false
attribute [local go_sem] Oper.semAt_some
/-! ### a region whose order is drawn, under what holds of the operations that have come up -/
section
variable {P : Program} {md : Region.Mode} {ops : Array Oper} {Q : Exit → Act → World → Prop}
theorem mem_ready {listed : Array Bool} {i : Nat} (h : i ∈ Region.ready md ops listed) : i < ops.size ∧ listed.getD i true = false ∧ ∃ o, ops[i]? = some o ∧ ∀ e ∈ o.after, Region.binds md e = true → listed.getD e.on false = true := by
  unfold Region.ready at h
  obtain ⟨h1, h2⟩ := List.mem_filter.1 h
  have hi : i < ops.size := by simpa using h1
  simp only [Bool.and_eq_true, Bool.not_eq_true'] at h2
  refine ⟨hi, h2.1, ops[i], Array.getElem?_eq_getElem hi, fun e he hb => ?_⟩
  have h3 := h2.2
  rw [Array.getElem?_eq_getElem hi] at h3
  simp only [Option.map_some, Option.getD_some] at h3
  have h4 := Array.all_eq_true'.1 h3 e he
  simp only [Bool.or_eq_true, Bool.not_eq_true'] at h4
  rcases h4 with h4 | h4
  · rw [hb] at h4; cases h4
  · exact h4
def leftN (listed : Array Bool) : Nat → Nat
  | 0 => 0
  | n + 1 => leftN listed n + if listed.getD n true then 0 else 1
theorem leftN_set {listed : Array Bool} {n i : Nat} (hi : i < n) (h : listed.getD i true = false) : leftN (listed.setIfInBounds i true) n + 1 = leftN listed n := by
  have hs : i < listed.size := by
    by_cases hh : i < listed.size
    · exact hh
    · rw [Array.getD_eq_getD_getElem?, Array.getElem?_eq_none (by omega)] at h
      cases h
  have key : ∀ m, (i < m → leftN (listed.setIfInBounds i true) m + 1 = leftN listed m) ∧ (m ≤ i → leftN (listed.setIfInBounds i true) m = leftN listed m) := by
    intro m
    induction m with
    | zero => exact ⟨fun h => by omega, fun _ => rfl⟩
    | succ m ih =>
      unfold leftN
      by_cases e : i = m
      · subst e
        have e1 : (listed.setIfInBounds i true).getD i true = true := by
          rw [Array.getD_eq_getD_getElem?, Array.getElem?_setIfInBounds_self_of_lt hs]
          rfl
        refine ⟨fun _ => ?_, fun h => by omega⟩
        rw [ih.2 (Nat.le_refl _), e1, h]
        rfl
      · have e1 : (listed.setIfInBounds i true).getD m true = listed.getD m true := by
          rw [Array.getD_eq_getD_getElem?, Array.getD_eq_getD_getElem?, Array.getElem?_setIfInBounds_ne e]
        rw [e1]
        refine ⟨fun hm => ?_, fun hm => ?_⟩
        · have := ih.1 (by omega)
          omega
        · have := ih.2 (by omega)
          omega
  exact (key n).1 hi
theorem ready_left {listed : Array Bool} (h : leftN listed ops.size = 0) : Region.ready md ops listed = [] := by
  apply List.eq_nil_iff_forall_not_mem.2
  intro i hi
  obtain ⟨h1, h2, _⟩ := mem_ready hi
  have := leftN_set h1 h2
  omega
theorem dep_of {listed : Array Bool} {o : Oper} (h : ∀ e ∈ o.after, Region.binds md e = true → listed.getD e.on false = true) (k : Nat) (hk : (o.after.toList.any fun e => decide (e.on = k) && Region.binds md e) = true) : listed.getD k false = true := by
  obtain ⟨e, he, hb⟩ := List.any_eq_true.1 hk
  simp only [Bool.and_eq_true, decide_eq_true_eq] at hb
  have := h e (by simpa using he) hb.2
  rw [hb.1] at this
  exact this
theorem all_listed {listed : Array Bool} (hop : ((List.range ops.size).all fun i => (ops[i]?.map fun o => o.after.toList.all fun e => !Region.binds md e || decide (e.on < i)).getD true) = true) (h : Region.ready md ops listed = []) (hsz : listed.size = ops.size) : ∀ n i, i < n → i < ops.size → listed.getD i false = true := by
  intro n
  induction n with
  | zero => intro i h; omega
  | succ n ih =>
    intro i hi hs
    cases hl : listed.getD i false with
    | true => rfl
    | false =>
      exfalso
      have hm : i ∈ Region.ready md ops listed := by
        unfold Region.ready
        refine List.mem_filter.2 ⟨by simpa using hs, ?_⟩
        have e1 : listed.getD i true = false := by
          rw [Array.getD_eq_getD_getElem?, Array.getElem?_eq_getElem (by omega)] at hl ⊢
          exact hl
        simp only [Bool.and_eq_true, Bool.not_eq_true']
        refine ⟨e1, ?_⟩
        rw [Array.getElem?_eq_getElem hs]
        simp only [Option.map_some, Option.getD_some]
        refine Array.all_eq_true'.2 fun e he => ?_
        have h2 := List.all_eq_true.1 hop i (by simpa using hs)
        rw [Array.getElem?_eq_getElem hs] at h2
        simp only [Option.map_some, Option.getD_some] at h2
        have h3 := List.all_eq_true.1 h2 e (by simpa using he)
        simp only [Bool.or_eq_true, Bool.not_eq_true', decide_eq_true_eq] at h3 ⊢
        rcases h3 with h3 | h3
        · exact .inl h3
        · exact .inr (ih _ (by omega) (by omega))
      rw [h] at hm
      cases hm
/-- whichever comes up next: J is kept -/
theorem wpAnyH_inv (J : Array Bool → Act → World → Prop) (hstep : ∀ listed a w i, J listed a w → i ∈ Region.ready md ops listed → wpOp P ops Q i (fun a' w' => J (listed.setIfInBounds i true) a' w') a w)
    (hend : ∀ listed a w, J listed a w → Region.ready md ops listed = [] → wpList P ops Q [] a w) : ∀ (fuel : Nat) (listed : Array Bool) (a : Act) (w : World), leftN listed ops.size ≤ fuel → J listed a w → wpAnyH P md ops Q (fun _ => True) fuel listed a w
  | 0, listed, a, w, hf, hJ => by
    have h0 := ready_left (md := md) (ops := ops) (listed := listed) (by omega)
    exact ⟨h0, hend listed a w hJ h0⟩
  | fuel + 1, listed, a, w, hf, hJ => by
    refine ⟨fun h0 => hend listed a w hJ h0, fun i hi => ?_⟩
    obtain ⟨h1, h2, _⟩ := mem_ready hi
    have hl := leftN_set h1 h2
    exact wpOp_mono (fun a' w' h' => ⟨trivial, wpAnyH_inv J hstep hend fuel _ a' w' (by omega) h'⟩) (hstep listed a w i hJ hi)
end
/-! ### example -/
theorem load_rn {w : World} {b : Nat} {k s n : Value} (h0 : w.cell? ⟨b, 0, none⟩ = some k) (h1 : w.cell? ⟨b, 1, none⟩ = some s) (h2 : w.cell? ⟨b, 2, none⟩ = some n) : (loadVar 51 ⟨b, 0, none⟩).run Try.prog w = .ok (.agg #[k, s, n]) w := by
  go_simp
theorem event22_any (k s n : Int) (w : World) : Calls Try.prog 24 #[.int .u8 k, .int .i64 s, .int .i64 n] w (Told (.agg #[.int .u8 k, .int .i64 s, .int .i64 n]) w) := by
  go_enter Try.func24, Try.ntmps24
  go_wp2
  refine bodyPost_ret (results_cell rfl (b := w.heap.size) rfl (load_rn (k := .int .u8 k) (s := .int .i64 s) (n := .int .i64 n) ?_ ?_ ?_)) rfl ⟨rfl, ?_⟩
  · go_simp
  · go_simp
  · go_simp
  · exact (Below.refl _ _).alloc (Nat.le_refl _) _
def wants : List (List Rn) := [[⟨11, 1, 1⟩, ⟨12, 0, 1⟩],
  [⟨11, 2, 1⟩, ⟨4, 16, 1⟩, ⟨5, 16, 1⟩, ⟨12, 0, 1⟩],
  [⟨11, 3, 1⟩, ⟨5, 16, 2⟩, ⟨12, 0, 1⟩],
  [⟨11, 4, 1⟩, ⟨5, 16, 1⟩, ⟨8, 1024, 1⟩, ⟨12, 0, 1⟩],
  [⟨11, 2, 1⟩, ⟨1, 64, 2⟩, ⟨12, 0, 1⟩],
  [⟨11, 5, 1⟩, ⟨1, 64, 2⟩, ⟨6, 20, 1⟩, ⟨8, 1024, 1⟩, ⟨12, 0, 1⟩],
  [⟨11, 8, 1⟩, ⟨2, 128, 14⟩, ⟨12, 0, 1⟩],
  [⟨11, 4, 1⟩, ⟨12, 6, 1⟩],
  [⟨11, 10, 1⟩, ⟨12, 5, 1⟩],
  [⟨11, 99, 1⟩, ⟨12, 3, 1⟩]]
def exL : List Sk := [⟨1, 0, 0, 0, 0, 16, 0⟩, ⟨2, 0, 3, 0, 16, 0, 0⟩, ⟨3, 1, 0, 0, 0, 33, 0⟩, ⟨4, 1, 0, 0, 0, 0, 0⟩, ⟨2, 0, 1, 0, 20, 0, 0⟩, ⟨5, 1, 0, 0, 0, 20, 0⟩, ⟨8, 0, 2, 3, 65, 4, 0⟩, ⟨4, 0, 0, 0, 0, 0, 0⟩, ⟨10, 5, 0, 0, 0, 0, 0⟩, ⟨99, 0, 0, 0, 0, 0, 0⟩]
theorem awake_plain : eachL exL = wants := by decide
inductive Spk where
  | ev (r : Rn)
  | run (l : List Rn)
  | all
def spec22 : List Spk := [.ev ⟨11, 1, 1⟩,
  .ev ⟨12, 0, 1⟩,
  .run [⟨11, 1, 1⟩, ⟨12, 0, 1⟩],
  .ev ⟨11, 2, 1⟩,
  .ev ⟨4, 16, 1⟩,
  .ev ⟨5, 16, 1⟩,
  .ev ⟨12, 0, 1⟩,
  .run [⟨11, 2, 1⟩, ⟨4, 16, 1⟩, ⟨5, 16, 1⟩, ⟨12, 0, 1⟩],
  .ev ⟨11, 3, 1⟩,
  .ev ⟨5, 16, 2⟩,
  .ev ⟨12, 0, 1⟩,
  .run [⟨11, 3, 1⟩, ⟨5, 16, 2⟩, ⟨12, 0, 1⟩],
  .ev ⟨11, 4, 1⟩,
  .ev ⟨5, 16, 1⟩,
  .ev ⟨8, 1024, 1⟩,
  .ev ⟨12, 0, 1⟩,
  .run [⟨11, 4, 1⟩, ⟨5, 16, 1⟩, ⟨8, 1024, 1⟩, ⟨12, 0, 1⟩],
  .ev ⟨11, 2, 1⟩,
  .ev ⟨1, 64, 2⟩,
  .ev ⟨12, 0, 1⟩,
  .run [⟨11, 2, 1⟩, ⟨1, 64, 2⟩, ⟨12, 0, 1⟩],
  .ev ⟨11, 5, 1⟩,
  .ev ⟨1, 64, 2⟩,
  .ev ⟨6, 20, 1⟩,
  .ev ⟨8, 1024, 1⟩,
  .ev ⟨12, 0, 1⟩,
  .run [⟨11, 5, 1⟩, ⟨1, 64, 2⟩, ⟨6, 20, 1⟩, ⟨8, 1024, 1⟩, ⟨12, 0, 1⟩],
  .ev ⟨11, 8, 1⟩,
  .ev ⟨2, 128, 14⟩,
  .ev ⟨12, 0, 1⟩,
  .run [⟨11, 8, 1⟩, ⟨2, 128, 14⟩, ⟨12, 0, 1⟩],
  .ev ⟨11, 4, 1⟩,
  .ev ⟨12, 6, 1⟩,
  .run [⟨11, 4, 1⟩, ⟨12, 6, 1⟩],
  .ev ⟨11, 10, 1⟩,
  .ev ⟨12, 5, 1⟩,
  .run [⟨11, 10, 1⟩, ⟨12, 5, 1⟩],
  .ev ⟨11, 99, 1⟩,
  .ev ⟨12, 3, 1⟩,
  .run [⟨11, 99, 1⟩, ⟨12, 3, 1⟩],
  .all,
  .all]
def dst22 (i : Nat) : Nat := if i = 41 then 4 else 17 + i
def rnV (r : Rn) : Value := .agg #[.int .u8 r.k, .int .i64 r.s, .int .i64 r.c]
def Fx (sp : Spk) (v : Value) (w : World) : Prop := match sp with
  | .ev r => v = rnV r
  | .run l => ∃ b, v = .slice (some ⟨b, 0, none⟩) l.length l.length ∧ KN.R w (.slice (some ⟨b, 0, none⟩) l.length l.length) l
  | .all => ∃ b, v = .slice (some ⟨b, 0, none⟩) 10 10 ∧ ∀ j rs, wants[j]? = some rs → ∃ u, w.cell? ⟨b, j, none⟩ = some u ∧ KN.R w u rs
theorem Fx.below {sp : Spk} {v : Value} {w w' : World} (h : Fx sp v w) (hb : Below w.heap.size w w') : Fx sp v w' := by
  cases sp with
  | ev r => exact h
  | run l =>
    obtain ⟨b, h1, h2⟩ := h
    exact ⟨b, h1, h2.grow hb⟩
  | all =>
    obtain ⟨b, h1, h2⟩ := h
    refine ⟨b, h1, fun j rs hj => ?_⟩
    obtain ⟨u, h3, h4⟩ := h2 j rs hj
    exact ⟨u, (hb.cell (World.block_lt_of_cell? w _ h3)).trans h3, h4.grow hb⟩
def arr60 (x : Nat → Value) : Array Value := #[x 0, x 1, x 2, x 3, x 4, x 5, x 6, x 7, x 8, x 9, x 10, x 11, x 12, x 13, x 14, x 15, x 16, x 17, x 18, x 19, x 20, x 21, x 22, x 23, x 24, x 25, x 26, x 27, x 28, x 29, x 30, x 31, x 32, x 33, x 34, x 35, x 36, x 37, x 38, x 39, x 40, x 41, x 42, x 43, x 44, x 45, x 46, x 47, x 48, x 49, x 50, x 51, x 52, x 53, x 54, x 55, x 56, x 57, x 58, x 59]
def upd60 (x : Nat → Value) (d : Nat) (v : Value) : Nat → Value := fun j => if j = d then v else x j
structure JX (w1 : World) (B3 : Nat) (v2 : Value) (listed : Array Bool) (x : Nat → Value) (w : World) : Prop where
  sz : listed.size = 42
  up : Below w1.heap.size w1 w
  b3 : Blk w B3 51 #[.int .u8 12, .int .i64 0, .int .i64 1]
  x2 : x 2 = v2
  x3 : x 3 = .pointer (some ⟨B3, 0, none⟩)
  f : ∀ i sp, spec22[i]? = some sp → listed.getD i false = true → Fx sp (x (dst22 i)) w
section
variable {w1 w w' : World} {B3 : Nat} {v2 : Value} {listed : Array Bool} {x : Nat → Value}
theorem dst22_inj {i j : Nat} (hi : i < 42) (hj : j < 42) (h : dst22 i = dst22 j) : i = j := by
  unfold dst22 at h
  split at h <;> split at h <;> omega
theorem JX.put (h : JX w1 B3 v2 listed x w) (i d : Nat) (v : Value) (sp : Spk) (hi : i < 42) (hd : dst22 i = d) (hb : Below w.heap.size w w') (hf : Fx sp v w') (hsp : spec22[i]? = some sp := by rfl) : JX w1 B3 v2 (listed.setIfInBounds i true) (upd60 x d v) w' := by
  have hd2 : d ≠ 2 ∧ d ≠ 3 := by
    rw [← hd]
    unfold dst22
    split <;> omega
  refine ⟨by simp [h.sz], h.up.trans (hb.mono h.up.size), h.b3.only (Only.nothing hb) (fun h => h), ?_, ?_, fun j sp' hj hl => ?_⟩
  · show (if 2 = d then v else x 2) = v2
    rw [if_neg (fun e => hd2.1 e.symm)]
    exact h.x2
  · show (if 3 = d then v else x 3) = _
    rw [if_neg (fun e => hd2.2 e.symm)]
    exact h.x3
  · have hj42 : j < 42 := by
      have := (List.getElem?_eq_some_iff.1 hj).1
      exact this
    by_cases e : j = i
    · subst e
      rw [hsp] at hj
      injection hj with hj
      subst hj
      show Fx _ (if dst22 j = d then v else x (dst22 j)) w'
      rw [if_pos hd]
      exact hf
    · show Fx _ (if dst22 j = d then v else x (dst22 j)) w'
      rw [if_neg (fun e2 => e (dst22_inj hj42 hi (e2.trans hd.symm)))]
      refine (h.f j sp' hj ?_).below hb
      rw [Array.getD_eq_getD_getElem?, Array.getElem?_setIfInBounds_ne (fun e2 => e e2.symm)] at hl
      rw [Array.getD_eq_getD_getElem?]
      exact hl
theorem JX.ev (h : JX w1 B3 v2 listed x w) (i : Nat) (hl : listed.getD i false = true) {r : Rn} (hsp : spec22[i]? = some (.ev r)) : x (dst22 i) = rnV r := h.f i _ hsp hl
theorem JX.run (h : JX w1 B3 v2 listed x w) (i : Nat) (hl : listed.getD i false = true) (l : List Rn) (hsp : spec22[i]? = some (.run l)) : ∃ b, x (dst22 i) = .slice (some ⟨b, 0, none⟩) l.length l.length ∧ KN.R w (.slice (some ⟨b, 0, none⟩) l.length l.length) l := h.f i _ hsp hl
theorem JX.all (h : JX w1 B3 v2 listed x w) (i : Nat) (hl : listed.getD i false = true) (hsp : spec22[i]? = some .all) : ∃ b, x (dst22 i) = .slice (some ⟨b, 0, none⟩) 10 10 ∧ ∀ j rs, wants[j]? = some rs → ∃ u, w.cell? ⟨b, j, none⟩ = some u ∧ KN.R w u rs := h.f i _ hsp hl
end
theorem litR (w : World) (l : List Rn) (hl : l.length ≤ 1000) : KN.R (w.alloc (.cells (KN.fl l).toArray KN.e)) (.slice (some ⟨w.heap.size, 0, none⟩) l.length l.length) l := by
  obtain ⟨v, he, ho, _⟩ := Knd.New.lit KN l w hl
  injection he with he
  subst he
  exact ho.rd
def SAw (g b : Nat) (j : Nat) (rv sv : Value) (W : World) : Prop := W.cell? ⟨g, j, none⟩ = some rv ∧ W.cell? ⟨b, j, none⟩ = some sv
theorem SAw.id {g b : Nat} {j : Nat} {rv sv : Value} (W : World) (h : SAw g b j rv sv W) : W.cell? ⟨g, j, none⟩ = some rv ∧ W.cell? ⟨b, j, none⟩ = some sv := h
theorem exL_ok : ∀ s ∈ exL, OKsk s := by
  intro s hs
  have h : ∀ s ∈ exL, (0 ≤ s.kind ∧ s.kind ≤ 255) ∧ (0 ≤ s.alg ∧ s.alg ≤ 255) ∧ (0 ≤ s.handle ∧ s.handle ≤ 100) ∧ (0 ≤ s.count ∧ s.count ≤ 100) ∧ (0 ≤ s.out ∧ s.out ≤ 100) ∧ (0 ≤ s.data ∧ s.data ≤ 100) ∧ (0 ≤ s.more ∧ s.more ≤ 100) := by decide
  obtain ⟨h1, h2, h3, h4, h5, h6, h7⟩ := h s hs
  constructor <;> (first | unfold okI | unfold okU) <;> omega
set_option maxHeartbeats 8000000 in
theorem example_any (w : World) : Calls Try.prog 32 #[] w fun e w' => ∃ u v, e = .returned (.tuple #[u, v]) ∧ Below w.heap.size w w' ∧ KS.R w' u exL ∧ Fx .all v w' := by
  go_enter Try.func32, Try.ntmps32
  go_wp2_with fail
  obtain ⟨v2, hv2, ho2, hb2, _⟩ := Knd.New.lit KS exL w (by decide)
  injection hv2 with hv2
  have hks := ho2.rd
  rw [← hv2] at hks
  clear ho2 hb2 hv2
  refine (event22_any 12 0 1 _).mono ?_
  rintro e w2 ⟨rfl, hb⟩
  go_upto_region 3 with fail
  generalize hw3 : w2.alloc (.cells #[.int .u8 12, .int .i64 0, .int .i64 1] 51) = w3
  have hup : Below w.heap.size w w3 := by
    rw [← hw3]
    have h1 := ((Below.refl w.heap.size w).alloc (Nat.le_refl _) (.cells (KS.fl exL).toArray KS.e)).trans (hb.mono (by simp))
    exact h1.alloc h1.size _
  have hks3 : KS.R w3 (.slice (some ⟨w.heap.size, 0, none⟩) 10 10) exL := by
    rw [← hw3]
    exact (hks.grow hb).grow ((Below.refl _ _).alloc (Nat.le_refl _) _)
  have hb3 : Blk w3 w2.heap.size 51 #[.int .u8 12, .int .i64 0, .int .i64 1] := by
    rw [← hw3]
    exact Blk.new w2 _ _
  refine hd_start (fun _ => True) (by kernel_rfl) ?_
  intro w4 hw4
  have hdr : Below w3.heap.size w3 (w3.drewN 1) := ⟨rfl, rfl, rfl, Nat.le_refl _, fun _ _ => rfl⟩
  rw [← hw4] at hdr
  refine wpAnyH_inv (fun listed a w' => ∃ x, a = ⟨arr60 x, []⟩ ∧ JX w3 w2.heap.size (.slice (some ⟨w.heap.size, 0, none⟩) 10 10) listed x w') ?step ?done 42 _ _ _ (by decide) ?start
  case start =>
    refine ⟨fun j => (#[.slice none 0 0, .slice none 0 0, .slice (some ⟨w.heap.size, 0, none⟩) 10 10, .pointer (some ⟨w2.heap.size, 0, none⟩), undef, .agg #[.int .u8 1, .int .i64 0, .int .u8 0, .int .i64 0, .int .i64 0, .int .i64 16, .int .i64 0], .agg #[.int .u8 2, .int .i64 0, .int .u8 3, .int .i64 0, .int .i64 16, .int .i64 0, .int .i64 0], .agg #[.int .u8 3, .int .i64 1, .int .u8 0, .int .i64 0, .int .i64 0, .int .i64 33, .int .i64 0], .agg #[.int .u8 4, .int .i64 1, .int .u8 0, .int .i64 0, .int .i64 0, .int .i64 0, .int .i64 0], .agg #[.int .u8 2, .int .i64 0, .int .u8 1, .int .i64 0, .int .i64 20, .int .i64 0, .int .i64 0], .agg #[.int .u8 5, .int .i64 1, .int .u8 0, .int .i64 0, .int .i64 0, .int .i64 20, .int .i64 0], .agg #[.int .u8 8, .int .i64 0, .int .u8 2, .int .i64 3, .int .i64 65, .int .i64 4, .int .i64 0], .agg #[.int .u8 4, .int .i64 0, .int .u8 0, .int .i64 0, .int .i64 0, .int .i64 0, .int .i64 0], .agg #[.int .u8 10, .int .i64 5, .int .u8 0, .int .i64 0, .int .i64 0, .int .i64 0, .int .i64 0], .agg #[.int .u8 99, .int .i64 0, .int .u8 0, .int .i64 0, .int .i64 0, .int .i64 0, .int .i64 0], .slice (some ⟨w.heap.size, 0, none⟩) 10 10, .agg #[.int .u8 12, .int .i64 0, .int .i64 1], undef, undef, undef, undef, undef, undef, undef, undef, undef, undef, undef, undef, undef, undef, undef, undef, undef, undef, undef, undef, undef, undef, undef, undef, undef, undef, undef, undef, undef, undef, undef, undef, undef, undef, undef, undef, undef, undef, undef, undef, undef, undef, undef] : Array Value).getD j undef, rfl, ⟨by simp, hw4 ▸ hdr, hb3.only (Only.nothing (hw4 ▸ hdr)) (fun h => h), rfl, rfl, fun i sp hi hl => ?_⟩⟩
    exfalso
    rw [Array.getD_eq_getD_getElem?] at hl
    by_cases hh : i < 42
    · rw [Array.getElem?_replicate, if_pos (by exact hh)] at hl
      cases hl
    · rw [Array.getElem?_replicate, if_neg (by exact hh)] at hl
      cases hl
  case done =>
    clear hks hb hw3 hb3 hw4 hdr
    rintro listed a w4 ⟨x, rfl, hJ⟩ hr
    have hall := all_listed (by kernel_rfl) hr hJ.sz 42
    have h4 : ∃ b, x 4 = .slice (some ⟨b, 0, none⟩) 10 10 ∧ _ := hJ.all 41 (hall 41 (by decide) (by decide)) rfl
    have hfx : Fx .all (x 4) w4 := hJ.f 41 .all rfl (hall 41 (by decide) (by decide))
    have x2 := hJ.x2
    have hk4 := hks3.grow (hJ.up)
    have hu4 : Below w.heap.size w w4 := hup.trans (hJ.up.mono hup.size)
    clear hall hr hks3 hup hJ
    obtain ⟨b, h4, _⟩ := h4
    show wpList _ _ _ [] ⟨#[x 0, x 1, x 2, x 3, x 4, x 5, x 6, x 7, x 8, x 9, x 10, x 11, x 12, x 13, x 14, x 15, x 16, x 17, x 18, x 19, x 20, x 21, x 22, x 23, x 24, x 25, x 26, x 27, x 28, x 29, x 30, x 31, x 32, x 33, x 34, x 35, x 36, x 37, x 38, x 39, x 40, x 41, x 42, x 43, x 44, x 45, x 46, x 47, x 48, x 49, x 50, x 51, x 52, x 53, x 54, x 55, x 56, x 57, x 58, x 59], []⟩ w4
    go_wp2_with fail
    go_ret2
    refine ⟨x 2, x 4, rfl, hu4, ?_, hfx⟩
    rw [x2]
    exact hk4
  case step =>
    clear hks hb hw3 hup hks3 hb3 hw4 hdr
    rintro listed a w i ⟨x, rfl, hJ⟩ hmem
    obtain ⟨hi, hl, o, ho, hdepE⟩ := mem_ready hmem
    have hi : i < 42 := hi
    have x2 := hJ.x2
    have x3 := hJ.x3
    unfold arr60
    rcases (show i = 0 ∨ i = 1 ∨ i = 2 ∨ i = 3 ∨ i = 4 ∨ i = 5 ∨ i = 6 ∨ i = 7 ∨ i = 8 ∨ i = 9 ∨ i = 10 ∨ i = 11 ∨ i = 12 ∨ i = 13 ∨ i = 14 ∨ i = 15 ∨ i = 16 ∨ i = 17 ∨ i = 18 ∨ i = 19 ∨ i = 20 ∨ i = 21 ∨ i = 22 ∨ i = 23 ∨ i = 24 ∨ i = 25 ∨ i = 26 ∨ i = 27 ∨ i = 28 ∨ i = 29 ∨ i = 30 ∨ i = 31 ∨ i = 32 ∨ i = 33 ∨ i = 34 ∨ i = 35 ∨ i = 36 ∨ i = 37 ∨ i = 38 ∨ i = 39 ∨ i = 40 ∨ i = 41 by omega) with rfl | rfl | rfl | rfl | rfl | rfl | rfl | rfl | rfl | rfl | rfl | rfl | rfl | rfl | rfl | rfl | rfl | rfl | rfl | rfl | rfl | rfl | rfl | rfl | rfl | rfl | rfl | rfl | rfl | rfl | rfl | rfl | rfl | rfl | rfl | rfl | rfl | rfl | rfl | rfl | rfl | rfl
    all_goals (obtain rfl := Option.some.inj ho; have hdep := dep_of hdepE; clear hdepE hmem hl ho)
    · refine op_call rfl (by kernel_rfl) (by go_simp; first | exact ⟨rfl, rfl⟩ | rfl) ?_
      refine (event22_any 11 1 1 w).mono ?_
      rintro e w' ⟨rfl, hb⟩
      exact ⟨_, rfl, upd60 x 17 (.agg #[.int .u8 11, .int .i64 1, .int .i64 1]), rfl, hJ.put 0 17 (.agg #[.int .u8 11, .int .i64 1, .int .i64 1]) (.ev ⟨11, 1, 1⟩) (by decide) rfl hb rfl⟩
    · have hb3 := hJ.b3
      have x3 := hJ.x3
      refine op_run (v := .agg #[.int .u8 12, .int .i64 0, .int .i64 1]) (w' := w) rfl (by kernel_rfl) (by have c0 := hb3.cellAt 0 rfl; have c1 := hb3.cellAt 1 rfl; have c2 := hb3.cellAt 2 rfl; go_simp; first | done | rfl) ?_
      exact ⟨upd60 x 18 (.agg #[.int .u8 12, .int .i64 0, .int .i64 1]), rfl, hJ.put 1 18 (.agg #[.int .u8 12, .int .i64 0, .int .i64 1]) (.ev ⟨12, 0, 1⟩) (by decide) rfl (Below.refl _ _) rfl⟩
    · have h17 : x 17 = .agg #[.int .u8 11, .int .i64 1, .int .i64 1] := hJ.ev 0 (hdep 0 (by kernel_rfl)) rfl
      have h18 : x 18 = .agg #[.int .u8 12, .int .i64 0, .int .i64 1] := hJ.ev 1 (hdep 1 (by kernel_rfl)) rfl
      refine op_run (v := .slice (some ⟨w.heap.size, 0, none⟩) 2 2) (w' := w.alloc (.cells #[.int .u8 11, .int .i64 1, .int .i64 1, .int .u8 12, .int .i64 0, .int .i64 1] 51)) rfl (by kernel_rfl) (by go_simp; first | done | rfl) ?_
      exact ⟨upd60 x 19 (.slice (some ⟨w.heap.size, 0, none⟩) 2 2), rfl, hJ.put 2 19 _ (.run [⟨11, 1, 1⟩, ⟨12, 0, 1⟩]) (by decide) rfl ((Below.refl _ _).alloc (Nat.le_refl _) _) ⟨_, rfl, litR w [⟨11, 1, 1⟩, ⟨12, 0, 1⟩] (by decide)⟩⟩
    · refine op_call rfl (by kernel_rfl) (by go_simp; first | exact ⟨rfl, rfl⟩ | rfl) ?_
      refine (event22_any 11 2 1 w).mono ?_
      rintro e w' ⟨rfl, hb⟩
      exact ⟨_, rfl, upd60 x 20 (.agg #[.int .u8 11, .int .i64 2, .int .i64 1]), rfl, hJ.put 3 20 (.agg #[.int .u8 11, .int .i64 2, .int .i64 1]) (.ev ⟨11, 2, 1⟩) (by decide) rfl hb rfl⟩
    · refine op_call rfl (by kernel_rfl) (by go_simp; first | exact ⟨rfl, rfl⟩ | rfl) ?_
      refine (event22_any 4 16 1 w).mono ?_
      rintro e w' ⟨rfl, hb⟩
      exact ⟨_, rfl, upd60 x 21 (.agg #[.int .u8 4, .int .i64 16, .int .i64 1]), rfl, hJ.put 4 21 (.agg #[.int .u8 4, .int .i64 16, .int .i64 1]) (.ev ⟨4, 16, 1⟩) (by decide) rfl hb rfl⟩
    · refine op_call rfl (by kernel_rfl) (by go_simp; first | exact ⟨rfl, rfl⟩ | rfl) ?_
      refine (event22_any 5 16 1 w).mono ?_
      rintro e w' ⟨rfl, hb⟩
      exact ⟨_, rfl, upd60 x 22 (.agg #[.int .u8 5, .int .i64 16, .int .i64 1]), rfl, hJ.put 5 22 (.agg #[.int .u8 5, .int .i64 16, .int .i64 1]) (.ev ⟨5, 16, 1⟩) (by decide) rfl hb rfl⟩
    · have hb3 := hJ.b3
      have x3 := hJ.x3
      refine op_run (v := .agg #[.int .u8 12, .int .i64 0, .int .i64 1]) (w' := w) rfl (by kernel_rfl) (by have c0 := hb3.cellAt 0 rfl; have c1 := hb3.cellAt 1 rfl; have c2 := hb3.cellAt 2 rfl; go_simp; first | done | rfl) ?_
      exact ⟨upd60 x 23 (.agg #[.int .u8 12, .int .i64 0, .int .i64 1]), rfl, hJ.put 6 23 (.agg #[.int .u8 12, .int .i64 0, .int .i64 1]) (.ev ⟨12, 0, 1⟩) (by decide) rfl (Below.refl _ _) rfl⟩
    · have h20 : x 20 = .agg #[.int .u8 11, .int .i64 2, .int .i64 1] := hJ.ev 3 (hdep 3 (by kernel_rfl)) rfl
      have h21 : x 21 = .agg #[.int .u8 4, .int .i64 16, .int .i64 1] := hJ.ev 4 (hdep 4 (by kernel_rfl)) rfl
      have h22 : x 22 = .agg #[.int .u8 5, .int .i64 16, .int .i64 1] := hJ.ev 5 (hdep 5 (by kernel_rfl)) rfl
      have h23 : x 23 = .agg #[.int .u8 12, .int .i64 0, .int .i64 1] := hJ.ev 6 (hdep 6 (by kernel_rfl)) rfl
      refine op_run (v := .slice (some ⟨w.heap.size, 0, none⟩) 4 4) (w' := w.alloc (.cells #[.int .u8 11, .int .i64 2, .int .i64 1, .int .u8 4, .int .i64 16, .int .i64 1, .int .u8 5, .int .i64 16, .int .i64 1, .int .u8 12, .int .i64 0, .int .i64 1] 51)) rfl (by kernel_rfl) (by go_simp; first | done | rfl) ?_
      exact ⟨upd60 x 24 (.slice (some ⟨w.heap.size, 0, none⟩) 4 4), rfl, hJ.put 7 24 _ (.run [⟨11, 2, 1⟩, ⟨4, 16, 1⟩, ⟨5, 16, 1⟩, ⟨12, 0, 1⟩]) (by decide) rfl ((Below.refl _ _).alloc (Nat.le_refl _) _) ⟨_, rfl, litR w [⟨11, 2, 1⟩, ⟨4, 16, 1⟩, ⟨5, 16, 1⟩, ⟨12, 0, 1⟩] (by decide)⟩⟩
    · refine op_call rfl (by kernel_rfl) (by go_simp; first | exact ⟨rfl, rfl⟩ | rfl) ?_
      refine (event22_any 11 3 1 w).mono ?_
      rintro e w' ⟨rfl, hb⟩
      exact ⟨_, rfl, upd60 x 25 (.agg #[.int .u8 11, .int .i64 3, .int .i64 1]), rfl, hJ.put 8 25 (.agg #[.int .u8 11, .int .i64 3, .int .i64 1]) (.ev ⟨11, 3, 1⟩) (by decide) rfl hb rfl⟩
    · refine op_call rfl (by kernel_rfl) (by go_simp; first | exact ⟨rfl, rfl⟩ | rfl) ?_
      refine (event22_any 5 16 2 w).mono ?_
      rintro e w' ⟨rfl, hb⟩
      exact ⟨_, rfl, upd60 x 26 (.agg #[.int .u8 5, .int .i64 16, .int .i64 2]), rfl, hJ.put 9 26 (.agg #[.int .u8 5, .int .i64 16, .int .i64 2]) (.ev ⟨5, 16, 2⟩) (by decide) rfl hb rfl⟩
    · have hb3 := hJ.b3
      have x3 := hJ.x3
      refine op_run (v := .agg #[.int .u8 12, .int .i64 0, .int .i64 1]) (w' := w) rfl (by kernel_rfl) (by have c0 := hb3.cellAt 0 rfl; have c1 := hb3.cellAt 1 rfl; have c2 := hb3.cellAt 2 rfl; go_simp; first | done | rfl) ?_
      exact ⟨upd60 x 27 (.agg #[.int .u8 12, .int .i64 0, .int .i64 1]), rfl, hJ.put 10 27 (.agg #[.int .u8 12, .int .i64 0, .int .i64 1]) (.ev ⟨12, 0, 1⟩) (by decide) rfl (Below.refl _ _) rfl⟩
    · have h25 : x 25 = .agg #[.int .u8 11, .int .i64 3, .int .i64 1] := hJ.ev 8 (hdep 8 (by kernel_rfl)) rfl
      have h26 : x 26 = .agg #[.int .u8 5, .int .i64 16, .int .i64 2] := hJ.ev 9 (hdep 9 (by kernel_rfl)) rfl
      have h27 : x 27 = .agg #[.int .u8 12, .int .i64 0, .int .i64 1] := hJ.ev 10 (hdep 10 (by kernel_rfl)) rfl
      refine op_run (v := .slice (some ⟨w.heap.size, 0, none⟩) 3 3) (w' := w.alloc (.cells #[.int .u8 11, .int .i64 3, .int .i64 1, .int .u8 5, .int .i64 16, .int .i64 2, .int .u8 12, .int .i64 0, .int .i64 1] 51)) rfl (by kernel_rfl) (by go_simp; first | done | rfl) ?_
      exact ⟨upd60 x 28 (.slice (some ⟨w.heap.size, 0, none⟩) 3 3), rfl, hJ.put 11 28 _ (.run [⟨11, 3, 1⟩, ⟨5, 16, 2⟩, ⟨12, 0, 1⟩]) (by decide) rfl ((Below.refl _ _).alloc (Nat.le_refl _) _) ⟨_, rfl, litR w [⟨11, 3, 1⟩, ⟨5, 16, 2⟩, ⟨12, 0, 1⟩] (by decide)⟩⟩
    · refine op_call rfl (by kernel_rfl) (by go_simp; first | exact ⟨rfl, rfl⟩ | rfl) ?_
      refine (event22_any 11 4 1 w).mono ?_
      rintro e w' ⟨rfl, hb⟩
      exact ⟨_, rfl, upd60 x 29 (.agg #[.int .u8 11, .int .i64 4, .int .i64 1]), rfl, hJ.put 12 29 (.agg #[.int .u8 11, .int .i64 4, .int .i64 1]) (.ev ⟨11, 4, 1⟩) (by decide) rfl hb rfl⟩
    · refine op_call rfl (by kernel_rfl) (by go_simp; first | exact ⟨rfl, rfl⟩ | rfl) ?_
      refine (event22_any 5 16 1 w).mono ?_
      rintro e w' ⟨rfl, hb⟩
      exact ⟨_, rfl, upd60 x 30 (.agg #[.int .u8 5, .int .i64 16, .int .i64 1]), rfl, hJ.put 13 30 (.agg #[.int .u8 5, .int .i64 16, .int .i64 1]) (.ev ⟨5, 16, 1⟩) (by decide) rfl hb rfl⟩
    · refine op_call rfl (by kernel_rfl) (by go_simp; first | exact ⟨rfl, rfl⟩ | rfl) ?_
      refine (event22_any 8 1024 1 w).mono ?_
      rintro e w' ⟨rfl, hb⟩
      exact ⟨_, rfl, upd60 x 31 (.agg #[.int .u8 8, .int .i64 1024, .int .i64 1]), rfl, hJ.put 14 31 (.agg #[.int .u8 8, .int .i64 1024, .int .i64 1]) (.ev ⟨8, 1024, 1⟩) (by decide) rfl hb rfl⟩
    · have hb3 := hJ.b3
      have x3 := hJ.x3
      refine op_run (v := .agg #[.int .u8 12, .int .i64 0, .int .i64 1]) (w' := w) rfl (by kernel_rfl) (by have c0 := hb3.cellAt 0 rfl; have c1 := hb3.cellAt 1 rfl; have c2 := hb3.cellAt 2 rfl; go_simp; first | done | rfl) ?_
      exact ⟨upd60 x 32 (.agg #[.int .u8 12, .int .i64 0, .int .i64 1]), rfl, hJ.put 15 32 (.agg #[.int .u8 12, .int .i64 0, .int .i64 1]) (.ev ⟨12, 0, 1⟩) (by decide) rfl (Below.refl _ _) rfl⟩
    · have h29 : x 29 = .agg #[.int .u8 11, .int .i64 4, .int .i64 1] := hJ.ev 12 (hdep 12 (by kernel_rfl)) rfl
      have h30 : x 30 = .agg #[.int .u8 5, .int .i64 16, .int .i64 1] := hJ.ev 13 (hdep 13 (by kernel_rfl)) rfl
      have h31 : x 31 = .agg #[.int .u8 8, .int .i64 1024, .int .i64 1] := hJ.ev 14 (hdep 14 (by kernel_rfl)) rfl
      have h32 : x 32 = .agg #[.int .u8 12, .int .i64 0, .int .i64 1] := hJ.ev 15 (hdep 15 (by kernel_rfl)) rfl
      refine op_run (v := .slice (some ⟨w.heap.size, 0, none⟩) 4 4) (w' := w.alloc (.cells #[.int .u8 11, .int .i64 4, .int .i64 1, .int .u8 5, .int .i64 16, .int .i64 1, .int .u8 8, .int .i64 1024, .int .i64 1, .int .u8 12, .int .i64 0, .int .i64 1] 51)) rfl (by kernel_rfl) (by go_simp; first | done | rfl) ?_
      exact ⟨upd60 x 33 (.slice (some ⟨w.heap.size, 0, none⟩) 4 4), rfl, hJ.put 16 33 _ (.run [⟨11, 4, 1⟩, ⟨5, 16, 1⟩, ⟨8, 1024, 1⟩, ⟨12, 0, 1⟩]) (by decide) rfl ((Below.refl _ _).alloc (Nat.le_refl _) _) ⟨_, rfl, litR w [⟨11, 4, 1⟩, ⟨5, 16, 1⟩, ⟨8, 1024, 1⟩, ⟨12, 0, 1⟩] (by decide)⟩⟩
    · refine op_call rfl (by kernel_rfl) (by go_simp; first | exact ⟨rfl, rfl⟩ | rfl) ?_
      refine (event22_any 11 2 1 w).mono ?_
      rintro e w' ⟨rfl, hb⟩
      exact ⟨_, rfl, upd60 x 34 (.agg #[.int .u8 11, .int .i64 2, .int .i64 1]), rfl, hJ.put 17 34 (.agg #[.int .u8 11, .int .i64 2, .int .i64 1]) (.ev ⟨11, 2, 1⟩) (by decide) rfl hb rfl⟩
    · refine op_call rfl (by kernel_rfl) (by go_simp; first | exact ⟨rfl, rfl⟩ | rfl) ?_
      refine (event22_any 1 64 2 w).mono ?_
      rintro e w' ⟨rfl, hb⟩
      exact ⟨_, rfl, upd60 x 35 (.agg #[.int .u8 1, .int .i64 64, .int .i64 2]), rfl, hJ.put 18 35 (.agg #[.int .u8 1, .int .i64 64, .int .i64 2]) (.ev ⟨1, 64, 2⟩) (by decide) rfl hb rfl⟩
    · have hb3 := hJ.b3
      have x3 := hJ.x3
      refine op_run (v := .agg #[.int .u8 12, .int .i64 0, .int .i64 1]) (w' := w) rfl (by kernel_rfl) (by have c0 := hb3.cellAt 0 rfl; have c1 := hb3.cellAt 1 rfl; have c2 := hb3.cellAt 2 rfl; go_simp; first | done | rfl) ?_
      exact ⟨upd60 x 36 (.agg #[.int .u8 12, .int .i64 0, .int .i64 1]), rfl, hJ.put 19 36 (.agg #[.int .u8 12, .int .i64 0, .int .i64 1]) (.ev ⟨12, 0, 1⟩) (by decide) rfl (Below.refl _ _) rfl⟩
    · have h34 : x 34 = .agg #[.int .u8 11, .int .i64 2, .int .i64 1] := hJ.ev 17 (hdep 17 (by kernel_rfl)) rfl
      have h35 : x 35 = .agg #[.int .u8 1, .int .i64 64, .int .i64 2] := hJ.ev 18 (hdep 18 (by kernel_rfl)) rfl
      have h36 : x 36 = .agg #[.int .u8 12, .int .i64 0, .int .i64 1] := hJ.ev 19 (hdep 19 (by kernel_rfl)) rfl
      refine op_run (v := .slice (some ⟨w.heap.size, 0, none⟩) 3 3) (w' := w.alloc (.cells #[.int .u8 11, .int .i64 2, .int .i64 1, .int .u8 1, .int .i64 64, .int .i64 2, .int .u8 12, .int .i64 0, .int .i64 1] 51)) rfl (by kernel_rfl) (by go_simp; first | done | rfl) ?_
      exact ⟨upd60 x 37 (.slice (some ⟨w.heap.size, 0, none⟩) 3 3), rfl, hJ.put 20 37 _ (.run [⟨11, 2, 1⟩, ⟨1, 64, 2⟩, ⟨12, 0, 1⟩]) (by decide) rfl ((Below.refl _ _).alloc (Nat.le_refl _) _) ⟨_, rfl, litR w [⟨11, 2, 1⟩, ⟨1, 64, 2⟩, ⟨12, 0, 1⟩] (by decide)⟩⟩
    · refine op_call rfl (by kernel_rfl) (by go_simp; first | exact ⟨rfl, rfl⟩ | rfl) ?_
      refine (event22_any 11 5 1 w).mono ?_
      rintro e w' ⟨rfl, hb⟩
      exact ⟨_, rfl, upd60 x 38 (.agg #[.int .u8 11, .int .i64 5, .int .i64 1]), rfl, hJ.put 21 38 (.agg #[.int .u8 11, .int .i64 5, .int .i64 1]) (.ev ⟨11, 5, 1⟩) (by decide) rfl hb rfl⟩
    · refine op_call rfl (by kernel_rfl) (by go_simp; first | exact ⟨rfl, rfl⟩ | rfl) ?_
      refine (event22_any 1 64 2 w).mono ?_
      rintro e w' ⟨rfl, hb⟩
      exact ⟨_, rfl, upd60 x 39 (.agg #[.int .u8 1, .int .i64 64, .int .i64 2]), rfl, hJ.put 22 39 (.agg #[.int .u8 1, .int .i64 64, .int .i64 2]) (.ev ⟨1, 64, 2⟩) (by decide) rfl hb rfl⟩
    · refine op_call rfl (by kernel_rfl) (by go_simp; first | exact ⟨rfl, rfl⟩ | rfl) ?_
      refine (event22_any 6 20 1 w).mono ?_
      rintro e w' ⟨rfl, hb⟩
      exact ⟨_, rfl, upd60 x 40 (.agg #[.int .u8 6, .int .i64 20, .int .i64 1]), rfl, hJ.put 23 40 (.agg #[.int .u8 6, .int .i64 20, .int .i64 1]) (.ev ⟨6, 20, 1⟩) (by decide) rfl hb rfl⟩
    · refine op_call rfl (by kernel_rfl) (by go_simp; first | exact ⟨rfl, rfl⟩ | rfl) ?_
      refine (event22_any 8 1024 1 w).mono ?_
      rintro e w' ⟨rfl, hb⟩
      exact ⟨_, rfl, upd60 x 41 (.agg #[.int .u8 8, .int .i64 1024, .int .i64 1]), rfl, hJ.put 24 41 (.agg #[.int .u8 8, .int .i64 1024, .int .i64 1]) (.ev ⟨8, 1024, 1⟩) (by decide) rfl hb rfl⟩
    · have hb3 := hJ.b3
      have x3 := hJ.x3
      refine op_run (v := .agg #[.int .u8 12, .int .i64 0, .int .i64 1]) (w' := w) rfl (by kernel_rfl) (by have c0 := hb3.cellAt 0 rfl; have c1 := hb3.cellAt 1 rfl; have c2 := hb3.cellAt 2 rfl; go_simp; first | done | rfl) ?_
      exact ⟨upd60 x 42 (.agg #[.int .u8 12, .int .i64 0, .int .i64 1]), rfl, hJ.put 25 42 (.agg #[.int .u8 12, .int .i64 0, .int .i64 1]) (.ev ⟨12, 0, 1⟩) (by decide) rfl (Below.refl _ _) rfl⟩
    · have h38 : x 38 = .agg #[.int .u8 11, .int .i64 5, .int .i64 1] := hJ.ev 21 (hdep 21 (by kernel_rfl)) rfl
      have h39 : x 39 = .agg #[.int .u8 1, .int .i64 64, .int .i64 2] := hJ.ev 22 (hdep 22 (by kernel_rfl)) rfl
      have h40 : x 40 = .agg #[.int .u8 6, .int .i64 20, .int .i64 1] := hJ.ev 23 (hdep 23 (by kernel_rfl)) rfl
      have h41 : x 41 = .agg #[.int .u8 8, .int .i64 1024, .int .i64 1] := hJ.ev 24 (hdep 24 (by kernel_rfl)) rfl
      have h42 : x 42 = .agg #[.int .u8 12, .int .i64 0, .int .i64 1] := hJ.ev 25 (hdep 25 (by kernel_rfl)) rfl
      refine op_run (v := .slice (some ⟨w.heap.size, 0, none⟩) 5 5) (w' := w.alloc (.cells #[.int .u8 11, .int .i64 5, .int .i64 1, .int .u8 1, .int .i64 64, .int .i64 2, .int .u8 6, .int .i64 20, .int .i64 1, .int .u8 8, .int .i64 1024, .int .i64 1, .int .u8 12, .int .i64 0, .int .i64 1] 51)) rfl (by kernel_rfl) (by go_simp; first | done | rfl) ?_
      exact ⟨upd60 x 43 (.slice (some ⟨w.heap.size, 0, none⟩) 5 5), rfl, hJ.put 26 43 _ (.run [⟨11, 5, 1⟩, ⟨1, 64, 2⟩, ⟨6, 20, 1⟩, ⟨8, 1024, 1⟩, ⟨12, 0, 1⟩]) (by decide) rfl ((Below.refl _ _).alloc (Nat.le_refl _) _) ⟨_, rfl, litR w [⟨11, 5, 1⟩, ⟨1, 64, 2⟩, ⟨6, 20, 1⟩, ⟨8, 1024, 1⟩, ⟨12, 0, 1⟩] (by decide)⟩⟩
    · refine op_call rfl (by kernel_rfl) (by go_simp; first | exact ⟨rfl, rfl⟩ | rfl) ?_
      refine (event22_any 11 8 1 w).mono ?_
      rintro e w' ⟨rfl, hb⟩
      exact ⟨_, rfl, upd60 x 44 (.agg #[.int .u8 11, .int .i64 8, .int .i64 1]), rfl, hJ.put 27 44 (.agg #[.int .u8 11, .int .i64 8, .int .i64 1]) (.ev ⟨11, 8, 1⟩) (by decide) rfl hb rfl⟩
    · refine op_call rfl (by kernel_rfl) (by go_simp; first | exact ⟨rfl, rfl⟩ | rfl) ?_
      refine (event22_any 2 128 14 w).mono ?_
      rintro e w' ⟨rfl, hb⟩
      exact ⟨_, rfl, upd60 x 45 (.agg #[.int .u8 2, .int .i64 128, .int .i64 14]), rfl, hJ.put 28 45 (.agg #[.int .u8 2, .int .i64 128, .int .i64 14]) (.ev ⟨2, 128, 14⟩) (by decide) rfl hb rfl⟩
    · have hb3 := hJ.b3
      have x3 := hJ.x3
      refine op_run (v := .agg #[.int .u8 12, .int .i64 0, .int .i64 1]) (w' := w) rfl (by kernel_rfl) (by have c0 := hb3.cellAt 0 rfl; have c1 := hb3.cellAt 1 rfl; have c2 := hb3.cellAt 2 rfl; go_simp; first | done | rfl) ?_
      exact ⟨upd60 x 46 (.agg #[.int .u8 12, .int .i64 0, .int .i64 1]), rfl, hJ.put 29 46 (.agg #[.int .u8 12, .int .i64 0, .int .i64 1]) (.ev ⟨12, 0, 1⟩) (by decide) rfl (Below.refl _ _) rfl⟩
    · have h44 : x 44 = .agg #[.int .u8 11, .int .i64 8, .int .i64 1] := hJ.ev 27 (hdep 27 (by kernel_rfl)) rfl
      have h45 : x 45 = .agg #[.int .u8 2, .int .i64 128, .int .i64 14] := hJ.ev 28 (hdep 28 (by kernel_rfl)) rfl
      have h46 : x 46 = .agg #[.int .u8 12, .int .i64 0, .int .i64 1] := hJ.ev 29 (hdep 29 (by kernel_rfl)) rfl
      refine op_run (v := .slice (some ⟨w.heap.size, 0, none⟩) 3 3) (w' := w.alloc (.cells #[.int .u8 11, .int .i64 8, .int .i64 1, .int .u8 2, .int .i64 128, .int .i64 14, .int .u8 12, .int .i64 0, .int .i64 1] 51)) rfl (by kernel_rfl) (by go_simp; first | done | rfl) ?_
      exact ⟨upd60 x 47 (.slice (some ⟨w.heap.size, 0, none⟩) 3 3), rfl, hJ.put 30 47 _ (.run [⟨11, 8, 1⟩, ⟨2, 128, 14⟩, ⟨12, 0, 1⟩]) (by decide) rfl ((Below.refl _ _).alloc (Nat.le_refl _) _) ⟨_, rfl, litR w [⟨11, 8, 1⟩, ⟨2, 128, 14⟩, ⟨12, 0, 1⟩] (by decide)⟩⟩
    · refine op_call rfl (by kernel_rfl) (by go_simp; first | exact ⟨rfl, rfl⟩ | rfl) ?_
      refine (event22_any 11 4 1 w).mono ?_
      rintro e w' ⟨rfl, hb⟩
      exact ⟨_, rfl, upd60 x 48 (.agg #[.int .u8 11, .int .i64 4, .int .i64 1]), rfl, hJ.put 31 48 (.agg #[.int .u8 11, .int .i64 4, .int .i64 1]) (.ev ⟨11, 4, 1⟩) (by decide) rfl hb rfl⟩
    · refine op_call rfl (by kernel_rfl) (by go_simp; first | exact ⟨rfl, rfl⟩ | rfl) ?_
      refine (event22_any 12 6 1 w).mono ?_
      rintro e w' ⟨rfl, hb⟩
      exact ⟨_, rfl, upd60 x 49 (.agg #[.int .u8 12, .int .i64 6, .int .i64 1]), rfl, hJ.put 32 49 (.agg #[.int .u8 12, .int .i64 6, .int .i64 1]) (.ev ⟨12, 6, 1⟩) (by decide) rfl hb rfl⟩
    · have h48 : x 48 = .agg #[.int .u8 11, .int .i64 4, .int .i64 1] := hJ.ev 31 (hdep 31 (by kernel_rfl)) rfl
      have h49 : x 49 = .agg #[.int .u8 12, .int .i64 6, .int .i64 1] := hJ.ev 32 (hdep 32 (by kernel_rfl)) rfl
      refine op_run (v := .slice (some ⟨w.heap.size, 0, none⟩) 2 2) (w' := w.alloc (.cells #[.int .u8 11, .int .i64 4, .int .i64 1, .int .u8 12, .int .i64 6, .int .i64 1] 51)) rfl (by kernel_rfl) (by go_simp; first | done | rfl) ?_
      exact ⟨upd60 x 50 (.slice (some ⟨w.heap.size, 0, none⟩) 2 2), rfl, hJ.put 33 50 _ (.run [⟨11, 4, 1⟩, ⟨12, 6, 1⟩]) (by decide) rfl ((Below.refl _ _).alloc (Nat.le_refl _) _) ⟨_, rfl, litR w [⟨11, 4, 1⟩, ⟨12, 6, 1⟩] (by decide)⟩⟩
    · refine op_call rfl (by kernel_rfl) (by go_simp; first | exact ⟨rfl, rfl⟩ | rfl) ?_
      refine (event22_any 11 10 1 w).mono ?_
      rintro e w' ⟨rfl, hb⟩
      exact ⟨_, rfl, upd60 x 51 (.agg #[.int .u8 11, .int .i64 10, .int .i64 1]), rfl, hJ.put 34 51 (.agg #[.int .u8 11, .int .i64 10, .int .i64 1]) (.ev ⟨11, 10, 1⟩) (by decide) rfl hb rfl⟩
    · refine op_call rfl (by kernel_rfl) (by go_simp; first | exact ⟨rfl, rfl⟩ | rfl) ?_
      refine (event22_any 12 5 1 w).mono ?_
      rintro e w' ⟨rfl, hb⟩
      exact ⟨_, rfl, upd60 x 52 (.agg #[.int .u8 12, .int .i64 5, .int .i64 1]), rfl, hJ.put 35 52 (.agg #[.int .u8 12, .int .i64 5, .int .i64 1]) (.ev ⟨12, 5, 1⟩) (by decide) rfl hb rfl⟩
    · have h51 : x 51 = .agg #[.int .u8 11, .int .i64 10, .int .i64 1] := hJ.ev 34 (hdep 34 (by kernel_rfl)) rfl
      have h52 : x 52 = .agg #[.int .u8 12, .int .i64 5, .int .i64 1] := hJ.ev 35 (hdep 35 (by kernel_rfl)) rfl
      refine op_run (v := .slice (some ⟨w.heap.size, 0, none⟩) 2 2) (w' := w.alloc (.cells #[.int .u8 11, .int .i64 10, .int .i64 1, .int .u8 12, .int .i64 5, .int .i64 1] 51)) rfl (by kernel_rfl) (by go_simp; first | done | rfl) ?_
      exact ⟨upd60 x 53 (.slice (some ⟨w.heap.size, 0, none⟩) 2 2), rfl, hJ.put 36 53 _ (.run [⟨11, 10, 1⟩, ⟨12, 5, 1⟩]) (by decide) rfl ((Below.refl _ _).alloc (Nat.le_refl _) _) ⟨_, rfl, litR w [⟨11, 10, 1⟩, ⟨12, 5, 1⟩] (by decide)⟩⟩
    · refine op_call rfl (by kernel_rfl) (by go_simp; first | exact ⟨rfl, rfl⟩ | rfl) ?_
      refine (event22_any 11 99 1 w).mono ?_
      rintro e w' ⟨rfl, hb⟩
      exact ⟨_, rfl, upd60 x 54 (.agg #[.int .u8 11, .int .i64 99, .int .i64 1]), rfl, hJ.put 37 54 (.agg #[.int .u8 11, .int .i64 99, .int .i64 1]) (.ev ⟨11, 99, 1⟩) (by decide) rfl hb rfl⟩
    · refine op_call rfl (by kernel_rfl) (by go_simp; first | exact ⟨rfl, rfl⟩ | rfl) ?_
      refine (event22_any 12 3 1 w).mono ?_
      rintro e w' ⟨rfl, hb⟩
      exact ⟨_, rfl, upd60 x 55 (.agg #[.int .u8 12, .int .i64 3, .int .i64 1]), rfl, hJ.put 38 55 (.agg #[.int .u8 12, .int .i64 3, .int .i64 1]) (.ev ⟨12, 3, 1⟩) (by decide) rfl hb rfl⟩
    · have h54 : x 54 = .agg #[.int .u8 11, .int .i64 99, .int .i64 1] := hJ.ev 37 (hdep 37 (by kernel_rfl)) rfl
      have h55 : x 55 = .agg #[.int .u8 12, .int .i64 3, .int .i64 1] := hJ.ev 38 (hdep 38 (by kernel_rfl)) rfl
      refine op_run (v := .slice (some ⟨w.heap.size, 0, none⟩) 2 2) (w' := w.alloc (.cells #[.int .u8 11, .int .i64 99, .int .i64 1, .int .u8 12, .int .i64 3, .int .i64 1] 51)) rfl (by kernel_rfl) (by go_simp; first | done | rfl) ?_
      exact ⟨upd60 x 56 (.slice (some ⟨w.heap.size, 0, none⟩) 2 2), rfl, hJ.put 39 56 _ (.run [⟨11, 99, 1⟩, ⟨12, 3, 1⟩]) (by decide) rfl ((Below.refl _ _).alloc (Nat.le_refl _) _) ⟨_, rfl, litR w [⟨11, 99, 1⟩, ⟨12, 3, 1⟩] (by decide)⟩⟩
    · obtain ⟨b19, h19, r19⟩ := hJ.run 2 (hdep 2 (by kernel_rfl)) [⟨11, 1, 1⟩, ⟨12, 0, 1⟩] rfl
      have h19 : x 19 = .slice (some ⟨b19, 0, none⟩) 2 2 := h19
      obtain ⟨b24, h24, r24⟩ := hJ.run 7 (hdep 7 (by kernel_rfl)) [⟨11, 2, 1⟩, ⟨4, 16, 1⟩, ⟨5, 16, 1⟩, ⟨12, 0, 1⟩] rfl
      have h24 : x 24 = .slice (some ⟨b24, 0, none⟩) 4 4 := h24
      obtain ⟨b28, h28, r28⟩ := hJ.run 11 (hdep 11 (by kernel_rfl)) [⟨11, 3, 1⟩, ⟨5, 16, 2⟩, ⟨12, 0, 1⟩] rfl
      have h28 : x 28 = .slice (some ⟨b28, 0, none⟩) 3 3 := h28
      obtain ⟨b33, h33, r33⟩ := hJ.run 16 (hdep 16 (by kernel_rfl)) [⟨11, 4, 1⟩, ⟨5, 16, 1⟩, ⟨8, 1024, 1⟩, ⟨12, 0, 1⟩] rfl
      have h33 : x 33 = .slice (some ⟨b33, 0, none⟩) 4 4 := h33
      obtain ⟨b37, h37, r37⟩ := hJ.run 20 (hdep 20 (by kernel_rfl)) [⟨11, 2, 1⟩, ⟨1, 64, 2⟩, ⟨12, 0, 1⟩] rfl
      have h37 : x 37 = .slice (some ⟨b37, 0, none⟩) 3 3 := h37
      obtain ⟨b43, h43, r43⟩ := hJ.run 26 (hdep 26 (by kernel_rfl)) [⟨11, 5, 1⟩, ⟨1, 64, 2⟩, ⟨6, 20, 1⟩, ⟨8, 1024, 1⟩, ⟨12, 0, 1⟩] rfl
      have h43 : x 43 = .slice (some ⟨b43, 0, none⟩) 5 5 := h43
      obtain ⟨b47, h47, r47⟩ := hJ.run 30 (hdep 30 (by kernel_rfl)) [⟨11, 8, 1⟩, ⟨2, 128, 14⟩, ⟨12, 0, 1⟩] rfl
      have h47 : x 47 = .slice (some ⟨b47, 0, none⟩) 3 3 := h47
      obtain ⟨b50, h50, r50⟩ := hJ.run 33 (hdep 33 (by kernel_rfl)) [⟨11, 4, 1⟩, ⟨12, 6, 1⟩] rfl
      have h50 : x 50 = .slice (some ⟨b50, 0, none⟩) 2 2 := h50
      obtain ⟨b53, h53, r53⟩ := hJ.run 36 (hdep 36 (by kernel_rfl)) [⟨11, 10, 1⟩, ⟨12, 5, 1⟩] rfl
      have h53 : x 53 = .slice (some ⟨b53, 0, none⟩) 2 2 := h53
      obtain ⟨b56, h56, r56⟩ := hJ.run 39 (hdep 39 (by kernel_rfl)) [⟨11, 99, 1⟩, ⟨12, 3, 1⟩] rfl
      have h56 : x 56 = .slice (some ⟨b56, 0, none⟩) 2 2 := h56
      have hb : Below w.heap.size w (w.alloc (.cells #[.slice (some ⟨b19, 0, none⟩) 2 2, .slice (some ⟨b24, 0, none⟩) 4 4, .slice (some ⟨b28, 0, none⟩) 3 3, .slice (some ⟨b33, 0, none⟩) 4 4, .slice (some ⟨b37, 0, none⟩) 3 3, .slice (some ⟨b43, 0, none⟩) 5 5, .slice (some ⟨b47, 0, none⟩) 3 3, .slice (some ⟨b50, 0, none⟩) 2 2, .slice (some ⟨b53, 0, none⟩) 2 2, .slice (some ⟨b56, 0, none⟩) 2 2] 31)) := (Below.refl _ _).alloc (Nat.le_refl _) _
      have hblk := Blk.new w 31 #[.slice (some ⟨b19, 0, none⟩) 2 2, .slice (some ⟨b24, 0, none⟩) 4 4, .slice (some ⟨b28, 0, none⟩) 3 3, .slice (some ⟨b33, 0, none⟩) 4 4, .slice (some ⟨b37, 0, none⟩) 3 3, .slice (some ⟨b43, 0, none⟩) 5 5, .slice (some ⟨b47, 0, none⟩) 3 3, .slice (some ⟨b50, 0, none⟩) 2 2, .slice (some ⟨b53, 0, none⟩) 2 2, .slice (some ⟨b56, 0, none⟩) 2 2]
      refine op_run (v := .slice (some ⟨w.heap.size, 0, none⟩) 10 10) (w' := w.alloc (.cells #[.slice (some ⟨b19, 0, none⟩) 2 2, .slice (some ⟨b24, 0, none⟩) 4 4, .slice (some ⟨b28, 0, none⟩) 3 3, .slice (some ⟨b33, 0, none⟩) 4 4, .slice (some ⟨b37, 0, none⟩) 3 3, .slice (some ⟨b43, 0, none⟩) 5 5, .slice (some ⟨b47, 0, none⟩) 3 3, .slice (some ⟨b50, 0, none⟩) 2 2, .slice (some ⟨b53, 0, none⟩) 2 2, .slice (some ⟨b56, 0, none⟩) 2 2] 31)) rfl (by kernel_rfl) (by go_simp; first | done | rfl) ?_
      refine ⟨upd60 x 57 (.slice (some ⟨w.heap.size, 0, none⟩) 10 10), rfl, hJ.put 40 57 _ .all (by decide) rfl hb ⟨_, rfl, fun j rs hj => ?_⟩⟩
      match j, hj with
        | 0, e => exact ⟨_, hblk.cellAt 0 rfl, by injection e with e; subst e; exact r19.grow hb⟩
        | 1, e => exact ⟨_, hblk.cellAt 1 rfl, by injection e with e; subst e; exact r24.grow hb⟩
        | 2, e => exact ⟨_, hblk.cellAt 2 rfl, by injection e with e; subst e; exact r28.grow hb⟩
        | 3, e => exact ⟨_, hblk.cellAt 3 rfl, by injection e with e; subst e; exact r33.grow hb⟩
        | 4, e => exact ⟨_, hblk.cellAt 4 rfl, by injection e with e; subst e; exact r37.grow hb⟩
        | 5, e => exact ⟨_, hblk.cellAt 5 rfl, by injection e with e; subst e; exact r43.grow hb⟩
        | 6, e => exact ⟨_, hblk.cellAt 6 rfl, by injection e with e; subst e; exact r47.grow hb⟩
        | 7, e => exact ⟨_, hblk.cellAt 7 rfl, by injection e with e; subst e; exact r50.grow hb⟩
        | 8, e => exact ⟨_, hblk.cellAt 8 rfl, by injection e with e; subst e; exact r53.grow hb⟩
        | 9, e => exact ⟨_, hblk.cellAt 9 rfl, by injection e with e; subst e; exact r56.grow hb⟩
        | j + 10, e => exact absurd e (by simp [wants])
    · obtain ⟨b, h57, ha⟩ := hJ.all 40 (hdep 40 (by kernel_rfl)) rfl
      have h57 : x 57 = .slice (some ⟨b, 0, none⟩) 10 10 := h57
      refine op_run (v := .slice (some ⟨b, 0, none⟩) 10 10) (w' := w) rfl (by kernel_rfl) (by go_simp; first | done | rfl) ?_
      exact ⟨upd60 x 4 (.slice (some ⟨b, 0, none⟩) 10 10), rfl, hJ.put 41 4 _ .all (by decide) rfl (Below.refl _ _) ⟨b, rfl, ha⟩⟩
set_option maxHeartbeats 4000000 in
theorem awake_any (w : World) : Calls Try.prog 9 #[] w fun e w' => e = .returned (.bool true) ∧ Below w.heap.size w w' := by
  go_enter Try.func9, Try.ntmps9
  go_wp2_with fail
  refine (example_any _).mono ?_
  rintro e w1 ⟨u, v, rfl, hb, hu, hv⟩
  obtain ⟨b, rfl, _⟩ := id hv
  have HB := Lib.hid hb
  have HU := Lib.hid hu
  have HV := Lib.hid hv
  clear hb hu hv
  go_wp2_with fail
  refine (each_env (Env.start w1) (RdS.old HU.out) exL_ok (by decide)).mono ?_
  rintro e w2 ⟨u2, ts, rfl, hts, h2⟩
  rw [List.nil_append] at h2
  have hlen : ts.length = 10 := by
    have e1 := congrArg List.length hts
    rw [List.length_map, awake_plain] at e1
    exact e1
  obtain ⟨g, c, rfl, _, _⟩ := obTR_slice h2 0 rfl (by omega)
  rw [awake_plain] at hts
  rw [hlen] at h2
  have H2 := Lib.hid h2
  have HT := Lib.hid hts
  have HL := Lib.hid hlen
  clear h2 hts hlen
  rw [HL.out]
  go_wp2_with fail
  go_loopw [4] (fun iv wx => ∃ j : Nat, j ≤ 10 ∧ iv = .int .i64 (j : Int) ∧ Hid (Env w1 wx [obTR (.slice (some ⟨g, 0, none⟩) 10 c) ts])) (fun iv _ => 10 - (intOf iv).toNat)
  case atStart => exact ⟨0, Nat.zero_le _, rfl, H2⟩
  case round =>
    obtain ⟨j, hj, rfl, HK⟩ := hrel
    clear H2
    by_cases hlt : j < 10
    · have t3 : decide ((j : Int) < 10) = true := by rw [decide_eq_true_eq]; omega
      have bj : 0 ≤ (j : Int) ∧ (j : Int) < 10 := by omega
      obtain ⟨⟨rv, r⟩, hr⟩ : ∃ y, ts[j]? = some y := ⟨_, List.getElem?_eq_getElem (by rw [HL.out]; exact hlt)⟩
      have hw : wants[j]? = some r := by
        rw [← HT.out, List.getElem?_map, hr]
        rfl
      obtain ⟨b', e1, hal⟩ := HV.out
      injection e1 with e1 _ _
      injection e1 with e1
      injection e1 with e1 _ _
      subst e1
      obtain ⟨sv, d1, r1⟩ := hal j r hw
      have HD := Lib.hid (And.intro d1 r1)
      have HR := Lib.hid hr
      have hS : Hid (∀ W, Env w1 W [obTR (.slice (some ⟨g, 0, none⟩) 10 c) ts] → SAw g b j rv sv W ∧ KN.R W rv r ∧ KN.R W sv r) := Lib.hid fun W hW => ⟨⟨obTR_cell hW 0 rfl HR.out, (hW.base.cell (World.block_lt_of_cell? w1 _ HD.out.1)).trans HD.out.1⟩, obTR_get hW 0 rfl HR.out, HD.out.2.grow hW.base⟩
      clear hal hr hw d1 r1
      go_upto_region 8 with fail
      refine hd_start (SAw g b j rv sv) (by kernel_rfl) ?_
      intro w3 hw'
      have H3 := Lib.hid (HK.out.draw 1)
      rw [← hw'] at H3
      clear hw' HK
      have S3 := (hS.out _ H3.out).1
      refine hd_take (v := ?_) 0 rfl (by kernel_rfl) (fun _ _ d _ _ h => (by cases d <;> exact h)) (by kernel_rfl) S3 (fun w' hS => ?_) ?_
      rotate_left
      focus (have q0 := SAw.id w' hS; clear hS; go_simp; try rfl; done)
      simp only [List.getElem_toArray, List.getElem_cons_succ, List.getElem_cons_zero, Act.put, List.setIfInBounds_toArray, List.set_cons_zero, List.set_cons_succ]
      refine hd_take (v := ?_) 1 rfl (by kernel_rfl) (fun _ _ d _ _ h => (by cases d <;> exact h)) (by kernel_rfl) S3 (fun w' hS => ?_) ?_
      rotate_left
      focus (have q0 := SAw.id w' hS; clear hS; go_simp; try rfl; done)
      simp only [List.getElem_toArray, List.getElem_cons_succ, List.getElem_cons_zero, Act.put, List.setIfInBounds_toArray, List.set_cons_zero, List.set_cons_succ]
      refine hd_take (v := ?_) 2 rfl (by kernel_rfl) (fun _ _ d _ _ h => (by cases d <;> exact h)) (by kernel_rfl) S3 (fun w' hS => ?_) ?_
      rotate_left
      focus (have q0 := SAw.id w' hS; clear hS; go_simp; try rfl; done)
      simp only [List.getElem_toArray, List.getElem_cons_succ, List.getElem_cons_zero, Act.put, List.setIfInBounds_toArray, List.set_cons_zero, List.set_cons_succ]
      refine hd_take (v := ?_) 3 rfl (by kernel_rfl) (fun _ _ d _ _ h => (by cases d <;> exact h)) (by kernel_rfl) S3 (fun w' hS => ?_) ?_
      rotate_left
      focus (have q0 := SAw.id w' hS; clear hS; go_simp; try rfl; done)
      simp only [List.getElem_toArray, List.getElem_cons_succ, List.getElem_cons_zero, Act.put, List.setIfInBounds_toArray, List.set_cons_zero, List.set_cons_succ]
      refine hd_take (v := ?_) 4 rfl (by kernel_rfl) (fun _ _ d _ _ h => (by cases d <;> exact h)) (by kernel_rfl) S3 (fun w' hS => ?_) ?_
      rotate_left
      focus (have q0 := SAw.id w' hS; clear hS; go_simp; try rfl; done)
      simp only [List.getElem_toArray, List.getElem_cons_succ, List.getElem_cons_zero, Act.put, List.setIfInBounds_toArray, List.set_cons_zero, List.set_cons_succ]
      refine hd_take (v := ?_) 5 rfl (by kernel_rfl) (fun _ _ d _ _ h => (by cases d <;> exact h)) (by kernel_rfl) S3 (fun w' hS => ?_) ?_
      rotate_left
      focus (have q0 := SAw.id w' hS; clear hS; go_simp; try rfl; done)
      simp only [List.getElem_toArray, List.getElem_cons_succ, List.getElem_cons_zero, Act.put, List.setIfInBounds_toArray, List.set_cons_zero, List.set_cons_succ]
      refine hd_take (v := ?_) 6 rfl (by kernel_rfl) (fun _ _ d _ _ h => (by cases d <;> exact h)) (by kernel_rfl) S3 (fun w' hS => ?_) ?_
      rotate_left
      focus (have q0 := SAw.id w' hS; clear hS; go_simp; try rfl; done)
      simp only [List.getElem_toArray, List.getElem_cons_succ, List.getElem_cons_zero, Act.put, List.setIfInBounds_toArray, List.set_cons_zero, List.set_cons_succ]
      refine hd_take (v := ?_) 7 rfl (by kernel_rfl) (fun _ _ d _ _ h => (by cases d <;> exact h)) (by kernel_rfl) S3 (fun w' hS => ?_) ?_
      rotate_left
      focus (have q0 := SAw.id w' hS; clear hS; go_simp; try rfl; done)
      simp only [List.getElem_toArray, List.getElem_cons_succ, List.getElem_cons_zero, Act.put, List.setIfInBounds_toArray, List.set_cons_zero, List.set_cons_succ]
      refine hd_one 8 (by kernel_rfl) ?_
      refine op_call rfl (by kernel_rfl) (by go_simp; first | exact ⟨rfl, rfl⟩ | rfl) ?_
      refine (sameRuns_env' H3.out (hS.out _ H3.out).2.1 (hS.out _ H3.out).2.2).mono ?_
      rintro e w4 ⟨he, h5⟩
      rw [decide_eq_true rfl] at he
      subst he
      have hS2 := (hS.out _ h5).1
      have S4 := hS2
      have H5 := Lib.hid h5
      clear h5
      refine ⟨_, rfl, hS2, ?_⟩
      simp only [List.getElem_toArray, List.getElem_cons_succ, List.getElem_cons_zero, Act.put, List.setIfInBounds_toArray, List.set_cons_zero, List.set_cons_succ]
      refine hd_take (v := ?_) 9 rfl (by kernel_rfl) (fun _ _ d _ _ h => (by cases d <;> exact h)) (by kernel_rfl) S4 (fun w' hS => ?_) ?_
      rotate_left
      focus (clear hS; go_simp; try rfl; done)
      simp only [List.getElem_toArray, List.getElem_cons_succ, List.getElem_cons_zero, Act.put, List.setIfInBounds_toArray, List.set_cons_zero, List.set_cons_succ]
      refine hd_done (by kernel_rfl) ?_
      clear S3 S4 hS
      have hw1 : IntKind.i64.wrap ((j : Int) + 1) = ((j + 1 : Nat) : Int) := by rw [IntWalk.i64_in _ (by omega)]; omega
      go_wp2_with fail
      refine ⟨⟨j + 1, by omega, rfl, H5⟩, ?_⟩
      simp only [intOf]
      omega
    · have t3 : decide ((j : Int) < 10) = false := by rw [decide_eq_false_iff_not]; omega
      go_wp2_with fail
      go_ret
      exact ⟨rfl, HB.out.trans (HK.out.base.mono HB.out.size)⟩
end Go.Proofs.Ytkidijjhedjifaa
/- Opening a list of elements of any kind. No program in sight. -/
namespace Go.Proofs.Ytkidijjhedjifaa
open Go.RowKit Go.ChangeShapes Go.WideShapes Go.Deep
set_option maxRecDepth 100000
theorem open_elems {H : Type} {enc : TypeId × Value → H} {P : Program} {W : World} {base : Nat} {α : Type} (K : Knd α) (Q : α → Prop) {t e : TypeId} {v : Value} {d : DataW H} {p : List MemPlace} (ht : P.underlying t = some (.slice e)) (hC : P.cellsOf e = K.sz)
    (dec : ∀ n cs y, DataW.trod enc P W 0 (fun _ => true) true n e cs = some y → ∃ x, Q x ∧ cs = K.cv x)
    (hval : Value.okWide P W .any base t v) (h : DataW.Trod enc P W 0 (fun _ => true) true t v d p) : ∃ l : List α, K.R W v l ∧ (∀ x ∈ l, Q x) ∧ (l = [] ∨ ∃ es sp, d = .slice es sp ∧ es.length = l.length) := by
  obtain ⟨a0, len0, cap0, rfl⟩ := Go.WideShapes.okWide_slice ht hval
  obtain ⟨fuel, hf⟩ := h
  rcases open_slice ht hf with ⟨hcs, _⟩ | ⟨a, len, cap, m, n, D, Pl, hcs, _, hl, hm, hmm, hx, hi⟩
  · simp only [Value.cells] at hcs
    injection hcs with hcs _
    rw [hcs]
    exact ⟨[], Knd.R.nil W, (fun _ h => by cases h), .inl rfl⟩
  · simp only [Value.cells] at hcs
    injection hcs with hcs _
    rw [hcs]
    simp only [if_true] at hmm
    subst hmm
    rw [hC] at hi
    have key : ∀ k, k ≤ len → ∃ l : List α, l.length = k ∧ (∀ x ∈ l, Q x) ∧ ∀ i x, l[i]? = some x → W.cells? 0 (a.add (i * K.sz)) K.sz = some (K.cv x) := by
      intro k
      induction k with
      | zero => exact fun _ => ⟨[], rfl, (fun _ h => by cases h), fun i x hix => by simp at hix⟩
      | succ k ih =>
        intro hk
        obtain ⟨l, hl1, hl2, hl3⟩ := ih (by omega)
        obtain ⟨cs', h1, h2⟩ := hi k (by omega)
        obtain ⟨x, hq, rfl⟩ := dec _ _ _ h2
        refine ⟨l ++ [x], by simp [hl1], fun y hy => ?_, fun i y hy => ?_⟩
        · rcases List.mem_append.1 hy with hy | hy
          · exact hl2 y hy
          · simp at hy; subst hy; exact hq
        · by_cases hik : i < k
          · rw [List.getElem?_append_left (by omega)] at hy
            exact hl3 i y hy
          · have hik2 : i = k := by
              have := (List.getElem?_eq_some_iff.1 hy).1
              simp [hl1] at this
              omega
            subst hik2
            rw [List.getElem?_append_right (by omega), hl1, Nat.sub_self] at hy
            simp at hy
            subst hy
            exact h1
    obtain ⟨l, hl1, hl2, hl3⟩ := key len (Nat.le_refl _)
    injection hx with hx1 hx2
    refine ⟨l, ⟨K.fl_len l, K.fl_cells l, some a, m, by rw [hl1], by rw [hl1]; exact hl, by simp only [maxLen] at hm; omega, (fun h => by cases h), fun j u hj => ?_⟩, hl2, .inr ⟨_, _, hx1, by simp [hl1]⟩⟩
    have hpos := K.pos
    have hjl : j < l.length * K.sz := by
      have := (List.getElem?_eq_some_iff.1 hj).1
      rwa [K.fl_len] at this
    have hil : j / K.sz < l.length := Nat.div_lt_of_lt_mul (by rw [Nat.mul_comm]; exact hjl)
    have hlx : l[j / K.sz]? = some (l[j / K.sz]) := List.getElem?_eq_getElem hil
    have hc : j % K.sz < K.sz := Nat.mod_lt _ hpos
    have hcells := (World.cells?_some (hl3 _ _ hlx)).2.2 _ hc
    have hfl := K.fl_get l (j / K.sz) (j % K.sz) _ hlx hc
    have hdm : j / K.sz * K.sz + j % K.sz = j := by rw [Nat.mul_comm]; exact Nat.div_add_mod j K.sz
    rw [hdm] at hfl
    rw [hj] at hfl
    rw [← hfl] at hcells
    obtain ⟨b, off, spot⟩ := a
    have hsp : spot = none := by
      cases spot with
      | none => rfl
      | some s =>
        have hl0 : 0 < l.length := Nat.lt_of_le_of_lt (Nat.zero_le _) hil
        have h0 := (World.cells?_some (hl3 0 _ (List.getElem?_eq_getElem hl0))).2.2 0 hpos
        rw [Nat.zero_mul, show ((⟨b, off, some s⟩ : Addr).add 0).add 0 = ⟨b, off, some s⟩ from by simp [Addr.add], List.getElem?_eq_getElem (by rw [K.len]; exact hpos)] at h0
        unfold World.cell? at h0
        split at h0 <;> simp at h0
    subst hsp
    refine ⟨b, off, rfl, ?_⟩
    rw [add_lit, add_lit, Nat.add_assoc, hdm] at hcells
    exact hcells
end Go.Proofs.Ytkidijjhedjifaa
/- What every law's proof ends with: a call that returned true and left all old memory as it was meets the row's post. Conditions: the parameters' types can be read, no variable is named. -/
namespace Go.Proofs.Ytkidijjhedjifaa
open Go.ChangeShapes Go.WideShapes Go.ChangeAt Go.RowKit

section
variable {H : Type} {enc : TypeId × Value → H} {P : Program}

theorem trodAll_stays (hl : laidOutB P = true) {base : Nat} {W W' : World} {sp' : Nat → Bool} :
    ∀ (ts : List TypeId) (vs : List Value) (ds : List (DataW H)) (ps : List MemPlace), (∀ t ∈ ts, P.readableRec t = true ∧ t < P.types.size) →
      DataW.TrodAll enc P W base (fun _ => true) true ts vs ds ps → (∀ p ∈ ps, W.sameAt W' p) → (∀ p ∈ ps, sp' p.block = true) → DataW.TrodAll enc P W' base sp' true ts vs ds ps
  | [], [], [], _, _, h, _, _ => h
  | t :: ts, v :: vs, d :: ds, ps, hts, h, hsame, hs => by
    obtain ⟨p, q, h1, h2, rfl⟩ := h
    have ht := hts t (by simp)
    exact ⟨p, q, WideElems.Trod_stays hl ht.1 ht.2 h1 (fun x hx => hsame x (by simp [hx])) (fun x hx => hs x (by simp [hx])),
      trodAll_stays hl ts vs ds q (fun t ht => hts t (by simp [ht])) h2 (fun x hx => hsame x (by simp [hx])) (fun x hx => hs x (by simp [hx])), rfl⟩
  | [], [], _ :: _, _, _, h, _, _ => h.elim
  | [], _ :: _, _, _, _, h, _, _ => h.elim
  | _ :: _, [], _, _, _, h, _, _ => h.elim
  | _ :: _, _ :: _, [], _, _, h, _, _ => h.elim

theorem law_post {f : Func} {s : ChangeSpec} {tb : TypeId} {W W' : World} {args : Array Value} {ds gs : List (DataW H)} {before : List MemPlace} (hl : laidOutB P = true)
    (hts : f.params.toList.all (fun t => P.readableRec t && decide (t < P.types.size)) = true) (hvars : s.vars = []) (hrt : f.resultTypes = #[tb]) (htb : P.underlying tb = some .bool)
    (hW : DataW.Whole enc P f.params.toList s.vars false W args.toList ds gs before) (hb : Below W.heap.size W W')
    (hs : (s.fn H (ds ++ gs)).results = [.lit (.bool true)]) (hs2 : (s.fn H (ds ++ gs)).args = ds) (hs3 : (s.fn H (ds ++ gs)).vars = []) :
    s.post enc P f false true false false W args (.bool true) W' := by
  have hlt : ∀ p ∈ before, p.block < W.heap.size := fun p hp => hW.lt p hp
  have hW0 := hW
  obtain ⟨p, q, hA, hV, rfl, hz, _⟩ := hW
  have hts' : ∀ t ∈ f.params.toList, P.readableRec t = true ∧ t < P.types.size := by
    intro t ht
    have := List.all_eq_true.1 hts t ht
    simpa using this
  have hg : gs = [] ∧ q = [] := by
    rw [hvars] at hV
    exact trodVars_none hV
  obtain ⟨rfl, rfl⟩ := hg
  refine ⟨ds, [], p ++ [], [], p, [], hW0, ?_, ?_, ?_, ?_, fun h => by cases h⟩
  · rw [hrt, hs]
    exact trodAll_mk1 (shut_bool htb _)
  · rw [hs2]
    exact trodAll_stays hl _ _ _ _ hts' hA (fun x hx => hb.same (hlt x (by simp [hx]))) (fun x hx => by simpa using hlt x (by simp [hx]))
  · rw [hvars, hs3]
    rfl
  · refine World.keptBut_mono (fun x hx => ?_) (hb.frame (· ∈ p ++ []))
    exact ⟨hx, .inr (.inl (by simpa using hx))⟩
end

theorem own : ownKnob Try.prog.godebug = none := by kernel_rfl
theorem laidOut : laidOutB Try.prog = true := by kernel_rfl

end Go.Proofs.Ytkidijjhedjifaa
/- Opening skeletons: one, and a list. -/
namespace Go.Proofs.Ytkidijjhedjifaa
open Go.RowKit Go.ChangeShapes Go.WideShapes Go.ChangeAt
set_option maxRecDepth 100000
set_option linter.unusedVariables false
theorem okU_wf {n : Int} (h : (Lit.int .u8 n).wf = true) : okU n := by
  simp [Lit.wf, IntKind.min, IntKind.max, IntKind.signed, IntKind.bits] at h
  unfold okU
  omega
theorem okI_wf {n : Int} (h : (Lit.int .i64 n).wf = true) : okI n := by
  simp [Lit.wf, IntKind.min, IntKind.max, IntKind.signed, IntKind.bits] at h
  unfold okI
  omega
theorem dec_sk {H : Type} {enc : TypeId × Value → H} {W : World} (n : Nat) (cs : List Value) (y : DataW H × List MemPlace) (h : DataW.trod enc Try.prog W 0 (fun _ => true) true n 43 cs = some y) :
    ∃ s : Sk, OKsk s ∧ cs = KS.cv s := by
  obtain ⟨xs, m, _, _, hl, hxs, hf⟩ := DataW.trod_struct Try.underlying43 h
  have hl2 : cs.length = 7 := hl.trans (by kernel_rfl)
  match cs, hl2 with
  | [c0, c1, c2, c3, c4, c5, c6], _ =>
    have hxs2 : xs.length = 7 := hxs
    match xs, hxs2 with
    | [x0, x1, x2, x3, x4, x5, x6], _ =>
      have h0 : DataW.trod enc Try.prog W 0 (fun _ => true) true m 40 (([c0, c1, c2, c3, c4, c5, c6].drop 0).take (Try.prog.cellsOf 40)) = some x0 := hf 0 _ rfl
      rw [show Try.prog.cellsOf 40 = 1 from by kernel_rfl] at h0
      obtain ⟨a0, g0, _, w0⟩ := DataW.trod_int (x := x0) Try.underlying40 h0
      have e0 : c0 = .int .u8 a0 := by simpa using g0
      have h1 : DataW.trod enc Try.prog W 0 (fun _ => true) true m 3 (([c0, c1, c2, c3, c4, c5, c6].drop 1).take (Try.prog.cellsOf 3)) = some x1 := hf 1 _ rfl
      rw [show Try.prog.cellsOf 3 = 1 from by kernel_rfl] at h1
      obtain ⟨a1, g1, _, w1⟩ := DataW.trod_int (x := x1) Try.underlying3 h1
      have e1 : c1 = .int .i64 a1 := by simpa using g1
      have h2 : DataW.trod enc Try.prog W 0 (fun _ => true) true m 41 (([c0, c1, c2, c3, c4, c5, c6].drop 2).take (Try.prog.cellsOf 41)) = some x2 := hf 2 _ rfl
      rw [show Try.prog.cellsOf 41 = 1 from by kernel_rfl] at h2
      obtain ⟨a2, g2, _, w2⟩ := DataW.trod_int (x := x2) Try.underlying41 h2
      have e2 : c2 = .int .u8 a2 := by simpa using g2
      have h3 : DataW.trod enc Try.prog W 0 (fun _ => true) true m 3 (([c0, c1, c2, c3, c4, c5, c6].drop 3).take (Try.prog.cellsOf 3)) = some x3 := hf 3 _ rfl
      rw [show Try.prog.cellsOf 3 = 1 from by kernel_rfl] at h3
      obtain ⟨a3, g3, _, w3⟩ := DataW.trod_int (x := x3) Try.underlying3 h3
      have e3 : c3 = .int .i64 a3 := by simpa using g3
      have h4 : DataW.trod enc Try.prog W 0 (fun _ => true) true m 3 (([c0, c1, c2, c3, c4, c5, c6].drop 4).take (Try.prog.cellsOf 3)) = some x4 := hf 4 _ rfl
      rw [show Try.prog.cellsOf 3 = 1 from by kernel_rfl] at h4
      obtain ⟨a4, g4, _, w4⟩ := DataW.trod_int (x := x4) Try.underlying3 h4
      have e4 : c4 = .int .i64 a4 := by simpa using g4
      have h5 : DataW.trod enc Try.prog W 0 (fun _ => true) true m 3 (([c0, c1, c2, c3, c4, c5, c6].drop 5).take (Try.prog.cellsOf 3)) = some x5 := hf 5 _ rfl
      rw [show Try.prog.cellsOf 3 = 1 from by kernel_rfl] at h5
      obtain ⟨a5, g5, _, w5⟩ := DataW.trod_int (x := x5) Try.underlying3 h5
      have e5 : c5 = .int .i64 a5 := by simpa using g5
      have h6 : DataW.trod enc Try.prog W 0 (fun _ => true) true m 3 (([c0, c1, c2, c3, c4, c5, c6].drop 6).take (Try.prog.cellsOf 3)) = some x6 := hf 6 _ rfl
      rw [show Try.prog.cellsOf 3 = 1 from by kernel_rfl] at h6
      obtain ⟨a6, g6, _, w6⟩ := DataW.trod_int (x := x6) Try.underlying3 h6
      have e6 : c6 = .int .i64 a6 := by simpa using g6
      subst e0 e1 e2 e3 e4 e5 e6
      exact ⟨⟨a0, a1, a2, a3, a4, a5, a6⟩, ⟨okU_wf w0, okI_wf w1, okU_wf w2, okI_wf w3, okI_wf w4, okI_wf w5, okI_wf w6⟩, rfl⟩
theorem cellsSk : Try.prog.cellsOf 43 = 7 := by kernel_rfl
def InSk (W : World) (v : Value) (l : List Sk) : Prop := KS.R W v l ∧ ∀ s ∈ l, OKsk s
theorem openSks {H : Type} {enc : TypeId × Value → H} {W : World} {base : Nat} {v : Value} {d : DataW H} {p : List MemPlace}
    (hval : Value.okWide Try.prog W .any base 22 v) (h : DataW.Trod enc Try.prog W 0 (fun _ => true) true 22 v d p) : ∃ l : List Sk, InSk W v l := by
  obtain ⟨l, hl, hq, hh⟩ := open_elems KS OKsk Try.underlying22 cellsSk dec_sk hval h
  exact ⟨l, hl, hq⟩
end Go.Proofs.Ytkidijjhedjifaa
/- The law CostBegins: a part of the operations ahead costs what it cost. -/
namespace Go.Proofs.Ytkidijjhedjifaa
open Go.RowKit
set_option maxRecDepth 100000
set_option linter.unusedVariables false
set_option linter.unusedSimpArgs false
attribute [local go_sem] Oper.semAt_some
theorem pick22 (i n : Int) (w : World) (hn : 0 < n) (hn' : n ≤ 9223372036854775807) :
    Calls Try.prog 10 #[.int .i64 i, .int .i64 n] w fun e w' => e = .returned (.int .i64 (i % n)) ∧ w = w' := by
  have ht : i.tmod n = if i % n = 0 ∨ 0 ≤ i then i % n else i % n - n := by
    have := Int.emod_nonneg i (show n ≠ 0 by omega)
    rw [Int.tmod_eq_emod]
    have : (n.natAbs : Int) = n := by omega
    by_cases h : 0 ≤ i ∨ n ∣ i
    · rw [if_pos h]
      rcases h with h | h
      · rw [if_pos (.inr h)]; omega
      · rw [if_pos (.inl (Int.emod_eq_zero_of_dvd h))]; omega
    · rw [if_neg h]
      have : ¬ (i % n = 0 ∨ 0 ≤ i) := by
        rintro (h1 | h1)
        · exact h (.inr (Int.dvd_of_emod_eq_zero h1))
        · exact h (.inl h1)
      rw [if_neg this]
      omega
  have h1 := Int.emod_nonneg i (show n ≠ 0 by omega)
  have h2 := Int.emod_lt_of_pos i hn
  by_cases hc : i % n = 0 ∨ 0 ≤ i
  · rw [if_pos hc] at ht
    clear hc
    generalize i % n = r at ht h1 h2 ⊢
    go_enter Try.func10, Try.ntmps10
    go_wp2
    go_ret
    exact ⟨rfl, rfl⟩
  · rw [if_neg hc] at ht
    have h3 : ¬ i % n = 0 := fun e => hc (.inl e)
    clear hc
    generalize i % n = r at ht h1 h2 h3 ⊢
    have e : r - n + n = r := by omega
    go_enter Try.func10, Try.ntmps10
    go_wp2
    go_ret
    exact ⟨rfl, rfl⟩
theorem eachL_take (l : List Sk) {n : Nat} (h : n ≤ l.length) {j : Nat} (hj : j < n) : (eachL (l.take n))[j]? = (eachL l)[j]? := by
  unfold eachL
  rw [List.length_take, Nat.min_eq_left h, eachTo_take l n n (Nat.le_refl _), eachTo_get l _ j hj, eachTo_get l _ j (by omega)]
theorem codesL_take (l : List Sk) {n : Nat} (h : n ≤ l.length) : codesL (l.take n) = (codesL l).take n := by
  unfold codesL
  rw [List.length_take, Nat.min_eq_left h, codesTo_take l n n (Nat.le_refl _), codesTo_pre l n _ h]
theorem KS.part {w : World} {ao : Option Addr} {N cap : Nat} {l : List Sk} (h : KS.R w (.slice ao N cap) l) {n : Nat} (hn : n ≤ l.length) : KS.R w (.slice ao n cap) (l.take n) := by
  have e : l.take n ++ l.drop n = l := List.take_append_drop n l
  rw [← e] at h
  have h1 := Knd.R.begin h
  rw [List.length_take, Nat.min_eq_left hn] at h1
  exact h1
theorem KC.part {w : World} {ao : Option Addr} {N cap : Nat} {l : List Int} (h : KC.R w (.slice ao N cap) l) {n : Nat} (hn : n ≤ l.length) : KC.R w (.slice ao n cap) (l.take n) := by
  have e : l.take n ++ l.drop n = l := List.take_append_drop n l
  rw [← e] at h
  have h1 := Knd.R.begin h
  rw [List.length_take, Nat.min_eq_left hn] at h1
  exact h1
namespace costBegins
set_option maxHeartbeats 8000000 in
theorem walk (v : Value) (l : List Sk) {w : World} (hin : InSk w v l) (a1 : Int) (w1 : (Lit.int .i64 a1).wf = true) :
    Calls Try.prog 3 #[v, .int .i64 a1] w fun e w' => e = .returned (.bool true) ∧ Below w.heap.size w w' := by
  obtain ⟨hv, hok⟩ := hin
  obtain ⟨ao, cap, rfl, hc1, hc2, hc3⟩ := hv.any
  have HV := Lib.hid hv
  have HOK := Lib.hid hok
  clear hv hok
  go_enter Try.func3, Try.ntmps3
  go_wp2_with fail
  refine (awake_any _).mono ?_
  rintro e w1 ⟨rfl, hb⟩
  have HB := Lib.hid hb
  have HV1 := Lib.hid (HV.out.grow hb)
  clear hb HV
  by_cases h300 : 300 < l.length
  · have t3 : decide (300 < (l.length : Int)) = true := by rw [decide_eq_true_eq]; omega
    go_wp2_with fail
    go_ret
    exact ⟨rfl, HB.out⟩
  · have t3 : decide (300 < (l.length : Int)) = false := by rw [decide_eq_false_iff_not]; omega
    have hw1 : IntKind.i64.wrap ((l.length : Int) + 1) = ((l.length + 1 : Nat) : Int) := by rw [IntWalk.i64_in _ (by omega)]; omega
    go_wp2_with fail
    refine (pick22 a1 ((l.length + 1 : Nat) : Int) _ (by omega) (by omega)).mono ?_
    rintro e w2 ⟨rfl, rfl⟩
    obtain ⟨n, hn⟩ : ∃ n : Nat, a1 % ((l.length + 1 : Nat) : Int) = n := ⟨(a1 % ((l.length + 1 : Nat) : Int)).toNat, by have := Int.emod_nonneg a1 (show ((l.length + 1 : Nat) : Int) ≠ 0 by omega); omega⟩
    have hnl : n ≤ l.length := by
      have := Int.emod_lt_of_pos a1 (show (0 : Int) < ((l.length + 1 : Nat) : Int) by omega)
      omega
    rw [hn]
    clear hn hw1
    go_wp2_with fail
    refine (each_env (Env.start w1) (RdS.old HV1.out) HOK.out (by omega)).mono ?_
    rintro e w2 ⟨u, ts, rfl, hts, h2⟩
    rw [List.nil_append] at h2
    have htl : ts.length = l.length := by
      have := congrArg List.length hts
      rw [List.length_map] at this
      rw [this]
      exact eachTo_len l _
    obtain ⟨uo, uc, rfl, hu1, hu2⟩ := obTR_form h2 0 rfl
    rw [htl] at h2 hu1 ⊢
    have H2 := Lib.hid h2
    have HT := Lib.hid (And.intro hts htl)
    have HV2 := Lib.hid (KS.part HV1.out hnl)
    have HOK2 : Hid (∀ s ∈ l.take n, OKsk s) := Lib.hid fun s hs => HOK.out s (List.mem_of_mem_take hs)
    have htn : (l.take n).length = n := by rw [List.length_take, Nat.min_eq_left hnl]
    clear h2 hts htl
    go_wp2_with fail
    refine (each_env H2.out (RdS.old HV2.out) HOK2.out (by omega)).mono ?_
    rintro e w3 ⟨u', us, rfl, hus, h3⟩
    have hul : us.length = n := by
      have := congrArg List.length hus
      rw [List.length_map] at this
      have e2 : (eachL (l.take n)).length = (l.take n).length := eachTo_len _ _
      rw [this, e2, htn]
    obtain ⟨vo, vc, rfl, hv1, hv2⟩ := obTR_form h3 1 rfl
    rw [hul] at h3 hv1 ⊢
    have H3 : Hid (Env w1 w3 [obTR (.slice uo l.length uc) ts, obTR (.slice vo n vc) us]) := Lib.hid h3
    have HU := Lib.hid (And.intro hus hul)
    clear h3 hus hul H2
    go_wp2_with fail
    refine (codes_env H3.out (RdS.old HV1.out) HOK.out (by omega)).mono ?_
    rintro e w4 ⟨c, rfl, h4⟩
    have h4 : Env w1 w4 [obTR (.slice uo l.length uc) ts, obTR (.slice vo n vc) us, KC.ob c (codesL l)] := h4
    obtain ⟨co, cc, hce, hcc1, hcc2, _⟩ := (h4.kR 2 (v := c) (l := codesL l) rfl).any
    have hcl : (codesL l).length = l.length := codesTo_len _ _
    subst hce
    rw [hcl] at h4 hcc1 ⊢
    have H4 := Lib.hid h4
    clear h4 hcl H3
    go_wp2_with fail
    refine (codes_env H4.out (RdS.old HV2.out) HOK2.out (by omega)).mono ?_
    rintro e w5 ⟨d, rfl, h5⟩
    have h5 : Env w1 w5 [obTR (.slice uo l.length uc) ts, obTR (.slice vo n vc) us, KC.ob (.slice co l.length cc) (codesL l), KC.ob d (codesL (l.take n))] := h5
    have hcl : (codesL l).length = l.length := codesTo_len _ _
    have r1 : KC.R w5 (.slice co n cc) ((codesL l).take n) := KC.part (h5.kR 2 (v := .slice co l.length cc) (l := codesL l) rfl) (by rw [hcl]; exact hnl)
    have r0 : KC.R w5 d ((codesL l).take n) := by
      rw [← codesL_take l hnl]
      exact h5.kR 3 (v := d) (l := codesL (l.take n)) rfl
    have H5 := Lib.hid h5
    have HR := Lib.hid (And.intro r0 r1)
    clear h5 r0 r1 H4 hcl
    go_wp2_with fail
    refine (sameC_any _ _ _ _ _ HR.out.1 HR.out.2).mono ?_
    rintro e w6 ⟨he, m, hm⟩
    rw [sameL_refl eqC (fun x => by simp [eqC])] at he
    subst he
    have h6 := H5.out.draw m
    rw [← hm] at h6
    have H6 := Lib.hid h6
    clear h6 hm HR H5
    go_wp2_with fail
    go_loopw [10] (fun iv wx => ∃ j : Nat, j ≤ n ∧ iv = .int .i64 (j : Int) ∧ Hid (Env w1 wx [obTR (.slice uo l.length uc) ts, obTR (.slice vo n vc) us, KC.ob (.slice co l.length cc) (codesL l), KC.ob d (codesL (l.take n))])) (fun iv _ => n - (intOf iv).toNat)
    case atStart => exact ⟨0, Nat.zero_le _, rfl, H6⟩
    case round =>
      obtain ⟨j, hj, rfl, HK⟩ := hrel
      clear H6
      by_cases hlt : j < n
      · have t4 : decide ((j : Int) < (n : Int)) = true := by rw [decide_eq_true_eq]; omega
        have bj : 0 ≤ (j : Int) ∧ (j : Int) < (n : Int) := by omega
        have bl : 0 ≤ (j : Int) ∧ (j : Int) < (l.length : Int) := by omega
        obtain ⟨⟨rv, r⟩, hr⟩ : ∃ y, ts[j]? = some y := ⟨_, List.getElem?_eq_getElem (by rw [HT.out.2]; omega)⟩
        obtain ⟨⟨sv, r'⟩, hs⟩ : ∃ y, us[j]? = some y := ⟨_, List.getElem?_eq_getElem (by rw [HU.out.2]; omega)⟩
        have hrr : r' = r := by
          have e1 := congrArg (fun z => z[j]?) HT.out.1
          have e2 := congrArg (fun z => z[j]?) HU.out.1
          simp only [List.getElem?_map, hr, hs, Option.map_some] at e1 e2
          rw [eachL_take l hnl hlt, ← e1] at e2
          injection e2
        subst hrr
        obtain ⟨g, c1, q1, _, _⟩ := obTR_slice HK.out 0 rfl (by rw [HT.out.2]; omega)
        obtain ⟨g2, c2, q2, _, _⟩ := obTR_slice HK.out 1 rfl (by rw [HU.out.2]; omega)
        injection q1 with q1 q1b q1c
        injection q2 with q2 q2b q2c
        subst q1 q2
        clear q1b q1c q2b q2c
        have HR := Lib.hid (And.intro hr hs)
        have hS : Hid (∀ W, Env w1 W [obTR (.slice (some ⟨g, 0, none⟩) l.length uc) ts, obTR (.slice (some ⟨g2, 0, none⟩) n vc) us, KC.ob (.slice co l.length cc) (codesL l), KC.ob d (codesL (l.take n))] → SAw g g2 j rv sv W ∧ RunsRd W rv r' ∧ RunsRd W sv r') := Lib.hid fun W hW => ⟨⟨obTR_cell hW 0 rfl HR.out.1, obTR_cell hW 1 rfl HR.out.2⟩, obTR_get hW 0 rfl HR.out.1, obTR_get hW 1 rfl HR.out.2⟩
        clear hr hs
        go_upto_region 14 with fail
        refine hd_start (SAw g g2 j rv sv) (by kernel_rfl) ?_
        intro w7 hw'
        have H7 := Lib.hid (HK.out.draw 1)
        rw [← hw'] at H7
        clear hw' HK
        have S7 := (hS.out _ H7.out).1
        refine hd_take (v := ?_) 0 rfl (by kernel_rfl) (fun _ _ d _ _ h => (by cases d <;> exact h)) (by kernel_rfl) S7 (fun w' hS => ?_) ?_
        rotate_left
        focus (have q0 := SAw.id w' hS; clear hS; go_simp; try rfl; done)
        simp only [List.getElem_toArray, List.getElem_cons_succ, List.getElem_cons_zero, Act.put, List.setIfInBounds_toArray, List.set_cons_zero, List.set_cons_succ]
        refine hd_take (v := ?_) 1 rfl (by kernel_rfl) (fun _ _ d _ _ h => (by cases d <;> exact h)) (by kernel_rfl) S7 (fun w' hS => ?_) ?_
        rotate_left
        focus (have q0 := SAw.id w' hS; clear hS; go_simp; try rfl; done)
        simp only [List.getElem_toArray, List.getElem_cons_succ, List.getElem_cons_zero, Act.put, List.setIfInBounds_toArray, List.set_cons_zero, List.set_cons_succ]
        refine hd_take (v := ?_) 2 rfl (by kernel_rfl) (fun _ _ d _ _ h => (by cases d <;> exact h)) (by kernel_rfl) S7 (fun w' hS => ?_) ?_
        rotate_left
        focus (have q0 := SAw.id w' hS; clear hS; go_simp; try rfl; done)
        simp only [List.getElem_toArray, List.getElem_cons_succ, List.getElem_cons_zero, Act.put, List.setIfInBounds_toArray, List.set_cons_zero, List.set_cons_succ]
        refine hd_take (v := ?_) 3 rfl (by kernel_rfl) (fun _ _ d _ _ h => (by cases d <;> exact h)) (by kernel_rfl) S7 (fun w' hS => ?_) ?_
        rotate_left
        focus (have q0 := SAw.id w' hS; clear hS; go_simp; try rfl; done)
        simp only [List.getElem_toArray, List.getElem_cons_succ, List.getElem_cons_zero, Act.put, List.setIfInBounds_toArray, List.set_cons_zero, List.set_cons_succ]
        refine hd_take (v := ?_) 4 rfl (by kernel_rfl) (fun _ _ d _ _ h => (by cases d <;> exact h)) (by kernel_rfl) S7 (fun w' hS => ?_) ?_
        rotate_left
        focus (have q0 := SAw.id w' hS; clear hS; go_simp; try rfl; done)
        simp only [List.getElem_toArray, List.getElem_cons_succ, List.getElem_cons_zero, Act.put, List.setIfInBounds_toArray, List.set_cons_zero, List.set_cons_succ]
        refine hd_take (v := ?_) 5 rfl (by kernel_rfl) (fun _ _ d _ _ h => (by cases d <;> exact h)) (by kernel_rfl) S7 (fun w' hS => ?_) ?_
        rotate_left
        focus (have q0 := SAw.id w' hS; clear hS; go_simp; try rfl; done)
        simp only [List.getElem_toArray, List.getElem_cons_succ, List.getElem_cons_zero, Act.put, List.setIfInBounds_toArray, List.set_cons_zero, List.set_cons_succ]
        refine hd_take (v := ?_) 6 rfl (by kernel_rfl) (fun _ _ d _ _ h => (by cases d <;> exact h)) (by kernel_rfl) S7 (fun w' hS => ?_) ?_
        rotate_left
        focus (have q0 := SAw.id w' hS; clear hS; go_simp; try rfl; done)
        simp only [List.getElem_toArray, List.getElem_cons_succ, List.getElem_cons_zero, Act.put, List.setIfInBounds_toArray, List.set_cons_zero, List.set_cons_succ]
        refine hd_take (v := ?_) 7 rfl (by kernel_rfl) (fun _ _ d _ _ h => (by cases d <;> exact h)) (by kernel_rfl) S7 (fun w' hS => ?_) ?_
        rotate_left
        focus (have q0 := SAw.id w' hS; clear hS; go_simp; try rfl; done)
        simp only [List.getElem_toArray, List.getElem_cons_succ, List.getElem_cons_zero, Act.put, List.setIfInBounds_toArray, List.set_cons_zero, List.set_cons_succ]
        refine hd_one 8 (by kernel_rfl) ?_
        refine op_call rfl (by kernel_rfl) (by go_simp; first | exact ⟨rfl, rfl⟩ | rfl) ?_
        refine (sameRuns_env' H7.out (hS.out _ H7.out).2.1 (hS.out _ H7.out).2.2).mono ?_
        rintro e w8 ⟨he, h8⟩
        rw [decide_eq_true rfl] at he
        subst he
        have hS2 := (hS.out _ h8).1
        have S8 := hS2
        have H8 := Lib.hid h8
        clear h8
        refine ⟨_, rfl, hS2, ?_⟩
        simp only [List.getElem_toArray, List.getElem_cons_succ, List.getElem_cons_zero, Act.put, List.setIfInBounds_toArray, List.set_cons_zero, List.set_cons_succ]
        refine hd_take (v := ?_) 9 rfl (by kernel_rfl) (fun _ _ d _ _ h => (by cases d <;> exact h)) (by kernel_rfl) S8 (fun w' hS => ?_) ?_
        rotate_left
        focus (clear hS; go_simp; try rfl; done)
        simp only [List.getElem_toArray, List.getElem_cons_succ, List.getElem_cons_zero, Act.put, List.setIfInBounds_toArray, List.set_cons_zero, List.set_cons_succ]
        refine hd_done (by kernel_rfl) ?_
        clear S7 S8 hS
        have hw1 : IntKind.i64.wrap ((j : Int) + 1) = ((j + 1 : Nat) : Int) := by rw [IntWalk.i64_in _ (by omega)]; omega
        go_wp2_with fail
        refine ⟨⟨j + 1, by omega, rfl, H8⟩, ?_⟩
        have q9 : n - ((j : Int) + 1).toNat < n - ((j : Int)).toNat := by omega
        exact q9
      · have t4 : decide ((j : Int) < (n : Int)) = false := by rw [decide_eq_false_iff_not]; omega
        go_wp2_with fail
        go_ret
        exact ⟨rfl, HB.out.trans (HK.out.base.mono HB.out.size)⟩
end costBegins
end Go.Proofs.Ytkidijjhedjifaa
namespace Go.Proofs.Ytkidijjhedjifaa
open Go.RowKit
set_option maxRecDepth 100000
set_option linter.unusedVariables false
set_option linter.unusedSimpArgs false
attribute [local go_sem] Oper.semAt_some
def Same (v : Value) (w : World) (e : Ending) (w' : World) : Prop := e = .returned v ∧ w = w'
theorem rsize_any (a : Int) (w : World) : Calls Try.prog 114 #[.int .u8 a] w (Same (.int .i64 (hashA a)) w) := by
  unfold hashA Same
  by_cases h1 : a = 1
  · have t1 : (a == (1 : Int)) = true := by rw [h1]; rfl
    rw [if_pos h1]
    clear h1
    go_enter Try.func114, Try.ntmps114
    go_wp2
    go_ret
    exact ⟨rfl, rfl⟩
  have t1 : (a == (1 : Int)) = false := by rw [beq_eq_false_iff_ne]; exact h1
  rw [if_neg h1]
  clear h1
  by_cases h2 : a = 2
  · have t2 : (a == (2 : Int)) = true := by rw [h2]; rfl
    rw [if_pos h2]
    clear h2
    go_enter Try.func114, Try.ntmps114
    go_wp2
    go_ret
    exact ⟨rfl, rfl⟩
  have t2 : (a == (2 : Int)) = false := by rw [beq_eq_false_iff_ne]; exact h2
  rw [if_neg h2]
  clear h2
  go_enter Try.func114, Try.ntmps114
  go_wp2
  go_ret
  exact ⟨rfl, rfl⟩

theorem rrate_any (a : Int) (w : World) : Calls Try.prog 120 #[.int .u8 a] w (Same (.int .i64 (rateA a)) w) := by
  unfold rateA Same
  by_cases h1 : a = 4
  · have t1 : (a == (4 : Int)) = true := by rw [h1]; rfl
    rw [if_pos (.inl h1)]
    clear h1
    go_enter Try.func120, Try.ntmps120
    go_wp2
    go_ret
    exact ⟨rfl, rfl⟩
  have t1 : (a == (4 : Int)) = false := by rw [beq_eq_false_iff_ne]; exact h1
  by_cases h2 : a = 6
  · have t2 : (a == (6 : Int)) = true := by rw [h2]; rfl
    rw [if_pos (.inr h2)]
    clear h1 h2
    go_enter Try.func120, Try.ntmps120
    go_wp2
    go_ret
    exact ⟨rfl, rfl⟩
  have t2 : (a == (6 : Int)) = false := by rw [beq_eq_false_iff_ne]; exact h2
  rw [if_neg (by omega)]
  clear h1 h2
  go_enter Try.func120, Try.ntmps120
  go_wp2
  go_ret
  exact ⟨rfl, rfl⟩

def xofR (a : Int) : Bool := if a = 6 then true else if a = 7 then true else false

theorem rxof_any (a : Int) (w : World) : Calls Try.prog 123 #[.int .u8 a] w (Same (.bool (xofR a)) w) := by
  unfold xofR Same
  by_cases h1 : a = 6
  · have t1 : (a == (6 : Int)) = true := by rw [h1]; rfl
    rw [if_pos h1]
    clear h1
    go_enter Try.func123, Try.ntmps123
    go_wp2
    go_ret
    exact ⟨rfl, rfl⟩
  have t1 : (a == (6 : Int)) = false := by rw [beq_eq_false_iff_ne]; exact h1
  rw [if_neg h1]
  clear h1
  by_cases h2 : a = 7
  · have t2 : (a == (7 : Int)) = true := by rw [h2]; rfl
    rw [if_pos h2]
    clear h2
    go_enter Try.func123, Try.ntmps123
    go_wp2
    go_ret
    exact ⟨rfl, rfl⟩
  have t2 : (a == (7 : Int)) = false := by rw [beq_eq_false_iff_ne]; exact h2
  rw [if_neg h2]
  clear h2
  go_enter Try.func123, Try.ntmps123
  go_wp2
  go_ret
  exact ⟨rfl, rfl⟩

theorem hashA_three (a : Int) : 0 ≤ hashA a ∧ hashA a ≤ 64 := by
  unfold hashA
  split
  · omega
  split <;> omega
theorem rblock_any (a : Int) (w : World) : Calls Try.prog 83 #[.int .u8 a] w (Same (.int .i64 (bA a)) w) := by
  have h := hashA_three a
  unfold bA Same
  have hw : IntKind.i64.wrap (2 * hashA a) = 2 * hashA a := IntWalk.i64_in _ (by omega)
  go_enter Try.func83, Try.ntmps83
  go_wp2_with fail
  refine (rsize_any a w).mono ?_
  rintro e w1 ⟨rfl, rfl⟩
  go_wp2_with fail
  go_ret
  exact ⟨rfl, rfl⟩
theorem revent_any (a : Int) (ha : a = 1 ∨ a = 2) (w : World) : Calls Try.prog 82 #[.int .u8 a] w (Same (.int .u8 (evkA a)) w) := by
  unfold Same
  rcases ha with rfl | rfl
  · show Calls _ _ _ _ fun e w' => e = .returned (.int .u8 1) ∧ _
    go_enter Try.func82, Try.ntmps82
    go_wp2
    go_ret
    exact ⟨rfl, rfl⟩
  · show Calls _ _ _ _ fun e w' => e = .returned (.int .u8 2) ∧ _
    go_enter Try.func82, Try.ntmps82
    go_wp2
    go_ret
    exact ⟨rfl, rfl⟩

theorem lastR_rng (a n : Int) : 1 ≤ lastR a n ∧ lastR a n ≤ 2 := by
  unfold lastR
  split <;> omega
set_option maxHeartbeats 1000000 in
theorem rlast_any (a n : Int) (ha : a = 1 ∨ a = 2) (h0 : 0 ≤ n) (h1 : n ≤ 1000000000) (w : World) : Calls Try.prog 133 #[.int .u8 a, .int .i64 n] w (Same (.int .i64 (lastR a n)) w) := by
  unfold lastR Same
  rcases ha with rfl | rfl
  · rw [bA_one]
    have hm : Int.tmod n 64 = n % 64 := Int.tmod_eq_emod_of_nonneg h0
    by_cases hc : n % 64 + 1 + 64 / 8 ≤ 64
    all_goals
      first | rw [if_pos hc] | rw [if_neg hc]
      have hc2 : (n % 64 + 1 + 8 ≤ 64) = (n % 64 + 1 + 64 / 8 ≤ 64) := rfl
      rw [← hc2] at hc
      clear hc2
      go_enter Try.func133, Try.ntmps133
      go_wp2_with fail
      refine (rblock_any 1 w).mono ?_
      rintro e w1 ⟨rfl, rfl⟩
      rw [bA_one]
      go_wp2_with fail
      all_goals first | (exfalso; omega) | (go_ret; exact ⟨rfl, rfl⟩)
  · rw [bA_two]
    have hm : Int.tmod n 128 = n % 128 := Int.tmod_eq_emod_of_nonneg h0
    by_cases hc : n % 128 + 1 + 128 / 8 ≤ 128
    all_goals
      first | rw [if_pos hc] | rw [if_neg hc]
      have hc2 : (n % 128 + 1 + 16 ≤ 128) = (n % 128 + 1 + 128 / 8 ≤ 128) := rfl
      rw [← hc2] at hc
      clear hc2
      go_enter Try.func133, Try.ntmps133
      go_wp2_with fail
      refine (rblock_any 2 w).mono ?_
      rintro e w1 ⟨rfl, rfl⟩
      rw [bA_two]
      go_wp2_with fail
      all_goals first | (exfalso; omega) | (go_ret; exact ⟨rfl, rfl⟩)
theorem rfull_any (b n m : Int) (hb : b = 64 ∨ b = 128 ∨ b = 168 ∨ b = 136) (h0 : 0 ≤ n) (h1 : n ≤ 1000000000) (h2 : 0 ≤ m) (h3 : m ≤ 1000000000) (w : World) : Calls Try.prog 118 #[.int .i64 b, .int .i64 n, .int .i64 m] w (Told (.int .i64 (fullR b n m)) w) := by
  unfold fullR
  rcases hb with rfl | rfl | rfl | rfl <;>
  · go_enter Try.func118, Try.ntmps118
    go_wp2_with fail
    go_quiet (fail)
    go_wp2
    go_ret
    exact ⟨rfl, ⟨rfl, rfl, rfl, Nat.le_refl _, fun _ _ => rfl⟩⟩

theorem fullR_rng {b n m : Int} (hb : b = 64 ∨ b = 128 ∨ b = 168 ∨ b = 136) (h0 : 0 ≤ n) (h2 : 0 ≤ m) : 0 ≤ fullR b n m ∧ fullR b n m ≤ m + 1 := by
  unfold fullR
  rcases hb with rfl | rfl | rfl | rfl <;> omega
theorem bA_four {a : Int} (ha : a = 1 ∨ a = 2) : bA a = 64 ∨ bA a = 128 ∨ bA a = 168 ∨ bA a = 136 := by
  rcases ha with rfl | rfl
  · exact .inl rfl
  · exact .inr (.inl rfl)
set_option maxHeartbeats 1000000 in
theorem rkeyed_any (a n : Int) (ha : a = 1 ∨ a = 2) (h0 : 0 ≤ n) (h1 : n ≤ 100000000) (w : World) : Calls Try.prog 115 #[.int .u8 a, .int .i64 n] w (Told (.int .i64 (keyB a n)) w) := by
  rw [← keyedR_is ha h0]
  have hf := fullR_rng (b := bA a) (n := 0) (m := n) (bA_four ha) (by omega) h0
  have hl := lastR_rng a n
  have HA := Lib.hid ha
  have HB := Lib.hid (bA_four ha)
  unfold keyedR
  obtain ⟨b, hb⟩ : ∃ b, bA a = b := ⟨_, rfl⟩
  have HBA := Lib.hid hb
  rw [hb] at hf HB ⊢
  clear hb ha
  obtain ⟨f, hfe⟩ : ∃ f, fullR b 0 n = f := ⟨_, rfl⟩
  obtain ⟨l, hle⟩ : ∃ f, lastR a n = f := ⟨_, rfl⟩
  rw [hfe] at hf ⊢
  rw [hle] at hl ⊢
  have HF := Lib.hid hfe
  have HL := Lib.hid hle
  clear hfe hle
  by_cases hc : b < n
  · rw [if_pos hc]
    have t1 : decide (b < n) = true := decide_eq_true hc
    have w1 : IntKind.i64.wrap (f + l) = f + l := IntWalk.i64_in _ (by omega)
    have w2 : IntKind.i64.wrap (f + l + 2) = f + l + 2 := IntWalk.i64_in _ (by omega)
    clear hc
    go_enter Try.func115, Try.ntmps115
    go_wp2_with fail
    refine (rblock_any a w).mono ?_
    rintro e w1 ⟨rfl, rfl⟩
    rw [HBA.out]
    go_wp2_with fail
    refine (rblock_any a w).mono ?_
    rintro e w1 ⟨rfl, rfl⟩
    rw [HBA.out]
    go_wp2_with fail
    refine (rfull_any b 0 n HB.out (by omega) (by omega) h0 (by omega) w).mono ?_
    rintro e w1 ⟨rfl, hbl⟩
    have HW := Lib.hid hbl
    clear hbl
    rw [HF.out]
    go_wp2_with fail
    refine (rlast_any a n HA.out h0 (by omega) w1).mono ?_
    rintro e w2 ⟨rfl, rfl⟩
    rw [HL.out]
    go_wp2_with fail
    go_ret
    exact ⟨rfl, HW.out⟩
  · rw [if_neg hc]
    have t1 : decide (b < n) = false := decide_eq_false hc
    clear hc
    go_enter Try.func115, Try.ntmps115
    go_wp2_with fail
    refine (rblock_any a w).mono ?_
    rintro e w1 ⟨rfl, rfl⟩
    rw [HBA.out]
    go_wp2_with fail
    go_ret
    exact ⟨rfl, Below.refl _ _⟩
set_option maxHeartbeats 1000000 in
theorem rtagged_any (a n : Int) (ha : a = 1 ∨ a = 2) (h0 : 0 ≤ n) (h1 : n ≤ 100000000) (w : World) : Calls Try.prog 121 #[.int .u8 a, .int .i64 n] w (Same (.int .i64 (taggedR a n)) w) := by
  unfold Same taggedR
  have hl := lastR_rng a (bA a + n)
  have hl2 := lastR_rng a (bA a + hashA a)
  have hs := hashA_three a
  have hb1 : 0 ≤ bA a ∧ bA a ≤ 128 := by unfold bA; omega
  have HA := Lib.hid ha
  obtain ⟨b, hb⟩ : ∃ b, bA a = b := ⟨_, rfl⟩
  obtain ⟨z, hz⟩ : ∃ b, hashA a = b := ⟨_, rfl⟩
  have HB := Lib.hid hb
  have HZ := Lib.hid hz
  rw [hb] at hl hl2 hb1 ⊢
  rw [hz] at hl2 hs ⊢
  clear hb hz ha
  obtain ⟨f, hfe⟩ : ∃ f, lastR a (b + n) = f := ⟨_, rfl⟩
  obtain ⟨l, hle⟩ : ∃ f, lastR a (b + z) = f := ⟨_, rfl⟩
  rw [hfe] at hl ⊢
  rw [hle] at hl2 ⊢
  have HF := Lib.hid hfe
  have HL := Lib.hid hle
  clear hfe hle
  have w1 : IntKind.i64.wrap (b + n) = b + n := IntWalk.i64_in _ (by omega)
  have w2 : IntKind.i64.wrap (b + z) = b + z := IntWalk.i64_in _ (by omega)
  have w3 : IntKind.i64.wrap (f + l) = f + l := IntWalk.i64_in _ (by omega)
  go_enter Try.func121, Try.ntmps121
  go_wp2_with fail
  refine (rblock_any a w).mono ?_
  rintro e w1 ⟨rfl, rfl⟩
  rw [HB.out]
  go_wp2_with fail
  refine (rlast_any a (b + n) HA.out (by omega) (by omega) w).mono ?_
  rintro e w1 ⟨rfl, rfl⟩
  rw [HF.out]
  go_wp2_with fail
  refine (rblock_any a w).mono ?_
  rintro e w1 ⟨rfl, rfl⟩
  rw [HB.out]
  go_wp2_with fail
  refine (rsize_any a w).mono ?_
  rintro e w1 ⟨rfl, rfl⟩
  rw [HZ.out]
  go_wp2_with fail
  refine (rlast_any a (b + z) HA.out (by omega) (by omega) w).mono ?_
  rintro e w1 ⟨rfl, rfl⟩
  rw [HL.out]
  go_wp2_with fail
  go_ret
  exact ⟨rfl, rfl⟩
set_option maxHeartbeats 1000000 in
theorem rhmac_any (a n : Int) (ha : a = 1 ∨ a = 2) (h0 : 0 ≤ n) (h1 : n ≤ 100000000) (w : World) : Calls Try.prog 124 #[.int .u8 a, .int .i64 n] w (Told (.int .i64 (tagB a n)) w) := by
  rw [← hmacR_is ha h0]
  have hf := fullR_rng (b := bA a) (n := 0) (m := n) (bA_four ha) (by omega) h0
  have ht : 0 ≤ taggedR a n ∧ taggedR a n ≤ 4 := by
    unfold taggedR
    have := lastR_rng a (bA a + n)
    have := lastR_rng a (bA a + hashA a)
    omega
  have HA := Lib.hid ha
  have HB := Lib.hid (bA_four ha)
  unfold hmacR
  obtain ⟨b, hb⟩ : ∃ b, bA a = b := ⟨_, rfl⟩
  have HBA := Lib.hid hb
  rw [hb] at hf HB ⊢
  clear hb ha
  obtain ⟨f, hfe⟩ : ∃ f, fullR b 0 n = f := ⟨_, rfl⟩
  obtain ⟨l, hle⟩ : ∃ f, taggedR a n = f := ⟨_, rfl⟩
  rw [hfe] at hf ⊢
  rw [hle] at ht ⊢
  have HF := Lib.hid hfe
  have HL := Lib.hid hle
  clear hfe hle
  have w1 : IntKind.i64.wrap (f + l) = f + l := IntWalk.i64_in _ (by omega)
  go_enter Try.func124, Try.ntmps124
  go_wp2_with fail
  refine (rblock_any a w).mono ?_
  rintro e w1 ⟨rfl, rfl⟩
  rw [HBA.out]
  go_wp2_with fail
  refine (rfull_any b 0 n HB.out (by omega) (by omega) h0 (by omega) w).mono ?_
  rintro e w1 ⟨rfl, hbl⟩
  have HW := Lib.hid hbl
  clear hbl
  rw [HF.out]
  go_wp2_with fail
  refine (rtagged_any a n HA.out h0 h1 w1).mono ?_
  rintro e w2 ⟨rfl, rfl⟩
  rw [HL.out]
  go_wp2_with fail
  go_ret
  exact ⟨rfl, HW.out⟩

theorem rnumber_any (n : Int) (w : World) (h0 : 0 ≤ n) (h1 : n ≤ 65535) : Calls Try.prog 122 #[.int .i64 n] w (Same (.int .i64 (if 256 ≤ n then 3 else 2)) w) := by
  unfold Same
  obtain ⟨T, hT⟩ : ∃ T : Int, (if 256 ≤ n then 3 else 2) = T := ⟨_, rfl⟩
  rw [hT]
  have HT := Lib.hid hT
  clear hT
  go_enter Try.func122, Try.ntmps122
  go_wp2_with fail
  go_loopw [0, 3] (fun x k wx => wx = w ∧ ∃ q : Int, x = .int .i64 q ∧ 0 ≤ q ∧ q ≤ 65535 ∧ ((k = .int .i64 2 ∧ q = n) ∨ (k = .int .i64 3 ∧ q < 256 ∧ 256 ≤ n))) (fun x _ _ => (RowKit.intOf x).toNat)
  case atStart => exact ⟨rfl, _, rfl, h0, h1, .inl ⟨rfl, rfl⟩⟩
  case round =>
    obtain ⟨rfl, q, rfl, hq0, hq1, hq⟩ := hrel
    rcases hq with ⟨rfl, rfl⟩ | ⟨rfl, hq, h2⟩
    · by_cases hp : 256 ≤ q
      · have t1 : decide (256 ≤ q) = true := decide_eq_true hp
        go_wp2_with fail
        refine ⟨⟨trivial, q / 256, rfl, by omega, by omega, .inr ⟨rfl, by omega, hp⟩⟩, ?_⟩
        simp only [RowKit.intOf]
        omega
      · have t1 : decide (256 ≤ q) = false := decide_eq_false hp
        go_wp2_with fail
        go_ret
        exact ⟨by rw [← HT.out, if_neg (by omega)]; rfl, rfl⟩
    · have t1 : decide (256 ≤ q) = false := decide_eq_false (by omega)
      go_wp2_with fail
      go_ret
      exact ⟨by rw [← HT.out, if_pos h2]; rfl, rfl⟩
theorem rtext_any (n : Int) (w : World) (h0 : 0 ≤ n) (h1 : n ≤ 8000) : Calls Try.prog 117 #[.int .i64 n] w (Same (.int .i64 (codedA n)) w) := by
  unfold Same
  obtain ⟨c, hc⟩ : ∃ c : Int, (if 256 ≤ 8 * n then 3 else 2) = c := ⟨_, rfl⟩
  have hcn : c + n = codedA n := by
    rw [← hc]
    unfold codedA
    split <;> split <;> omega
  have hc2 : 2 ≤ c ∧ c ≤ 3 := by rw [← hc]; split <;> omega
  have HC := Lib.hid hc
  clear hc
  have w1 : IntKind.i64.wrap (8 * n) = 8 * n := IntWalk.i64_in _ (by omega)
  have w2 : IntKind.i64.wrap (c + n) = codedA n := by rw [hcn]; exact IntWalk.i64_in _ (by omega)
  clear hcn
  go_enter Try.func117, Try.ntmps117
  go_wp2_with fail
  refine (rnumber_any (8 * n) w (by omega) (by omega)).mono ?_
  rintro e w1 ⟨rfl, rfl⟩
  rw [HC.out]
  go_wp2_with fail
  go_ret
  exact ⟨rfl, rfl⟩
theorem rpadded_any (a n : Int) (w : World) (h0 : 0 ≤ n) (h1 : n ≤ 100000000) : Calls Try.prog 116 #[.int .u8 a, .int .i64 n] w (Same (.int .i64 (paddedA n (rateA a))) w) := by
  unfold Same
  obtain ⟨r, hr⟩ : ∃ r, rateA a = r := ⟨_, rfl⟩
  have hr2 : r = 168 ∨ r = 136 := by rw [← hr]; exact rateA_two a
  have HR := Lib.hid hr
  rw [hr]
  clear hr
  unfold paddedA
  rcases hr2 with rfl | rfl <;>
  · go_enter Try.func116, Try.ntmps116
    go_wp2_with fail
    refine (rrate_any a w).mono ?_
    rintro e w1 ⟨rfl, rfl⟩
    rw [HR.out]
    go_wp2_with fail
    refine (rnumber_any _ w (by omega) (by omega)).mono ?_
    rintro e w1 ⟨rfl, rfl⟩
    rw [if_neg (by omega)]
    go_wp2_with fail
    refine (rrate_any a w).mono ?_
    rintro e w1 ⟨rfl, rfl⟩
    rw [HR.out]
    go_wp2_with fail
    refine (rrate_any a w).mono ?_
    rintro e w1 ⟨rfl, rfl⟩
    rw [HR.out]
    go_wp2_with fail
    go_ret
    exact ⟨rfl, rfl⟩
theorem rchained_any (n : Int) (w : World) (h0 : 0 ≤ n) (h1 : n ≤ 1000000000) : Calls Try.prog 119 #[.int .i64 n] w (Same (.int .i64 (lastM n)) w) := by
  unfold Same lastM
  by_cases hn : n < 1
  · rw [if_pos hn]
    have : n = 0 := by omega
    subst this
    clear hn
    go_enter Try.func119, Try.ntmps119
    go_wp2_with fail
    go_ret
    exact ⟨rfl, rfl⟩
  · rw [if_neg hn]
    have hd : 0 ≤ (n - 1) / 16 := by omega
    go_enter Try.func119, Try.ntmps119
    go_wp2_with fail
    all_goals first | (exfalso; omega) | (go_ret; exact ⟨rfl, rfl⟩) | (go_ret; refine ⟨?_, rfl⟩; show Ending.returned (.int .i64 _) = Ending.returned (.int .i64 _); congr 2; omega)
theorem rkmac_any (a : Int) (w : World) : Calls Try.prog 132 #[.int .u8 a] w (Same (.bool (decide (4 ≤ a ∧ a ≤ 7))) w) := by
  unfold Same
  by_cases h1 : 4 ≤ a
  · have t1 : decide (4 ≤ a) = true := decide_eq_true h1
    by_cases h2 : a ≤ 7
    · have t2 : decide (a ≤ 7) = true := decide_eq_true h2
      rw [decide_eq_true (show 4 ≤ a ∧ a ≤ 7 from ⟨h1, h2⟩)]
      clear h1 h2
      go_enter Try.func132, Try.ntmps132
      go_wp2
      go_ret
      exact ⟨rfl, rfl⟩
    · have t2 : decide (a ≤ 7) = false := decide_eq_false h2
      rw [decide_eq_false (show ¬ (4 ≤ a ∧ a ≤ 7) from fun h => h2 h.2)]
      clear h1 h2
      go_enter Try.func132, Try.ntmps132
      go_wp2
      go_ret
      exact ⟨rfl, rfl⟩
  · have t1 : decide (4 ≤ a) = false := decide_eq_false h1
    rw [decide_eq_false (show ¬ (4 ≤ a ∧ a ≤ 7) from fun h => h1 h.1)]
    clear h1
    go_enter Try.func132, Try.ntmps132
    go_wp2
    go_ret
    exact ⟨rfl, rfl⟩

theorem rtakes_any (k : Int) (w : World) : Calls Try.prog 77 #[.int .u8 k] w (Same (.bool (takesR k)) w) := by
  unfold Same
  by_cases h1 : k = 1
  · have ht : takesR k = true := by rw [h1]; rfl
    have t1 : (k == (1 : Int)) = true := by rw [h1]; rfl
    rw [ht]
    clear ht h1
    go_enter Try.func77, Try.ntmps77
    go_wp2
    go_ret
    exact ⟨rfl, rfl⟩
  have t1 : (k == (1 : Int)) = false := by rw [beq_eq_false_iff_ne]; exact h1
  by_cases h2 : k = 2
  · have ht : takesR k = true := by rw [h2]; rfl
    have t2 : (k == (2 : Int)) = true := by rw [h2]; rfl
    rw [ht]
    clear ht h1 h2
    go_enter Try.func77, Try.ntmps77
    go_wp2
    go_ret
    exact ⟨rfl, rfl⟩
  have t2 : (k == (2 : Int)) = false := by rw [beq_eq_false_iff_ne]; exact h2
  by_cases h6 : k = 6
  · have ht : takesR k = true := by rw [h6]; rfl
    have t6 : (k == (6 : Int)) = true := by rw [h6]; rfl
    rw [ht]
    clear ht h1 h2 h6
    go_enter Try.func77, Try.ntmps77
    go_wp2
    go_ret
    exact ⟨rfl, rfl⟩
  have t6 : (k == (6 : Int)) = false := by rw [beq_eq_false_iff_ne]; exact h6
  by_cases h7 : k = 7
  · have ht : takesR k = true := by rw [h7]; rfl
    have t7 : (k == (7 : Int)) = true := by rw [h7]; rfl
    rw [ht]
    clear ht h1 h2 h6 h7
    go_enter Try.func77, Try.ntmps77
    go_wp2
    go_ret
    exact ⟨rfl, rfl⟩
  have t7 : (k == (7 : Int)) = false := by rw [beq_eq_false_iff_ne]; exact h7
  by_cases h8 : k = 8
  · have ht : takesR k = true := by rw [h8]; rfl
    have t8 : (k == (8 : Int)) = true := by rw [h8]; rfl
    rw [ht]
    clear ht h1 h2 h6 h7 h8
    go_enter Try.func77, Try.ntmps77
    go_wp2
    go_ret
    exact ⟨rfl, rfl⟩
  have t8 : (k == (8 : Int)) = false := by rw [beq_eq_false_iff_ne]; exact h8
  have ht : takesR k = false := by unfold takesR; rw [t1, t2, t6, t7, t8]; rfl
  rw [ht]
  clear ht h1 h2 h6 h7 h8
  go_enter Try.func77, Try.ntmps77
  go_wp2
  go_ret
  exact ⟨rfl, rfl⟩

def hkL (a more : Int) : Nat → Int
  | 0 => 0
  | n + 1 => hkL a more n + tagB a ((if n = 0 then 0 else hashA a) + more + 1)
theorem hkL_is (s : Sk) : ∀ n, hkL s.alg s.more n = hkTo s n
  | 0 => rfl
  | n + 1 => by
    show hkL s.alg s.more n + _ = hkTo s n + hkR s n
    rw [hkL_is s n]
    rfl
def hkC (a out : Int) : Nat := ((out + hashA a - 1) / hashA a).toNat
set_option maxHeartbeats 2000000 in
theorem rhkdf_any (a key salt info out : Int) (ha : a = 1 ∨ a = 2) (k0 : 0 ≤ key) (k1 : key ≤ 100000) (s0 : 0 ≤ salt) (s1 : salt ≤ 100000) (i0 : 0 ≤ info) (i1 : info ≤ 100000) (o0 : 1 ≤ out) (o1 : out ≤ 512) (w : World) :
    Calls Try.prog 84 #[.int .u8 a, .int .i64 key, .int .i64 salt, .int .i64 info, .int .i64 out] w (Told (.int .i64 (keyB a salt + tagB a key + 2 + hkL a info (hkC a out))) w) := by
  have HA := Lib.hid ha
  obtain ⟨z, hz⟩ : ∃ b, hashA a = b := ⟨_, rfl⟩
  have hz2 : z = 32 ∨ z = 64 := by rw [← hz]; exact hashA_alg ha
  have hk2 : keyB a z = 2 := by rw [← hz]; rcases ha with rfl | rfl <;> rfl
  have r1 := keyB_rng (a := a) s0
  have r2 := tagB_rng (a := a) k0
  have hlr : ∀ n : Nat, n ≤ 16 → 0 ≤ hkL a info n ∧ hkL a info n ≤ 10000 * (n : Int) := by
    intro n
    induction n with
    | zero => intro _; exact ⟨Int.le_refl 0, Int.le_refl 0⟩
    | succ n ih =>
      intro hn
      have h1 := ih (by omega)
      have h2 := hashA_three a
      show 0 ≤ hkL a info n + tagB a ((if n = 0 then 0 else hashA a) + info + 1) ∧ _ ≤ _
      have h3 := tagB_rng (a := a) (n := (if n = 0 then 0 else hashA a) + info + 1) (by split <;> omega)
      have h4 : (if n = 0 then 0 else hashA a) + info + 1 ≤ 100100 := by split <;> omega
      show _ ∧ hkL a info n + tagB a ((if n = 0 then 0 else hashA a) + info + 1) ≤ _
      omega
  have hcn : hkC a out ≤ 16 ∧ ((hkC a out : Int) - 1) * z < out ∧ out ≤ (hkC a out : Int) * z := by
    unfold hkC
    rw [hz]
    rcases hz2 with rfl | rfl <;> omega
  obtain ⟨N, hN⟩ : ∃ n, hkC a out = n := ⟨_, rfl⟩
  rw [hN] at hcn ⊢
  have HZ := Lib.hid hz
  have HK2 := Lib.hid hk2
  have HLR := Lib.hid hlr
  obtain ⟨K0, hK0⟩ : ∃ x, keyB a salt = x := ⟨_, rfl⟩
  obtain ⟨T0, hT0⟩ : ∃ x, tagB a key = x := ⟨_, rfl⟩
  rw [hK0] at r1 ⊢
  rw [hT0] at r2 ⊢
  have HK0 := Lib.hid hK0
  have HT0 := Lib.hid hT0
  have HN := Lib.hid hcn
  clear hz hk2 hlr hcn hN ha hK0 hT0
  have w1 : IntKind.i64.wrap (K0 + T0) = K0 + T0 := IntWalk.i64_in _ (by omega)
  have w2 : IntKind.i64.wrap (K0 + T0 + 2) = K0 + T0 + 2 := IntWalk.i64_in _ (by omega)
  go_enter Try.func84, Try.ntmps84
  go_wp2_with fail
  refine (rkeyed_any a salt HA.out s0 (by omega) w).mono ?_
  rintro e w1 ⟨rfl, hb⟩
  have H1 := Lib.hid hb
  clear hb
  rw [HK0.out]
  go_wp2_with fail
  refine (rhmac_any a key HA.out k0 (by omega) w1).mono ?_
  rintro e w2 ⟨rfl, hb⟩
  have H2 := Lib.hid (H1.out.trans (hb.mono H1.out.size))
  clear hb H1
  rw [HT0.out]
  go_wp2_with fail
  refine (rsize_any a w2).mono ?_
  rintro e w2' ⟨rfl, rfl⟩
  rw [HZ.out]
  go_wp2_with fail
  refine (rkeyed_any a z HA.out (by omega) (by omega) w2).mono ?_
  rintro e w3 ⟨rfl, hb⟩
  have H3 := Lib.hid (H2.out.trans (hb.mono H2.out.size))
  clear hb H2
  rw [HK2.out]
  go_wp2_with fail
  go_loopw [11, 12] (fun nv dv wx => ∃ j : Nat, j ≤ N ∧ nv = .int .i64 (K0 + T0 + 2 + hkL a info j) ∧ dv = .int .i64 ((j : Int) * z) ∧ Hid (Below w.heap.size w wx)) (fun _ dv _ => (out + 64 - RowKit.intOf dv).toNat)
  case atStart => exact ⟨0, Nat.zero_le _, by simp [hkL], by simp, H3⟩
  case round =>
    obtain ⟨j, hj, rfl, rfl, HW⟩ := hrel
    clear H3
    obtain ⟨hN1, hN2, hN3⟩ := HN.out
    have hlj := HLR.out j (by omega)
    obtain ⟨S, hS⟩ : ∃ x, hkL a info j = x := ⟨_, rfl⟩
    rw [hS] at hlj ⊢
    have HS := Lib.hid hS
    clear hS
    by_cases hlt : j < N
    · have hdj : (j : Int) * z < out := by rcases hz2 with rfl | rfl <;> omega
      have hdz : 0 ≤ (j : Int) * z := by rcases hz2 with rfl | rfl <;> omega
      have hlj1 := HLR.out (j + 1) (by omega)
      obtain ⟨d, hd⟩ : ∃ d, (j : Int) * z = d := ⟨_, rfl⟩
      have hd1 : ((j + 1 : Nat) : Int) * z = d + z := by rw [← hd]; rcases hz2 with rfl | rfl <;> omega
      have hd0 : j = 0 ∨ (j ≠ 0 ∧ 0 < d) := by
        by_cases e : j = 0
        · exact .inl e
        · exact .inr ⟨e, by rw [← hd]; rcases hz2 with rfl | rfl <;> omega⟩
      rw [hd] at hdj hdz ⊢
      have t1 : decide (d < out) = true := decide_eq_true hdj
      have wz : IntKind.i64.wrap (d + z) = d + z := IntWalk.i64_in _ (by omega)
      have HD := Lib.hid hd1
      clear hd1 hN2 hN3
      rcases hd0 with hj0 | ⟨hj0, hd0⟩
      · have hL1 : hkL a info (j + 1) = S + tagB a (info + 1) := by
          show hkL a info j + tagB a ((if j = 0 then 0 else hashA a) + info + 1) = _
          rw [HS.out, if_pos hj0, Int.zero_add]
        have hde : d = 0 := by rw [← hd, hj0]; simp
        have t2 : decide (0 < d) = false := decide_eq_false (by omega)
        have r3 := tagB_rng (a := a) (n := info + 1) (by omega)
        rw [hL1] at hlj1
        have wa : IntKind.i64.wrap (0 + info) = info := by rw [Int.zero_add]; exact IntWalk.i64_in _ (by omega)
        have wb : IntKind.i64.wrap (info + 1) = info + 1 := IntWalk.i64_in _ (by omega)
        obtain ⟨T, hT⟩ : ∃ x, tagB a (info + 1) = x := ⟨_, rfl⟩
        rw [hT] at hL1 hlj1 r3
        have HT := Lib.hid hT
        have HL1 := Lib.hid hL1
        have wc : IntKind.i64.wrap (K0 + T0 + 2 + S + T) = K0 + T0 + 2 + S + T := IntWalk.i64_in _ (by omega)
        clear hT hL1 hd hde hj0 hN1
        go_wp2_with fail
        refine (rhmac_any a (info + 1) HA.out (by omega) (by omega) wr).mono ?_
        rintro e w5 ⟨rfl, hb⟩
        have H5 := Lib.hid (HW.out.trans (hb.mono HW.out.size))
        clear hb HW
        rw [HT.out]
        go_wp2_with fail
        refine (rsize_any a w5).mono ?_
        rintro e w5' ⟨rfl, rfl⟩
        rw [HZ.out]
        go_wp2_with fail
        refine ⟨⟨j + 1, by omega, by rw [HL1.out, Int.add_assoc], by rw [HD.out], H5⟩, ?_⟩
        simp only [RowKit.intOf]
        omega
      · have hL1 : hkL a info (j + 1) = S + tagB a (z + info + 1) := by
          show hkL a info j + tagB a ((if j = 0 then 0 else hashA a) + info + 1) = _
          rw [HS.out, if_neg hj0, HZ.out]
        have t2 : decide (0 < d) = true := decide_eq_true hd0
        have r3 := tagB_rng (a := a) (n := z + info + 1) (by omega)
        rw [hL1] at hlj1
        have wa : IntKind.i64.wrap (z + info) = z + info := IntWalk.i64_in _ (by omega)
        have wb : IntKind.i64.wrap (z + info + 1) = z + info + 1 := IntWalk.i64_in _ (by omega)
        obtain ⟨T, hT⟩ : ∃ x, tagB a (z + info + 1) = x := ⟨_, rfl⟩
        rw [hT] at hL1 hlj1 r3
        have HT := Lib.hid hT
        have HL1 := Lib.hid hL1
        have wc : IntKind.i64.wrap (K0 + T0 + 2 + S + T) = K0 + T0 + 2 + S + T := IntWalk.i64_in _ (by omega)
        clear hT hL1 hd hj0 hN1
        go_wp2_with fail
        refine (rsize_any a wr).mono ?_
        rintro e w5' ⟨rfl, rfl⟩
        rw [HZ.out]
        go_wp2_with fail
        refine (rhmac_any a (z + info + 1) HA.out (by omega) (by omega) wr).mono ?_
        rintro e w5 ⟨rfl, hb⟩
        have H5 := Lib.hid (HW.out.trans (hb.mono HW.out.size))
        clear hb HW
        rw [HT.out]
        go_wp2_with fail
        refine (rsize_any a w5).mono ?_
        rintro e w5' ⟨rfl, rfl⟩
        rw [HZ.out]
        go_wp2_with fail
        refine ⟨⟨j + 1, by omega, by rw [HL1.out, Int.add_assoc], by rw [HD.out], H5⟩, ?_⟩
        simp only [RowKit.intOf]
        omega
    · have hjN : j = N := by omega
      have hdj : ¬ (j : Int) * z < out := by rw [hjN]; omega
      have t1 : decide ((j : Int) * z < out) = false := decide_eq_false hdj
      have hS2 := HS.out
      rw [hjN] at hS2
      have HS2 := Lib.hid hS2
      clear hdj hS2
      go_wp2_with fail
      go_ret
      exact ⟨by rw [HS2.out]; rfl, HW.out⟩
theorem pb_arith {B : Int} {c g E : Int} (hB0 : 0 ≤ B) (hB1 : B ≤ 16) (hc0 : 1 ≤ c) (hc1 : c ≤ 1048576) (hg0 : 0 ≤ g) (hg1 : g ≤ 1600) (hE : E = g + (c - 1) * 2) :
    0 ≤ (c - 1) * 2 ∧ (c - 1) * 2 ≤ 2097152 ∧ 0 ≤ E ∧ E ≤ 2098752 ∧ 0 ≤ B * E ∧ B * E ≤ 33580032 := by
  have h1 : 0 ≤ E ∧ E ≤ 2098752 := by omega
  have h2 : 0 ≤ B * E := Int.mul_nonneg hB0 h1.1
  have h3 : B * E ≤ 16 * 2098752 := Int.mul_le_mul hB1 h1.2 h1.1 (by omega)
  omega
set_option maxHeartbeats 2000000 in
theorem rpbkdf_any (a key salt count out : Int) (ha : a = 1 ∨ a = 2) (k0 : 0 ≤ key) (k1 : key ≤ 100000) (s0 : 0 ≤ salt) (s1 : salt ≤ 100000) (c0 : 1 ≤ count) (c1 : count ≤ 1048576) (o0 : 1 ≤ out) (o1 : out ≤ 512) (w : World) :
    Calls Try.prog 85 #[.int .u8 a, .int .i64 key, .int .i64 salt, .int .i64 count, .int .i64 out] w (Told (.int .i64 (keyB a key + ((out + hashA a - 1) / hashA a) * (tagB a (salt + 4) + (count - 1) * tagB a (hashA a)))) w) := by
  have HA := Lib.hid ha
  have hth := tagB_hash ha
  obtain ⟨z, hz⟩ : ∃ b, hashA a = b := ⟨_, rfl⟩
  have hz2 : z = 32 ∨ z = 64 := by rw [← hz]; exact hashA_alg ha
  rw [hz] at hth
  have HTH := Lib.hid hth
  have r1 := keyB_rng (a := a) k0
  have r2 := tagB_rng (a := a) (n := salt + 4) (by omega)
  rw [hz, hth]
  obtain ⟨B, hB⟩ : ∃ x, (out + z - 1) / z = x := ⟨_, rfl⟩
  have hB2 : 0 ≤ B ∧ B ≤ 16 := by rw [← hB]; rcases hz2 with rfl | rfl <;> omega
  have hBt : Int.tdiv (out + z - 1) z = B := by rw [← hB]; exact Int.tdiv_eq_ediv_of_nonneg (by rcases hz2 with rfl | rfl <;> omega)
  have hz0 : z ≠ 0 := by rcases hz2 with rfl | rfl <;> decide
  have hz1 : (z == (0 : Int)) = false := by rw [beq_eq_false_iff_ne]; exact hz0
  rw [hB]
  obtain ⟨K0, hK0⟩ : ∃ x, keyB a key = x := ⟨_, rfl⟩
  obtain ⟨G, hG⟩ : ∃ x, tagB a (salt + 4) = x := ⟨_, rfl⟩
  rw [hK0] at r1 ⊢
  rw [hG] at r2 ⊢
  obtain ⟨E, hE⟩ : ∃ x, G + (count - 1) * 2 = x := ⟨_, rfl⟩
  obtain ⟨a1, a2, a3, a4, a5, a6⟩ := pb_arith (B := B) (c := count) (g := G) (E := E) hB2.1 hB2.2 c0 c1 (by omega) (by omega) hE.symm
  obtain ⟨P, hP⟩ : ∃ x, B * E = x := ⟨_, rfl⟩
  rw [hP] at a5 a6
  have w0 : IntKind.i64.wrap (out + z) = out + z := IntWalk.i64_in _ (by omega)
  have w0' : IntKind.i64.wrap (out + z - 1) = out + z - 1 := IntWalk.i64_in _ (by omega)
  have wB : IntKind.i64.wrap B = B := IntWalk.i64_in _ (by omega)
  have w1 : IntKind.i64.wrap (salt + 4) = salt + 4 := IntWalk.i64_in _ (by omega)
  have w2 : IntKind.i64.wrap (count - 1) = count - 1 := IntWalk.i64_in _ (by omega)
  have w3 : IntKind.i64.wrap ((count - 1) * 2) = (count - 1) * 2 := IntWalk.i64_in _ (by omega)
  have w4 : IntKind.i64.wrap (G + (count - 1) * 2) = E := by rw [hE]; exact IntWalk.i64_in _ (by omega)
  have w5 : IntKind.i64.wrap (B * E) = P := by rw [hP]; exact IntWalk.i64_in _ (by omega)
  have w6 : IntKind.i64.wrap (K0 + P) = K0 + P := IntWalk.i64_in _ (by omega)
  rw [hE, hP]
  have HZ := Lib.hid hz
  have HK0 := Lib.hid hK0
  have HG := Lib.hid hG
  clear hz hth hB hK0 hG hE hP ha
  go_enter Try.func85, Try.ntmps85
  go_wp2_with fail
  refine (rsize_any a w).mono ?_
  rintro e w1 ⟨rfl, rfl⟩
  rw [HZ.out]
  go_wp2_with fail
  refine (rsize_any a w).mono ?_
  rintro e w1 ⟨rfl, rfl⟩
  rw [HZ.out]
  go_wp2_with fail
  refine (rkeyed_any a key HA.out k0 (by omega) w).mono ?_
  rintro e w1 ⟨rfl, hb⟩
  have H1 := Lib.hid hb
  clear hb
  rw [HK0.out]
  go_wp2_with fail
  refine (rhmac_any a (salt + 4) HA.out (by omega) (by omega) w1).mono ?_
  rintro e w2 ⟨rfl, hb⟩
  have H2 := Lib.hid (H1.out.trans (hb.mono H1.out.size))
  clear hb H1
  rw [HG.out]
  go_wp2_with fail
  refine (rsize_any a w2).mono ?_
  rintro e w2' ⟨rfl, rfl⟩
  rw [HZ.out]
  go_wp2_with fail
  refine (rhmac_any a z HA.out (by omega) (by omega) w2).mono ?_
  rintro e w3 ⟨rfl, hb⟩
  have H3 := Lib.hid (H2.out.trans (hb.mono H2.out.size))
  clear hb H2
  rw [HTH.out]
  go_wp2_with fail
  go_ret
  exact ⟨rfl, H3.out⟩
end Go.Proofs.Ytkidijjhedjifaa
