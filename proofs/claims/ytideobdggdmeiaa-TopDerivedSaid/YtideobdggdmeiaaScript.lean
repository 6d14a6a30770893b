/- A region that draws its order, walked by a script: each operation is either taken first (it yields one value in whatever world, and stands apart from all that is left), or it is the only one that may come. No program in sight. -/
import Derived.Test.YtideobdggdmeiaaTame
import Derived.Test.YtideobdggdmeiaaMem
namespace Go.Proofs.Ytideobdggdmeiaa
open Go
section
variable {P : Program} {ops : Array Oper} {md : Region.Mode} {Q : Exit → Act → World → Prop}
def scriptB (md : Region.Mode) (ops : Array Oper) : List (Nat × Bool) → Array Bool → Bool
  | [], listed => (Region.ready md ops listed).isEmpty
  | (i, true) :: r, listed => (Region.ready md ops listed).contains i && Region.free md ops listed i && scriptB md ops r (listed.setIfInBounds i true)
  | (i, false) :: r, listed => decide (Region.ready md ops listed = [i]) && scriptB md ops r (listed.setIfInBounds i true)
def wpScript (P : Program) (ops : Array Oper) (Q : Exit → Act → World → Prop) : List (Nat × Bool) → Act → World → Prop
  | [], a, w => wpList P ops Q [] a w
  | (i, true) :: r, a, w => ∃ o v, ops[i]? = some o ∧ Yields P ops o v a ∧ wpScript P ops Q r (a.put o.dst v) w
  | (i, false) :: r, a, w => ∃ o, ops[i]? = some o ∧ ((Region.wanted o (yielded ops a.tmps) = true ∧ o.wp P a w (wpScript P ops Q r) Q) ∨ (Region.wanted o (yielded ops a.tmps) = false ∧ wpScript P ops Q r (a.put o.dst undef) w))
theorem wpAny_script (hsel : Region.noSelect ops = true) (hQ : ∀ c (a : Act) (d : Option Tmp) (v : Value) w, Q (.panic c) (a.put d v) w → Q (.panic c) a w) :
    ∀ (s : List (Nat × Bool)) (listed : Array Bool) (a : Act) (w : World), scriptB md ops s listed = true → wpScript P ops Q s a w → wpAny P md ops Q s.length listed a w
  | [], listed, a, w, hB, h => ⟨by simpa [scriptB] using hB, h⟩
  | (i, true) :: r, listed, a, w, hB, h => by
    simp only [scriptB, Bool.and_eq_true] at hB
    obtain ⟨⟨hr, hf⟩, hB'⟩ := hB
    obtain ⟨o, v, ho, hy, hK⟩ := h
    exact wpAny_take ho hsel hf hr (fun c a w => hQ c a _ v w) hy (wpAny_script hsel hQ r _ _ w hB' hK)
  | (i, false) :: r, listed, a, w, hB, h => by
    simp only [scriptB, Bool.and_eq_true, decide_eq_true_eq] at hB
    obtain ⟨hr, hB'⟩ := hB
    obtain ⟨o, ho, h⟩ := h
    refine ⟨fun h0 => (by rw [hr] at h0; cases h0), fun j hj => ?_⟩
    rw [hr] at hj
    obtain rfl : j = i := by simpa using hj
    unfold Go.wpOp
    simp only [ho]
    rcases h with ⟨hw, h⟩ | ⟨hw, h⟩
    · simp only [hw, if_true]
      exact .inl (Oper.wp_mono (fun a2 w2 h2 => wpAny_script hsel hQ r _ a2 w2 hB' h2) h)
    · simp only [hw, Bool.false_eq_true, if_false]
      exact wpAny_script hsel hQ r _ _ w hB' h
theorem wp_region_script {id : Nat} {a : Act} {w : World} {l : List Oper} (s : List (Nat × Bool)) (hm : P.follows .mixedOrders = true) (hB : (Region.noSelect l.toArray && decide (s.length = l.toArray.size) && scriptB .any l.toArray s (Array.replicate l.toArray.size false)) = true)
    (hQ : ∀ c (a : Act) (d : Option Tmp) (v : Value) w, Q (.panic c) (a.put d v) w → Q (.panic c) a w)
    (h : ∀ w', w' = w.drewN 1 → wpScript P l.toArray Q s a w') : (Code.region id l.toArray true).wp P Q a w := by
  simp only [Bool.and_eq_true, decide_eq_true_eq] at hB
  obtain ⟨⟨hsel, hl⟩, hB⟩ := hB
  refine wp_region_any hm ?_
  have := wpAny_script (md := .any) hsel hQ s _ a _ hB (h _ rfl)
  rw [hl] at this
  exact this

variable {r : List (Nat × Bool)} {a : Act} {w : World} {o : Oper} {i : Nat} {v : Value}
theorem scr_pure (ho : ops[i]? = some o) (hw : Region.wanted o (yielded ops a.tmps) = true) (h : ∀ w, (execOp a.eval o).run P w = .ok (.value v) w) (kk : wpScript P ops Q r (a.put o.dst v) w) : wpScript P ops Q ((i, true) :: r) a w := ⟨o, v, ho, .inl ⟨hw, h⟩, kk⟩
theorem scr_off (ho : ops[i]? = some o) (hw : Region.wanted o (yielded ops a.tmps) = false) (kk : wpScript P ops Q r (a.put o.dst undef) w) : wpScript P ops Q ((i, true) :: r) a w := ⟨o, undef, ho, .inr ⟨hw, rfl⟩, kk⟩
theorem scr_off1 (ho : ops[i]? = some o) (hw : Region.wanted o (yielded ops a.tmps) = false) (kk : wpScript P ops Q r (a.put o.dst undef) w) : wpScript P ops Q ((i, false) :: r) a w := ⟨o, ho, .inr ⟨hw, kk⟩⟩
theorem scr_call {f : FuncId} {args : Array Value} (ho : ops[i]? = some o) (hw : Region.wanted o (yielded ops a.tmps) = true) (h : (execOp a.eval o).run P w = .ok (.enter f args) w)
    (hc : Calls P f args w fun e w'' => ∃ v, e = .returned v ∧ wpScript P ops Q r (a.put o.dst v) w'') : wpScript P ops Q ((i, false) :: r) a w := ⟨o, ho, .inl ⟨hw, wp_mid_call h hc⟩⟩
theorem scr_run {w' : World} (ho : ops[i]? = some o) (hw : Region.wanted o (yielded ops a.tmps) = true) (h : (execOp a.eval o).run P w = .ok (.value v) w') (kk : wpScript P ops Q r (a.put o.dst v) w') : wpScript P ops Q ((i, false) :: r) a w := ⟨o, ho, .inl ⟨hw, by unfold Oper.wp; rw [h]; exact kk⟩⟩
theorem scr_skip {w' : World} (ho : ops[i]? = some o) (hw : Region.wanted o (yielded ops a.tmps) = true) (h : (execOp a.eval o).run P w = .ok .skip w') (kk : wpScript P ops Q r (a.put o.dst undef) w') : wpScript P ops Q ((i, false) :: r) a w := ⟨o, ho, .inl ⟨hw, by unfold Oper.wp; rw [h]; exact kk⟩⟩
end
end Go.Proofs.Ytideobdggdmeiaa
