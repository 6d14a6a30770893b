/- A region that draws its order, step by step under a condition S that every operation keeps: what yields one value in every world that meets S is taken first; the others come alone, or two in either order. No program in sight. -/
import Derived.Test.YtideobdggdmeiaaScript
import Derived.OrdersHeld
namespace Go.Proofs.Ytideobdggdmeiaa
open Go
section
variable {P : Program} {ops : Array Oper} {md : Region.Mode} {Q : Exit → Act → World → Prop} {S : World → Prop} {fuel : Nat} {listed : Array Bool} {a : Act} {w : World} {o : Oper} {i j : Nat} {v : Value}
theorem hd_start {id : Nat} (S : World → Prop) (hm : P.follows .mixedOrders = true) (h : ∀ w', w' = w.drewN 1 → wpAnyH P .any ops Q S ops.size (Array.replicate ops.size false) a w') : (Code.region id ops true).wp P Q a w := wp_region_held hm (h _ rfl)
/-- taken first: it yields v in every world that meets S -/
theorem hd_take (i : Nat) (ho : ops[i]? = some o) (hs : (Region.noSelect ops && Region.free md ops listed i && (Region.ready md ops listed).contains i) = true) (hQ : ∀ c (a : Act) (d : Option Tmp) (v : Value) w, Q (.panic c) (a.put d v) w → Q (.panic c) a w)
    (hw : Region.wanted o (yielded ops a.tmps) = true) (hS : S w) (h : ∀ w, S w → (execOp a.eval o).run P w = .ok (.value v) w) (kk : wpAnyH P md ops Q S fuel (listed.setIfInBounds i true) (a.put o.dst v) w) : wpAnyH P md ops Q S (fuel + 1) listed a w := by
  simp only [Bool.and_eq_true] at hs
  exact wpAnyH_take ho hs.1.1 hs.1.2 hs.2 (fun c a w => hQ c a _ v w) (.inl ⟨hw, h⟩) hS kk
/-- its guard is false -/
theorem hd_off (i : Nat) (ho : ops[i]? = some o) (hs : (Region.noSelect ops && Region.free md ops listed i && (Region.ready md ops listed).contains i) = true) (hQ : ∀ c (a : Act) (d : Option Tmp) (v : Value) w, Q (.panic c) (a.put d v) w → Q (.panic c) a w)
    (hw : Region.wanted o (yielded ops a.tmps) = false) (hS : S w) (kk : wpAnyH P md ops Q S fuel (listed.setIfInBounds i true) (a.put o.dst undef) w) : wpAnyH P md ops Q S (fuel + 1) listed a w := by
  simp only [Bool.and_eq_true] at hs
  exact wpAnyH_take ho hs.1.1 hs.1.2 hs.2 (fun c a w => hQ c a _ undef w) (.inr ⟨hw, rfl⟩) hS kk
/-- the only one that may come -/
theorem hd_one (i : Nat) (hr : decide (Region.ready md ops listed = [i]) = true) (h : wpOp P ops Q i (fun a' w' => S w' ∧ wpAnyH P md ops Q S fuel (listed.setIfInBounds i true) a' w') a w) : wpAnyH P md ops Q S (fuel + 1) listed a w := by
  rw [decide_eq_true_eq] at hr
  refine wpAnyH_all hr (by simp) fun k hk => ?_
  obtain rfl : k = i := by simpa using hk
  exact h
/-- one of two -/
theorem hd_two (i j : Nat) (hr : decide (Region.ready md ops listed = [i, j]) = true) (h1 : wpOp P ops Q i (fun a' w' => S w' ∧ wpAnyH P md ops Q S fuel (listed.setIfInBounds i true) a' w') a w)
    (h2 : wpOp P ops Q j (fun a' w' => S w' ∧ wpAnyH P md ops Q S fuel (listed.setIfInBounds j true) a' w') a w) : wpAnyH P md ops Q S (fuel + 1) listed a w := by
  rw [decide_eq_true_eq] at hr
  refine wpAnyH_all hr (by simp) fun k hk => ?_
  have hk2 : k = i ∨ k = j := by simpa using hk
  rcases hk2 with rfl | rfl
  · exact h1
  · exact h2
theorem hd_done (hr : (Region.ready md ops listed).isEmpty = true) (h : wpList P ops Q [] a w) : wpAnyH P md ops Q S fuel listed a w := wpAnyH_done (by simpa using hr) h fuel
variable {K : Act → World → Prop}
theorem op_call {f : FuncId} {args : Array Value} (ho : ops[i]? = some o) (hw : Region.wanted o (yielded ops a.tmps) = true) (h : (execOp a.eval o).run P w = .ok (.enter f args) w)
    (hc : Calls P f args w fun e w'' => ∃ v, e = .returned v ∧ K (a.put o.dst v) w'') : wpOp P ops Q i K a w := by
  unfold Go.wpOp
  simp only [ho, hw, if_true]
  exact .inl (wp_mid_call h hc)
theorem op_run {w' : World} (ho : ops[i]? = some o) (hw : Region.wanted o (yielded ops a.tmps) = true) (h : (execOp a.eval o).run P w = .ok (.value v) w') (hc : K (a.put o.dst v) w') : wpOp P ops Q i K a w := by
  unfold Go.wpOp
  simp only [ho, hw, if_true]
  refine .inl ?_
  unfold Oper.wp
  rw [h]
  exact hc
theorem op_skip {w' : World} (ho : ops[i]? = some o) (hw : Region.wanted o (yielded ops a.tmps) = true) (h : (execOp a.eval o).run P w = .ok .skip w') (hc : K (a.put o.dst undef) w') : wpOp P ops Q i K a w := by
  unfold Go.wpOp
  simp only [ho, hw, if_true]
  refine .inl ?_
  unfold Oper.wp
  rw [h]
  exact hc
theorem op_off (ho : ops[i]? = some o) (hw : Region.wanted o (yielded ops a.tmps) = false) (hc : K (a.put o.dst undef) w) : wpOp P ops Q i K a w := by
  unfold Go.wpOp
  simp only [ho, hw, Bool.false_eq_true, if_false]
  exact hc
end
end Go.Proofs.Ytideobdggdmeiaa
