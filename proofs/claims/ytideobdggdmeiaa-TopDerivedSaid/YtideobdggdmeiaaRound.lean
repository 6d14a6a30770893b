/- A region that draws its order, in a round of a loop over a function: as in a plain walk, step by step under a condition S (XHeld's steps serve). No program in sight. -/
import Derived.Test.YtideobdggdmeiaaHeld
import Derived.OrdersIn
import Derived.CallsIn
import Derived.TacticsIn
import Derived.RangeFuncCalls
namespace Go.Proofs.Ytideobdggdmeiaa
open Go
section
variable {P : Program} {ops : Array Oper} {md : Region.Mode} {Q : Exit → Act → World → Prop} {n l : Nat}
theorem wpIn_lift_op {o : Oper} {a : Act} {w : World} {K : Act → World → Prop} (hnd : ∀ c, o.op ≠ .defer c) (h : o.wp P a w K Q) : o.wpIn (Fence.wide.inRound l) n P a w K Q := by
  unfold Oper.wp at h
  unfold Oper.wpIn
  rw [show (Fence.wide.inRound l).round = some l from rfl, Oper.semAt_some l _ _ hnd]
  refine ⟨fun _ _ => trivial, ?_⟩
  generalize (execOp a.eval o).run P w = r at *
  cases r with
  | ok x w' =>
    cases x <;> simp only [Oper.upon, Oper.uponIn] at h ⊢
    case value v => exact h
    case skip => exact h
    case defer d => exact h
    case enter f args => exact ⟨fun hh => (by cases hh), CallsIn.inRound l (callsIn_wide.2 h)⟩
    case row r as => exact ⟨fun hh => (by cases hh), fun c cs _ => let ⟨v, w', r, s⟩ := h c cs; ⟨v, w', r, stepsIn_wide.2 s⟩⟩
  | halt x w' => cases x <;> simp only [Oper.upon, Oper.uponIn] at h ⊢ <;> exact h
theorem wpAnyIn_lift (hnd : (ops.all fun o => match o.op with | .defer _ => false | _ => true) = true) (hno : ¬ LetsOut Q) : ∀ (fuel : Nat) (listed : Array Bool) (a : Act) (w : World), wpAny P md ops Q fuel listed a w → wpAnyIn (Fence.wide.inRound l) n P md ops Q fuel listed a w
  | 0, _, _, _, h => h
  | fuel + 1, listed, a, w, h => ⟨h.1, fun i hi => by
    have h2 := h.2 i hi
    unfold wpOp at h2
    unfold wpOpIn
    cases ho : ops[i]? with
    | none => rw [ho] at h2; exact wpAnyIn_lift hnd hno fuel _ a w h2
    | some o =>
      rw [ho] at h2
      have hd : ∀ c, o.op ≠ .defer c := by
        intro c hc
        obtain ⟨hlt, he⟩ := Array.getElem?_eq_some_iff.1 ho
        have := Array.all_eq_true.1 hnd i hlt
        rw [he, hc] at this
        cases this
      simp only at h2 ⊢
      by_cases hw : Region.wanted o (yielded ops a.tmps) = true
      · rw [if_pos hw] at h2 ⊢
        rcases h2 with h2 | ⟨_, h2⟩
        · exact wpIn_lift_op hd (Oper.wp_mono (fun a' w' h' => wpAnyIn_lift hnd hno fuel _ a' w' h') h2)
        · exact absurd h2 hno
      · rw [if_neg hw] at h2 ⊢
        exact ⟨fun _ _ => trivial, wpAnyIn_lift hnd hno fuel _ _ w h2⟩⟩
theorem hd_startIn {id : Nat} {a : Act} {w : World} (S : World → Prop) (hm : P.follows .mixedOrders = true) (hnd : (ops.all fun o => match o.op with | .defer _ => false | _ => true) = true) (hno : ¬ LetsOut Q)
    (h : ∀ w', w' = w.drewN 1 → wpAnyH P .any ops Q S ops.size (Array.replicate ops.size false) a w') : (Code.region id ops true).wpIn (Fence.wide.inRound l) n P Q a w :=
  wpIn_region_any hm (wpAnyIn_lift hnd hno _ _ _ _ (wpAny_of_held _ _ _ _ (h _ rfl)))
end
end Go.Proofs.Ytideobdggdmeiaa
