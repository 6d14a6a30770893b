/- '==' and '!=' of two arrays of bytes as one step of a walk, and the literal of an array of noughts; whole loads under a guard. No program in sight. -/
import Derived.Test.YtaphjdfpffhpfaaMem
import Derived.Test.YtaphjdfpffhpfaaBase
namespace Go.Proofs.Ytaphjdfpffhpfaa
open Go.RowKit
section
variable {P : Program} {ops : Array Oper} {rest : List Oper} {a : Act} {w : World} {Q : Exit → Act → World → Prop} {d : Option Tmp} {t ot : TypeId} {x y : Operand} {pos : String} {aft : Array Edge} {gd : Option (Nat × Bool)}
theorem wpList_value {o : Oper} (v : Value) (hw : Region.wanted o (yielded ops a.tmps) = true) (h : (execOp a.eval o).run P w = .ok (.value v) w) (kk : wpList P ops Q rest (a.put o.dst v) w) : wpList P ops Q (o :: rest) a w :=
  wpList_step fun K hK => by
    rw [if_pos hw]
    unfold Oper.wp
    rw [h]
    exact hK _ _ kk
theorem wpList_eql_arr {ty : TypeId} (l m : List UInt8) (b : Bool) (hw : Region.wanted ⟨d, .binOp .eql ty x y t, ot, pos, aft, gd⟩ (yielded ops a.tmps) = true) (hx : a.eval x = .agg (barr l)) (hy : a.eval y = .agg (barr m)) (hg : P.eqGuardType P.depth ty = false)
    (he : ∀ w, (Op.equalIn 10000 ty (.agg (barr l)) (.agg (barr m))).run P w = .ok b w)
    (kk : wpList P ops Q rest (a.put d (.bool b)) w) : wpList P ops Q (⟨d, .binOp .eql ty x y t, ot, pos, aft, gd⟩ :: rest) a w := by
  refine wpList_value (.bool b) hw ?_ kk
  simp only [execOp, Sem.run_bind, hx, hy, run_eqGuard_agg w .eql ty x y _ _ hg, Result.andThen_ok, run_eql_struct, he, Sem.run_pure]
theorem wpList_neq_arr {ty : TypeId} (l m : List UInt8) (b : Bool) (hw : Region.wanted ⟨d, .binOp .neq ty x y t, ot, pos, aft, gd⟩ (yielded ops a.tmps) = true) (hx : a.eval x = .agg (barr l)) (hy : a.eval y = .agg (barr m)) (hg : P.eqGuardType P.depth ty = false)
    (he : ∀ w, (Op.equalIn 10000 ty (.agg (barr l)) (.agg (barr m))).run P w = .ok b w)
    (kk : wpList P ops Q rest (a.put d (.bool (!b))) w) : wpList P ops Q (⟨d, .binOp .neq ty x y t, ot, pos, aft, gd⟩ :: rest) a w := by
  refine wpList_value (.bool (!b)) hw ?_ kk
  simp only [execOp, Sem.run_bind, hx, hy, run_eqGuard_agg w .neq ty x y _ _ hg, Result.andThen_ok, run_neq_struct, he, Sem.run_pure]
end
end Go.Proofs.Ytaphjdfpffhpfaa
