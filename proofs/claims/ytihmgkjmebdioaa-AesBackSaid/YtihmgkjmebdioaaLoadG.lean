/- A whole block is read under a guard. No program in sight. -/
import Derived.Test.YtihmgkjmebdioaaEqArr
namespace Go.Proofs.Ytihmgkjmebdioaa
open Go.RowKit
section
variable {P : Program} {ops : Array Oper} {rest : List Oper} {a : Act} {w : World} {Q : Exit → Act → World → Prop} {d : Option Tmp} {ot : TypeId} {x : Operand} {pos : String} {aft : Array Edge} {gd : Option (Nat × Bool)}
theorem wpList_load_gd {ty : TypeId} (g : Nat) (hw : Region.wanted ⟨d, .load ty x, ot, pos, aft, gd⟩ (yielded ops a.tmps) = true) (hx : a.eval x = .pointer (some ⟨g, 0, none⟩)) {t : TypeId} {cs : Array Value} {de : TypeDesc} {n : Nat} (hg : Blk w g t cs)
    (hu : P.underlying ty = some de) (hd : (match de with | .struct _ | .array _ _ => true | _ => false) = true) (hi : (P.info? ty).map (·.size) = some n) (hn : cs.size = n)
    (h : wpList P ops Q rest (a.put d (.agg cs)) w) : wpList P ops Q (⟨d, .load ty x, ot, pos, aft, gd⟩ :: rest) a w := by
  refine wpList_value (.agg cs) hw ?_ h
  simp only [execOp, hx, Instr.loadAt, Instr.sureAddr, Sem.run_bind, Sem.run_pure, Result.andThen_ok, run_loadVar_row w g t ty cs (0, 0) de hg hu hd (by rw [hi, hn])]
end
end Go.Proofs.Ytihmgkjmebdioaa
