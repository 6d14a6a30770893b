/- '==' and '!=' of two arrays of bytes as one step of a walk, and the literal of an array of noughts; whole loads under a guard. No program in sight. -/
import Derived.Test.YtideobdggdmeiaaMem
import Derived.Test.YtideobdggdmeiaaBase
namespace Go.Proofs.Ytideobdggdmeiaa
open Go.RowKit
set_option linter.unusedSimpArgs false
section
variable {P : Program} {ops : Array Oper} {rest : List Oper} {a : Act} {w : World} {Q : Exit → Act → World → Prop} {d : Option Tmp} {t ot : TypeId} {x y : Operand} {pos : String} {aft : Array Edge} {gd : Option (Nat × Bool)}
theorem wpList_value {o : Oper} (v : Value) (hw : Region.wanted o (yielded ops a.tmps) = true) (h : (execOp a.eval o).run P w = .ok (.value v) w) (kk : wpList P ops Q rest (a.put o.dst v) w) : wpList P ops Q (o :: rest) a w :=
  wpList_step fun K hK => by
    rw [if_pos hw]
    unfold Oper.wp
    rw [h]
    exact hK _ _ kk
theorem wpList_eql_arr {ty : TypeId} (l m : List UInt8) (b : Bool) (hw : Region.wanted ⟨d, .binOp .eql ty x y t, ot, pos, aft, gd⟩ (yielded ops a.tmps) = true) (hx : a.eval x = .agg (barr l)) (hy : a.eval y = .agg (barr m)) (hg : P.eqGuardType P.depth ty = false)
    (he : ∀ w, (Op.equalIn 10000 ty (.agg (barr l)) (.agg (barr m))).run P w = .ok b w)
    (kk : wpList P ops Q rest (a.put d (.bool b)) w) : wpList P ops Q (⟨d, .binOp .eql ty x y t, ot, pos, aft, gd⟩ :: rest) a w := by
  refine wpList_value (.bool b) hw ?_ kk
  simp only [execOp, Sem.run_bind, hx, hy, run_eqGuard_agg w .eql ty x y _ _ hg, Result.andThen_ok, run_eql_struct, he, Sem.run_pure]
theorem wpList_neq_arr {ty : TypeId} (l m : List UInt8) (b : Bool) (hw : Region.wanted ⟨d, .binOp .neq ty x y t, ot, pos, aft, gd⟩ (yielded ops a.tmps) = true) (hx : a.eval x = .agg (barr l)) (hy : a.eval y = .agg (barr m)) (hg : P.eqGuardType P.depth ty = false)
    (he : ∀ w, (Op.equalIn 10000 ty (.agg (barr l)) (.agg (barr m))).run P w = .ok b w)
    (kk : wpList P ops Q rest (a.put d (.bool (!b))) w) : wpList P ops Q (⟨d, .binOp .neq ty x y t, ot, pos, aft, gd⟩ :: rest) a w := by
  refine wpList_value (.bool (!b)) hw ?_ kk
  simp only [execOp, Sem.run_bind, hx, hy, run_eqGuard_agg w .neq ty x y _ _ hg, Result.andThen_ok, run_neq_struct, he, Sem.run_pure]
theorem exec_eql_arr {ty : TypeId} (l m : List UInt8) (b : Bool) (hx : a.eval x = .agg (barr l)) (hy : a.eval y = .agg (barr m)) (hg : P.eqGuardType P.depth ty = false)
    (he : ∀ w, (Op.equalIn 10000 ty (.agg (barr l)) (.agg (barr m))).run P w = .ok b w) : (execOp a.eval ⟨d, .binOp .eql ty x y t, ot, pos, aft, gd⟩).run P w = .ok (.value (.bool b)) w := by
  simp only [execOp, Sem.run_bind, hx, hy, run_eqGuard_agg w .eql ty x y _ _ hg, Result.andThen_ok, run_eql_struct, he, Sem.run_pure]
theorem exec_neq_arr {ty : TypeId} (l m : List UInt8) (b : Bool) (hx : a.eval x = .agg (barr l)) (hy : a.eval y = .agg (barr m)) (hg : P.eqGuardType P.depth ty = false)
    (he : ∀ w, (Op.equalIn 10000 ty (.agg (barr l)) (.agg (barr m))).run P w = .ok b w) : (execOp a.eval ⟨d, .binOp .neq ty x y t, ot, pos, aft, gd⟩).run P w = .ok (.value (.bool (!b))) w := by
  simp only [execOp, Sem.run_bind, hx, hy, run_eqGuard_agg w .neq ty x y _ _ hg, Result.andThen_ok, run_neq_struct, he, Sem.run_pure]
/-- a whole block is stored; the world behind it is a variable -/
theorem wpList_store_var (g : Nat) (cells : Array Value) (hx : a.eval x = .pointer (some ⟨g, 0, none⟩)) (hy : a.eval y = .agg cells) {bt ty : TypeId} {old : Array Value} {n : Nat} (hg : Blk w g bt old)
    (hi : (P.info? ty).map (·.size) = some n) (hn : cells.size = n) (ho : old.size = n) (h1 : ∀ v ∈ cells.toList, v.oneCell' = true)
    (h : ∀ w', Blk w' g bt cells → Only (fun x => x = g) w w' → wpList P ops Q rest (a.put d undef) w') : wpList P ops Q (⟨d, .store ty x y, ot, pos, aft, none⟩ :: rest) a w :=
  wpList_store_blk g cells hx hy hg hi hn ho h1 (h _ (hg.row _) (Only.row (S := fun x => x = g) (Only.refl _ w) (.inl rfl) _))
theorem run_index_bytes {ty e : TypeId} {n : Nat} (hu : P.underlying ty = some (.array n e)) (hk : P.plainKey e = true) (hs : (P.info? e).map (·.size) = some 1) (l : List UInt8) (k : Nat) (hl : k < l.length) (hn : k < n) (w : World) :
    (Instr.index ty (.agg (barr l)) (.int .i64 (k : Int))).run P w = .ok (.int .u8 ((l.getD k 0).toNat : Int)) w := by
  have h1 := run_part_plain w hk (barr_getD l k hl)
  cases hq : P.info? e with
  | none => simp [hq] at hs
  | some i =>
    have hi : i.size = 1 := by simpa [hq] using hs
    have hc : (0 : Int) ≤ (k : Int) ∧ (k : Int) < (n : Int) := by omega
    simp only [Instr.index, asIntOf, Sem.run_bind, Sem.run_pure, Result.andThen_ok, run_underlying hu]
    rw [if_pos hc]
    simp only [Sem.run_bind, sizeOf, typeInfo, hq, hi, Sem.run_pure, Result.andThen_ok, Int.toNat_natCast, Nat.mul_one]
    simpa [hq, hi] using h1
end
end Go.Proofs.Ytideobdggdmeiaa
