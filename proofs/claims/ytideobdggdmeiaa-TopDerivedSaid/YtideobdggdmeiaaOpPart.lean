/- Loads out of the middle of a block and stores into it, copies into it. No program in sight. -/
import Derived.Test.YtideobdggdmeiaaOpCopy
import Derived.Test.YtideobdggdmeiaaCopy
namespace Go.Proofs.Ytideobdggdmeiaa
open Go.RowKit
set_option maxRecDepth 100000
set_option linter.unusedVariables false
set_option linter.unusedSimpArgs false
section
variable {P : Program} {ops : Array Oper} {Q : Exit → Act → World → Prop} {a : Act} {w : World} {i : Nat}
theorem run_ldm {b off : Nat} {ty : TypeId} {x : Operand} {cs : List Value} {de : TypeDesc} {d : Option Tmp} {ot : TypeId} {pos : String} {aft : Array Edge} {gd : Option (Nat × Bool)} (hx : a.eval x = .pointer (some ⟨b, off, none⟩))
    (hu : P.underlying ty = some de) (hd : de.isRow = true) (hi : (P.info? ty).map (·.size) = some cs.length) (h : w.rangeAt b off cs) : (execOp a.eval ⟨d, .load ty x, ot, pos, aft, gd⟩).run P w = .ok (.value (.agg cs.toArray)) w := by
  unfold execOp
  simp only [hx, Instr.loadAt, Instr.sureAddr, Sem.run_bind, Sem.run_pure, Result.andThen_ok, run_loadVar_mid w b off ty cs de h hu hd hi]
theorem run_stm {ty : TypeId} {x y : Operand} {d : Option Tmp} {ot : TypeId} {pos : String} {aft : Array Edge} {gd : Option (Nat × Bool)} (g o : Nat) (cells : Array Value) (hx : a.eval x = .pointer (some ⟨g, o, none⟩)) (hy : a.eval y = .agg cells)
    (ht : w.there g o cells.size) (hi : (P.info? ty).map (·.size) = some cells.size) (h1 : cells.all (·.oneCell') = true) :
    (execOp a.eval ⟨d, .store ty x y, ot, pos, aft, gd⟩).run P w = .ok .skip (w.setCells g o cells.toList) := by
  unfold execOp
  simp only [hx, hy, Instr.storeAt, Instr.sureAddr, Sem.run_bind, Sem.run_pure, Result.andThen_ok, run_storeVar_mid w g o ty cells ht hi h1]
/-- a store into the middle of a block, in a region that draws -/
theorem op_stm {K : Act → World → Prop} {ty : TypeId} {x y : Operand} {d : Option Tmp} {ot : TypeId} {pos : String} {aft : Array Edge} (g off : Nat) (cells : List Value) {bt : TypeId} {cs : Array Value} (pre old post : List Value) (ho : ops[i]? = some ⟨d, .store ty x y, ot, pos, aft, none⟩) (hw : Region.wanted ⟨d, .store ty x y, ot, pos, aft, none⟩ (yielded ops a.tmps) = true)
    (hx : a.eval x = .pointer (some ⟨g, off, none⟩)) (hy : a.eval y = .agg cells.toArray) (hg : Blk w g bt cs) (hc : cs = (pre ++ (old ++ post)).toArray) (hoff : off = pre.length) (hi : (P.info? ty).map (·.size) = some cells.length) (hn : cells.length = old.length) (h1 : ∀ v ∈ cells, v.oneCell' = true)
    (kk : ∀ w', Blk w' g bt (pre ++ (cells ++ post)).toArray → Only (fun x => x = g) w w' → K (a.put d undef) w') : wpOp P ops Q i K a w := by
  subst hc hoff
  refine op_skip ho hw (run_stm g pre.length cells.toArray hx hy (hg.there _ _ (by simp; omega)) (by rw [hi]; simp) (all_oneCell_toArray h1)) ?_
  exact kk _ (Blk.setPart cells old pre post w hn hg) (Only.sets (S := fun x => x = g) (.inl rfl) _ _ _ (Only.refl _ _))
/-- a copy into the middle of a block -/
theorem wpList_copy_part {rest : List Oper} {o : Oper} (hgd : o.guard = none) (d s : Operand) (dT sT : TypeId) (hop : o.op = .call { callee := .builtin .copy, args := #[d, s], argTypes := #[dT, sT] })
    (elem : TypeId) (hu : P.underlying dT = some (.slice elem)) (hsz : (P.info? elem).map (·.size) = some 1) (g off dLen dCap : Nat) (ad : Addr) (sLen sCap : Nat) (hd : a.eval d = .slice (some ⟨g, off, none⟩) dLen dCap) (hs : a.eval s = .slice (some ad) sLen sCap)
    {bt : TypeId} {cur : Array Value} (pre old post cs : List Value) (hg : Blk w g bt cur) (hc : cur = (pre ++ (old ++ post)).toArray) (hoff : off = pre.length) (hcs : cs.length = old.length) (hn : cs.length = Nat.min sLen dLen)
    (hsrc : ∀ j v, cs[j]? = some v → w.cell? (ad.add j) = some v) (h1 : ∀ v ∈ cs, v.oneCell' = true)
    (kk : ∀ w', Blk w' g bt (pre ++ (cs ++ post)).toArray → Only (fun x => x = g) w w' → wpList P ops Q rest (a.put o.dst (goInt cs.length)) w') : wpList P ops Q (o :: rest) a w := by
  subst hoff hc
  refine wpList_copy_only hgd d s dT sT hop elem hu hsz (some ⟨g, pre.length, none⟩) (some ad) dLen dCap sLen sCap hd hs g pre.length (pre ++ (old ++ post)) bt hg cs hn (fun _ => ⟨rfl, ad, rfl, hsrc⟩) (by simp; omega) h1 ?_
  intro w' hh ho
  have e : splice (pre ++ (old ++ post)) pre.length cs = pre ++ (cs ++ post) := by
    unfold splice
    rw [List.take_left, ← List.drop_drop, List.drop_left, hcs, List.drop_left]
  have h2 := hh.out
  rw [e] at h2
  exact kk w' h2 ho
end
end Go.Proofs.Ytideobdggdmeiaa
