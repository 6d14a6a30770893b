/- copy into the middle of a block, in a region that draws; a slice's end (the general part of XMacWr, XMacWrite). No program in sight. -/
import Derived.Test.YtideobdggdmeiaaStorePart
import Derived.Test.YtideobdggdmeiaaHeld
import Derived.Laws.CopyOwn
namespace Go.Proofs.Ytideobdggdmeiaa
open Go.RowKit
set_option maxRecDepth 100000
set_option linter.unusedVariables false
set_option linter.unusedSimpArgs false
section
variable {P : Program} {ops : Array Oper} {Q : Exit → Act → World → Prop} {a : Act} {w : World} {o : Oper} {i : Nat}
theorem op_copy {K : Act → World → Prop} (ho : ops[i]? = some o) (hgd : o.guard = none) (d s : Operand) (dT sT : TypeId) (hop : o.op = .call { callee := .builtin .copy, args := #[d, s], argTypes := #[dT, sT] })
    (elem : TypeId) (hu : P.underlying dT = some (.slice elem)) (hsz : (P.info? elem).map (·.size) = some 1) (g off dLen dCap : Nat) (ad : Addr) (sLen sCap : Nat) (hd : a.eval d = .slice (some ⟨g, off, none⟩) dLen dCap) (hs : a.eval s = .slice (some ad) sLen sCap)
    {bt : TypeId} {cur : Array Value} (pre old post cs : List Value) (hg : Blk w g bt cur) (hc : cur = (pre ++ (old ++ post)).toArray) (hoff : off = pre.length) (hcs : cs.length = old.length) (hn : cs.length = Nat.min sLen dLen)
    (hsrc : ∀ j v, cs[j]? = some v → w.cell? (ad.add j) = some v) (h1 : ∀ v ∈ cs, v.oneCell' = true)
    (kk : ∀ w', Blk w' g bt (pre ++ (cs ++ post)).toArray → Only (fun x => x = g) w w' → K (a.put o.dst (goInt cs.length)) w') : wpOp P ops Q i K a w := by
  subst hoff hc
  have hw : Region.wanted o (yielded ops a.tmps) = true := by simp [Region.wanted, hgd]
  unfold Go.wpOp
  simp only [ho, hw, if_true]
  have hrun := run_copy_row (P := P) w dT sT o.type elem g pre.length dLen dCap ad sLen sCap _ bt cs hu hsz hg hn hsrc (by simp; omega) h1
  have e : ((pre ++ (old ++ post)).toArray.toList.take pre.length ++ cs ++ (pre ++ (old ++ post)).toArray.toList.drop (pre.length + cs.length)).toArray = (pre ++ (cs ++ post)).toArray := by
    congr 1
    rw [List.take_left, ← List.drop_drop, List.drop_left, hcs, List.drop_left, List.append_assoc]
  rw [e] at hrun
  refine .inl ?_
  unfold Oper.wp execOp
  simp only [hop, resolve, invoke, builtin, Sem.run_bind, Sem.run_pure, Result.andThen_ok, List.map_toArray, List.map_cons, List.map_nil, hd, hs, hrun]
  exact kk _ (hg.row _) (Only.row (S := fun x => x = g) (Only.refl _ w) (.inl rfl) _)
end
def sliceLen : Value → Nat
  | .slice _ n _ => n
  | _ => 0
theorem Bs.cut {w : World} {sb so n cap : Nat} {l : List UInt8} (h : Bs w (.slice (some ⟨sb, so, none⟩) n cap) l) (kk : Nat) (hk : kk ≤ l.length) : Bs w (.slice (if cap = kk then some ⟨sb, so, none⟩ else some ⟨sb, so + kk, none⟩) (l.length - kk) (cap - kk)) (l.drop kk) := by
  obtain ⟨ao, cap', hv, h1, h2, h3, h4⟩ := h.form
  injection hv with r1 r2 r3
  subst r1 r3
  refine ⟨⟨(if cap = kk then some ⟨sb, so, none⟩ else some ⟨sb, so + kk, none⟩), cap - kk, by rw [List.length_drop], by rw [List.length_drop]; omega, by omega, fun h => by by_cases e : cap = kk <;> simp [e] at h, fun j hj => ?_⟩⟩
  rw [List.length_drop] at hj
  obtain ⟨b, off, hb, hc⟩ := h4 (kk + j) (by omega)
  injection hb with hb
  injection hb with t1 t2 _
  subst t1 t2
  refine ⟨sb, so + kk, by rw [if_neg (by omega)], ?_⟩
  rw [Nat.add_assoc, hc, List.getD_eq_getElem?_getD, List.getD_eq_getElem?_getD, List.getElem?_drop]
end Go.Proofs.Ytideobdggdmeiaa
