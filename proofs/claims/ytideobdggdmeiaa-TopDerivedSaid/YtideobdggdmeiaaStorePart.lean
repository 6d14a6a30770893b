/- A store into the middle of a block, the world a variable (the general part of XMacObj). -/
import Derived.Test.YtideobdggdmeiaaAp
import Derived.Test.YtideobdggdmeiaaEqArr
import Derived.Deep.MidRow
namespace Go.Proofs.Ytideobdggdmeiaa
open Go.RowKit
set_option maxRecDepth 100000
set_option linter.unusedVariables false
set_option linter.unusedSimpArgs false
theorem Blk.there {w : World} {b : Nat} {t : TypeId} {cs : Array Value} (h : Blk w b t cs) (o n : Nat) (hn : o + n ≤ cs.size) : w.there b o n := fun j hj => by
  refine ⟨?_, h.unfrozen _⟩
  rw [h.cell, Array.getElem?_eq_getElem (by omega)]
  rfl
theorem Blk.setPart {b : Nat} {t : TypeId} : ∀ (vs mid pre post : List Value) (w : World), vs.length = mid.length → Blk w b t (pre ++ (mid ++ post)).toArray → Blk (w.setCells b pre.length vs) b t (pre ++ (vs ++ post)).toArray
  | [], [], _, _, _, _, h => h
  | [], _ :: _, _, _, _, hl, _ => by simp at hl
  | _ :: _, [], _, _, _, hl, _ => by simp at hl
  | x :: r, y :: mid, pre, post, w, hl, h => by
    rw [World.setCells]
    have h1 := h.set pre.length x
    have e : (pre ++ (y :: mid ++ post)).toArray.setIfInBounds pre.length x = ((pre ++ [x]) ++ (mid ++ post)).toArray := by
      rw [List.setIfInBounds_toArray, List.set_append_right _ _ (Nat.le_refl _), Nat.sub_self]
      simp
    rw [e] at h1
    have h2 := Blk.setPart r mid (pre ++ [x]) post _ (by simpa using hl) h1
    rw [show (pre ++ [x]).length = pre.length + 1 from by simp] at h2
    simpa using h2
section
variable {P : Program} {ops : Array Oper} {rest : List Oper} {d : Option Tmp} {x y : Operand} {ot : TypeId} {pos : String} {aft : Array Edge} {a : Act} {w : World} {Q : Exit → Act → World → Prop}
/-- a store into the middle of a block, the world a variable -/
theorem wpList_store_part (g o : Nat) (cells : List Value) (hx : a.eval x = .pointer (some ⟨g, o, none⟩)) (hy : a.eval y = .agg cells.toArray) {bt ty : TypeId} {cs : Array Value} (pre old post : List Value) (hg : Blk w g bt cs) (hc : cs = (pre ++ (old ++ post)).toArray) (ho : o = pre.length)
    (hi : (P.info? ty).map (·.size) = some cells.length) (hn : cells.length = old.length) (h1 : ∀ v ∈ cells, v.oneCell' = true)
    (h : ∀ w', Blk w' g bt (pre ++ (cells ++ post)).toArray → Only (fun x => x = g) w w' → wpList P ops Q rest (a.put d undef) w') : wpList P ops Q (⟨d, .store ty x y, ot, pos, aft, none⟩ :: rest) a w := by
  subst ho hc
  refine wpList_store_mid rfl ty x y rfl g pre.length cells.toArray hx hy (hg.there _ _ (by simp; omega)) (by simpa using hi) (by rw [Array.all_eq_true_iff_forall_mem]; intro v hv; exact h1 v (by simpa using hv)) ?_
  exact h _ (Blk.setPart cells old pre post w hn hg) (Only.sets (S := fun x => x = g) (.inl rfl) _ _ _ (Only.refl _ _))
end
end Go.Proofs.Ytideobdggdmeiaa
