/- The contract of a law's block: sixteen bytes that begin with a list's. -/
import Derived.Test.YtihmgkjmebdioaaRows
import Derived.Test.YtihmgkjmebdioaaAesEnv
namespace Go.Proofs.Ytihmgkjmebdioaa
open Go.RowKit
set_option maxRecDepth 100000
set_option linter.unusedVariables false
def blkTo (l : List UInt8) (k : Nat) : List UInt8 := tab 16 fun j => if j < k then l.getD j 0 else 0
def blk (l : List UInt8) : List UInt8 := tab 16 fun j => l.getD j 0
theorem blkTo_length (l : List UInt8) (k : Nat) : (blkTo l k).length = 16 := tab_length _ _
theorem blk_length (l : List UInt8) : (blk l).length = 16 := tab_length _ _
theorem blk_cells (l : List UInt8) : (barr (blk l)).size = 16 := by rw [barr_size, blk_length]
theorem blk_map (l : List UInt8) : ((blk l).map B).length = 16 := by rw [List.length_map, blk_length]
theorem blkTo_zero (l : List UInt8) : blkTo l 0 = List.replicate 16 0 := by
  rw [← tab_zero]
  exact tab_ext _ _ _ fun j _ => by simp
theorem blkTo_succ (l : List UInt8) (k : Nat) : (blkTo l k).set k (l.getD k 0) = blkTo l (k + 1) := by
  unfold blkTo
  rw [tab_set]
  refine tab_ext _ _ _ fun j _ => ?_
  by_cases e : j = k
  · subst e; simp
  · rw [if_neg e]
    by_cases h : j < k
    · rw [if_pos h, if_pos (by omega)]
    · rw [if_neg h, if_neg (by omega)]
theorem blkTo_end (l : List UInt8) (k : Nat) (h : l.length ≤ k ∨ 16 ≤ k) : blkTo l k = blk l := by
  unfold blkTo blk
  refine tab_ext _ _ _ fun j hj => ?_
  by_cases hk : j < k
  · rw [if_pos hk]
  · rw [if_neg hk]
    have hle : l.length ≤ j := by omega
    rw [List.getD_eq_getElem?_getD, List.getElem?_eq_none hle]
    rfl

set_option maxHeartbeats 1000000 in
theorem block_any (v : Value) (l : List UInt8) (w : World) (hv : Bs w v l) :
    Calls Try.prog 22 #[v] w fun e w' => e = .returned (.agg (barr (blk l))) ∧ Below w.heap.size w w' := by
  have hlen := hv.len
  have HV := Lib.hid hv
  obtain ⟨ao, cap, rfl, h1, h2, h3, h4⟩ := hv.form
  clear hv h3
  go_enter Try.func22, Try.ntmps22
  go_wp2_with fail
  go_loopw [4] (fun i w1 => ∃ k : Nat, k ≤ l.length ∧ k ≤ 16 ∧ i = .int .i64 (k : Int) ∧ Blk w1 w.heap.size 31 (barr (List.replicate 16 0)) ∧ Blk w1 (w.heap.size + 1) 31 (barr (blkTo l k)) ∧ Below w.heap.size w w1) (fun i _ => 16 - (intOf i).toNat)
  case atStart =>
    refine ⟨0, by omega, by omega, rfl, ?_, ?_, ?_⟩
    · exact (Blk.at (by simp) rfl).alloc _
    · rw [blkTo_zero]
      exact Blk.at (by simp) rfl
    · exact ((Below.refl _ _).alloc (Nat.le_refl _) _).alloc (by simp) _
  case round =>
    obtain ⟨k, hk, hk16, rfl, h5, h6, hb⟩ := hrel
    by_cases hlt : k < l.length
    · by_cases hlt16 : k < 16
      · obtain ⟨b, off, rfl, c0⟩ := h4 k hlt
        have hbl : b < w.heap.size := World.block_lt_of_cell? w _ c0
        have c1 : wr.cell? ⟨b, off + k, none⟩ = some (.int .u8 ((l.getD k 0).toNat : Int)) := (hb.cell hbl).trans c0
        have H4 := Lib.hid h4
        clear h4 c0
        have c2 := h6.cellAt k (barr_getD (blkTo l k) k (by rw [blkTo_length]; exact hlt16))
        have f2 := h6.unfrozen k
        generalize hx : l.getD k 0 = x at c1
        have HX := Lib.hid hx
        generalize (blkTo l k).getD k 0 = z at c2
        clear hx
        go_wp2_with fail
        go_roundw
        case rel =>
          refine ⟨k + 1, by omega, by omega, by go_num, ?_, ?_, ?_⟩
          · exact h5.set_ne (by simp) _
          · have h := h6.set k (.int .u8 (x.toNat : Int))
            rw [barr_set, ← HX.out, blkTo_succ] at h
            rw [← HX.out]
            exact h
          · exact hb.setCell (by simp) _
        case measure => simp [intOf]; omega
      · have h6' : Blk wr (w.heap.size + 1) 31 (barr (blk l)) := by
          rw [blkTo_end l k (.inr (by omega))] at h6
          exact h6
        clear h6 h4
        go_wp2_with (first | ((with_reducible change wpList _ _ _ (Oper.mk _ (Op.load 31 _) _ _ _ _ :: _) _ _); refine wpList_load_blk (d := some 21) (ty := 31) (w.heap.size + 1) rfl h6' Try.underlying31 rfl size16 (blk_cells l) ?_) | ((with_reducible change wpList _ _ _ (Oper.mk _ (Op.store 31 _ _) _ _ _ _ :: _) _ _); refine wpList_store_blk (ty := 31) w.heap.size (barr (blk l)) rfl rfl h5 size16 (blk_cells l) (barr_size _) (barr_one _) ?_))
        refine bodyPost_ret (results_cell_blk rfl _ _ w.heap.size rfl (h5.row _) Try.underlying31 rfl size16 (blk_cells l)) rfl ⟨rfl, ?_⟩
        exact below_row hb (Nat.le_refl _) _
    · have h6' : Blk wr (w.heap.size + 1) 31 (barr (blk l)) := by
        rw [blkTo_end l k (.inl (by omega))] at h6
        exact h6
      clear h6 h4
      go_wp2_with (first | ((with_reducible change wpList _ _ _ (Oper.mk _ (Op.load 31 _) _ _ _ _ :: _) _ _); refine wpList_load_blk (d := some 21) (ty := 31) (w.heap.size + 1) rfl h6' Try.underlying31 rfl size16 (blk_cells l) ?_) | ((with_reducible change wpList _ _ _ (Oper.mk _ (Op.store 31 _ _) _ _ _ _ :: _) _ _); refine wpList_store_blk (ty := 31) w.heap.size (barr (blk l)) rfl rfl h5 size16 (blk_cells l) (barr_size _) (barr_one _) ?_))
      refine bodyPost_ret (results_cell_blk rfl _ _ w.heap.size rfl (h5.row _) Try.underlying31 rfl size16 (blk_cells l)) rfl ⟨rfl, ?_⟩
      exact below_row hb (Nat.le_refl _) _

end Go.Proofs.Ytihmgkjmebdioaa
