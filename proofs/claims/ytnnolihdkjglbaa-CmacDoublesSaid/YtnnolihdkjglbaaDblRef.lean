/- The contracts of the document's Double, and of the law's block. Conditions: a block has sixteen bytes. -/
import Derived.Test.YtnnolihdkjglbaaDblWalk
import Derived.Test.YtnnolihdkjglbaaTame
namespace Go.Proofs.Ytnnolihdkjglbaa
open Go.RowKit
set_option maxRecDepth 100000
theorem rdbl_blk {w : World} {b : Nat} {t : TypeId} {l : List UInt8} {x z : UInt8} (h : Blk w b t (barr (dTo l 16))) (hb : 128 ≤ (x.toNat : Int)) (hz : Hid (UInt8.ofNat ((l.getD 15 0).toNat * 2 % 256) = z)) (hx : Hid (l.getD 0 0 = x)) :
    Blk (w.setCell ⟨b, 15, none⟩ (.int .u8 (bits .xor .u8 (z.toNat : Int) 135))) b t (barr (dbl l)) := by
  have h1 := dbl_blk h hz hx
  have e : bits .and .u8 135 (-((x.toNat : Int) / 128) % 256) = 135 := by
    have := x.toNat_lt
    rw [show (x.toNat : Int) / 128 = 1 from by omega]
    decide +kernel
  rw [e] at h1
  exact h1
theorem rdbl_low {w : World} {b : Nat} {t : TypeId} {l : List UInt8} {x z : UInt8} (h : Blk w b t (barr (dTo l 16))) (hb : ¬ 128 ≤ (x.toNat : Int)) (_hz : Hid (UInt8.ofNat ((l.getD 15 0).toNat * 2 % 256) = z)) (hx : Hid (l.getD 0 0 = x)) :
    Blk w b t (barr (dbl l)) := by
  have e : dbl l = dTo l 16 := by
    unfold dbl dTo
    refine tab_ext _ _ _ fun j hj => ?_
    rw [if_pos hj, dAt]
    by_cases h15 : j < 15
    · rw [if_pos h15, if_pos h15]
    · rw [if_neg h15, if_neg h15]
      obtain rfl : j = 15 := by omega
      unfold dL
      rw [hx.out, show x.toNat / 128 = 0 from by omega, Nat.mul_zero, Nat.xor_zero]
  rw [e]
  exact h

set_option maxHeartbeats 1000000 in
theorem rdbl_any (l : List UInt8) (hl : l.length = 16) (w : World) :
    Calls Try.prog 6 #[.agg (barr l)] w fun e w' => e = .returned (.agg (barr (dbl l))) ∧ Below w.heap.size w w' := by
  have HL := Lib.hid hl
  clear hl
  go_enter Try.func6, Try.ntmps6
  go_wp2_with fail
  go_loopw [4] (fun i w1 => ∃ k : Nat, k ≤ 16 ∧ i = .int .i64 (k : Int) ∧ Blk w1 w.heap.size 23 (barr l) ∧ Blk w1 (w.heap.size + 1) 23 (barr (List.replicate 16 0)) ∧ Blk w1 (w.heap.size + 1 + 1) 23 (barr (dTo l k)) ∧ Below w.heap.size w w1) (fun i _ => 16 - (intOf i).toNat)
  case atStart =>
    refine ⟨0, by omega, rfl, ?_, ?_, ?_, ?_⟩
    · exact ((Blk.at rfl rfl).alloc _).alloc _
    · exact (Blk.at (by simp) rfl).alloc _
    · rw [dTo_zero]
      exact Blk.at (by simp) rfl
    · exact (((Below.refl _ _).alloc (Nat.le_refl _) _).alloc (by simp) _).alloc (by simp; omega) _
  case round =>
    obtain ⟨k, hk, rfl, h0, h1, h2, hb⟩ := hrel
    by_cases hlt : k < 16
    · have c0 := h0.cellAt k (barr_getD l k (by rw [HL.out]; exact hlt))
      have c2 := h2.cellAt k (barr_getD (dTo l k) k (by rw [dTo_length]; exact hlt))
      have f2 := h2.unfrozen k
      have x0 := u8_hi (l.getD k 0)
      generalize hx : l.getD k 0 = x at c0 x0
      have HX := Lib.hid hx
      generalize (dTo l k).getD k 0 = z at c2
      by_cases h15 : k < 15
      · have c1 := h0.cellAt (k + 1) (barr_getD l (k + 1) (by rw [HL.out]; omega))
        have x1 := u8_hi (l.getD (k + 1) 0)
        generalize hy : l.getD (k + 1) 0 = y at c1 x1
        have HY := Lib.hid hy
        clear hx hy
        go_wp2_with fail
        go_region
        all_goals go_wp2_with fail
        all_goals go_roundw
        case rel =>
          refine ⟨k + 1, by omega, by go_num, ?_, ?_, ?_, ?_⟩
          · exact ((h0.set_ne (by simp; omega) _).set_ne (by simp; omega) _).drew
          · exact ((h1.set_ne (by simp) _).set_ne (by simp) _).drew
          · have e : dAt l k = dN x y := by rw [dAt, if_pos h15, HX.out, HY.out]
            have h := ((h2.set k (.int .u8 ((UInt8.ofNat (x.toNat * 2 % 256)).toNat : Int))).set k (.int .u8 ((dN x y).toNat : Int))).drew
            rw [barr_set, barr_set, List.set_set, ← e, dTo_succ] at h
            rw [dN_add, dS_form, ← e]
            exact h
          · exact ((hb.setCell (by simp; omega) _).setCell (by simp; omega) _).drew
        case measure => simp [intOf]; omega
      · clear hx
        go_wp2_with fail
        go_roundw
        case rel =>
          refine ⟨k + 1, by omega, by go_num, ?_, ?_, ?_, ?_⟩
          · exact h0.set_ne (by simp; omega) _
          · exact h1.set_ne (by simp) _
          · have e : dAt l k = UInt8.ofNat (x.toNat * 2 % 256) := by rw [dAt, if_neg h15, HX.out]
            have h := h2.set k (.int .u8 ((UInt8.ofNat (x.toNat * 2 % 256)).toNat : Int))
            rw [barr_set, ← e, dTo_succ] at h
            rw [dS_form, ← e]
            exact h
          · exact hb.setCell (by simp; omega) _
        case measure => simp [intOf]; omega
    · have h2' : Blk wr (w.heap.size + 1 + 1) 23 (barr (dTo l 16)) := by
        have e : k = 16 := by omega
        rw [e] at h2
        exact h2
      have c0 := h0.cellAt 0 (barr_getD l 0 (by rw [HL.out]; omega))
      have c2 := h2'.cellAt 15 (barr_getD (dTo l 16) 15 (by rw [dTo_length]; omega))
      have f2 := h2'.unfrozen 15
      have x0 := u8_hi (l.getD 0 0)
      generalize hx : l.getD 0 0 = x at c0 x0
      have HX := Lib.hid hx
      rw [dTo_last] at c2
      have x2 := u8_hi (UInt8.ofNat ((l.getD 15 0).toNat * 2 % 256))
      generalize hz : UInt8.ofNat ((l.getD 15 0).toNat * 2 % 256) = z at c2 x2
      have HZ := Lib.hid hz
      clear hx hz h2
      by_cases hbig : 128 ≤ (x.toNat : Int)
      · go_wp2_with (first | ((with_reducible change wpList _ _ _ (Oper.mk _ (Op.load 23 _) _ _ _ _ :: _) _ _); refine wpList_load_blk (d := some 35) (ty := 23) (w.heap.size + 1 + 1) rfl (rdbl_blk h2' hbig HZ HX) Try.underlying23 rfl size16 (dbl_cells l) ?_) | ((with_reducible change wpList _ _ _ (Oper.mk _ (Op.store 23 _ _) _ _ _ _ :: _) _ _); refine wpList_store_blk (ty := 23) (w.heap.size + 1) (barr (dbl l)) rfl rfl (h1.set_ne (ne15 _) _) size16 (dbl_cells l) (barr_size _) (barr_one _) ?_))
        refine bodyPost_ret (results_cell_blk rfl _ _ (w.heap.size + 1) rfl ((h1.set_ne (by simp) _).row _) Try.underlying23 rfl size16 (by rw [barr_size, dbl_length])) rfl ⟨rfl, ?_⟩
        exact below_row (hb.setCell (by simp; omega) _) (by simp) _
      · go_wp2_with (first | ((with_reducible change wpList _ _ _ (Oper.mk _ (Op.load 23 _) _ _ _ _ :: _) _ _); refine wpList_load_blk (d := some 35) (ty := 23) (w.heap.size + 1 + 1) rfl (rdbl_low h2' hbig HZ HX) Try.underlying23 rfl size16 (dbl_cells l) ?_) | ((with_reducible change wpList _ _ _ (Oper.mk _ (Op.store 23 _ _) _ _ _ _ :: _) _ _); refine wpList_store_blk (ty := 23) (w.heap.size + 1) (barr (dbl l)) rfl rfl (h1) size16 (dbl_cells l) (barr_size _) (barr_one _) ?_))
        refine bodyPost_ret (results_cell_blk rfl _ _ (w.heap.size + 1) rfl (h1.row _) Try.underlying23 rfl size16 (by rw [barr_size, dbl_length])) rfl ⟨rfl, ?_⟩
        exact below_row hb (by simp) _
/-! ### the law's block, and the law -/
def blkTo (l : List UInt8) (k : Nat) : List UInt8 := tab 16 fun j => if j < k then l.getD j 0 else 0
def blk (l : List UInt8) : List UInt8 := tab 16 fun j => l.getD j 0
theorem blkTo_length (l : List UInt8) (k : Nat) : (blkTo l k).length = 16 := tab_length _ _
theorem blk_length (l : List UInt8) : (blk l).length = 16 := tab_length _ _
theorem blk_cells (l : List UInt8) : (barr (blk l)).size = 16 := by rw [barr_size, blk_length]
theorem blk_map (l : List UInt8) : ((blk l).map B).length = 16 := by rw [List.length_map, blk_length]
theorem blkTo_zero (l : List UInt8) : blkTo l 0 = List.replicate 16 0 := by
  rw [← tab_zero]
  exact tab_ext _ _ _ fun j _ => by simp
theorem blkTo_succ (l : List UInt8) (k : Nat) : (blkTo l k).set k (l.getD k 0) = blkTo l (k + 1) := by
  unfold blkTo
  rw [tab_set]
  refine tab_ext _ _ _ fun j _ => ?_
  by_cases e : j = k
  · subst e; simp
  · rw [if_neg e]
    by_cases h : j < k
    · rw [if_pos h, if_pos (by omega)]
    · rw [if_neg h, if_neg (by omega)]
theorem blkTo_end (l : List UInt8) (k : Nat) (h : l.length ≤ k ∨ 16 ≤ k) : blkTo l k = blk l := by
  unfold blkTo blk
  refine tab_ext _ _ _ fun j hj => ?_
  by_cases hk : j < k
  · rw [if_pos hk]
  · rw [if_neg hk]
    have hle : l.length ≤ j := by omega
    rw [List.getD_eq_getElem?_getD, List.getElem?_eq_none hle]
    rfl

set_option maxHeartbeats 1000000 in
theorem block_any (v : Value) (l : List UInt8) (w : World) (hv : Bs w v l) :
    Calls Try.prog 4 #[v] w fun e w' => e = .returned (.agg (barr (blk l))) ∧ Below w.heap.size w w' := by
  have hlen := hv.len
  have HV := Lib.hid hv
  obtain ⟨ao, cap, rfl, h1, h2, h3, h4⟩ := hv.form
  clear hv h3
  go_enter Try.func4, Try.ntmps4
  go_wp2_with fail
  go_loopw [4] (fun i w1 => ∃ k : Nat, k ≤ l.length ∧ k ≤ 16 ∧ i = .int .i64 (k : Int) ∧ Blk w1 w.heap.size 23 (barr (List.replicate 16 0)) ∧ Blk w1 (w.heap.size + 1) 23 (barr (blkTo l k)) ∧ Below w.heap.size w w1) (fun i _ => 16 - (intOf i).toNat)
  case atStart =>
    refine ⟨0, by omega, by omega, rfl, ?_, ?_, ?_⟩
    · exact (Blk.at (by simp) rfl).alloc _
    · rw [blkTo_zero]
      exact Blk.at (by simp) rfl
    · exact ((Below.refl _ _).alloc (Nat.le_refl _) _).alloc (by simp) _
  case round =>
    obtain ⟨k, hk, hk16, rfl, h5, h6, hb⟩ := hrel
    by_cases hlt : k < l.length
    · by_cases hlt16 : k < 16
      · obtain ⟨b, off, rfl, c0⟩ := h4 k hlt
        have hbl : b < w.heap.size := World.block_lt_of_cell? w _ c0
        have c1 : wr.cell? ⟨b, off + k, none⟩ = some (.int .u8 ((l.getD k 0).toNat : Int)) := (hb.cell hbl).trans c0
        have H4 := Lib.hid h4
        clear h4 c0
        have c2 := h6.cellAt k (barr_getD (blkTo l k) k (by rw [blkTo_length]; exact hlt16))
        have f2 := h6.unfrozen k
        generalize hx : l.getD k 0 = x at c1
        have HX := Lib.hid hx
        generalize (blkTo l k).getD k 0 = z at c2
        clear hx
        go_wp2_with fail
        go_roundw
        case rel =>
          refine ⟨k + 1, by omega, by omega, by go_num, ?_, ?_, ?_⟩
          · exact h5.set_ne (by simp) _
          · have h := h6.set k (.int .u8 (x.toNat : Int))
            rw [barr_set, ← HX.out, blkTo_succ] at h
            rw [← HX.out]
            exact h
          · exact hb.setCell (by simp) _
        case measure => simp [intOf]; omega
      · have h6' : Blk wr (w.heap.size + 1) 23 (barr (blk l)) := by
          rw [blkTo_end l k (.inr (by omega))] at h6
          exact h6
        clear h6 h4
        go_wp2_with (first | ((with_reducible change wpList _ _ _ (Oper.mk _ (Op.load 23 _) _ _ _ _ :: _) _ _); refine wpList_load_blk (d := some 21) (ty := 23) (w.heap.size + 1) rfl h6' Try.underlying23 rfl size16 (blk_cells l) ?_) | ((with_reducible change wpList _ _ _ (Oper.mk _ (Op.store 23 _ _) _ _ _ _ :: _) _ _); refine wpList_store_blk (ty := 23) w.heap.size (barr (blk l)) rfl rfl h5 size16 (blk_cells l) (barr_size _) (barr_one _) ?_))
        refine bodyPost_ret (results_cell_blk rfl _ _ w.heap.size rfl (h5.row _) Try.underlying23 rfl size16 (blk_cells l)) rfl ⟨rfl, ?_⟩
        exact below_row hb (Nat.le_refl _) _
    · have h6' : Blk wr (w.heap.size + 1) 23 (barr (blk l)) := by
        rw [blkTo_end l k (.inl (by omega))] at h6
        exact h6
      clear h6 h4
      go_wp2_with (first | ((with_reducible change wpList _ _ _ (Oper.mk _ (Op.load 23 _) _ _ _ _ :: _) _ _); refine wpList_load_blk (d := some 21) (ty := 23) (w.heap.size + 1) rfl h6' Try.underlying23 rfl size16 (blk_cells l) ?_) | ((with_reducible change wpList _ _ _ (Oper.mk _ (Op.store 23 _ _) _ _ _ _ :: _) _ _); refine wpList_store_blk (ty := 23) w.heap.size (barr (blk l)) rfl rfl h5 size16 (blk_cells l) (barr_size _) (barr_one _) ?_))
      refine bodyPost_ret (results_cell_blk rfl _ _ w.heap.size rfl (h5.row _) Try.underlying23 rfl size16 (blk_cells l)) rfl ⟨rfl, ?_⟩
      exact below_row hb (Nat.le_refl _) _

theorem cells8 : Try.prog.cellsOf 5 = 1 := by kernel_rfl
theorem info8 : Try.prog.info? 5 = some ((Try.prog.info? 5).getD default) := by kernel_rfl
set_option maxHeartbeats 1000000 in
theorem cmacDoubles_any (v : Value) (l : List UInt8) (w : World) (hv : Bs w v l) :
    Calls Try.prog 3 #[v] w fun e w' => e = .returned (.bool true) ∧ Below w.heap.size w w' := by
  go_enter Try.func3, Try.ntmps3
  go_wp2_with fail
  refine (block_any v l w hv).mono ?_
  rintro e w1 ⟨rfl, hb1⟩
  have hbn : Blk (w1.alloc (.cells (barr (List.replicate 16 0)) 23)) w1.heap.size 23 (barr (List.replicate 16 0)) := Blk.new _ _ _
  go_wp2_with (first | ((with_reducible change wpList _ _ _ (Oper.mk _ (Op.store 23 _ _) _ _ _ _ :: _) _ _); refine wpList_store_blk (ty := 23) w1.heap.size (barr (blk l)) rfl rfl hbn size16 (blk_cells l) (barr_size _) (barr_one _) ?_))
  have hr : ((w1.alloc (.cells (barr (List.replicate 16 0)) 23)).setRow w1.heap.size (barr (blk l))).rangeAt w1.heap.size 0 ((blk l).map B) := (hbn.row _).range
  have hbel : Below w.heap.size w ((w1.alloc (.cells (barr (List.replicate 16 0)) 23)).setRow w1.heap.size (barr (blk l))) := below_row (hb1.alloc hb1.size _) hb1.size _
  have hlt : w1.heap.size < ((w1.alloc (.cells (barr (List.replicate 16 0)) 23)).setRow w1.heap.size (barr (blk l))).heap.size := by simp
  simp only [Act.put]
  obtain ⟨w2, hw2⟩ : ∃ w2, w2 = ((w1.alloc (.cells (barr (List.replicate 16 0)) 23)).setRow w1.heap.size (barr (blk l))) := ⟨_, rfl⟩
  rw [← hw2] at hr hbel hlt
  change Code.wp _ _ _ _ ((w1.alloc (.cells (barr (List.replicate 16 0)) 23)).setRow w1.heap.size (barr (blk l)))
  rw [← hw2]
  clear hw2 hbn
  have hle := hb1.size
  refine wp_region_tame (fun w' => w'.rangeAt w1.heap.size 0 ((blk l).map B) ∧ Below w.heap.size w w' ∧ w1.heap.size < w'.heap.size) 5 (by kernel_rfl) (by kernel_rfl) ⟨hr, ⟨hbel.os, hbel.tape, hbel.output, hbel.size, hbel.block⟩, hlt⟩ ?_
  clear hr hbel hlt
  simp only [List.take_succ_cons, List.take_zero, List.drop_succ_cons, List.drop_zero]
  refine wpTame_load rfl rfl rfl Try.underlying23 rfl size16 (blk_map l) (fun w' h => h.1) ?_
  simp only [Act.put, List.setIfInBounds_toArray, List.set_cons_zero, List.set_cons_succ]
  refine wpTame_call rfl (fun w' h => ?_) (fun w' h => (dbl_any (blk l) (blk_length l) w').mono fun e w'' ⟨he, hb⟩ => ⟨he, range_below h.1 hb h.2.2, h.2.1.trans (hb.mono (Nat.le_trans hle (Nat.le_of_lt h.2.2))), Nat.lt_of_lt_of_le h.2.2 hb.size⟩) ?_
  · clear h
    go_simp
    rfl
  simp only [Act.put, List.setIfInBounds_toArray, List.set_cons_zero, List.set_cons_succ]
  refine wpTame_load rfl rfl rfl Try.underlying23 rfl size16 (blk_map l) (fun w' h => h.1) ?_
  simp only [Act.put, List.setIfInBounds_toArray, List.set_cons_zero, List.set_cons_succ]
  refine wpTame_call rfl (fun w' h => ?_) (fun w' h => (rdbl_any (blk l) (blk_length l) w').mono fun e w'' ⟨he, hb⟩ => ⟨he, range_below h.1 hb h.2.2, h.2.1.trans (hb.mono (Nat.le_trans hle (Nat.le_of_lt h.2.2))), Nat.lt_of_lt_of_le h.2.2 hb.size⟩) ?_
  · clear h
    go_simp
    rfl
  simp only [Act.put, List.setIfInBounds_toArray, List.set_cons_zero, List.set_cons_succ]
  have heq := fun w' : World => run_eql_bytes (P := Try.prog) Try.underlying23 info8 cells8 Try.underlying5 (by kernel_rfl) (dbl (blk l)) (dbl (blk l)) (dbl_length _) (dbl_length _) w'
  refine wpTame_run (v := ?_) rfl (fun w' h => ?_) ?_
  rotate_left
  · clear h
    go_simp
    rfl
  simp only [Act.put, List.setIfInBounds_toArray, List.set_cons_zero, List.set_cons_succ]
  refine wpTame_nil ?_
  rintro w' ⟨_, hb, _⟩
  go_wp2
  go_ret
  exact ⟨rfl, hb⟩

theorem openBytes {H : Type} {enc : TypeId × Value → H} {W : World} {base : Nat} {v : Value} {d : DataW H} {p : List MemPlace}
    (hval : Value.okWide Try.prog W .any base 22 v) (h : DataW.Trod enc Try.prog W 0 (fun _ => true) true 22 v d p) : ∃ l : List UInt8, Bs W v l :=
  open_bytes Try.underlying22 Try.underlying5 cells8 hval h
theorem cmacDoubles.walk {w : World} (v : Value) (l : List UInt8) (hv : Bs w v l) :
    Calls Try.prog 3 #[v] w fun e w' => e = .returned (.bool true) ∧ Below w.heap.size w w' := cmacDoubles_any v l w hv
end Go.Proofs.Ytnnolihdkjglbaa
