/- The contract of cmac.Double. Condition: the block has sixteen bytes. -/
import Derived.Test.YtnnolihdkjglbaaDbl
namespace Go.Proofs.Ytnnolihdkjglbaa
open Go.RowKit
set_option maxRecDepth 100000
theorem size16 : (Try.prog.info? 23).map (·.size) = some 16 := by kernel_rfl
theorem dL_form (x y : UInt8) (z : UInt8) (hz : UInt8.ofNat (x.toNat * 2 % 256) = z) :
    bits .xor .u8 (z.toNat : Int) (bits .and .u8 135 (-((y.toNat : Int) / 128) % 256)) = ((dL x y).toNat : Int) := by
  have hx := x.toNat_lt
  have hy := y.toNat_lt
  have hz' : (z.toNat : Int) = ((x.toNat * 2 % 256 : Nat) : Int) := by rw [← hz]; exact u8_of _ (by omega)
  have b1 : 135 * (y.toNat / 128) < 256 := by omega
  have e : bits .and .u8 135 (-((y.toNat : Int) / 128) % 256) = ((135 * (y.toNat / 128) : Nat) : Int) := by
    by_cases h : y.toNat < 128
    · rw [show (y.toNat : Int) / 128 = 0 from by omega, show y.toNat / 128 = 0 from by omega]
      decide +kernel
    · rw [show (y.toNat : Int) / 128 = 1 from by omega, show y.toNat / 128 = 1 from by omega]
      decide +kernel
  have b2 : (x.toNat * 2 % 256) ^^^ (135 * (y.toNat / 128)) < 256 := Nat.xor_lt_two_pow (n := 8) (by omega) b1
  rw [hz', e, u8_xor_nat _ _ (by omega) b1]
  unfold dL
  rw [u8_of _ b2]
theorem dbl_cells (l : List UInt8) : (barr (dbl l)).size = 16 := by rw [barr_size, dbl_length]
theorem dbl_blk {w : World} {b : Nat} {t : TypeId} {l : List UInt8} {x z : UInt8} (h : Blk w b t (barr (dTo l 16))) (hz : Hid (UInt8.ofNat ((l.getD 15 0).toNat * 2 % 256) = z)) (hx : Hid (l.getD 0 0 = x)) :
    Blk (w.setCell ⟨b, 15, none⟩ (.int .u8 (bits .xor .u8 (z.toNat : Int) (bits .and .u8 135 (-((x.toNat : Int) / 128) % 256))))) b t (barr (dbl l)) := by
  have h1 := h.set 15 (.int .u8 ((dL (l.getD 15 0) (l.getD 0 0)).toNat : Int))
  rw [barr_set, dTo_end l] at h1
  rw [dL_form _ _ _ hz.out, ← hx.out]
  exact h1
theorem ne15 (n : Nat) : n + 1 ≠ n + 1 + 1 := by omega
set_option maxHeartbeats 1000000 in
theorem dbl_any (l : List UInt8) (hl : l.length = 16) (w : World) :
    Calls Try.prog 5 #[.agg (barr l)] w fun e w' => e = .returned (.agg (barr (dbl l))) ∧ Below w.heap.size w w' := by
  have HL := Lib.hid hl
  clear hl
  go_enter Try.func5, Try.ntmps5
  go_wp2_with fail
  go_loopw [4, 5] (fun _ i w1 => ∃ k : Nat, k ≤ 16 ∧ i = .int .i64 (k : Int) ∧ Blk w1 w.heap.size 23 (barr l) ∧ Blk w1 (w.heap.size + 1) 23 (barr (List.replicate 16 0)) ∧ Blk w1 (w.heap.size + 1 + 1) 23 (barr (dTo l k)) ∧ Below w.heap.size w w1) (fun _ i _ => 16 - (intOf i).toNat)
  case atStart =>
    refine ⟨0, by omega, rfl, ?_, ?_, ?_, ?_⟩
    · exact ((Blk.at rfl rfl).alloc _).alloc _
    · exact (Blk.at (by simp) rfl).alloc _
    · rw [dTo_zero]
      exact Blk.at (by simp) rfl
    · exact (((Below.refl _ _).alloc (Nat.le_refl _) _).alloc (by simp) _).alloc (by simp; omega) _
  case round =>
    obtain ⟨k, hk, rfl, h0, h1, h2, hb⟩ := hrel
    by_cases hlt : k < 16
    · have c0 := h0.cellAt k (barr_getD l k (by rw [HL.out]; exact hlt))
      have c2 := h2.cellAt k (barr_getD (dTo l k) k (by rw [dTo_length]; exact hlt))
      have f2 := h2.unfrozen k
      have x0 := u8_hi (l.getD k 0)
      generalize hx : l.getD k 0 = x at c0 x0
      have HX := Lib.hid hx
      generalize (dTo l k).getD k 0 = z at c2
      by_cases h15 : k < 15
      · have c1 := h0.cellAt (k + 1) (barr_getD l (k + 1) (by rw [HL.out]; omega))
        have x1 := u8_hi (l.getD (k + 1) 0)
        generalize hy : l.getD (k + 1) 0 = y at c1 x1
        have HY := Lib.hid hy
        clear hx hy
        go_wp2_with fail
        go_region
        all_goals go_wp2_with fail
        all_goals go_roundw
        case rel =>
          refine ⟨k + 1, by omega, by go_num, ?_, ?_, ?_, ?_⟩
          · exact ((h0.set_ne (by simp; omega) _).set_ne (by simp; omega) _).drew
          · exact ((h1.set_ne (by simp) _).set_ne (by simp) _).drew
          · have e : dAt l k = dN x y := by rw [dAt, if_pos h15, HX.out, HY.out]
            have h := ((h2.set k (.int .u8 ((UInt8.ofNat (x.toNat * 2 % 256)).toNat : Int))).set k (.int .u8 ((dN x y).toNat : Int))).drew
            rw [barr_set, barr_set, List.set_set, ← e, dTo_succ] at h
            rw [dN_or, dS_form, ← e]
            exact h
          · exact ((hb.setCell (by simp; omega) _).setCell (by simp; omega) _).drew
        case measure => simp [intOf]; omega
      · clear hx
        go_wp2_with fail
        go_roundw
        case rel =>
          refine ⟨k + 1, by omega, by go_num, ?_, ?_, ?_, ?_⟩
          · exact h0.set_ne (by simp; omega) _
          · exact h1.set_ne (by simp) _
          · have e : dAt l k = UInt8.ofNat (x.toNat * 2 % 256) := by rw [dAt, if_neg h15, HX.out]
            have h := h2.set k (.int .u8 ((UInt8.ofNat (x.toNat * 2 % 256)).toNat : Int))
            rw [barr_set, ← e, dTo_succ] at h
            rw [dS_form, ← e]
            exact h
          · exact hb.setCell (by simp; omega) _
        case measure => simp [intOf]; omega
    · have h2' : Blk wr (w.heap.size + 1 + 1) 23 (barr (dTo l 16)) := by
        have e : k = 16 := by omega
        rw [e] at h2
        exact h2
      have c0 := h0.cellAt 0 (barr_getD l 0 (by rw [HL.out]; omega))
      have c2 := h2'.cellAt 15 (barr_getD (dTo l 16) 15 (by rw [dTo_length]; omega))
      have f2 := h2'.unfrozen 15
      have x0 := u8_hi (l.getD 0 0)
      generalize hx : l.getD 0 0 = x at c0 x0
      have HX := Lib.hid hx
      rw [dTo_last] at c2
      have x2 := u8_hi (UInt8.ofNat ((l.getD 15 0).toNat * 2 % 256))
      generalize hz : UInt8.ofNat ((l.getD 15 0).toNat * 2 % 256) = z at c2 x2
      have HZ := Lib.hid hz
      clear hx hz h2
      go_wp2_with (first | ((with_reducible change wpList _ _ _ (Oper.mk _ (Op.load 23 _) _ _ _ _ :: _) _ _); refine wpList_load_blk (d := some 36) (ty := 23) (w.heap.size + 1 + 1) rfl (dbl_blk h2' HZ HX) Try.underlying23 rfl size16 (dbl_cells l) ?_) | ((with_reducible change wpList _ _ _ (Oper.mk _ (Op.store 23 _ _) _ _ _ _ :: _) _ _); refine wpList_store_blk (ty := 23) (w.heap.size + 1) (barr (dbl l)) rfl rfl (h1.set_ne (ne15 _) _) size16 (dbl_cells l) (barr_size _) (barr_one _) ?_))
      refine bodyPost_ret (results_cell_blk rfl _ _ (w.heap.size + 1) rfl ((h1.set_ne (by simp) _).row _) Try.underlying23 rfl size16 (by rw [barr_size, dbl_length])) rfl ⟨rfl, ?_⟩
      exact below_row (hb.setCell (by simp; omega) _) (by simp) _
end Go.Proofs.Ytnnolihdkjglbaa
