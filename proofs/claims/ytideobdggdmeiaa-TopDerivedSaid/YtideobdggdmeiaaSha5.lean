/- SHA-256: the constants, the work on a block. -/
import Derived.Test.YtideobdggdmeiaaRows
import Derived.Test.YtideobdggdmeiaaSha5P
import Derived.Test.YtideobdggdmeiaaLedNote
import Derived.Test.YtideobdggdmeiaaHeld
import Derived.Test.YtideobdggdmeiaaEqArr
import Derived.Test.YtideobdggdmeiaaStorePart
import Derived.Deep.Cut
import Derived.Deep.CutRange
namespace Go.Proofs.Ytideobdggdmeiaa
open Go.RowKit
set_option maxRecDepth 100000
set_option linter.unusedVariables false
set_option linter.unusedSimpArgs false
/-- words as cells -/
def wc32 (l : List Int) : Array Value := (l.map (Value.int .u32)).toArray
theorem wc32_size (l : List Int) : (wc32 l).size = l.length := by simp [wc32]
theorem wc32_one (l : List Int) : ∀ v ∈ (wc32 l).toList, v.oneCell' = true := by
  intro v hv
  simp [wc32] at hv
  obtain ⟨x, _, rfl⟩ := hv
  rfl
theorem wc32_get (l : List Int) (i : Nat) (h : i < l.length) : (wc32 l)[i]? = some (.int .u32 (l.getD i 0)) := by
  simp [wc32, h]
theorem wc32_set (l : List Int) (i : Nat) (x : Int) : (wc32 l).setIfInBounds i (.int .u32 x) = wc32 (l.set i x) := by
  simp [wc32, List.map_set]
def zW5 : List Int := List.replicate 64 0
theorem zW5_len : zW5.length = 64 := by simp [zW5]
theorem K5_len : K5.length = 64 := rfl
theorem szK5 : (wc32 K5).size = 64 := by rw [wc32_size]; rfl
theorem szZ5 : (wc32 zW5).size = 64 := by rw [wc32_size, zW5_len]
theorem zero64w (w : World) : (zeroValue 93).run Try.prog w = .ok (.agg (wc32 zW5)) w := by kernel_rfl
theorem und64w : Try.prog.underlying 93 = some (.array 64 42) := Try.underlying93
theorem size64w : (Try.prog.info? 93).map (·.size) = some 64 := by kernel_rfl
set_option maxHeartbeats 4000000 in
theorem const5_any (w : World) : Calls Try.prog 48 #[] w fun e w' => e = .returned (.agg (wc32 K5)) ∧ Below w.heap.size w w' := by
  have hz := zero64w
  go_enter Try.func48, Try.ntmps48
  go_wp2_with (first
    | (with_reducible change wpList _ _ _ (Oper.mk _ (Op.build _ _) _ _ _ _ :: _) _ _; refine wpList_value (.agg (wc32 K5)) rfl (by kernel_rfl) ?_)
    | (with_reducible change wpList _ _ _ (Oper.mk _ (Op.store _ _ _) _ _ _ _ :: _) _ _; refine wpList_store_blk w.heap.size (wc32 K5) rfl rfl (Blk.new w 93 (wc32 zW5)) size64w szK5 szZ5 (wc32_one _) ?_))
  refine bodyPost_ret (results_cell_blk Try.results48 _ _ w.heap.size rfl (Blk.row (Blk.new w 93 (wc32 zW5)) (wc32 K5)) und64w rfl size64w szK5) rfl ?_
  exact ⟨rfl, below_row ((Below.refl _ _).alloc (Nat.le_refl _) _) (Nat.le_refl _) _⟩
/-- a state's cells -/
def sC5 (s : HSt) : Array Value := ((s.h.map (Value.int .u32)) ++ (Value.int .i64 (s.n : Int) :: (s.wt.map B ++ [Value.bool true]))).toArray
structure Ok5 (s : HSt) : Prop where
  h : s.h.length = 8
  wt : s.wt.length = 64
theorem sC5_wt {s : HSt} (hs : Ok5 s) (j : Nat) (hj : j < 64) : (sC5 s)[9 + j]? = some (.int .u8 ((s.wt.getD j 0).toNat : Int)) := by
  have hw := hs.wt
  unfold sC5
  rw [List.getElem?_toArray, List.getElem?_append_right (by simp [hs.h]; omega)]
  simp only [List.length_map, hs.h]
  rw [show 9 + j - 8 = j + 1 by omega, List.getElem?_cons_succ, List.getElem?_append_left (by simp [hw]; exact hj), List.getElem?_map, List.getD_eq_getElem?_getD, List.getElem?_eq_getElem (by omega)]
  rfl
theorem sC5_h {s : HSt} (hs : Ok5 s) (i : Nat) (hi : i < 8) : (sC5 s)[i]? = some (.int .u32 (s.h.getD i 0)) := by
  have hh := hs.h
  unfold sC5
  rw [List.getElem?_toArray, List.getElem?_append_left (by simp [hh]; exact hi), List.getElem?_map, List.getD_eq_getElem?_getD, List.getElem?_eq_getElem (by omega)]
  rfl
theorem st5_bytes {w : World} {b : Nat} {s : HSt} (h : Blk w b 80 (sC5 s)) (hs : Ok5 s) : Bs w (.slice (some ⟨b, 9, none⟩) 64 64) s.wt :=
  ⟨some ⟨b, 9, none⟩, 64, by rw [hs.wt], by rw [hs.wt]; exact Nat.le_refl _, by decide, fun h => by simp at h, fun j hj => ⟨b, 9, rfl, h.cellAt (9 + j) (sC5_wt hs j (by rw [← hs.wt]; exact hj))⟩⟩
/-- the worlds in which the words are made -/
structure CW5 (w : World) (b : Nat) (s : HSt) (b4 b5 : Nat) (W : List Int) (wr : World) : Prop where
  below : Below w.heap.size w wr
  k : Blk wr b4 93 (wc32 K5)
  ww : Blk wr b5 93 (wc32 W)
  st : Blk wr b 80 (sC5 s)
  n4 : w.heap.size ≤ b4
  n5 : w.heap.size ≤ b5
  ne : b4 ≠ b5
  lt : b < w.heap.size
theorem CW5.draw {w wr : World} {b b4 b5 : Nat} {s : HSt} {W : List Int} (h : CW5 w b s b4 b5 W wr) (n : Nat) : CW5 w b s b4 b5 W (wr.drewN n) := ⟨⟨h.below.os, h.below.tape, h.below.output, h.below.size, h.below.block⟩, h.k, h.ww, h.st, h.n4, h.n5, h.ne, h.lt⟩
theorem CW5.set {w wr : World} {b b4 b5 : Nat} {s : HSt} {W : List Int} (h : CW5 w b s b4 b5 W wr) (i : Nat) (x : Int) : CW5 w b s b4 b5 (W.set i x) (wr.setCell ⟨b5, i, none⟩ (.int .u32 x)) :=
  ⟨Below.setCell h.below h.n5 _, h.k.set_ne h.ne _, by rw [← wc32_set]; exact h.ww.set i _, h.st.set_ne (by have := h.n5; have := h.lt; show b ≠ b5; omega) _, h.n4, h.n5, h.ne, h.lt⟩
theorem sC5_set (h : List Int) (n : Nat) (wt : List UInt8) (i : Nat) (hi : i < h.length) (x : Int) : (sC5 ⟨h, n, wt⟩).setIfInBounds i (.int .u32 x) = sC5 ⟨h.set i x, n, wt⟩ := by
  unfold sC5
  simp only [List.setIfInBounds_toArray]
  rw [List.set_append_left _ _ (by simpa using hi), List.map_set]
/-- the worlds in which the words are added -/
structure HF5 (w : World) (b : Nat) (s : HSt) (h : List Int) (wr : World) : Prop where
  only : Only (fun x => x = b) w wr
  st : Blk wr b 80 (sC5 ⟨h, s.n, s.wt⟩)
  len : h.length = 8
theorem HF5.draw {w wr : World} {b : Nat} {s : HSt} {g : List Int} (h : HF5 w b s g wr) (n : Nat) : HF5 w b s g (wr.drewN n) := ⟨h.only.draw n, h.st, h.len⟩
theorem HF5.set {w wr : World} {b : Nat} {s : HSt} {g : List Int} (h : HF5 w b s g wr) (i : Nat) (hi : i < 8) (x : Int) : HF5 w b s (g.set i x) (wr.setCell ⟨b, i, none⟩ (.int .u32 x)) :=
  ⟨h.only.set (.inl rfl) _, by rw [← sC5_set _ _ _ _ (by rw [h.len]; exact hi)]; exact h.st.set i _, by rw [List.length_set]; exact h.len⟩
theorem run_index5 (L : List Int) (k : Nat) (hl : k < L.length) (hn : k < 8) (w : World) :
    (Instr.index 77 (.agg (wc32 L)) (.int .i64 (k : Int))).run Try.prog w = .ok (.int .u32 (L.getD k 0)) w := by
  have hk : Try.prog.plainKey 42 = true := by kernel_rfl
  have hs : (Try.prog.info? 42).map (·.size) = some 1 := by kernel_rfl
  have h1 := run_part_plain w hk (wc32_get L k hl)
  cases hq : Try.prog.info? 42 with
  | none => simp [hq] at hs
  | some i =>
    have hi : i.size = 1 := by simpa [hq] using hs
    have hc : (0 : Int) ≤ (k : Int) ∧ (k : Int) < ((8 : Nat) : Int) := by omega
    simp only [Instr.index, asIntOf, Sem.run_bind, Sem.run_pure, Result.andThen_ok, run_underlying Try.underlying77]
    rw [if_pos hc]
    simp only [Sem.run_bind, sizeOf, typeInfo, hq, hi, Sem.run_pure, Result.andThen_ok, Int.toNat_natCast, Nat.mul_one]
    simpa [hq, hi] using h1
theorem wrapU5 (x : Int) : IntKind.u32.wrap x = x % 4294967296 := rfl
theorem nots5 : (if IntKind.u32.signed = true then (-1 : Int) else IntKind.u32.max) = 4294967295 := rfl
theorem add5_3 (u x v y : Int) : add5 (add5 (add5 u x) v) y = (u + x + v + y) % 4294967296 := by unfold add5; omega
set_option maxHeartbeats 8000000 in
theorem comp5_any (b : Nat) (s : HSt) (w : World) (h : Blk w b 80 (sC5 s)) (hs : Ok5 s) :
    Calls Try.prog 41 #[.pointer (some ⟨b, 0, none⟩), .pointer none] w fun e w' => e = .returned (.tuple #[]) ∧ Blk w' b 80 (sC5 ⟨C5 s.h s.wt, s.n, List.replicate 64 0⟩) ∧ Only (fun x => x = b) w w' := by
  have HS := Lib.hid h
  have HOK := Lib.hid hs
  have hlt := h.lt
  have hz := zero64w
  clear h hs
  go_enter Try.func41, Try.ntmps41
  go_wp2_with fail
  refine (note_nil 1 64 w).mono ?_
  rintro e w1 ⟨rfl, hb1⟩
  have HB1 := Lib.hid hb1
  clear hb1
  go_wp2_with fail
  refine (const5_any w1).mono ?_
  rintro e w2 ⟨rfl, hb2⟩
  have HB2 := Lib.hid (HB1.out.trans (hb2.mono HB1.out.size))
  clear hb2 HB1
  have hz2 := HB2.out.size
  go_wp2_with (with_reducible change wpList _ _ _ (Oper.mk _ (Op.store _ _ _) _ _ _ _ :: _) _ _; refine wpList_store_blk w2.heap.size (wc32 K5) rfl rfl (Blk.new w2 93 (wc32 zW5)) size64w szK5 szZ5 (wc32_one _) ?_)
  have HC : Hid (CW5 w b s w2.heap.size (w2.heap.size + 1) (wTo5 s.wt 0) (((w2.alloc (.cells (wc32 zW5) 93)).setRow w2.heap.size (wc32 K5)).alloc (.cells (wc32 zW5) 93))) := by
    have e1 : ((w2.alloc (.cells (wc32 zW5) 93)).setRow w2.heap.size (wc32 K5)).heap.size = w2.heap.size + 1 := by simp
    have k0 : Below w.heap.size w ((w2.alloc (.cells (wc32 zW5) 93)).setRow w2.heap.size (wc32 K5)) := below_row (HB2.out.alloc hz2 _) hz2 _
    refine Lib.hid ⟨k0.alloc (by rw [e1]; omega) _, (Blk.row (Blk.new w2 _ _) _).alloc _, Blk.at e1.symm rfl, ((HS.out.below HB2.out hlt).alloc _).row_ne (by omega) _ |>.alloc _, hz2, by omega, by omega, hlt⟩
  obtain ⟨b4, hb4⟩ : ∃ x, w2.heap.size = x := ⟨_, rfl⟩
  rw [hb4] at HC
  obtain ⟨wx, hwx⟩ : ∃ y, ((w2.alloc (.cells (wc32 zW5) 93)).setRow b4 (wc32 K5)).alloc (.cells (wc32 zW5) 93) = y := ⟨_, rfl⟩
  rw [hwx] at HC
  try rw [hb4]
  try rw [hwx]
  clear hwx hb4 HS HB2 hz2
  go_loopw [27] (fun vi wr => ∃ t : Nat, t ≤ 16 ∧ vi = .int .i64 (t : Int) ∧ Hid (CW5 w b s b4 (b4 + 1) (wTo5 s.wt t) wr)) (fun vi _ => 16 - (intOf vi).toNat)
  case atStart => exact ⟨0, by omega, rfl, HC⟩
  case round =>
    clear HC
    obtain ⟨t, ht, rfl, HC⟩ := hrel
    by_cases hlt2 : t < 16
    · skip
      --[a
      have hcall := Lib.hid (take32_any (.slice (some ⟨b, 9, none⟩) 64 64) s.wt (4 * t) wr (st5_bytes HC.out.st HOK.out) (by rw [HOK.out.wt]; omega) (by rw [HOK.out.wt]; omega))
      have hm4 : ((4 * t : Nat) : Int) = 4 * (t : Int) := by omega
      rw [hm4] at hcall
      go_wp2_with fail
      refine hcall.out.mono ?_
      rintro e w3 ⟨rfl, rfl⟩
      clear hcall hm4
      have hwl := wTo5_len s.wt t
      have c5 := HC.out.ww.cellAt t (wc32_get _ t (by omega))
      have f5 := HC.out.ww.unfrozen t
      have e5 : wTo5 s.wt (t + 1) = (wTo5 s.wt t).set t (be .u32 4294967296 s.wt (4 * t) 4) := by rw [wTo5]; unfold wAt5; rw [if_pos hlt2]
      obtain ⟨x, hx⟩ : ∃ x, be .u32 4294967296 s.wt (4 * t) 4 = x := ⟨_, rfl⟩
      rw [hx] at e5
      try rw [hx]
      have HC2 : Hid (CW5 w b s b4 (b4 + 1) (wTo5 s.wt (t + 1)) (wr.setCell ⟨b4 + 1, t, none⟩ (.int .u32 x))) := by rw [e5]; exact Lib.hid (HC.out.set t x)
      generalize (wTo5 s.wt t).getD t 0 = z at c5
      clear HC hx e5 hwl
      go_wp2
      go_roundw
      case rel => exact ⟨t + 1, by omega, by go_num, HC2⟩
      case measure => simp [intOf]; omega
      --]a
    · obtain rfl : t = 16 := by omega
      go_wp2_with fail
      go_loopw [7] (fun vi wr => ∃ j : Nat, j ≤ 48 ∧ vi = .int .i64 ((j : Int) + 16) ∧ Hid (CW5 w b s b4 (b4 + 1) (wTo5 s.wt (j + 16)) wr)) (fun vi _ => 64 - (intOf vi).toNat)
      case atStart => exact ⟨0, by omega, rfl, HC⟩
      case round =>
        clear HC
        obtain ⟨j, hj, rfl, HC⟩ := hrel
        by_cases hlt3 : j < 48
        · skip
          --[b
          have hwl := wTo5_len s.wt (j + 16)
          obtain ⟨W, hW⟩ : ∃ W, wTo5 s.wt (j + 16) = W := ⟨_, rfl⟩
          rw [hW] at hwl HC
          have e5 : wTo5 s.wt (j + 1 + 16) = W.set (j + 16) (add5 (add5 (add5 (sg15 (W.getD (j + 14) 0)) (W.getD (j + 9) 0)) (sg05 (W.getD (j + 1) 0))) (W.getD j 0)) := by
            rw [show j + 1 + 16 = (j + 16) + 1 by omega, wTo5, hW]
            unfold wAt5
            rw [if_neg (by omega), show j + 16 - 2 = j + 14 by omega, show j + 16 - 7 = j + 9 by omega, show j + 16 - 15 = j + 1 by omega, show j + 16 - 16 = j by omega]
          have HE := Lib.hid e5
          have G := Lib.hid (fun (k : Nat) (hk : k < 64) (w' : World) (hS : CW5 w b s b4 (b4 + 1) W w') => hS.ww.cellAt k (wc32_get W k (by omega)))
          have h0 : IntKind.i64.wrap ((j : Int) + 16 - 16) = j := by rw [IntWalk.i64_in _ (by omega)]; omega
          have h1 : IntKind.i64.wrap ((j : Int) + 16 - 15) = (j : Int) + 1 := by rw [IntWalk.i64_in _ (by omega)]; omega
          have h2 : IntKind.i64.wrap ((j : Int) + 16 - 2) = (j : Int) + 14 := by rw [IntWalk.i64_in _ (by omega)]; omega
          have h3 : IntKind.i64.wrap ((j : Int) + 16 - 7) = (j : Int) + 9 := by rw [IntWalk.i64_in _ (by omega)]; omega
          have h5 : IntKind.i64.wrap (j : Int) = j := IntWalk.i64_in _ (by omega)
          have hj0 : (j : Int) < 64 := by omega
          have hj1 : (j : Int) + 1 < 64 := by omega
          have hj14 : (j : Int) + 14 < 64 := by omega
          have hj9 : (j : Int) + 9 < 64 := by omega
          have hj16 : (j : Int) + 16 < 64 := by omega
          have p1 : 0 ≤ (j : Int) + 1 := by omega
          have p14 : 0 ≤ (j : Int) + 14 := by omega
          have p9 : 0 ≤ (j : Int) + 9 := by omega
          have p16 : 0 ≤ (j : Int) + 16 := by omega
          have n1 : ((j : Int) + 1).toNat = j + 1 := by omega
          have n14 : ((j : Int) + 14).toNat = j + 14 := by omega
          have n9 : ((j : Int) + 9).toNat = j + 9 := by omega
          have n16 : ((j : Int) + 16).toNat = j + 16 := by omega
          have F1 := G.out (j + 1) (by omega)
          have F2 := G.out (j + 14) (by omega)
          have F3 := G.out (j + 9) (by omega)
          have F4 := G.out j (by omega)
          obtain ⟨x1, hx1⟩ : ∃ x, W.getD (j + 1) 0 = x := ⟨_, rfl⟩
          obtain ⟨x2, hx2⟩ : ∃ x, W.getD (j + 14) 0 = x := ⟨_, rfl⟩
          obtain ⟨x3, hx3⟩ : ∃ x, W.getD (j + 9) 0 = x := ⟨_, rfl⟩
          obtain ⟨x4, hx4⟩ : ∃ x, W.getD j 0 = x := ⟨_, rfl⟩
          rw [hx1] at F1 HE
          rw [hx2] at F2 HE
          rw [hx3] at F3 HE
          rw [hx4] at F4 HE
          clear hx1 hx2 hx3 hx4 e5 hW
          go_upto_region 11 with fail
          refine hd_start (CW5 w b s b4 (b4 + 1) W) (by kernel_rfl) ?_
          intro w5 hw'
          have hS0 : CW5 w b s b4 (b4 + 1) W w5 := by rw [hw']; exact HC.out.draw 1
          clear hw' HC
          refine hd_take (v := ?_) 0 rfl (by kernel_rfl) (fun _ _ d _ _ h => (by cases d <;> exact h)) (by kernel_rfl) hS0 (fun w' hS => ?_) ?_
          rotate_left
          focus (have q0 := F1 w' hS; clear hS; go_simp; try rfl; done)
          simp only [List.getElem_toArray, List.getElem_cons_succ, List.getElem_cons_zero, Act.put, List.setIfInBounds_toArray, List.set_cons_zero, List.set_cons_succ]
          refine hd_take (v := ?_) 1 rfl (by kernel_rfl) (fun _ _ d _ _ h => (by cases d <;> exact h)) (by kernel_rfl) hS0 (fun w' hS => ?_) ?_
          rotate_left
          focus (have q0 := F1 w' hS; clear hS; go_simp; try rfl; done)
          simp only [List.getElem_toArray, List.getElem_cons_succ, List.getElem_cons_zero, Act.put, List.setIfInBounds_toArray, List.set_cons_zero, List.set_cons_succ]
          refine hd_take (v := ?_) 2 rfl (by kernel_rfl) (fun _ _ d _ _ h => (by cases d <;> exact h)) (by kernel_rfl) hS0 (fun w' hS => ?_) ?_
          rotate_left
          focus (have q0 := F1 w' hS; clear hS; go_simp; try rfl; done)
          simp only [List.getElem_toArray, List.getElem_cons_succ, List.getElem_cons_zero, Act.put, List.setIfInBounds_toArray, List.set_cons_zero, List.set_cons_succ]
          refine hd_take (v := ?_) 3 rfl (by kernel_rfl) (fun _ _ d _ _ h => (by cases d <;> exact h)) (by kernel_rfl) hS0 (fun w' hS => ?_) ?_
          rotate_left
          focus (have q0 := F1 w' hS; clear hS; go_simp; try rfl; done)
          simp only [List.getElem_toArray, List.getElem_cons_succ, List.getElem_cons_zero, Act.put, List.setIfInBounds_toArray, List.set_cons_zero, List.set_cons_succ]
          refine hd_take (v := ?_) 5 rfl (by kernel_rfl) (fun _ _ d _ _ h => (by cases d <;> exact h)) (by kernel_rfl) hS0 (fun w' hS => ?_) ?_
          rotate_left
          focus (have q0 := F1 w' hS; clear hS; go_simp; try rfl; done)
          simp only [List.getElem_toArray, List.getElem_cons_succ, List.getElem_cons_zero, Act.put, List.setIfInBounds_toArray, List.set_cons_zero, List.set_cons_succ]
          refine hd_take (v := ?_) 6 rfl (by kernel_rfl) (fun _ _ d _ _ h => (by cases d <;> exact h)) (by kernel_rfl) hS0 (fun w' hS => ?_) ?_
          rotate_left
          focus (have q0 := F1 w' hS; clear hS; go_simp; try rfl; done)
          simp only [List.getElem_toArray, List.getElem_cons_succ, List.getElem_cons_zero, Act.put, List.setIfInBounds_toArray, List.set_cons_zero, List.set_cons_succ]
          refine hd_take (v := ?_) 7 rfl (by kernel_rfl) (fun _ _ d _ _ h => (by cases d <;> exact h)) (by kernel_rfl) hS0 (fun w' hS => ?_) ?_
          rotate_left
          focus (have q0 := F1 w' hS; clear hS; go_simp; try rfl; done)
          simp only [List.getElem_toArray, List.getElem_cons_succ, List.getElem_cons_zero, Act.put, List.setIfInBounds_toArray, List.set_cons_zero, List.set_cons_succ]
          refine hd_take (v := ?_) 8 rfl (by kernel_rfl) (fun _ _ d _ _ h => (by cases d <;> exact h)) (by kernel_rfl) hS0 (fun w' hS => ?_) ?_
          rotate_left
          focus (have q0 := F1 w' hS; clear hS; go_simp; try rfl; done)
          simp only [List.getElem_toArray, List.getElem_cons_succ, List.getElem_cons_zero, Act.put, List.setIfInBounds_toArray, List.set_cons_zero, List.set_cons_succ]
          refine hd_take (v := ?_) 11 rfl (by kernel_rfl) (fun _ _ d _ _ h => (by cases d <;> exact h)) (by kernel_rfl) hS0 (fun w' hS => ?_) ?_
          rotate_left
          focus (have q0 := F1 w' hS; clear hS; go_simp; try rfl; done)
          simp only [List.getElem_toArray, List.getElem_cons_succ, List.getElem_cons_zero, Act.put, List.setIfInBounds_toArray, List.set_cons_zero, List.set_cons_succ]
          refine hd_take (v := ?_) 12 rfl (by kernel_rfl) (fun _ _ d _ _ h => (by cases d <;> exact h)) (by kernel_rfl) hS0 (fun w' hS => ?_) ?_
          rotate_left
          focus (have q0 := F1 w' hS; clear hS; go_simp; try rfl; done)
          simp only [List.getElem_toArray, List.getElem_cons_succ, List.getElem_cons_zero, Act.put, List.setIfInBounds_toArray, List.set_cons_zero, List.set_cons_succ]
          refine hd_take (v := ?_) 13 rfl (by kernel_rfl) (fun _ _ d _ _ h => (by cases d <;> exact h)) (by kernel_rfl) hS0 (fun w' hS => ?_) ?_
          rotate_left
          focus (have q0 := F1 w' hS; clear hS; go_simp; try rfl; done)
          simp only [List.getElem_toArray, List.getElem_cons_succ, List.getElem_cons_zero, Act.put, List.setIfInBounds_toArray, List.set_cons_zero, List.set_cons_succ]
          refine hd_take (v := ?_) 14 rfl (by kernel_rfl) (fun _ _ d _ _ h => (by cases d <;> exact h)) (by kernel_rfl) hS0 (fun w' hS => ?_) ?_
          rotate_left
          focus (have q0 := F1 w' hS; clear hS; go_simp; try rfl; done)
          simp only [List.getElem_toArray, List.getElem_cons_succ, List.getElem_cons_zero, Act.put, List.setIfInBounds_toArray, List.set_cons_zero, List.set_cons_succ]
          refine hd_take (v := ?_) 15 rfl (by kernel_rfl) (fun _ _ d _ _ h => (by cases d <;> exact h)) (by kernel_rfl) hS0 (fun w' hS => ?_) ?_
          rotate_left
          focus (have q0 := F1 w' hS; clear hS; go_simp; try rfl; done)
          simp only [List.getElem_toArray, List.getElem_cons_succ, List.getElem_cons_zero, Act.put, List.setIfInBounds_toArray, List.set_cons_zero, List.set_cons_succ]
          refine hd_one 4 (by kernel_rfl) ?_
          refine op_call rfl (by kernel_rfl) (by go_simp; first | exact ⟨rfl, rfl⟩ | rfl) ?_
          refine (right32_any x1 7 (by decide) (by decide) _).mono ?_
          rintro e w6 ⟨rfl, m, rfl⟩
          have hS2 := hS0.draw m
          refine ⟨_, rfl, hS2, ?_⟩
          simp only [List.getElem_toArray, List.getElem_cons_succ, List.getElem_cons_zero, Act.put, List.setIfInBounds_toArray, List.set_cons_zero, List.set_cons_succ]
          have hS6 := hS2
          clear hS2
          refine hd_one 9 (by kernel_rfl) ?_
          refine op_call rfl (by kernel_rfl) (by go_simp; first | exact ⟨rfl, rfl⟩ | rfl) ?_
          refine (right32_any x1 18 (by decide) (by decide) _).mono ?_
          rintro e w6 ⟨rfl, m2, rfl⟩
          have hS2 := hS6.draw m2
          refine ⟨_, rfl, hS2, ?_⟩
          simp only [List.getElem_toArray, List.getElem_cons_succ, List.getElem_cons_zero, Act.put, List.setIfInBounds_toArray, List.set_cons_zero, List.set_cons_succ]
          have hS7 := hS2
          clear hS2 hS6
          refine hd_take (v := ?_) 10 rfl (by kernel_rfl) (fun _ _ d _ _ h => (by cases d <;> exact h)) (by kernel_rfl) hS7 (fun w' hS => ?_) ?_
          rotate_left
          focus (clear hS; go_simp; try rfl; done)
          simp only [List.getElem_toArray, List.getElem_cons_succ, List.getElem_cons_zero, Act.put, List.setIfInBounds_toArray, List.set_cons_zero, List.set_cons_succ]
          refine hd_take (v := ?_) 16 rfl (by kernel_rfl) (fun _ _ d _ _ h => (by cases d <;> exact h)) (by kernel_rfl) hS7 (fun w' hS => ?_) ?_
          rotate_left
          focus (clear hS; go_simp; try rfl; done)
          simp only [List.getElem_toArray, List.getElem_cons_succ, List.getElem_cons_zero, Act.put, List.setIfInBounds_toArray, List.set_cons_zero, List.set_cons_succ]
          refine hd_take (v := ?_) 17 rfl (by kernel_rfl) (fun _ _ d _ _ h => (by cases d <;> exact h)) (by kernel_rfl) hS7 (fun w' hS => ?_) ?_
          rotate_left
          focus (clear hS; go_simp; try rfl; done)
          simp only [List.getElem_toArray, List.getElem_cons_succ, List.getElem_cons_zero, Act.put, List.setIfInBounds_toArray, List.set_cons_zero, List.set_cons_succ]
          refine hd_done (by kernel_rfl) ?_
          clear hS0
          obtain ⟨w7, hw7⟩ : ∃ y, (w5.drewN m).drewN m2 = y := ⟨_, rfl⟩
          rw [hw7] at hS7
          try rw [hw7]
          clear hw7
          have HC := Lib.hid hS7
          clear hS7
          go_upto_region 12 with fail
          refine hd_start (CW5 w b s b4 (b4 + 1) W) (by kernel_rfl) ?_
          intro w8 hw'
          have hS0 : CW5 w b s b4 (b4 + 1) W w8 := by rw [hw']; exact HC.out.draw 1
          clear hw' HC
          refine hd_take (v := ?_) 0 rfl (by kernel_rfl) (fun _ _ d _ _ h => (by cases d <;> exact h)) (by kernel_rfl) hS0 (fun w' hS => ?_) ?_
          rotate_left
          focus (have q0 := F2 w' hS; clear hS; go_simp; try rfl; done)
          simp only [List.getElem_toArray, List.getElem_cons_succ, List.getElem_cons_zero, Act.put, List.setIfInBounds_toArray, List.set_cons_zero, List.set_cons_succ]
          refine hd_take (v := ?_) 1 rfl (by kernel_rfl) (fun _ _ d _ _ h => (by cases d <;> exact h)) (by kernel_rfl) hS0 (fun w' hS => ?_) ?_
          rotate_left
          focus (have q0 := F2 w' hS; clear hS; go_simp; try rfl; done)
          simp only [List.getElem_toArray, List.getElem_cons_succ, List.getElem_cons_zero, Act.put, List.setIfInBounds_toArray, List.set_cons_zero, List.set_cons_succ]
          refine hd_take (v := ?_) 2 rfl (by kernel_rfl) (fun _ _ d _ _ h => (by cases d <;> exact h)) (by kernel_rfl) hS0 (fun w' hS => ?_) ?_
          rotate_left
          focus (have q0 := F2 w' hS; clear hS; go_simp; try rfl; done)
          simp only [List.getElem_toArray, List.getElem_cons_succ, List.getElem_cons_zero, Act.put, List.setIfInBounds_toArray, List.set_cons_zero, List.set_cons_succ]
          refine hd_take (v := ?_) 3 rfl (by kernel_rfl) (fun _ _ d _ _ h => (by cases d <;> exact h)) (by kernel_rfl) hS0 (fun w' hS => ?_) ?_
          rotate_left
          focus (have q0 := F2 w' hS; clear hS; go_simp; try rfl; done)
          simp only [List.getElem_toArray, List.getElem_cons_succ, List.getElem_cons_zero, Act.put, List.setIfInBounds_toArray, List.set_cons_zero, List.set_cons_succ]
          refine hd_take (v := ?_) 5 rfl (by kernel_rfl) (fun _ _ d _ _ h => (by cases d <;> exact h)) (by kernel_rfl) hS0 (fun w' hS => ?_) ?_
          rotate_left
          focus (have q0 := F2 w' hS; clear hS; go_simp; try rfl; done)
          simp only [List.getElem_toArray, List.getElem_cons_succ, List.getElem_cons_zero, Act.put, List.setIfInBounds_toArray, List.set_cons_zero, List.set_cons_succ]
          refine hd_take (v := ?_) 6 rfl (by kernel_rfl) (fun _ _ d _ _ h => (by cases d <;> exact h)) (by kernel_rfl) hS0 (fun w' hS => ?_) ?_
          rotate_left
          focus (have q0 := F2 w' hS; clear hS; go_simp; try rfl; done)
          simp only [List.getElem_toArray, List.getElem_cons_succ, List.getElem_cons_zero, Act.put, List.setIfInBounds_toArray, List.set_cons_zero, List.set_cons_succ]
          refine hd_take (v := ?_) 7 rfl (by kernel_rfl) (fun _ _ d _ _ h => (by cases d <;> exact h)) (by kernel_rfl) hS0 (fun w' hS => ?_) ?_
          rotate_left
          focus (have q0 := F2 w' hS; clear hS; go_simp; try rfl; done)
          simp only [List.getElem_toArray, List.getElem_cons_succ, List.getElem_cons_zero, Act.put, List.setIfInBounds_toArray, List.set_cons_zero, List.set_cons_succ]
          refine hd_take (v := ?_) 8 rfl (by kernel_rfl) (fun _ _ d _ _ h => (by cases d <;> exact h)) (by kernel_rfl) hS0 (fun w' hS => ?_) ?_
          rotate_left
          focus (have q0 := F2 w' hS; clear hS; go_simp; try rfl; done)
          simp only [List.getElem_toArray, List.getElem_cons_succ, List.getElem_cons_zero, Act.put, List.setIfInBounds_toArray, List.set_cons_zero, List.set_cons_succ]
          refine hd_take (v := ?_) 11 rfl (by kernel_rfl) (fun _ _ d _ _ h => (by cases d <;> exact h)) (by kernel_rfl) hS0 (fun w' hS => ?_) ?_
          rotate_left
          focus (have q0 := F2 w' hS; clear hS; go_simp; try rfl; done)
          simp only [List.getElem_toArray, List.getElem_cons_succ, List.getElem_cons_zero, Act.put, List.setIfInBounds_toArray, List.set_cons_zero, List.set_cons_succ]
          refine hd_take (v := ?_) 12 rfl (by kernel_rfl) (fun _ _ d _ _ h => (by cases d <;> exact h)) (by kernel_rfl) hS0 (fun w' hS => ?_) ?_
          rotate_left
          focus (have q0 := F2 w' hS; clear hS; go_simp; try rfl; done)
          simp only [List.getElem_toArray, List.getElem_cons_succ, List.getElem_cons_zero, Act.put, List.setIfInBounds_toArray, List.set_cons_zero, List.set_cons_succ]
          refine hd_take (v := ?_) 13 rfl (by kernel_rfl) (fun _ _ d _ _ h => (by cases d <;> exact h)) (by kernel_rfl) hS0 (fun w' hS => ?_) ?_
          rotate_left
          focus (have q0 := F2 w' hS; clear hS; go_simp; try rfl; done)
          simp only [List.getElem_toArray, List.getElem_cons_succ, List.getElem_cons_zero, Act.put, List.setIfInBounds_toArray, List.set_cons_zero, List.set_cons_succ]
          refine hd_take (v := ?_) 14 rfl (by kernel_rfl) (fun _ _ d _ _ h => (by cases d <;> exact h)) (by kernel_rfl) hS0 (fun w' hS => ?_) ?_
          rotate_left
          focus (have q0 := F2 w' hS; clear hS; go_simp; try rfl; done)
          simp only [List.getElem_toArray, List.getElem_cons_succ, List.getElem_cons_zero, Act.put, List.setIfInBounds_toArray, List.set_cons_zero, List.set_cons_succ]
          refine hd_take (v := ?_) 15 rfl (by kernel_rfl) (fun _ _ d _ _ h => (by cases d <;> exact h)) (by kernel_rfl) hS0 (fun w' hS => ?_) ?_
          rotate_left
          focus (have q0 := F2 w' hS; clear hS; go_simp; try rfl; done)
          simp only [List.getElem_toArray, List.getElem_cons_succ, List.getElem_cons_zero, Act.put, List.setIfInBounds_toArray, List.set_cons_zero, List.set_cons_succ]
          refine hd_one 4 (by kernel_rfl) ?_
          refine op_call rfl (by kernel_rfl) (by go_simp; first | exact ⟨rfl, rfl⟩ | rfl) ?_
          refine (right32_any x2 17 (by decide) (by decide) _).mono ?_
          rintro e w6 ⟨rfl, m3, rfl⟩
          have hS2 := hS0.draw m3
          refine ⟨_, rfl, hS2, ?_⟩
          simp only [List.getElem_toArray, List.getElem_cons_succ, List.getElem_cons_zero, Act.put, List.setIfInBounds_toArray, List.set_cons_zero, List.set_cons_succ]
          have hS6 := hS2
          clear hS2
          refine hd_one 9 (by kernel_rfl) ?_
          refine op_call rfl (by kernel_rfl) (by go_simp; first | exact ⟨rfl, rfl⟩ | rfl) ?_
          refine (right32_any x2 19 (by decide) (by decide) _).mono ?_
          rintro e w6 ⟨rfl, m4, rfl⟩
          have hS2 := hS6.draw m4
          refine ⟨_, rfl, hS2, ?_⟩
          simp only [List.getElem_toArray, List.getElem_cons_succ, List.getElem_cons_zero, Act.put, List.setIfInBounds_toArray, List.set_cons_zero, List.set_cons_succ]
          have hS7 := hS2
          clear hS2 hS6
          refine hd_take (v := ?_) 10 rfl (by kernel_rfl) (fun _ _ d _ _ h => (by cases d <;> exact h)) (by kernel_rfl) hS7 (fun w' hS => ?_) ?_
          rotate_left
          focus (clear hS; go_simp; try rfl; done)
          simp only [List.getElem_toArray, List.getElem_cons_succ, List.getElem_cons_zero, Act.put, List.setIfInBounds_toArray, List.set_cons_zero, List.set_cons_succ]
          refine hd_take (v := ?_) 16 rfl (by kernel_rfl) (fun _ _ d _ _ h => (by cases d <;> exact h)) (by kernel_rfl) hS7 (fun w' hS => ?_) ?_
          rotate_left
          focus (clear hS; go_simp; try rfl; done)
          simp only [List.getElem_toArray, List.getElem_cons_succ, List.getElem_cons_zero, Act.put, List.setIfInBounds_toArray, List.set_cons_zero, List.set_cons_succ]
          refine hd_take (v := ?_) 17 rfl (by kernel_rfl) (fun _ _ d _ _ h => (by cases d <;> exact h)) (by kernel_rfl) hS7 (fun w' hS => ?_) ?_
          rotate_left
          focus (clear hS; go_simp; try rfl; done)
          simp only [List.getElem_toArray, List.getElem_cons_succ, List.getElem_cons_zero, Act.put, List.setIfInBounds_toArray, List.set_cons_zero, List.set_cons_succ]
          refine hd_done (by kernel_rfl) ?_
          clear hS0
          obtain ⟨w9, hw9⟩ : ∃ y, (w8.drewN m3).drewN m4 = y := ⟨_, rfl⟩
          rw [hw9] at hS7
          try rw [hw9]
          clear hw9
          have HC := Lib.hid hS7
          clear hS7
          go_upto_region 13 with fail
          have F1' : ∀ w', w' = w9.drewN 1 → CW5 w b s b4 (b4 + 1) W w' := by rintro w' rfl; exact HC.out.draw 1
          have F3' := fun w' (hw : w' = w9.drewN 1) => F3 w' (F1' w' hw)
          have F4' := fun w' (hw : w' = w9.drewN 1) => F4 w' (F1' w' hw)
          have HF1 := Lib.hid F1'
          clear F1 F2 F3 F4 F1'
          refine wp_region_tame (fun w' => w' = w9.drewN 1) 0 15 (by kernel_rfl) (by kernel_rfl) (fun _ _ d _ _ h => (by cases d <;> exact h)) rfl (by decide) ?_
          simp only [List.take_succ_cons, List.take_zero, List.drop_succ_cons, List.drop_zero]
          refine wpPre_nil ?_
          refine wpTame_run (v := ?_) (by decide) rfl (fun w' hS => ?_) ?_
          rotate_left
          focus (have q0 := F3' w' hS; have q1 := F4' w' hS; clear hS; go_simp; try rfl; done)
          simp only [Act.put, List.setIfInBounds_toArray, List.set_cons_zero, List.set_cons_succ]
          refine wpTame_run (v := ?_) (by decide) rfl (fun w' hS => ?_) ?_
          rotate_left
          focus (have q0 := F3' w' hS; have q1 := F4' w' hS; clear hS; go_simp; try rfl; done)
          simp only [Act.put, List.setIfInBounds_toArray, List.set_cons_zero, List.set_cons_succ]
          refine wpTame_run (v := ?_) (by decide) rfl (fun w' hS => ?_) ?_
          rotate_left
          focus (have q0 := F3' w' hS; have q1 := F4' w' hS; clear hS; go_simp; try rfl; done)
          simp only [Act.put, List.setIfInBounds_toArray, List.set_cons_zero, List.set_cons_succ]
          refine wpTame_run (v := ?_) (by decide) rfl (fun w' hS => ?_) ?_
          rotate_left
          focus (have q0 := F3' w' hS; have q1 := F4' w' hS; clear hS; go_simp; try rfl; done)
          simp only [Act.put, List.setIfInBounds_toArray, List.set_cons_zero, List.set_cons_succ]
          refine wpTame_run (v := ?_) (by decide) rfl (fun w' hS => ?_) ?_
          rotate_left
          focus (have q0 := F3' w' hS; have q1 := F4' w' hS; clear hS; go_simp; try rfl; done)
          simp only [Act.put, List.setIfInBounds_toArray, List.set_cons_zero, List.set_cons_succ]
          refine wpTame_run (v := ?_) (by decide) rfl (fun w' hS => ?_) ?_
          rotate_left
          focus (have q0 := F3' w' hS; have q1 := F4' w' hS; clear hS; go_simp; try rfl; done)
          simp only [Act.put, List.setIfInBounds_toArray, List.set_cons_zero, List.set_cons_succ]
          refine wpTame_run (v := ?_) (by decide) rfl (fun w' hS => ?_) ?_
          rotate_left
          focus (have q0 := F3' w' hS; have q1 := F4' w' hS; clear hS; go_simp; try rfl; done)
          simp only [Act.put, List.setIfInBounds_toArray, List.set_cons_zero, List.set_cons_succ]
          refine wpTame_run (v := ?_) (by decide) rfl (fun w' hS => ?_) ?_
          rotate_left
          focus (have q0 := F3' w' hS; have q1 := F4' w' hS; clear hS; go_simp; try rfl; done)
          simp only [Act.put, List.setIfInBounds_toArray, List.set_cons_zero, List.set_cons_succ]
          refine wpTame_run (v := ?_) (by decide) rfl (fun w' hS => ?_) ?_
          rotate_left
          focus (have q0 := F3' w' hS; have q1 := F4' w' hS; clear hS; go_simp; try rfl; done)
          simp only [Act.put, List.setIfInBounds_toArray, List.set_cons_zero, List.set_cons_succ]
          refine wpTame_run (v := ?_) (by decide) rfl (fun w' hS => ?_) ?_
          rotate_left
          focus (have q0 := F3' w' hS; have q1 := F4' w' hS; clear hS; go_simp; try rfl; done)
          simp only [Act.put, List.setIfInBounds_toArray, List.set_cons_zero, List.set_cons_succ]
          refine wpTame_run (v := ?_) (by decide) rfl (fun w' hS => ?_) ?_
          rotate_left
          focus (have q0 := F3' w' hS; have q1 := F4' w' hS; clear hS; go_simp; try rfl; done)
          simp only [Act.put, List.setIfInBounds_toArray, List.set_cons_zero, List.set_cons_succ]
          refine wpTame_run (v := ?_) (by decide) rfl (fun w' hS => ?_) ?_
          rotate_left
          focus (have q0 := F3' w' hS; have q1 := F4' w' hS; clear hS; go_simp; try rfl; done)
          simp only [Act.put, List.setIfInBounds_toArray, List.set_cons_zero, List.set_cons_succ]
          refine wpTame_run (v := ?_) (by decide) rfl (fun w' hS => ?_) ?_
          rotate_left
          focus (have q0 := F3' w' hS; have q1 := F4' w' hS; clear hS; go_simp; try rfl; done)
          simp only [Act.put, List.setIfInBounds_toArray, List.set_cons_zero, List.set_cons_succ]
          refine wpTame_run (v := ?_) (by decide) rfl (fun w' hS => ?_) ?_
          rotate_left
          focus (have q0 := F3' w' hS; have q1 := F4' w' hS; clear hS; go_simp; try rfl; done)
          simp only [Act.put, List.setIfInBounds_toArray, List.set_cons_zero, List.set_cons_succ]
          refine wpTame_run (v := ?_) (by decide) rfl (fun w' hS => ?_) ?_
          rotate_left
          focus (have q0 := F3' w' hS; have q1 := F4' w' hS; clear hS; go_simp; try rfl; done)
          simp only [Act.put, List.setIfInBounds_toArray, List.set_cons_zero, List.set_cons_succ]
          refine wpTame_nil ?_
          intro w6 hw'
          have HC6 := Lib.hid (HF1.out w6 hw')
          clear hw' HF1 F3' F4' HC
          have c5 := HC6.out.ww.cellAt (j + 16) (wc32_get W _ (by omega))
          have f5 := HC6.out.ww.unfrozen (j + 16)
          generalize W.getD (j + 16) 0 = z at c5
          have HC2 := Lib.hid (fun x => HC6.out.set (j + 16) x)
          clear HC6 G
          go_wp2
          go_roundw
          case rel =>
            refine ⟨j + 1, by omega, by go_num, ?_⟩
            rw [HE.out, add5_3]
            exact Lib.hid (HC2.out _)
          case measure => simp [intOf]; omega
          --]b
        · obtain rfl : j = 48 := by omega
          have hwl := wTo5_len s.wt 64
          obtain ⟨W, hW⟩ : ∃ W, wTo5 s.wt 64 = W := ⟨_, rfl⟩
          have HC : Hid (CW5 w b s b4 (b4 + 1) W wr) := by rw [← hW]; exact HC
          rw [hW] at hwl
          have HW := Lib.hid hW
          clear hW
          have S := Lib.hid (fun (i : Nat) (hi : i < 8) => HC.out.st.cellAt i (sC5_h HOK.out i hi))
          have s0 := S.out 0 (by decide)
          have s1 := S.out 1 (by decide)
          have s2 := S.out 2 (by decide)
          have s3 := S.out 3 (by decide)
          have s4 := S.out 4 (by decide)
          have s5 := S.out 5 (by decide)
          have s6 := S.out 6 (by decide)
          have s7 := S.out 7 (by decide)
          obtain ⟨r0, hr0⟩ : ∃ r, first5 s.h = r := ⟨_, rfl⟩
          have HR0 := Lib.hid hr0
          have q0 : s.h.getD 0 0 = r0.a := by rw [← hr0]; rfl
          have q1 : s.h.getD 1 0 = r0.b := by rw [← hr0]; rfl
          have q2 : s.h.getD 2 0 = r0.c := by rw [← hr0]; rfl
          have q3 : s.h.getD 3 0 = r0.d := by rw [← hr0]; rfl
          have q4 : s.h.getD 4 0 = r0.e := by rw [← hr0]; rfl
          have q5 : s.h.getD 5 0 = r0.f := by rw [← hr0]; rfl
          have q6 : s.h.getD 6 0 = r0.g := by rw [← hr0]; rfl
          have q7 : s.h.getD 7 0 = r0.h := by rw [← hr0]; rfl
          rw [q0] at s0
          rw [q1] at s1
          rw [q2] at s2
          rw [q3] at s3
          rw [q4] at s4
          rw [q5] at s5
          rw [q6] at s6
          rw [q7] at s7
          clear q0 q1 q2 q3 q4 q5 q6 q7 hr0 S
          go_wp2_with fail
          go_quiet (fail)
          clear s0 s1 s2 s3 s4 s5 s6 s7 hz
          have HC1 := Lib.hid (HC.out.draw nq)
          clear HC
          go_wp2_with fail
          go_loopw [10, 11, 12, 13, 14, 15, 16, 17, 133] (fun v0 v1 v2 v3 v4 v5 v6 v7 vi wr => ∃ (t : Nat) (ra rb rc rd re rf rg rh : Int), t ≤ 64 ∧ vi = .int .i64 (t : Int) ∧ v0 = .int .u32 ra ∧ v1 = .int .u32 rb ∧ v2 = .int .u32 rc ∧ v3 = .int .u32 rd ∧ v4 = .int .u32 re ∧ v5 = .int .u32 rf ∧ v6 = .int .u32 rg ∧ v7 = .int .u32 rh ∧
            Hid (rTo5 s.h W t = ⟨ra, rb, rc, rd, re, rf, rg, rh⟩) ∧ Hid (CW5 w b s b4 (b4 + 1) W wr)) (fun _ _ _ _ _ _ _ _ vi _ => 64 - (intOf vi).toNat)
          case atStart => exact ⟨0, r0.a, r0.b, r0.c, r0.d, r0.e, r0.f, r0.g, r0.h, by omega, rfl, rfl, rfl, rfl, rfl, rfl, rfl, rfl, rfl, HR0, HC1⟩
          case round =>
            clear HC1 HR0
            obtain ⟨t, ra, rb, rc, rd, re, rf, rg, rh, ht, rfl, rfl, rfl, rfl, rfl, rfl, rfl, rfl, rfl, HR, HC⟩ := hrel
            by_cases hlt4 : t < 64
            · have F1 : ∀ w', CW5 w b s b4 (b4 + 1) W w' → w'.cell? ⟨b4, t, none⟩ = some (.int .u32 (K5.getD t 0)) := fun w' hS => hS.k.cellAt t (wc32_get K5 t (by rw [K5_len]; omega))
              have F2 : ∀ w', CW5 w b s b4 (b4 + 1) W w' → w'.cell? ⟨b4 + 1, t, none⟩ = some (.int .u32 (W.getD t 0)) := fun w' hS => hS.ww.cellAt t (wc32_get W t (by omega))
              have hst : rTo5 s.h W (t + 1) = step5 ⟨ra, rb, rc, rd, re, rf, rg, rh⟩ (K5.getD t 0) (W.getD t 0) := by rw [rTo5, HR.out]
              obtain ⟨kx, hkx⟩ : ∃ x, K5.getD t 0 = x := ⟨_, rfl⟩
              obtain ⟨wx2, hwx⟩ : ∃ x, W.getD t 0 = x := ⟨_, rfl⟩
              rw [hkx] at F1 hst
              rw [hwx] at F2 hst
              have HST := Lib.hid hst
              have t4 : decide ((t : Int) < 64) = true := by rw [decide_eq_true_eq]; omega
              have HLT := Lib.hid hlt4
              clear hkx hwx hst HR hlt4
              go_upto_region 18 with fail
              have hltI : (t : Int) < 64 := by have := HLT.out; omega
              obtain ⟨px, hpx⟩ : ∃ x, p5 ⟨ra, rb, rc, rd, re, rf, rg, rh⟩ kx wx2 = x := ⟨_, rfl⟩
              obtain ⟨qx, hqx⟩ : ∃ x, q5 ⟨ra, rb, rc, rd, re, rf, rg, rh⟩ = x := ⟨_, rfl⟩
              have HPX := Lib.hid hpx
              have HQX := Lib.hid hqx
              clear hpx hqx
              go_cut [19] from 136 to 163 (fun s19 wx => s19 = .int .u32 px ∧ Hid (CW5 w b s b4 (b4 + 1) W wx))
              case first =>
                --[c
                refine hd_start (CW5 w b s b4 (b4 + 1) W) (by kernel_rfl) ?_
                intro w5 hw'
                have hS0 : CW5 w b s b4 (b4 + 1) W w5 := by rw [hw']; exact HC.out.draw 1
                clear hw' HC
                refine hd_take (v := ?_) 0 rfl (by kernel_rfl) (fun _ _ d _ _ h => (by cases d <;> exact h)) (by kernel_rfl) hS0 (fun w' hS => ?_) ?_
                rotate_left
                focus (have q0 := F1 w' hS; have q1 := F2 w' hS; clear hS; go_simp; try rfl; done)
                simp only [List.getElem_toArray, List.getElem_cons_succ, List.getElem_cons_zero, Act.put, List.setIfInBounds_toArray, List.set_cons_zero, List.set_cons_succ]
                refine hd_take (v := ?_) 1 rfl (by kernel_rfl) (fun _ _ d _ _ h => (by cases d <;> exact h)) (by kernel_rfl) hS0 (fun w' hS => ?_) ?_
                rotate_left
                focus (have q0 := F1 w' hS; have q1 := F2 w' hS; clear hS; go_simp; try rfl; done)
                simp only [List.getElem_toArray, List.getElem_cons_succ, List.getElem_cons_zero, Act.put, List.setIfInBounds_toArray, List.set_cons_zero, List.set_cons_succ]
                refine hd_take (v := ?_) 3 rfl (by kernel_rfl) (fun _ _ d _ _ h => (by cases d <;> exact h)) (by kernel_rfl) hS0 (fun w' hS => ?_) ?_
                rotate_left
                focus (have q0 := F1 w' hS; have q1 := F2 w' hS; clear hS; go_simp; try rfl; done)
                simp only [List.getElem_toArray, List.getElem_cons_succ, List.getElem_cons_zero, Act.put, List.setIfInBounds_toArray, List.set_cons_zero, List.set_cons_succ]
                refine hd_take (v := ?_) 6 rfl (by kernel_rfl) (fun _ _ d _ _ h => (by cases d <;> exact h)) (by kernel_rfl) hS0 (fun w' hS => ?_) ?_
                rotate_left
                focus (have q0 := F1 w' hS; have q1 := F2 w' hS; clear hS; go_simp; try rfl; done)
                simp only [List.getElem_toArray, List.getElem_cons_succ, List.getElem_cons_zero, Act.put, List.setIfInBounds_toArray, List.set_cons_zero, List.set_cons_succ]
                refine hd_take (v := ?_) 10 rfl (by kernel_rfl) (fun _ _ d _ _ h => (by cases d <;> exact h)) (by kernel_rfl) hS0 (fun w' hS => ?_) ?_
                rotate_left
                focus (have q0 := F1 w' hS; have q1 := F2 w' hS; clear hS; go_simp; try rfl; done)
                simp only [List.getElem_toArray, List.getElem_cons_succ, List.getElem_cons_zero, Act.put, List.setIfInBounds_toArray, List.set_cons_zero, List.set_cons_succ]
                refine hd_take (v := ?_) 11 rfl (by kernel_rfl) (fun _ _ d _ _ h => (by cases d <;> exact h)) (by kernel_rfl) hS0 (fun w' hS => ?_) ?_
                rotate_left
                focus (have q0 := F1 w' hS; have q1 := F2 w' hS; clear hS; go_simp; try rfl; done)
                simp only [List.getElem_toArray, List.getElem_cons_succ, List.getElem_cons_zero, Act.put, List.setIfInBounds_toArray, List.set_cons_zero, List.set_cons_succ]
                refine hd_take (v := ?_) 12 rfl (by kernel_rfl) (fun _ _ d _ _ h => (by cases d <;> exact h)) (by kernel_rfl) hS0 (fun w' hS => ?_) ?_
                rotate_left
                focus (have q0 := F1 w' hS; have q1 := F2 w' hS; clear hS; go_simp; try rfl; done)
                simp only [List.getElem_toArray, List.getElem_cons_succ, List.getElem_cons_zero, Act.put, List.setIfInBounds_toArray, List.set_cons_zero, List.set_cons_succ]
                refine hd_take (v := ?_) 13 rfl (by kernel_rfl) (fun _ _ d _ _ h => (by cases d <;> exact h)) (by kernel_rfl) hS0 (fun w' hS => ?_) ?_
                rotate_left
                focus (have q0 := F1 w' hS; have q1 := F2 w' hS; clear hS; go_simp; try rfl; done)
                simp only [List.getElem_toArray, List.getElem_cons_succ, List.getElem_cons_zero, Act.put, List.setIfInBounds_toArray, List.set_cons_zero, List.set_cons_succ]
                refine hd_take (v := ?_) 14 rfl (by kernel_rfl) (fun _ _ d _ _ h => (by cases d <;> exact h)) (by kernel_rfl) hS0 (fun w' hS => ?_) ?_
                rotate_left
                focus (have q0 := F1 w' hS; have q1 := F2 w' hS; clear hS; go_simp; try rfl; done)
                simp only [List.getElem_toArray, List.getElem_cons_succ, List.getElem_cons_zero, Act.put, List.setIfInBounds_toArray, List.set_cons_zero, List.set_cons_succ]
                refine hd_take (v := ?_) 15 rfl (by kernel_rfl) (fun _ _ d _ _ h => (by cases d <;> exact h)) (by kernel_rfl) hS0 (fun w' hS => ?_) ?_
                rotate_left
                focus (have q0 := F1 w' hS; have q1 := F2 w' hS; clear hS; go_simp; try rfl; done)
                simp only [List.getElem_toArray, List.getElem_cons_succ, List.getElem_cons_zero, Act.put, List.setIfInBounds_toArray, List.set_cons_zero, List.set_cons_succ]
                refine hd_take (v := ?_) 16 rfl (by kernel_rfl) (fun _ _ d _ _ h => (by cases d <;> exact h)) (by kernel_rfl) hS0 (fun w' hS => ?_) ?_
                rotate_left
                focus (have q0 := F1 w' hS; have q1 := F2 w' hS; clear hS; go_simp; try rfl; done)
                simp only [List.getElem_toArray, List.getElem_cons_succ, List.getElem_cons_zero, Act.put, List.setIfInBounds_toArray, List.set_cons_zero, List.set_cons_succ]
                refine hd_take (v := ?_) 17 rfl (by kernel_rfl) (fun _ _ d _ _ h => (by cases d <;> exact h)) (by kernel_rfl) hS0 (fun w' hS => ?_) ?_
                rotate_left
                focus (have q0 := F1 w' hS; have q1 := F2 w' hS; clear hS; go_simp; try rfl; done)
                simp only [List.getElem_toArray, List.getElem_cons_succ, List.getElem_cons_zero, Act.put, List.setIfInBounds_toArray, List.set_cons_zero, List.set_cons_succ]
                refine hd_take (v := ?_) 19 rfl (by kernel_rfl) (fun _ _ d _ _ h => (by cases d <;> exact h)) (by kernel_rfl) hS0 (fun w' hS => ?_) ?_
                rotate_left
                focus (have q0 := F1 w' hS; have q1 := F2 w' hS; clear hS; go_simp; try rfl; done)
                simp only [List.getElem_toArray, List.getElem_cons_succ, List.getElem_cons_zero, Act.put, List.setIfInBounds_toArray, List.set_cons_zero, List.set_cons_succ]
                refine hd_take (v := ?_) 20 rfl (by kernel_rfl) (fun _ _ d _ _ h => (by cases d <;> exact h)) (by kernel_rfl) hS0 (fun w' hS => ?_) ?_
                rotate_left
                focus (have q0 := F1 w' hS; have q1 := F2 w' hS; clear hS; go_simp; try rfl; done)
                simp only [List.getElem_toArray, List.getElem_cons_succ, List.getElem_cons_zero, Act.put, List.setIfInBounds_toArray, List.set_cons_zero, List.set_cons_succ]
                refine hd_take (v := ?_) 21 rfl (by kernel_rfl) (fun _ _ d _ _ h => (by cases d <;> exact h)) (by kernel_rfl) hS0 (fun w' hS => ?_) ?_
                rotate_left
                focus (have q0 := F1 w' hS; have q1 := F2 w' hS; clear hS; go_simp; try rfl; done)
                simp only [List.getElem_toArray, List.getElem_cons_succ, List.getElem_cons_zero, Act.put, List.setIfInBounds_toArray, List.set_cons_zero, List.set_cons_succ]
                refine hd_take (v := ?_) 23 rfl (by kernel_rfl) (fun _ _ d _ _ h => (by cases d <;> exact h)) (by kernel_rfl) hS0 (fun w' hS => ?_) ?_
                rotate_left
                focus (have q0 := F1 w' hS; have q1 := F2 w' hS; clear hS; go_simp; try rfl; done)
                simp only [List.getElem_toArray, List.getElem_cons_succ, List.getElem_cons_zero, Act.put, List.setIfInBounds_toArray, List.set_cons_zero, List.set_cons_succ]
                refine hd_take (v := ?_) 24 rfl (by kernel_rfl) (fun _ _ d _ _ h => (by cases d <;> exact h)) (by kernel_rfl) hS0 (fun w' hS => ?_) ?_
                rotate_left
                focus (have q0 := F1 w' hS; have q1 := F2 w' hS; clear hS; go_simp; try rfl; done)
                simp only [List.getElem_toArray, List.getElem_cons_succ, List.getElem_cons_zero, Act.put, List.setIfInBounds_toArray, List.set_cons_zero, List.set_cons_succ]
                refine hd_take (v := ?_) 25 rfl (by kernel_rfl) (fun _ _ d _ _ h => (by cases d <;> exact h)) (by kernel_rfl) hS0 (fun w' hS => ?_) ?_
                rotate_left
                focus (have q0 := F1 w' hS; have q1 := F2 w' hS; clear hS; go_simp; try rfl; done)
                simp only [List.getElem_toArray, List.getElem_cons_succ, List.getElem_cons_zero, Act.put, List.setIfInBounds_toArray, List.set_cons_zero, List.set_cons_succ]
                refine hd_one 2 (by kernel_rfl) ?_
                refine op_call rfl (by kernel_rfl) (by go_simp; first | exact ⟨rfl, rfl⟩ | rfl) ?_
                refine (right32_any re 6 (by decide) (by decide) _).mono ?_
                rintro e w6 ⟨rfl, m, rfl⟩
                have hS2 := hS0.draw m
                refine ⟨_, rfl, hS2, ?_⟩
                simp only [List.getElem_toArray, List.getElem_cons_succ, List.getElem_cons_zero, Act.put, List.setIfInBounds_toArray, List.set_cons_zero, List.set_cons_succ]
                have hS6 := hS2
                clear hS2
                refine hd_one 4 (by kernel_rfl) ?_
                refine op_call rfl (by kernel_rfl) (by go_simp; first | exact ⟨rfl, rfl⟩ | rfl) ?_
                refine (right32_any re 11 (by decide) (by decide) _).mono ?_
                rintro e w6 ⟨rfl, m2, rfl⟩
                have hS2 := hS6.draw m2
                refine ⟨_, rfl, hS2, ?_⟩
                simp only [List.getElem_toArray, List.getElem_cons_succ, List.getElem_cons_zero, Act.put, List.setIfInBounds_toArray, List.set_cons_zero, List.set_cons_succ]
                have hS7 := hS2
                clear hS2 hS6
                refine hd_take (v := ?_) 5 rfl (by kernel_rfl) (fun _ _ d _ _ h => (by cases d <;> exact h)) (by kernel_rfl) hS7 (fun w' hS => ?_) ?_
                rotate_left
                focus (clear hS; go_simp; try rfl; done)
                simp only [List.getElem_toArray, List.getElem_cons_succ, List.getElem_cons_zero, Act.put, List.setIfInBounds_toArray, List.set_cons_zero, List.set_cons_succ]
                refine hd_one 7 (by kernel_rfl) ?_
                refine op_call rfl (by kernel_rfl) (by go_simp; first | exact ⟨rfl, rfl⟩ | rfl) ?_
                refine (right32_any re 25 (by decide) (by decide) _).mono ?_
                rintro e w6 ⟨rfl, m3, rfl⟩
                have hS2 := hS7.draw m3
                refine ⟨_, rfl, hS2, ?_⟩
                simp only [List.getElem_toArray, List.getElem_cons_succ, List.getElem_cons_zero, Act.put, List.setIfInBounds_toArray, List.set_cons_zero, List.set_cons_succ]
                have hS8 := hS2
                clear hS2 hS7
                refine hd_take (v := ?_) 8 rfl (by kernel_rfl) (fun _ _ d _ _ h => (by cases d <;> exact h)) (by kernel_rfl) hS8 (fun w' hS => ?_) ?_
                rotate_left
                focus (clear hS; go_simp; try rfl; done)
                simp only [List.getElem_toArray, List.getElem_cons_succ, List.getElem_cons_zero, Act.put, List.setIfInBounds_toArray, List.set_cons_zero, List.set_cons_succ]
                refine hd_take (v := ?_) 9 rfl (by kernel_rfl) (fun _ _ d _ _ h => (by cases d <;> exact h)) (by kernel_rfl) hS8 (fun w' hS => ?_) ?_
                rotate_left
                focus (clear hS; go_simp; try rfl; done)
                simp only [List.getElem_toArray, List.getElem_cons_succ, List.getElem_cons_zero, Act.put, List.setIfInBounds_toArray, List.set_cons_zero, List.set_cons_succ]
                refine hd_take (v := ?_) 18 rfl (by kernel_rfl) (fun _ _ d _ _ h => (by cases d <;> exact h)) (by kernel_rfl) hS8 (fun w' hS => ?_) ?_
                rotate_left
                focus (clear hS; go_simp; try rfl; done)
                simp only [List.getElem_toArray, List.getElem_cons_succ, List.getElem_cons_zero, Act.put, List.setIfInBounds_toArray, List.set_cons_zero, List.set_cons_succ]
                refine hd_take (v := ?_) 22 rfl (by kernel_rfl) (fun _ _ d _ _ h => (by cases d <;> exact h)) (by kernel_rfl) hS8 (fun w' hS => ?_) ?_
                rotate_left
                focus (clear hS; go_simp; try rfl; done)
                simp only [List.getElem_toArray, List.getElem_cons_succ, List.getElem_cons_zero, Act.put, List.setIfInBounds_toArray, List.set_cons_zero, List.set_cons_succ]
                refine hd_take (v := ?_) 26 rfl (by kernel_rfl) (fun _ _ d _ _ h => (by cases d <;> exact h)) (by kernel_rfl) hS8 (fun w' hS => ?_) ?_
                rotate_left
                focus (clear hS; go_simp; try rfl; done)
                simp only [List.getElem_toArray, List.getElem_cons_succ, List.getElem_cons_zero, Act.put, List.setIfInBounds_toArray, List.set_cons_zero, List.set_cons_succ]
                refine hd_take (v := ?_) 27 rfl (by kernel_rfl) (fun _ _ d _ _ h => (by cases d <;> exact h)) (by kernel_rfl) hS8 (fun w' hS => ?_) ?_
                rotate_left
                focus (clear hS; go_simp; try rfl; done)
                simp only [List.getElem_toArray, List.getElem_cons_succ, List.getElem_cons_zero, Act.put, List.setIfInBounds_toArray, List.set_cons_zero, List.set_cons_succ]
                refine hd_done (by kernel_rfl) ?_
                clear hS0 F1 F2
                have HS8 := Lib.hid hS8
                clear hS8
                rename_i J K' hJ hK
                refine wpList_nil ?_
                refine hK _ _ (Met.intro (hJ _ _ ?_))
                clear hJ hK
                repeat apply Exists.intro
                refine ⟨⟨congrArg (Value.int .u32) ?_, HS8⟩, rfl⟩
                rw [← HPX.out, nots5]
                simp only [wrapU5]
                unfold p5 add5 SG15 ch5 not5
                rfl
                --]c
              case rest =>
                clear F1 F2 HC
                obtain ⟨rfl, HC⟩ := hcut
                go_upto_region 19 with fail
                go_cut [20] from 163 to 183 (fun s20 wx => s20 = .int .u32 qx ∧ Hid (CW5 w b s b4 (b4 + 1) W wx))
                case first =>
                  --[d
                  go_wp2_with fail
                  refine (right32_any ra 2 (by decide) (by decide) _).mono ?_
                  rintro e w' ⟨rfl, n1, rfl⟩
                  go_wp2_with fail
                  refine (right32_any ra 13 (by decide) (by decide) _).mono ?_
                  rintro e w' ⟨rfl, n2, rfl⟩
                  go_wp2_with fail
                  refine (right32_any ra 22 (by decide) (by decide) _).mono ?_
                  rintro e w' ⟨rfl, n3, rfl⟩
                  have HC9 := Lib.hid (HC.out.draw (n1 + n2 + n3))
                  clear HC
                  go_wp2_with fail
                  go_meet
                  case rel =>
                    refine ⟨congrArg (Value.int .u32) ?_, HC9⟩
                    rw [← HQX.out]
                    simp only [q5, add5, SG05, maj5]
                    try omega
                  --]d
                case rest =>
                  clear HC
                  obtain ⟨rfl, HC⟩ := hcut
                  clear hltI
                  go_wp2
                  go_roundw
                  case rel =>
                    have hst := HST.out
                    unfold step5 at hst
                    rw [HPX.out, HQX.out] at hst
                    exact ⟨t + 1, add5 px qx, ra, rb, rc, add5 rd px, re, rf, rg, by have := HLT.out; omega, by go_num, rfl, rfl, rfl, rfl, rfl, rfl, rfl, rfl, Lib.hid hst, HC⟩
                  case measure => simp [intOf]; have := HLT.out; omega
            · obtain rfl : t = 64 := by omega
              clear hlt4 ht
              obtain ⟨L, hL⟩ : ∃ L, [ra, rb, rc, rd, re, rf, rg, rh] = L := ⟨_, rfl⟩
              have HL : Hid ((rTo5 s.h W 64).list = L) := Lib.hid (by rw [← hL, HR.out]; rfl)
              have hll : L.length = 8 := by rw [← hL]; rfl
              have hag : Value.agg #[Value.int .u32 ra, Value.int .u32 rb, Value.int .u32 rc, Value.int .u32 rd, Value.int .u32 re, Value.int .u32 rf, Value.int .u32 rg, Value.int .u32 rh] = .agg (wc32 L) := by rw [← hL]; rfl
              have HF : Hid (HF5 w b s (hTo5 s.h L 0) wr) := Lib.hid ⟨Only.of_below HC.out.below _, HC.out.st, HOK.out.h⟩
              clear HC HR hL
              have HLL := Lib.hid hll
              have HAG := Lib.hid hag
              clear hll hag
              --[e
              go_wp2_with fail
              rw [HAG.out]
              go_loopw [205] (fun vi wr => ∃ i : Nat, i ≤ 8 ∧ vi = .int .i64 (i : Int) ∧ Hid (HF5 w b s (hTo5 s.h L i) wr)) (fun vi _ => 8 - (intOf vi).toNat)
              case atStart => exact ⟨0, by omega, rfl, HF⟩
              case round =>
                clear HF
                obtain ⟨i, hi, rfl, HF⟩ := hrel
                by_cases hlt5 : i < 8
                · have hlI : (i : Int) < 8 := by omega
                  have gx : ∀ w, (Instr.index 77 (.agg (wc32 L)) (.int .i64 (i : Int))).run Try.prog w = .ok (.int .u32 (L.getD i 0)) w := fun w => run_index5 L i (by rw [HLL.out]; exact hlt5) hlt5 w
                  have F : ∀ w', w' = wr.drewN 1 → w'.cell? ⟨b, i, none⟩ = some (.int .u32 ((hTo5 s.h L i).getD i 0)) := by
                    rintro w' rfl
                    exact (HF.out.draw 1).st.cellAt i (sC5_h (s := ⟨hTo5 s.h L i, s.n, s.wt⟩) ⟨HF.out.len, HOK.out.wt⟩ i hlt5)
                  have he : hTo5 s.h L (i + 1) = (hTo5 s.h L i).set i (add5 ((hTo5 s.h L i).getD i 0) (L.getD i 0)) := rfl
                  obtain ⟨gv, hgv⟩ : ∃ x, (hTo5 s.h L i).getD i 0 = x := ⟨_, rfl⟩
                  obtain ⟨xv, hxv⟩ : ∃ x, L.getD i 0 = x := ⟨_, rfl⟩
                  rw [hgv] at F he
                  rw [hxv] at gx he
                  have HE := Lib.hid he
                  have HLT := Lib.hid hlt5
                  have e4 : decide ((i : Int) < 8) = true := by rw [decide_eq_true_eq]; exact hlI
                  clear he hgv hxv hlt5
                  go_upto_region 25 with fail
                  refine wp_region_tame (fun w' => w' = wr.drewN 1) 0 11 (by kernel_rfl) (by kernel_rfl) (fun _ _ d _ _ h => (by cases d <;> exact h)) rfl (by decide) ?_
                  simp only [List.take_succ_cons, List.take_zero, List.drop_succ_cons, List.drop_zero]
                  refine wpPre_nil ?_
                  refine wpTame_run (v := ?_) (by decide) rfl (fun w' hS => ?_) ?_
                  rotate_left
                  focus (have q0 := F w' hS; clear hS; go_simp; try rfl; done)
                  simp only [Act.put, List.setIfInBounds_toArray, List.set_cons_zero, List.set_cons_succ]
                  refine wpTame_run (v := ?_) (by decide) rfl (fun w' hS => ?_) ?_
                  rotate_left
                  focus (have q0 := F w' hS; clear hS; go_simp; try rfl; done)
                  simp only [Act.put, List.setIfInBounds_toArray, List.set_cons_zero, List.set_cons_succ]
                  refine wpTame_run (v := ?_) (by decide) rfl (fun w' hS => ?_) ?_
                  rotate_left
                  focus (have q0 := F w' hS; clear hS; go_simp; try rfl; done)
                  simp only [Act.put, List.setIfInBounds_toArray, List.set_cons_zero, List.set_cons_succ]
                  refine wpTame_run (v := ?_) (by decide) rfl (fun w' hS => ?_) ?_
                  rotate_left
                  focus (have q0 := F w' hS; clear hS; go_simp; try rfl; done)
                  simp only [Act.put, List.setIfInBounds_toArray, List.set_cons_zero, List.set_cons_succ]
                  refine wpTame_run (v := ?_) (by decide) rfl (fun w' hS => ?_) ?_
                  rotate_left
                  focus (have q0 := F w' hS; clear hS; go_simp; try rfl; done)
                  simp only [Act.put, List.setIfInBounds_toArray, List.set_cons_zero, List.set_cons_succ]
                  refine wpTame_run (v := ?_) (by decide) rfl (fun w' hS => ?_) ?_
                  rotate_left
                  focus (have q0 := F w' hS; clear hS; go_simp; try rfl; done)
                  simp only [Act.put, List.setIfInBounds_toArray, List.set_cons_zero, List.set_cons_succ]
                  refine wpTame_run (v := ?_) (by decide) rfl (fun w' hS => ?_) ?_
                  rotate_left
                  focus (have q0 := F w' hS; clear hS; go_simp; try rfl; done)
                  simp only [Act.put, List.setIfInBounds_toArray, List.set_cons_zero, List.set_cons_succ]
                  refine wpTame_run (v := ?_) (by decide) rfl (fun w' hS => ?_) ?_
                  rotate_left
                  focus (have q0 := F w' hS; clear hS; go_simp; try rfl; done)
                  simp only [Act.put, List.setIfInBounds_toArray, List.set_cons_zero, List.set_cons_succ]
                  refine wpTame_run (v := ?_) (by decide) rfl (fun w' hS => ?_) ?_
                  rotate_left
                  focus (have q0 := F w' hS; clear hS; go_simp; try rfl; done)
                  simp only [Act.put, List.setIfInBounds_toArray, List.set_cons_zero, List.set_cons_succ]
                  refine wpTame_run (v := ?_) (by decide) rfl (fun w' hS => ?_) ?_
                  rotate_left
                  focus (have q0 := F w' hS; clear hS; go_simp; try rfl; done)
                  simp only [Act.put, List.setIfInBounds_toArray, List.set_cons_zero, List.set_cons_succ]
                  refine wpTame_run (v := ?_) (by decide) rfl (fun w' hS => ?_) ?_
                  rotate_left
                  focus (have q0 := F w' hS; clear hS; go_simp; try rfl; done)
                  simp only [Act.put, List.setIfInBounds_toArray, List.set_cons_zero, List.set_cons_succ]
                  refine wpTame_nil ?_
                  intro w6 hw'
                  have HF6 := Lib.hid (HF.out.draw 1)
                  rw [← hw'] at HF6
                  clear hw' HF F gx
                  have c5 := HF6.out.st.cellAt i (sC5_h (s := ⟨hTo5 s.h L i, s.n, s.wt⟩) ⟨HF6.out.len, HOK.out.wt⟩ i HLT.out)
                  have f5 := HF6.out.st.unfrozen i
                  generalize (HSt.mk (hTo5 s.h L i) s.n s.wt).h.getD i 0 = z at c5
                  have HF2 := Lib.hid (fun x => HF6.out.set i HLT.out x)
                  clear HF6
                  go_wp2
                  go_roundw
                  case rel =>
                    refine ⟨i + 1, by have := HLT.out; omega, by go_num, ?_⟩
                    rw [HE.out]
                    exact Lib.hid (HF2.out _)
                  case measure => simp [intOf]; have := HLT.out; omega
                · obtain rfl : i = 8 := by omega
                  have e4 : decide (((8 : Nat) : Int) < 8) = false := by decide
                  have hcs : sC5 ⟨hTo5 s.h L 8, s.n, s.wt⟩ = (((hTo5 s.h L 8).map (Value.int .u32) ++ [Value.int .i64 (s.n : Int)]) ++ (s.wt.map B ++ [Value.bool true])).toArray := by simp [sC5]
                  have hcs2 : ((((hTo5 s.h L 8).map (Value.int .u32) ++ [Value.int .i64 (s.n : Int)]) ++ ((List.replicate 64 (Value.int .u8 0)) ++ [Value.bool true])).toArray) = sC5 ⟨hTo5 s.h L 8, s.n, List.replicate 64 0⟩ := by
                    simp only [sC5, List.append_assoc, List.cons_append, List.nil_append, List.map_replicate]
                    rfl
                  have hcn : C5 s.h s.wt = hTo5 s.h L 8 := by
                    unfold C5
                    rw [HW.out, HL.out]
                  have HCN := Lib.hid hcn
                  have HCS := Lib.hid hcs
                  have HCS2 := Lib.hid hcs2
                  clear hcs hcs2 hcn
                  go_wp2_with (first
                    | (with_reducible change wpList _ _ _ (Oper.mk _ (Op.build _ _) _ _ _ _ :: _) _ _; refine wpList_value (.agg ((List.replicate 64 (Value.int .u8 0)).toArray)) rfl (by kernel_rfl) ?_)
                    | (with_reducible change wpList _ _ _ (Oper.mk _ (Op.store _ _ _) _ _ _ _ :: _) _ _
                       refine wpList_store_part b 9 (List.replicate 64 (Value.int .u8 0)) rfl rfl ((hTo5 s.h L 8).map (Value.int .u32) ++ [Value.int .i64 (s.n : Int)]) (s.wt.map B) [Value.bool true] HF.out.st HCS.out (by simp [HF.out.len]) (by kernel_rfl) (by simp [HOK.out.wt]) (by intro v hv; rw [List.eq_of_mem_replicate hv]; rfl) ?_
                       intro wz hb9 ho9
                       rw [HCS2.out, ← HCN.out] at hb9
                       have HB9 := Lib.hid hb9
                       have HO9 := Lib.hid (HF.out.only.trans ho9 (fun x hx => .inl hx))
                       clear hb9 ho9))
                  exact bodyPost_end (results_none rfl _ _ _) rfl ⟨rfl, HB9.out, HO9.out⟩
              --]e
end Go.Proofs.Ytideobdggdmeiaa
