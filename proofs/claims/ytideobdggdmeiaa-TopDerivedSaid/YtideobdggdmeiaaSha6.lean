/- SHA-512: the constants, the work on a block. -/
import Derived.Test.YtideobdggdmeiaaRows
import Derived.Test.YtideobdggdmeiaaSha6P
import Derived.Test.YtideobdggdmeiaaLedNote
import Derived.Test.YtideobdggdmeiaaHeld
import Derived.Test.YtideobdggdmeiaaEqArr
import Derived.Test.YtideobdggdmeiaaStorePart
import Derived.Deep.Cut
import Derived.Deep.CutRange
namespace Go.Proofs.Ytideobdggdmeiaa
open Go.RowKit
set_option maxRecDepth 100000
set_option linter.unusedVariables false
set_option linter.unusedSimpArgs false
/-- words as cells -/
def wc64 (l : List Int) : Array Value := (l.map (Value.int .u64)).toArray
theorem wc64_size (l : List Int) : (wc64 l).size = l.length := by simp [wc64]
theorem wc64_one (l : List Int) : ∀ v ∈ (wc64 l).toList, v.oneCell' = true := by
  intro v hv
  simp [wc64] at hv
  obtain ⟨x, _, rfl⟩ := hv
  rfl
theorem wc64_get (l : List Int) (i : Nat) (h : i < l.length) : (wc64 l)[i]? = some (.int .u64 (l.getD i 0)) := by
  simp [wc64, h]
theorem wc64_set (l : List Int) (i : Nat) (x : Int) : (wc64 l).setIfInBounds i (.int .u64 x) = wc64 (l.set i x) := by
  simp [wc64, List.map_set]
def zW6 : List Int := List.replicate 80 0
theorem zW6_len : zW6.length = 80 := by simp [zW6]
theorem K6_len : K6.length = 80 := rfl
theorem szK6 : (wc64 K6).size = 80 := by rw [wc64_size]; rfl
theorem szZ6 : (wc64 zW6).size = 80 := by rw [wc64_size, zW6_len]
def z86 : List Int := List.replicate 8 0
theorem zero80w (w : World) : (zeroValue 97).run Try.prog w = .ok (.agg (wc64 zW6)) w := by kernel_rfl
theorem zero8w (w : World) : (zeroValue 83).run Try.prog w = .ok (.agg (wc64 z86)) w := by kernel_rfl
theorem und80w : Try.prog.underlying 97 = some (.array 80 82) := Try.underlying97
theorem size80w : (Try.prog.info? 97).map (·.size) = some 80 := by kernel_rfl
theorem size8w : (Try.prog.info? 83).map (·.size) = some 8 := by kernel_rfl
set_option maxHeartbeats 4000000 in
theorem keys6_any (w : World) : Calls Try.prog 54 #[] w fun e w' => e = .returned (.agg (wc64 K6)) ∧ Below w.heap.size w w' := by
  have hz := zero80w
  go_enter Try.func54, Try.ntmps54
  go_wp2_with (first
    | (with_reducible change wpList _ _ _ (Oper.mk _ (Op.build _ _) _ _ _ _ :: _) _ _; refine wpList_value (.agg (wc64 K6)) rfl (by kernel_rfl) ?_)
    | (with_reducible change wpList _ _ _ (Oper.mk _ (Op.store _ _ _) _ _ _ _ :: _) _ _; refine wpList_store_blk w.heap.size (wc64 K6) rfl rfl (Blk.new w 97 (wc64 zW6)) size80w szK6 szZ6 (wc64_one _) ?_))
  refine bodyPost_ret (results_cell_blk Try.results54 _ _ w.heap.size rfl (Blk.row (Blk.new w 97 (wc64 zW6)) (wc64 K6)) und80w rfl size80w szK6) rfl ?_
  exact ⟨rfl, below_row ((Below.refl _ _).alloc (Nat.le_refl _) _) (Nat.le_refl _) _⟩
theorem first6_any (w : World) : Calls Try.prog 38 #[] w fun e w' => e = .returned (.agg (wc64 h06)) ∧ Below w.heap.size w w' := by
  have hz := zero8w
  go_enter Try.func38, Try.ntmps38
  go_wp2_with (first
    | (with_reducible change wpList _ _ _ (Oper.mk _ (Op.build _ _) _ _ _ _ :: _) _ _; refine wpList_value (.agg (wc64 h06)) rfl (by kernel_rfl) ?_)
    | (with_reducible change wpList _ _ _ (Oper.mk _ (Op.store _ _ _) _ _ _ _ :: _) _ _; refine wpList_store_blk w.heap.size (wc64 h06) rfl rfl (Blk.new w 83 (wc64 z86)) size8w rfl rfl (wc64_one _) ?_))
  refine bodyPost_ret (results_cell_blk Try.results38 _ _ w.heap.size rfl (Blk.row (Blk.new w 83 (wc64 z86)) (wc64 h06)) Try.underlying83 rfl size8w rfl) rfl ?_
  exact ⟨rfl, below_row ((Below.refl _ _).alloc (Nat.le_refl _) _) (Nat.le_refl _) _⟩
/-- the worlds in which the words are made -/
structure CW6 (w : World) (n0 b5 : Nat) (h : List Int) (l : List UInt8) (W : List Int) (wr : World) : Prop where
  below : Below w.heap.size w wr
  hb : Blk wr n0 83 (wc64 h)
  bb : Blk wr (n0 + 1) 85 (barr l)
  rb : Blk wr (n0 + 2) 83 (wc64 z86)
  ww : Blk wr b5 97 (wc64 W)
  n : w.heap.size ≤ n0
  n5 : n0 + 2 < b5
theorem CW6.draw {w wr : World} {n0 b5 : Nat} {h : List Int} {l : List UInt8} {W : List Int} (c : CW6 w n0 b5 h l W wr) (n : Nat) : CW6 w n0 b5 h l W (wr.drewN n) := ⟨⟨c.below.os, c.below.tape, c.below.output, c.below.size, c.below.block⟩, c.hb, c.bb, c.rb, c.ww, c.n, c.n5⟩
theorem CW6.set {w wr : World} {n0 b5 : Nat} {h : List Int} {l : List UInt8} {W : List Int} (c : CW6 w n0 b5 h l W wr) (i : Nat) (x : Int) : CW6 w n0 b5 h l (W.set i x) (wr.setCell ⟨b5, i, none⟩ (.int .u64 x)) := by
  have h1 := c.n5
  have h2 := c.n
  exact ⟨Below.setCell c.below (by show w.heap.size ≤ b5; omega) _, c.hb.set_ne (by show n0 ≠ b5; omega) _, c.bb.set_ne (by show n0 + 1 ≠ b5; omega) _, c.rb.set_ne (by show n0 + 2 ≠ b5; omega) _, by rw [← wc64_set]; exact c.ww.set i _, c.n, c.n5⟩
theorem CW6.bytes {w wr : World} {n0 b5 : Nat} {h : List Int} {l : List UInt8} {W : List Int} (c : CW6 w n0 b5 h l W wr) (hl : l.length = 128) : Bs wr (.slice (some ⟨n0 + 1, 0, none⟩) 128 128) l :=
  ⟨some ⟨n0 + 1, 0, none⟩, 128, by rw [hl], by rw [hl]; exact Nat.le_refl _, by decide, fun h => by simp at h, fun j hj => ⟨n0 + 1, 0, rfl, c.bb.cellAt (0 + j) (by rw [Nat.zero_add]; exact barr_getD l j hj)⟩⟩
/-- the same, whatever stands at one place -/
structure CX6 (w : World) (n0 b5 : Nat) (h : List Int) (l : List UInt8) (W : List Int) (i : Nat) (wr : World) : Prop where
  ex : ∃ x, CW6 w n0 b5 h l (W.set i x) wr
theorem CX6.draw {w wr : World} {n0 b5 i : Nat} {h : List Int} {l : List UInt8} {W : List Int} (c : CX6 w n0 b5 h l W i wr) (n : Nat) : CX6 w n0 b5 h l W i (wr.drewN n) := by
  obtain ⟨x, hx⟩ := c.ex
  exact ⟨x, hx.draw n⟩
theorem CX6.cell {w wr : World} {n0 b5 i : Nat} {h : List Int} {l : List UInt8} {W : List Int} (c : CX6 w n0 b5 h l W i wr) (k : Nat) (hk : k < W.length) (hne : k ≠ i) : wr.cell? ⟨b5, k, none⟩ = some (.int .u64 (W.getD k 0)) := by
  obtain ⟨x, hx⟩ := c.ex
  have h1 := hx.ww.cellAt k (wc64_get _ k (by rw [List.length_set]; exact hk))
  rw [h1, List.getD_eq_getElem?_getD, List.getD_eq_getElem?_getD, List.getElem?_set_ne (Ne.symm hne)]
theorem CX6.of {w wr : World} {n0 b5 i : Nat} {h : List Int} {l : List UInt8} {W : List Int} (c : CW6 w n0 b5 h l W wr) (hi : i < W.length) : CX6 w n0 b5 h l W i wr := by
  refine ⟨W.getD i 0, ?_⟩
  rw [List.getD_eq_getElem?_getD, List.getElem?_eq_getElem hi]
  simpa using c
/-- the worlds of the rounds -/
structure DW6 (w : World) (n0 b5 b6 : Nat) (h : List Int) (l : List UInt8) (W V : List Int) (wr : World) : Prop where
  c : CW6 w n0 b5 h l W wr
  vv : Blk wr b6 83 (wc64 V)
  n6 : b5 < b6
theorem DW6.draw {w wr : World} {n0 b5 b6 : Nat} {h : List Int} {l : List UInt8} {W V : List Int} (c : DW6 w n0 b5 b6 h l W V wr) (n : Nat) : DW6 w n0 b5 b6 h l W V (wr.drewN n) := ⟨c.c.draw n, c.vv, c.n6⟩
theorem CW6.set_ge {w wr : World} {n0 b5 : Nat} {h : List Int} {l : List UInt8} {W : List Int} (c : CW6 w n0 b5 h l W wr) (b6 i : Nat) (hb : b5 < b6) (v : Value) : CW6 w n0 b5 h l W (wr.setCell ⟨b6, i, none⟩ v) := by
  have h1 := c.n5
  have h2 := c.n
  exact ⟨Below.setCell c.below (by show w.heap.size ≤ b6; omega) _, c.hb.set_ne (by show n0 ≠ b6; omega) _, c.bb.set_ne (by show n0 + 1 ≠ b6; omega) _, c.rb.set_ne (by show n0 + 2 ≠ b6; omega) _, c.ww.set_ne (by show b5 ≠ b6; omega) _, c.n, c.n5⟩
theorem DW6.set {w wr : World} {n0 b5 b6 : Nat} {h : List Int} {l : List UInt8} {W V : List Int} (c : DW6 w n0 b5 b6 h l W V wr) (i : Nat) (x : Int) : DW6 w n0 b5 b6 h l W (V.set i x) (wr.setCell ⟨b6, i, none⟩ (.int .u64 x)) :=
  ⟨c.c.set_ge b6 i c.n6 _, by rw [← wc64_set]; exact c.vv.set i _, c.n6⟩
/-- the words are added to -/
theorem DW6.seth {w wr : World} {n0 b5 b6 : Nat} {h : List Int} {l : List UInt8} {W V : List Int} (c : DW6 w n0 b5 b6 h l W V wr) (i : Nat) (x : Int) : DW6 w n0 b5 b6 (h.set i x) l W V (wr.setCell ⟨n0, i, none⟩ (.int .u64 x)) := by
  have h1 := c.c.n5
  have h2 := c.c.n
  have h3 := c.n6
  exact ⟨⟨Below.setCell c.c.below (by show w.heap.size ≤ n0; omega) _, by rw [← wc64_set]; exact c.c.hb.set i _, c.c.bb.set_ne (by show n0 + 1 ≠ n0; omega) _, c.c.rb.set_ne (by show n0 + 2 ≠ n0; omega) _, c.c.ww.set_ne (by show b5 ≠ n0; omega) _, c.c.n, c.c.n5⟩, c.vv.set_ne (by show b6 ≠ n0; omega) _, c.n6⟩
theorem run_index6 (L : List Int) (k : Nat) (hl : k < L.length) (hn : k < 80) (w : World) :
    (Instr.index 97 (.agg (wc64 L)) (.int .i64 (k : Int))).run Try.prog w = .ok (.int .u64 (L.getD k 0)) w := by
  have hk : Try.prog.plainKey 82 = true := by kernel_rfl
  have hs : (Try.prog.info? 82).map (·.size) = some 1 := by kernel_rfl
  have h1 := run_part_plain w hk (wc64_get L k hl)
  cases hq : Try.prog.info? 82 with
  | none => simp [hq] at hs
  | some i =>
    have hi : i.size = 1 := by simpa [hq] using hs
    have hc : (0 : Int) ≤ (k : Int) ∧ (k : Int) < ((80 : Nat) : Int) := by omega
    simp only [Instr.index, asIntOf, Sem.run_bind, Sem.run_pure, Result.andThen_ok, run_underlying Try.underlying97]
    rw [if_pos hc]
    simp only [Sem.run_bind, sizeOf, typeInfo, hq, hi, Sem.run_pure, Result.andThen_ok, Int.toNat_natCast, Nat.mul_one]
    simpa [hq, hi] using h1
theorem nots6 : (if IntKind.u64.signed = true then (-1 : Int) else IntKind.u64.max) = 18446744073709551615 := rfl
theorem rTo6_len (h W : List Int) (t : Nat) : (rTo6 h W t).list.length = 8 := rfl
theorem first6_list : ∀ (h : List Int), h.length = 8 → (first6 h).list = h
  | [_, _, _, _, _, _, _, _], _ => rfl
set_option maxHeartbeats 8000000 in
theorem comp6_any (h : List Int) (l : List UInt8) (w : World) (hh : h.length = 8) (hl : l.length = 128) :
    Calls Try.prog 46 #[.pointer none, .agg (wc64 h), .agg (barr l)] w fun e w' => e = .returned (.agg (wc64 (C6 h l))) ∧ Below w.heap.size w w' := by
  have HH := Lib.hid hh
  have HL := Lib.hid hl
  have hz := zero80w
  have hz8 := zero8w
  clear hh hl
  go_enter Try.func46, Try.ntmps46
  go_wp2_with fail
  obtain ⟨n0, hn0⟩ : ∃ n, w.heap.size = n := ⟨_, rfl⟩
  have HN0 : Hid (w.heap.size = n0) := hn0
  rw [hn0, show n0 + 1 + 1 = n0 + 2 from rfl]
  have HA : Hid (Below w.heap.size w (((w.alloc (.cells (wc64 h) 83)).alloc (.cells (barr l) 85)).alloc (.cells (wc64 z86) 83)) ∧ Blk (((w.alloc (.cells (wc64 h) 83)).alloc (.cells (barr l) 85)).alloc (.cells (wc64 z86) 83)) n0 83 (wc64 h) ∧
      Blk (((w.alloc (.cells (wc64 h) 83)).alloc (.cells (barr l) 85)).alloc (.cells (wc64 z86) 83)) (n0 + 1) 85 (barr l) ∧ Blk (((w.alloc (.cells (wc64 h) 83)).alloc (.cells (barr l) 85)).alloc (.cells (wc64 z86) 83)) (n0 + 2) 83 (wc64 z86)) := by
    have h1 : (w.alloc (.cells (wc64 h) 83)).heap.size = n0 + 1 := by simp [hn0]
    have h2 : ((w.alloc (.cells (wc64 h) 83)).alloc (.cells (barr l) 85)).heap.size = n0 + 2 := by simp [hn0]
    refine Lib.hid ⟨(((Below.refl _ w).alloc (by omega) _).alloc (by omega) _).alloc (by omega) _, ?_, ?_, Blk.at h2.symm rfl⟩
    · exact ((Blk.at hn0.symm rfl).alloc _).alloc _
    · exact (Blk.at h1.symm rfl).alloc _
  obtain ⟨wa, hwa⟩ : ∃ y, (((w.alloc (.cells (wc64 h) 83)).alloc (.cells (barr l) 85)).alloc (.cells (wc64 z86) 83)) = y := ⟨_, rfl⟩
  rw [hwa] at HA ⊢
  clear hwa hn0
  refine (note_nil 2 128 wa).mono ?_
  rintro e w1 ⟨rfl, hb1⟩
  have HC : Hid (CW6 w n0 w1.heap.size h l (wTo6 l 0) (w1.alloc (.cells (wc64 zW6) 97))) := by
    obtain ⟨q0, q1, q2, q3⟩ := HA.out
    have hs := hb1.size
    have hlt := q3.lt
    exact Lib.hid ⟨(q0.trans (hb1.mono q0.size)).alloc (Nat.le_trans q0.size hs) _, (q1.below hb1 q1.lt).alloc _, (q2.below hb1 q2.lt).alloc _, (q3.below hb1 q3.lt).alloc _, Blk.new _ _ _, by rw [HN0.out]; exact Nat.le_refl _, by omega⟩
  clear hb1 HA
  obtain ⟨b5, hb5⟩ : ∃ x, w1.heap.size = x := ⟨_, rfl⟩
  go_wp2_with fail
  rw [hb5] at HC
  try rw [hb5]
  obtain ⟨wx, hwx⟩ : ∃ y, w1.alloc (.cells (wc64 zW6) 97) = y := ⟨_, rfl⟩
  rw [hwx] at HC ⊢
  clear hwx hb5 hz
  go_loopw [22] (fun vi wr => ∃ t : Nat, t ≤ 80 ∧ vi = .int .i64 (t : Int) ∧ Hid (CW6 w n0 b5 h l (wTo6 l t) wr)) (fun vi _ => 80 - (intOf vi).toNat)
  case atStart => exact ⟨0, by omega, rfl, HC⟩
  case round =>
    clear HC
    obtain ⟨t, ht, rfl, HC⟩ := hrel
    by_cases hlt2 : t < 80
    · have hwl := wTo6_len l t
      obtain ⟨W, hW⟩ : ∃ W, wTo6 l t = W := ⟨_, rfl⟩
      by_cases h16 : t < 16
      · skip
        --[a
        have hcall := Lib.hid (take64_any (.slice (some ⟨n0 + 1, 0, none⟩) 128 128) l (8 * t) wr (HC.out.bytes HL.out) (by rw [HL.out]; omega) (by rw [HL.out]; omega))
        have hm4 : ((8 * t : Nat) : Int) = 8 * (t : Int) := by omega
        rw [hm4] at hcall
        have e5 : wTo6 l (t + 1) = W.set t (be .u64 18446744073709551616 l (8 * t) 8) := by rw [wTo6, hW]; unfold wAt6; rw [if_pos h16]
        obtain ⟨x, hx⟩ : ∃ x, be .u64 18446744073709551616 l (8 * t) 8 = x := ⟨_, rfl⟩
        rw [hx] at hcall e5
        rw [hW] at HC hwl
        have hlI : (t : Int) < 16 := by omega
        have hlI2 : (t : Int) < 80 := by omega
        have c5 := HC.out.ww.cellAt t (wc64_get _ t (by omega))
        have f5 := HC.out.ww.unfrozen t
        have HC2 : Hid (CW6 w n0 b5 h l (wTo6 l (t + 1)) (wr.setCell ⟨b5, t, none⟩ (.int .u64 x))) := by rw [e5]; exact Lib.hid (HC.out.set t x)
        generalize W.getD t 0 = z at c5
        clear HC hx e5 hwl hW
        go_wp2_with fail
        refine hcall.out.mono ?_
        rintro e w3 ⟨rfl, rfl⟩
        clear hcall hm4
        go_wp2
        go_roundw
        case rel => exact ⟨t + 1, by omega, by go_num, HC2⟩
        case measure => simp [intOf]; omega
        --]a
      · obtain ⟨j, rfl⟩ : ∃ j, t = j + 16 := ⟨t - 16, by omega⟩
        have hj : j < 64 := by omega
        --[b
        rw [hW] at HC hwl
        have HE : Hid (wTo6 l (j + 16 + 1) = W.set (j + 16) (add6 (add6 (add6 (sg16 (W.getD (j + 14) 0)) (W.getD (j + 9) 0)) (sg06 (W.getD (j + 1) 0))) (W.getD j 0))) := by
          rw [wTo6, hW]
          unfold wAt6
          rw [if_neg (by omega), show j + 16 - 2 = j + 14 by omega, show j + 16 - 7 = j + 9 by omega, show j + 16 - 15 = j + 1 by omega, show j + 16 - 16 = j by omega]
          exact Lib.hid rfl
        have hcast : ((j + 16 : Nat) : Int) = (j : Int) + 16 := by omega
        rw [hcast]
        have G := Lib.hid (fun (k : Nat) (hk : k < 80) (hne : k ≠ j + 16) (w' : World) (hS : CX6 w n0 b5 h l W (j + 16) w') => hS.cell k (by omega) hne)
        have h0 : IntKind.i64.wrap ((j : Int) + 16 - 16) = j := by rw [IntWalk.i64_in _ (by omega)]; omega
        have h1 : IntKind.i64.wrap ((j : Int) + 16 - 15) = (j : Int) + 1 := by rw [IntWalk.i64_in _ (by omega)]; omega
        have h2 : IntKind.i64.wrap ((j : Int) + 16 - 2) = (j : Int) + 14 := by rw [IntWalk.i64_in _ (by omega)]; omega
        have h3 : IntKind.i64.wrap ((j : Int) + 16 - 7) = (j : Int) + 9 := by rw [IntWalk.i64_in _ (by omega)]; omega
        have h5 : IntKind.i64.wrap (j : Int) = j := IntWalk.i64_in _ (by omega)
        have h16 : decide ((j : Int) + 16 < 16) = false := by rw [decide_eq_false_iff_not]; omega
        have h80 : decide ((j : Int) + 16 < 80) = true := by rw [decide_eq_true_eq]; omega
        have hj0 : (j : Int) < 80 := by omega
        have hj1 : (j : Int) + 1 < 80 := by omega
        have hj14 : (j : Int) + 14 < 80 := by omega
        have hj9 : (j : Int) + 9 < 80 := by omega
        have hj16 : (j : Int) + 16 < 80 := by omega
        have p1 : 0 ≤ (j : Int) + 1 := by omega
        have p14 : 0 ≤ (j : Int) + 14 := by omega
        have p9 : 0 ≤ (j : Int) + 9 := by omega
        have p16 : 0 ≤ (j : Int) + 16 := by omega
        have n1 : ((j : Int) + 1).toNat = j + 1 := by omega
        have n14 : ((j : Int) + 14).toNat = j + 14 := by omega
        have n9 : ((j : Int) + 9).toNat = j + 9 := by omega
        have n16 : ((j : Int) + 16).toNat = j + 16 := by omega
        have F1 := G.out (j + 1) (by omega) (by omega)
        have F2 := G.out (j + 14) (by omega) (by omega)
        have F3 := G.out (j + 9) (by omega) (by omega)
        have F4 := G.out j (by omega) (by omega)
        obtain ⟨x1, hx1⟩ : ∃ x, W.getD (j + 1) 0 = x := ⟨_, rfl⟩
        obtain ⟨x2, hx2⟩ : ∃ x, W.getD (j + 14) 0 = x := ⟨_, rfl⟩
        obtain ⟨x3, hx3⟩ : ∃ x, W.getD (j + 9) 0 = x := ⟨_, rfl⟩
        obtain ⟨x4, hx4⟩ : ∃ x, W.getD j 0 = x := ⟨_, rfl⟩
        rw [hx1] at F1 HE
        rw [hx2] at F2 HE
        rw [hx3] at F3 HE
        rw [hx4] at F4 HE
        clear hx1 hx2 hx3 hx4 hW hcast
        have hx0 := CX6.of HC.out (i := j + 16) (by omega)
        have c1 := F1 wr hx0
        have c2 := F2 wr hx0
        clear hx0
        go_upto_region 8 with fail
        go_quiet (fail)
        clear c1 c2 F1 F2
        have HC1 := Lib.hid (HC.out.draw nq)
        obtain ⟨w4, hw4⟩ : ∃ y, wr.drewN nq = y := ⟨_, rfl⟩
        rw [hw4] at HC1 ⊢
        clear hw4 HC
        go_upto_region 9 with fail
        refine hd_start (CX6 w n0 b5 h l W (j + 16)) (by kernel_rfl) ?_
        intro w5 hw'
        have hS0 : CX6 w n0 b5 h l W (j + 16) w5 := by rw [hw']; exact CX6.of (HC1.out.draw 1) (by omega)
        clear hw' HC1
        refine hd_take (v := ?_) 0 rfl (by kernel_rfl) (fun _ _ d _ _ h => (by cases d <;> exact h)) (by kernel_rfl) hS0 (fun w' hS => ?_) ?_
        rotate_left
        focus (have q0 := F3 w' hS; have q1 := F4 w' hS; clear hS; go_simp; try rfl; done)
        simp only [List.getElem_toArray, List.getElem_cons_succ, List.getElem_cons_zero, Act.put, List.setIfInBounds_toArray, List.set_cons_zero, List.set_cons_succ]
        refine hd_take (v := ?_) 1 rfl (by kernel_rfl) (fun _ _ d _ _ h => (by cases d <;> exact h)) (by kernel_rfl) hS0 (fun w' hS => ?_) ?_
        rotate_left
        focus (have q0 := F3 w' hS; have q1 := F4 w' hS; clear hS; go_simp; try rfl; done)
        simp only [List.getElem_toArray, List.getElem_cons_succ, List.getElem_cons_zero, Act.put, List.setIfInBounds_toArray, List.set_cons_zero, List.set_cons_succ]
        refine hd_take (v := ?_) 3 rfl (by kernel_rfl) (fun _ _ d _ _ h => (by cases d <;> exact h)) (by kernel_rfl) hS0 (fun w' hS => ?_) ?_
        rotate_left
        focus (have q0 := F3 w' hS; have q1 := F4 w' hS; clear hS; go_simp; try rfl; done)
        simp only [List.getElem_toArray, List.getElem_cons_succ, List.getElem_cons_zero, Act.put, List.setIfInBounds_toArray, List.set_cons_zero, List.set_cons_succ]
        refine hd_take (v := ?_) 6 rfl (by kernel_rfl) (fun _ _ d _ _ h => (by cases d <;> exact h)) (by kernel_rfl) hS0 (fun w' hS => ?_) ?_
        rotate_left
        focus (have q0 := F3 w' hS; have q1 := F4 w' hS; clear hS; go_simp; try rfl; done)
        simp only [List.getElem_toArray, List.getElem_cons_succ, List.getElem_cons_zero, Act.put, List.setIfInBounds_toArray, List.set_cons_zero, List.set_cons_succ]
        refine hd_take (v := ?_) 7 rfl (by kernel_rfl) (fun _ _ d _ _ h => (by cases d <;> exact h)) (by kernel_rfl) hS0 (fun w' hS => ?_) ?_
        rotate_left
        focus (have q0 := F3 w' hS; have q1 := F4 w' hS; clear hS; go_simp; try rfl; done)
        simp only [List.getElem_toArray, List.getElem_cons_succ, List.getElem_cons_zero, Act.put, List.setIfInBounds_toArray, List.set_cons_zero, List.set_cons_succ]
        refine hd_take (v := ?_) 9 rfl (by kernel_rfl) (fun _ _ d _ _ h => (by cases d <;> exact h)) (by kernel_rfl) hS0 (fun w' hS => ?_) ?_
        rotate_left
        focus (have q0 := F3 w' hS; have q1 := F4 w' hS; clear hS; go_simp; try rfl; done)
        simp only [List.getElem_toArray, List.getElem_cons_succ, List.getElem_cons_zero, Act.put, List.setIfInBounds_toArray, List.set_cons_zero, List.set_cons_succ]
        refine hd_take (v := ?_) 10 rfl (by kernel_rfl) (fun _ _ d _ _ h => (by cases d <;> exact h)) (by kernel_rfl) hS0 (fun w' hS => ?_) ?_
        rotate_left
        focus (have q0 := F3 w' hS; have q1 := F4 w' hS; clear hS; go_simp; try rfl; done)
        simp only [List.getElem_toArray, List.getElem_cons_succ, List.getElem_cons_zero, Act.put, List.setIfInBounds_toArray, List.set_cons_zero, List.set_cons_succ]
        refine hd_take (v := ?_) 11 rfl (by kernel_rfl) (fun _ _ d _ _ h => (by cases d <;> exact h)) (by kernel_rfl) hS0 (fun w' hS => ?_) ?_
        rotate_left
        focus (have q0 := F3 w' hS; have q1 := F4 w' hS; clear hS; go_simp; try rfl; done)
        simp only [List.getElem_toArray, List.getElem_cons_succ, List.getElem_cons_zero, Act.put, List.setIfInBounds_toArray, List.set_cons_zero, List.set_cons_succ]
        refine hd_take (v := ?_) 12 rfl (by kernel_rfl) (fun _ _ d _ _ h => (by cases d <;> exact h)) (by kernel_rfl) hS0 (fun w' hS => ?_) ?_
        rotate_left
        focus (have q0 := F3 w' hS; have q1 := F4 w' hS; clear hS; go_simp; try rfl; done)
        simp only [List.getElem_toArray, List.getElem_cons_succ, List.getElem_cons_zero, Act.put, List.setIfInBounds_toArray, List.set_cons_zero, List.set_cons_succ]
        refine hd_take (v := ?_) 14 rfl (by kernel_rfl) (fun _ _ d _ _ h => (by cases d <;> exact h)) (by kernel_rfl) hS0 (fun w' hS => ?_) ?_
        rotate_left
        focus (have q0 := F3 w' hS; have q1 := F4 w' hS; clear hS; go_simp; try rfl; done)
        simp only [List.getElem_toArray, List.getElem_cons_succ, List.getElem_cons_zero, Act.put, List.setIfInBounds_toArray, List.set_cons_zero, List.set_cons_succ]
        refine hd_take (v := ?_) 16 rfl (by kernel_rfl) (fun _ _ d _ _ h => (by cases d <;> exact h)) (by kernel_rfl) hS0 (fun w' hS => ?_) ?_
        rotate_left
        focus (have q0 := F3 w' hS; have q1 := F4 w' hS; clear hS; go_simp; try rfl; done)
        simp only [List.getElem_toArray, List.getElem_cons_succ, List.getElem_cons_zero, Act.put, List.setIfInBounds_toArray, List.set_cons_zero, List.set_cons_succ]
        refine hd_take (v := ?_) 19 rfl (by kernel_rfl) (fun _ _ d _ _ h => (by cases d <;> exact h)) (by kernel_rfl) hS0 (fun w' hS => ?_) ?_
        rotate_left
        focus (have q0 := F3 w' hS; have q1 := F4 w' hS; clear hS; go_simp; try rfl; done)
        simp only [List.getElem_toArray, List.getElem_cons_succ, List.getElem_cons_zero, Act.put, List.setIfInBounds_toArray, List.set_cons_zero, List.set_cons_succ]
        refine hd_take (v := ?_) 20 rfl (by kernel_rfl) (fun _ _ d _ _ h => (by cases d <;> exact h)) (by kernel_rfl) hS0 (fun w' hS => ?_) ?_
        rotate_left
        focus (have q0 := F3 w' hS; have q1 := F4 w' hS; clear hS; go_simp; try rfl; done)
        simp only [List.getElem_toArray, List.getElem_cons_succ, List.getElem_cons_zero, Act.put, List.setIfInBounds_toArray, List.set_cons_zero, List.set_cons_succ]
        refine hd_take (v := ?_) 23 rfl (by kernel_rfl) (fun _ _ d _ _ h => (by cases d <;> exact h)) (by kernel_rfl) hS0 (fun w' hS => ?_) ?_
        rotate_left
        focus (have q0 := F3 w' hS; have q1 := F4 w' hS; clear hS; go_simp; try rfl; done)
        simp only [List.getElem_toArray, List.getElem_cons_succ, List.getElem_cons_zero, Act.put, List.setIfInBounds_toArray, List.set_cons_zero, List.set_cons_succ]
        refine hd_take (v := ?_) 24 rfl (by kernel_rfl) (fun _ _ d _ _ h => (by cases d <;> exact h)) (by kernel_rfl) hS0 (fun w' hS => ?_) ?_
        rotate_left
        focus (have q0 := F3 w' hS; have q1 := F4 w' hS; clear hS; go_simp; try rfl; done)
        simp only [List.getElem_toArray, List.getElem_cons_succ, List.getElem_cons_zero, Act.put, List.setIfInBounds_toArray, List.set_cons_zero, List.set_cons_succ]
        refine hd_take (v := ?_) 25 rfl (by kernel_rfl) (fun _ _ d _ _ h => (by cases d <;> exact h)) (by kernel_rfl) hS0 (fun w' hS => ?_) ?_
        rotate_left
        focus (have q0 := F3 w' hS; have q1 := F4 w' hS; clear hS; go_simp; try rfl; done)
        simp only [List.getElem_toArray, List.getElem_cons_succ, List.getElem_cons_zero, Act.put, List.setIfInBounds_toArray, List.set_cons_zero, List.set_cons_succ]
        refine hd_take (v := ?_) 26 rfl (by kernel_rfl) (fun _ _ d _ _ h => (by cases d <;> exact h)) (by kernel_rfl) hS0 (fun w' hS => ?_) ?_
        rotate_left
        focus (have q0 := F3 w' hS; have q1 := F4 w' hS; clear hS; go_simp; try rfl; done)
        simp only [List.getElem_toArray, List.getElem_cons_succ, List.getElem_cons_zero, Act.put, List.setIfInBounds_toArray, List.set_cons_zero, List.set_cons_succ]
        refine hd_one 2 (by kernel_rfl) ?_
        refine op_call rfl (by kernel_rfl) (by go_simp; first | exact ⟨rfl, rfl⟩ | rfl) ?_
        refine (right64_any x2 19 (by decide) (by decide) _).mono ?_
        rintro e w6 ⟨rfl, m, rfl⟩
        have hS2 := hS0.draw m
        refine ⟨_, rfl, hS2, ?_⟩
        simp only [List.getElem_toArray, List.getElem_cons_succ, List.getElem_cons_zero, Act.put, List.setIfInBounds_toArray, List.set_cons_zero, List.set_cons_succ]
        have hS6 := hS2
        clear hS2
        refine hd_one 4 (by kernel_rfl) ?_
        refine op_call rfl (by kernel_rfl) (by go_simp; first | exact ⟨rfl, rfl⟩ | rfl) ?_
        refine (right64_any x2 61 (by decide) (by decide) _).mono ?_
        rintro e w6 ⟨rfl, m2, rfl⟩
        have hS2 := hS6.draw m2
        refine ⟨_, rfl, hS2, ?_⟩
        simp only [List.getElem_toArray, List.getElem_cons_succ, List.getElem_cons_zero, Act.put, List.setIfInBounds_toArray, List.set_cons_zero, List.set_cons_succ]
        have hS7 := hS2
        clear hS2 hS6
        refine hd_take (v := ?_) 5 rfl (by kernel_rfl) (fun _ _ d _ _ h => (by cases d <;> exact h)) (by kernel_rfl) hS7 (fun w' hS => ?_) ?_
        rotate_left
        focus (clear hS; go_simp; try rfl; done)
        simp only [List.getElem_toArray, List.getElem_cons_succ, List.getElem_cons_zero, Act.put, List.setIfInBounds_toArray, List.set_cons_zero, List.set_cons_succ]
        refine hd_take (v := ?_) 8 rfl (by kernel_rfl) (fun _ _ d _ _ h => (by cases d <;> exact h)) (by kernel_rfl) hS7 (fun w' hS => ?_) ?_
        rotate_left
        focus (clear hS; go_simp; try rfl; done)
        simp only [List.getElem_toArray, List.getElem_cons_succ, List.getElem_cons_zero, Act.put, List.setIfInBounds_toArray, List.set_cons_zero, List.set_cons_succ]
        refine hd_take (v := ?_) 13 rfl (by kernel_rfl) (fun _ _ d _ _ h => (by cases d <;> exact h)) (by kernel_rfl) hS7 (fun w' hS => ?_) ?_
        rotate_left
        focus (clear hS; go_simp; try rfl; done)
        simp only [List.getElem_toArray, List.getElem_cons_succ, List.getElem_cons_zero, Act.put, List.setIfInBounds_toArray, List.set_cons_zero, List.set_cons_succ]
        refine hd_one 15 (by kernel_rfl) ?_
        refine op_call rfl (by kernel_rfl) (by go_simp; first | exact ⟨rfl, rfl⟩ | rfl) ?_
        refine (right64_any x1 1 (by decide) (by decide) _).mono ?_
        rintro e w6 ⟨rfl, m3, rfl⟩
        have hS2 := hS7.draw m3
        refine ⟨_, rfl, hS2, ?_⟩
        simp only [List.getElem_toArray, List.getElem_cons_succ, List.getElem_cons_zero, Act.put, List.setIfInBounds_toArray, List.set_cons_zero, List.set_cons_succ]
        have hS8 := hS2
        clear hS2 hS7
        refine hd_one 17 (by kernel_rfl) ?_
        refine op_call rfl (by kernel_rfl) (by go_simp; first | exact ⟨rfl, rfl⟩ | rfl) ?_
        refine (right64_any x1 8 (by decide) (by decide) _).mono ?_
        rintro e w6 ⟨rfl, m4, rfl⟩
        have hS2 := hS8.draw m4
        refine ⟨_, rfl, hS2, ?_⟩
        simp only [List.getElem_toArray, List.getElem_cons_succ, List.getElem_cons_zero, Act.put, List.setIfInBounds_toArray, List.set_cons_zero, List.set_cons_succ]
        have hS9 := hS2
        clear hS2 hS8
        obtain ⟨w9, hw9⟩ : ∃ y, (((w5.drewN m).drewN m2).drewN m3).drewN m4 = y := ⟨_, rfl⟩
        rw [hw9] at hS9
        try rw [hw9]
        clear hw9
        refine hd_take (v := ?_) 18 rfl (by kernel_rfl) (fun _ _ d _ _ h => (by cases d <;> exact h)) (by kernel_rfl) hS9 (fun w' hS => ?_) ?_
        rotate_left
        focus (clear hS; go_simp; try rfl; done)
        simp only [List.getElem_toArray, List.getElem_cons_succ, List.getElem_cons_zero, Act.put, List.setIfInBounds_toArray, List.set_cons_zero, List.set_cons_succ]
        refine hd_take (v := ?_) 21 rfl (by kernel_rfl) (fun _ _ d _ _ h => (by cases d <;> exact h)) (by kernel_rfl) hS9 (fun w' hS => ?_) ?_
        rotate_left
        focus (clear hS; go_simp; try rfl; done)
        simp only [List.getElem_toArray, List.getElem_cons_succ, List.getElem_cons_zero, Act.put, List.setIfInBounds_toArray, List.set_cons_zero, List.set_cons_succ]
        refine hd_take (v := ?_) 22 rfl (by kernel_rfl) (fun _ _ d _ _ h => (by cases d <;> exact h)) (by kernel_rfl) hS9 (fun w' hS => ?_) ?_
        rotate_left
        focus (clear hS; go_simp; try rfl; done)
        simp only [List.getElem_toArray, List.getElem_cons_succ, List.getElem_cons_zero, Act.put, List.setIfInBounds_toArray, List.set_cons_zero, List.set_cons_succ]
        refine hd_take (v := ?_) 27 rfl (by kernel_rfl) (fun _ _ d _ _ h => (by cases d <;> exact h)) (by kernel_rfl) hS9 (fun w' hS => ?_) ?_
        rotate_left
        focus (clear hS; go_simp; try rfl; done)
        simp only [List.getElem_toArray, List.getElem_cons_succ, List.getElem_cons_zero, Act.put, List.setIfInBounds_toArray, List.set_cons_zero, List.set_cons_succ]
        refine hd_take (v := ?_) 28 rfl (by kernel_rfl) (fun _ _ d _ _ h => (by cases d <;> exact h)) (by kernel_rfl) hS9 (fun w' hS => ?_) ?_
        rotate_left
        focus (clear hS; go_simp; try rfl; done)
        simp only [List.getElem_toArray, List.getElem_cons_succ, List.getElem_cons_zero, Act.put, List.setIfInBounds_toArray, List.set_cons_zero, List.set_cons_succ]
        obtain ⟨z, hz9⟩ := hS9.ex
        have c5 : w9.cell? ⟨b5, j + 16, none⟩ = some (.int .u64 z) := by
          rw [hz9.ww.cellAt (j + 16) (wc64_get _ _ (by rw [List.length_set]; omega)), List.getD_eq_getElem?_getD, List.getElem?_set_self (by omega)]
          rfl
        have f5 := hz9.ww.unfrozen (j + 16)
        have HCG : Hid (∀ X, CW6 w n0 b5 h l (W.set (j + 16) X) (w9.setCell ⟨b5, j + 16, none⟩ (.int .u64 X))) := by
          refine Lib.hid fun X => ?_
          have h := hz9.set (j + 16) X
          rw [List.set_set] at h
          exact h
        have HFIN : Hid (∀ y, y = add6 (add6 (add6 (sg16 x2) x3) (sg06 x1)) x4 → CW6 w n0 b5 h l (wTo6 l (j + 16 + 1)) (w9.setCell ⟨b5, j + 16, none⟩ (.int .u64 y))) := by
          refine Lib.hid ?_
          rintro y rfl
          rw [HE.out]
          exact HCG.out _
        clear hz9 hS9 hS0 F3 F4 G
        refine hd_one 29 (by kernel_rfl) ?_
        refine op_skip rfl (by kernel_rfl) (by go_simp; first | done | rfl) ?_
        refine ⟨⟨_, HCG.out _⟩, ?_⟩
        simp only [List.getElem_toArray, List.getElem_cons_succ, List.getElem_cons_zero, Act.put, List.setIfInBounds_toArray, List.set_cons_zero, List.set_cons_succ]
        refine hd_done (by kernel_rfl) ?_
        clear c5 f5
        go_wp2
        go_roundw
        case rel =>
          refine ⟨j + 16 + 1, by omega, by go_num, Lib.hid (HFIN.out _ ?_)⟩
          simp only [wrapU64]
          rfl
        case measure => simp [intOf]; omega
        --]b
    · obtain rfl : t = 80 := by omega
      have hwl := wTo6_len l 80
      obtain ⟨W, hW⟩ : ∃ W, wTo6 l 80 = W := ⟨_, rfl⟩
      rw [hW] at HC hwl
      have HW := Lib.hid hW
      have HWL := Lib.hid hwl
      clear hW hwl ht hlt2
      have hsz : (wc64 h).size = 8 := by rw [wc64_size, HH.out]
      go_wp2_with (first
        | (with_reducible change wpList _ _ _ (Oper.mk _ (Op.load 83 _) _ _ _ _ :: _) _ _; refine wpList_load_blk n0 rfl HC.out.hb Try.underlying83 rfl size8w hsz ?_)
        | (with_reducible change wpList _ _ _ (Oper.mk _ (Op.store 83 _ _) _ _ _ _ :: _) _ _; refine wpList_store_blk wr.heap.size (wc64 h) rfl rfl (Blk.new wr 83 (wc64 z86)) size8w hsz rfl (wc64_one _) ?_))
      obtain ⟨b6, hb6⟩ : ∃ x, wr.heap.size = x := ⟨_, rfl⟩
      have HD0 : Hid (DW6 w n0 b5 b6 h l W h ((wr.alloc (.cells (wc64 z86) 83)).setRow b6 (wc64 h))) := by
        have q := HC.out
        have h1 := q.hb.lt
        have h2 := q.bb.lt
        have h3 := q.rb.lt
        have h4 := q.ww.lt
        have h5 := q.n5
        have h6 := q.below.size
        refine Lib.hid ⟨⟨below_row (q.below.alloc q.below.size _) (by omega) _, (q.hb.alloc _).row_ne (by omega) _, (q.bb.alloc _).row_ne (by omega) _, (q.rb.alloc _).row_ne (by omega) _, (q.ww.alloc _).row_ne (by omega) _, q.n, q.n5⟩, Blk.row (Blk.at hb6.symm rfl) _, by omega⟩
      rw [hb6]
      obtain ⟨w3, hw3⟩ : ∃ y, (wr.alloc (.cells (wc64 z86) 83)).setRow b6 (wc64 h) = y := ⟨_, rfl⟩
      rw [hw3] at HD0 ⊢
      clear hw3 hb6 hz8 hsz HC
      refine (keys6_any w3).mono ?_
      rintro e w4 ⟨rfl, hb4⟩
      have HD : Hid (DW6 w n0 b5 b6 h l W (rTo6 h W 0).list w4) := by
        have q := HD0.out
        show Hid (DW6 w n0 b5 b6 h l W (first6 h).list w4)
        rw [first6_list h HH.out]
        have h1 := q.c.below.size
        exact Lib.hid ⟨⟨q.c.below.trans (hb4.mono h1), q.c.hb.below hb4 q.c.hb.lt, q.c.bb.below hb4 q.c.bb.lt, q.c.rb.below hb4 q.c.rb.lt, q.c.ww.below hb4 q.c.ww.lt, q.c.n, q.c.n5⟩, q.vv.below hb4 q.vv.lt, q.n6⟩
      clear hb4 HD0
      go_wp2_with fail
      go_loopw [73] (fun vi wr => ∃ t : Nat, t ≤ 80 ∧ vi = .int .i64 (t : Int) ∧ Hid (DW6 w n0 b5 b6 h l W (rTo6 h W t).list wr)) (fun vi _ => 80 - (intOf vi).toNat)
      case atStart => exact ⟨0, by omega, rfl, HD⟩
      case round =>
        clear HD
        obtain ⟨t, ht, rfl, HD⟩ := hrel
        by_cases hlt4 : t < 80
        · obtain ⟨ra, rb, rc, rd, re, rf, rg, rh, hr⟩ : ∃ a b c d e f g h', rTo6 h W t = ⟨a, b, c, d, e, f, g, h'⟩ := ⟨_, _, _, _, _, _, _, _, rfl⟩
          have hst : rTo6 h W (t + 1) = step6 ⟨ra, rb, rc, rd, re, rf, rg, rh⟩ (K6.getD t 0) (W.getD t 0) := by rw [rTo6, hr]
          rw [hr] at HD
          obtain ⟨S, hS⟩ : ∃ S : World → Prop, S = DW6 w n0 b5 b6 h l W [ra, rb, rc, rd, re, rf, rg, rh] := ⟨_, rfl⟩
          have SI : Hid (∀ wx, DW6 w n0 b5 b6 h l W [ra, rb, rc, rd, re, rf, rg, rh] wx → S wx) := Lib.hid (fun wx q => by rw [hS]; exact q)
          have SO : Hid (∀ wx, S wx → DW6 w n0 b5 b6 h l W [ra, rb, rc, rd, re, rf, rg, rh] wx) := Lib.hid (fun wx q => by rw [hS] at q; exact q)
          have SD : Hid (∀ wx, S wx → ∀ n, S (wx.drewN n)) := Lib.hid (fun wx q n => by rw [hS] at q ⊢; exact q.draw n)
          have HS0 : Hid (S wr) := Lib.hid (SI.out _ HD.out)
          have G0 : ∀ wx, S wx → wx.cell? ⟨b6, 0, none⟩ = some (.int .u64 ra) := fun wx q => (SO.out _ q).vv.cellAt 0 rfl
          have G1 : ∀ wx, S wx → wx.cell? ⟨b6, 1, none⟩ = some (.int .u64 rb) := fun wx q => (SO.out _ q).vv.cellAt 1 rfl
          have G2 : ∀ wx, S wx → wx.cell? ⟨b6, 2, none⟩ = some (.int .u64 rc) := fun wx q => (SO.out _ q).vv.cellAt 2 rfl
          have G3 : ∀ wx, S wx → wx.cell? ⟨b6, 3, none⟩ = some (.int .u64 rd) := fun wx q => (SO.out _ q).vv.cellAt 3 rfl
          have G4 : ∀ wx, S wx → wx.cell? ⟨b6, 4, none⟩ = some (.int .u64 re) := fun wx q => (SO.out _ q).vv.cellAt 4 rfl
          have G5 : ∀ wx, S wx → wx.cell? ⟨b6, 5, none⟩ = some (.int .u64 rf) := fun wx q => (SO.out _ q).vv.cellAt 5 rfl
          have G6 : ∀ wx, S wx → wx.cell? ⟨b6, 6, none⟩ = some (.int .u64 rg) := fun wx q => (SO.out _ q).vv.cellAt 6 rfl
          have G7 : ∀ wx, S wx → wx.cell? ⟨b6, 7, none⟩ = some (.int .u64 rh) := fun wx q => (SO.out _ q).vv.cellAt 7 rfl
          have GW : ∀ wx, S wx → wx.cell? ⟨b5, t, none⟩ = some (.int .u64 (W.getD t 0)) := fun wx q => (SO.out _ q).c.ww.cellAt t (wc64_get W t (by have := HWL.out; omega))
          have gx : ∀ w, (Instr.index 97 (.agg (wc64 K6)) (.int .i64 (t : Int))).run Try.prog w = .ok (.int .u64 (K6.getD t 0)) w := fun w => run_index6 K6 t (by rw [K6_len]; exact hlt4) hlt4 w
          obtain ⟨kx, hkx⟩ : ∃ x, K6.getD t 0 = x := ⟨_, rfl⟩
          obtain ⟨wx2, hwx⟩ : ∃ x, W.getD t 0 = x := ⟨_, rfl⟩
          rw [hkx] at gx hst
          rw [hwx] at GW hst
          obtain ⟨px, hpx⟩ : ∃ x, p6 ⟨ra, rb, rc, rd, re, rf, rg, rh⟩ kx wx2 = x := ⟨_, rfl⟩
          obtain ⟨qx, hqx⟩ : ∃ x, q6 ⟨ra, rb, rc, rd, re, rf, rg, rh⟩ = x := ⟨_, rfl⟩
          have hst2 : rTo6 h W (t + 1) = ⟨add6 px qx, ra, rb, rc, add6 rd px, re, rf, rg⟩ := by rw [hst]; unfold step6; rw [hpx, hqx]
          have HST := Lib.hid hst2
          have HPX := Lib.hid hpx
          have HQX := Lib.hid hqx
          have t4 : decide ((t : Int) < 80) = true := by rw [decide_eq_true_eq]; omega
          have tI : (t : Int) < 80 := by omega
          have HLT := Lib.hid hlt4
          clear hkx hwx hst hst2 hr hpx hqx hS HD hlt4
          obtain ⟨K6v, hK6v⟩ : ∃ x, wc64 K6 = x := ⟨_, rfl⟩
          rw [hK6v] at gx ⊢
          have c0 := G0 _ HS0.out
          have c4 := G4 _ HS0.out
          go_upto_region 15 with fail
          clear gx hK6v
          go_quiet (fail)
          clear c0 c4
          have HS1 := Lib.hid (SD.out _ HS0.out nq)
          obtain ⟨w5, hw5⟩ : ∃ y, wr.drewN nq = y := ⟨_, rfl⟩
          rw [hw5] at HS1 ⊢
          clear hw5 HS0
          go_upto_region 16 with fail
          go_cut [16] from 81 to 109 (fun s16 wx => s16 = .int .u64 px ∧ Hid (S wx))
          case first =>
            --[c
            refine hd_start S (by kernel_rfl) ?_
            intro w6 hw'
            have hS0 : S w6 := by rw [hw']; exact SD.out _ HS1.out 1
            clear hw' HS1
            refine hd_take (v := ?_) 0 rfl (by kernel_rfl) (fun _ _ d _ _ h => (by cases d <;> exact h)) (by kernel_rfl) hS0 (fun w' hS => ?_) ?_
            rotate_left
            focus (have q0 := G7 w' hS; have q1 := G5 w' hS; have q2 := G6 w' hS; have q3 := GW w' hS; clear hS; go_simp; try rfl; done)
            simp only [List.getElem_toArray, List.getElem_cons_succ, List.getElem_cons_zero, Act.put, List.setIfInBounds_toArray, List.set_cons_zero, List.set_cons_succ]
            refine hd_take (v := ?_) 1 rfl (by kernel_rfl) (fun _ _ d _ _ h => (by cases d <;> exact h)) (by kernel_rfl) hS0 (fun w' hS => ?_) ?_
            rotate_left
            focus (have q0 := G7 w' hS; have q1 := G5 w' hS; have q2 := G6 w' hS; have q3 := GW w' hS; clear hS; go_simp; try rfl; done)
            simp only [List.getElem_toArray, List.getElem_cons_succ, List.getElem_cons_zero, Act.put, List.setIfInBounds_toArray, List.set_cons_zero, List.set_cons_succ]
            refine hd_take (v := ?_) 2 rfl (by kernel_rfl) (fun _ _ d _ _ h => (by cases d <;> exact h)) (by kernel_rfl) hS0 (fun w' hS => ?_) ?_
            rotate_left
            focus (have q0 := G7 w' hS; have q1 := G5 w' hS; have q2 := G6 w' hS; have q3 := GW w' hS; clear hS; go_simp; try rfl; done)
            simp only [List.getElem_toArray, List.getElem_cons_succ, List.getElem_cons_zero, Act.put, List.setIfInBounds_toArray, List.set_cons_zero, List.set_cons_succ]
            refine hd_take (v := ?_) 4 rfl (by kernel_rfl) (fun _ _ d _ _ h => (by cases d <;> exact h)) (by kernel_rfl) hS0 (fun w' hS => ?_) ?_
            rotate_left
            focus (have q0 := G7 w' hS; have q1 := G5 w' hS; have q2 := G6 w' hS; have q3 := GW w' hS; clear hS; go_simp; try rfl; done)
            simp only [List.getElem_toArray, List.getElem_cons_succ, List.getElem_cons_zero, Act.put, List.setIfInBounds_toArray, List.set_cons_zero, List.set_cons_succ]
            refine hd_take (v := ?_) 7 rfl (by kernel_rfl) (fun _ _ d _ _ h => (by cases d <;> exact h)) (by kernel_rfl) hS0 (fun w' hS => ?_) ?_
            rotate_left
            focus (have q0 := G7 w' hS; have q1 := G5 w' hS; have q2 := G6 w' hS; have q3 := GW w' hS; clear hS; go_simp; try rfl; done)
            simp only [List.getElem_toArray, List.getElem_cons_succ, List.getElem_cons_zero, Act.put, List.setIfInBounds_toArray, List.set_cons_zero, List.set_cons_succ]
            refine hd_take (v := ?_) 11 rfl (by kernel_rfl) (fun _ _ d _ _ h => (by cases d <;> exact h)) (by kernel_rfl) hS0 (fun w' hS => ?_) ?_
            rotate_left
            focus (have q0 := G7 w' hS; have q1 := G5 w' hS; have q2 := G6 w' hS; have q3 := GW w' hS; clear hS; go_simp; try rfl; done)
            simp only [List.getElem_toArray, List.getElem_cons_succ, List.getElem_cons_zero, Act.put, List.setIfInBounds_toArray, List.set_cons_zero, List.set_cons_succ]
            refine hd_take (v := ?_) 12 rfl (by kernel_rfl) (fun _ _ d _ _ h => (by cases d <;> exact h)) (by kernel_rfl) hS0 (fun w' hS => ?_) ?_
            rotate_left
            focus (have q0 := G7 w' hS; have q1 := G5 w' hS; have q2 := G6 w' hS; have q3 := GW w' hS; clear hS; go_simp; try rfl; done)
            simp only [List.getElem_toArray, List.getElem_cons_succ, List.getElem_cons_zero, Act.put, List.setIfInBounds_toArray, List.set_cons_zero, List.set_cons_succ]
            refine hd_take (v := ?_) 13 rfl (by kernel_rfl) (fun _ _ d _ _ h => (by cases d <;> exact h)) (by kernel_rfl) hS0 (fun w' hS => ?_) ?_
            rotate_left
            focus (have q0 := G7 w' hS; have q1 := G5 w' hS; have q2 := G6 w' hS; have q3 := GW w' hS; clear hS; go_simp; try rfl; done)
            simp only [List.getElem_toArray, List.getElem_cons_succ, List.getElem_cons_zero, Act.put, List.setIfInBounds_toArray, List.set_cons_zero, List.set_cons_succ]
            refine hd_take (v := ?_) 15 rfl (by kernel_rfl) (fun _ _ d _ _ h => (by cases d <;> exact h)) (by kernel_rfl) hS0 (fun w' hS => ?_) ?_
            rotate_left
            focus (have q0 := G7 w' hS; have q1 := G5 w' hS; have q2 := G6 w' hS; have q3 := GW w' hS; clear hS; go_simp; try rfl; done)
            simp only [List.getElem_toArray, List.getElem_cons_succ, List.getElem_cons_zero, Act.put, List.setIfInBounds_toArray, List.set_cons_zero, List.set_cons_succ]
            refine hd_take (v := ?_) 17 rfl (by kernel_rfl) (fun _ _ d _ _ h => (by cases d <;> exact h)) (by kernel_rfl) hS0 (fun w' hS => ?_) ?_
            rotate_left
            focus (have q0 := G7 w' hS; have q1 := G5 w' hS; have q2 := G6 w' hS; have q3 := GW w' hS; clear hS; go_simp; try rfl; done)
            simp only [List.getElem_toArray, List.getElem_cons_succ, List.getElem_cons_zero, Act.put, List.setIfInBounds_toArray, List.set_cons_zero, List.set_cons_succ]
            refine hd_take (v := ?_) 18 rfl (by kernel_rfl) (fun _ _ d _ _ h => (by cases d <;> exact h)) (by kernel_rfl) hS0 (fun w' hS => ?_) ?_
            rotate_left
            focus (have q0 := G7 w' hS; have q1 := G5 w' hS; have q2 := G6 w' hS; have q3 := GW w' hS; clear hS; go_simp; try rfl; done)
            simp only [List.getElem_toArray, List.getElem_cons_succ, List.getElem_cons_zero, Act.put, List.setIfInBounds_toArray, List.set_cons_zero, List.set_cons_succ]
            refine hd_take (v := ?_) 22 rfl (by kernel_rfl) (fun _ _ d _ _ h => (by cases d <;> exact h)) (by kernel_rfl) hS0 (fun w' hS => ?_) ?_
            rotate_left
            focus (have q0 := G7 w' hS; have q1 := G5 w' hS; have q2 := G6 w' hS; have q3 := GW w' hS; clear hS; go_simp; try rfl; done)
            simp only [List.getElem_toArray, List.getElem_cons_succ, List.getElem_cons_zero, Act.put, List.setIfInBounds_toArray, List.set_cons_zero, List.set_cons_succ]
            refine hd_take (v := ?_) 24 rfl (by kernel_rfl) (fun _ _ d _ _ h => (by cases d <;> exact h)) (by kernel_rfl) hS0 (fun w' hS => ?_) ?_
            rotate_left
            focus (have q0 := G7 w' hS; have q1 := G5 w' hS; have q2 := G6 w' hS; have q3 := GW w' hS; clear hS; go_simp; try rfl; done)
            simp only [List.getElem_toArray, List.getElem_cons_succ, List.getElem_cons_zero, Act.put, List.setIfInBounds_toArray, List.set_cons_zero, List.set_cons_succ]
            refine hd_take (v := ?_) 25 rfl (by kernel_rfl) (fun _ _ d _ _ h => (by cases d <;> exact h)) (by kernel_rfl) hS0 (fun w' hS => ?_) ?_
            rotate_left
            focus (have q0 := G7 w' hS; have q1 := G5 w' hS; have q2 := G6 w' hS; have q3 := GW w' hS; clear hS; go_simp; try rfl; done)
            simp only [List.getElem_toArray, List.getElem_cons_succ, List.getElem_cons_zero, Act.put, List.setIfInBounds_toArray, List.set_cons_zero, List.set_cons_succ]
            refine hd_take (v := ?_) 26 rfl (by kernel_rfl) (fun _ _ d _ _ h => (by cases d <;> exact h)) (by kernel_rfl) hS0 (fun w' hS => ?_) ?_
            rotate_left
            focus (have q0 := G7 w' hS; have q1 := G5 w' hS; have q2 := G6 w' hS; have q3 := GW w' hS; clear hS; go_simp; try rfl; done)
            simp only [List.getElem_toArray, List.getElem_cons_succ, List.getElem_cons_zero, Act.put, List.setIfInBounds_toArray, List.set_cons_zero, List.set_cons_succ]
            refine hd_take (v := ?_) 14 rfl (by kernel_rfl) (fun _ _ d _ _ h => (by cases d <;> exact h)) (by kernel_rfl) hS0 (fun w' hS => ?_) ?_
            rotate_left
            focus (have q0 := G7 w' hS; have q1 := G5 w' hS; have q2 := G6 w' hS; have q3 := GW w' hS; clear hS; go_simp; try rfl; done)
            simp only [List.getElem_toArray, List.getElem_cons_succ, List.getElem_cons_zero, Act.put, List.setIfInBounds_toArray, List.set_cons_zero, List.set_cons_succ]
            refine hd_take (v := ?_) 16 rfl (by kernel_rfl) (fun _ _ d _ _ h => (by cases d <;> exact h)) (by kernel_rfl) hS0 (fun w' hS => ?_) ?_
            rotate_left
            focus (have q0 := G7 w' hS; have q1 := G5 w' hS; have q2 := G6 w' hS; have q3 := GW w' hS; clear hS; go_simp; try rfl; done)
            simp only [List.getElem_toArray, List.getElem_cons_succ, List.getElem_cons_zero, Act.put, List.setIfInBounds_toArray, List.set_cons_zero, List.set_cons_succ]
            refine hd_take (v := ?_) 19 rfl (by kernel_rfl) (fun _ _ d _ _ h => (by cases d <;> exact h)) (by kernel_rfl) hS0 (fun w' hS => ?_) ?_
            rotate_left
            focus (have q0 := G7 w' hS; have q1 := G5 w' hS; have q2 := G6 w' hS; have q3 := GW w' hS; clear hS; go_simp; try rfl; done)
            simp only [List.getElem_toArray, List.getElem_cons_succ, List.getElem_cons_zero, Act.put, List.setIfInBounds_toArray, List.set_cons_zero, List.set_cons_succ]
            refine hd_take (v := ?_) 20 rfl (by kernel_rfl) (fun _ _ d _ _ h => (by cases d <;> exact h)) (by kernel_rfl) hS0 (fun w' hS => ?_) ?_
            rotate_left
            focus (have q0 := G7 w' hS; have q1 := G5 w' hS; have q2 := G6 w' hS; have q3 := GW w' hS; clear hS; go_simp; try rfl; done)
            simp only [List.getElem_toArray, List.getElem_cons_succ, List.getElem_cons_zero, Act.put, List.setIfInBounds_toArray, List.set_cons_zero, List.set_cons_succ]
            refine hd_one 3 (by kernel_rfl) ?_
            refine op_call rfl (by kernel_rfl) (by go_simp; first | exact ⟨rfl, rfl⟩ | rfl) ?_
            refine (right64_any re 14 (by decide) (by decide) _).mono ?_
            rintro e w7 ⟨rfl, m, rfl⟩
            have hS2 := SD.out _ hS0 m
            refine ⟨_, rfl, hS2, ?_⟩
            simp only [List.getElem_toArray, List.getElem_cons_succ, List.getElem_cons_zero, Act.put, List.setIfInBounds_toArray, List.set_cons_zero, List.set_cons_succ]
            have hS6 := hS2
            clear hS2
            refine hd_one 5 (by kernel_rfl) ?_
            refine op_call rfl (by kernel_rfl) (by go_simp; first | exact ⟨rfl, rfl⟩ | rfl) ?_
            refine (right64_any re 18 (by decide) (by decide) _).mono ?_
            rintro e w7 ⟨rfl, m2, rfl⟩
            have hS2 := SD.out _ hS6 m2
            refine ⟨_, rfl, hS2, ?_⟩
            simp only [List.getElem_toArray, List.getElem_cons_succ, List.getElem_cons_zero, Act.put, List.setIfInBounds_toArray, List.set_cons_zero, List.set_cons_succ]
            have hS7 := hS2
            clear hS2 hS6
            refine hd_take (v := ?_) 6 rfl (by kernel_rfl) (fun _ _ d _ _ h => (by cases d <;> exact h)) (by kernel_rfl) hS7 (fun w' hS => ?_) ?_
            rotate_left
            focus (clear hS; go_simp; try rfl; done)
            simp only [List.getElem_toArray, List.getElem_cons_succ, List.getElem_cons_zero, Act.put, List.setIfInBounds_toArray, List.set_cons_zero, List.set_cons_succ]
            refine hd_one 8 (by kernel_rfl) ?_
            refine op_call rfl (by kernel_rfl) (by go_simp; first | exact ⟨rfl, rfl⟩ | rfl) ?_
            refine (right64_any re 41 (by decide) (by decide) _).mono ?_
            rintro e w7 ⟨rfl, m3, rfl⟩
            have hS2 := SD.out _ hS7 m3
            refine ⟨_, rfl, hS2, ?_⟩
            simp only [List.getElem_toArray, List.getElem_cons_succ, List.getElem_cons_zero, Act.put, List.setIfInBounds_toArray, List.set_cons_zero, List.set_cons_succ]
            have hS8 := hS2
            clear hS2 hS7
            refine hd_take (v := ?_) 9 rfl (by kernel_rfl) (fun _ _ d _ _ h => (by cases d <;> exact h)) (by kernel_rfl) hS8 (fun w' hS => ?_) ?_
            rotate_left
            focus (clear hS; go_simp; try rfl; done)
            simp only [List.getElem_toArray, List.getElem_cons_succ, List.getElem_cons_zero, Act.put, List.setIfInBounds_toArray, List.set_cons_zero, List.set_cons_succ]
            refine hd_take (v := ?_) 10 rfl (by kernel_rfl) (fun _ _ d _ _ h => (by cases d <;> exact h)) (by kernel_rfl) hS8 (fun w' hS => ?_) ?_
            rotate_left
            focus (clear hS; go_simp; try rfl; done)
            simp only [List.getElem_toArray, List.getElem_cons_succ, List.getElem_cons_zero, Act.put, List.setIfInBounds_toArray, List.set_cons_zero, List.set_cons_succ]
            refine hd_take (v := ?_) 21 rfl (by kernel_rfl) (fun _ _ d _ _ h => (by cases d <;> exact h)) (by kernel_rfl) hS8 (fun w' hS => ?_) ?_
            rotate_left
            focus (clear hS; go_simp; try rfl; done)
            simp only [List.getElem_toArray, List.getElem_cons_succ, List.getElem_cons_zero, Act.put, List.setIfInBounds_toArray, List.set_cons_zero, List.set_cons_succ]
            refine hd_take (v := ?_) 23 rfl (by kernel_rfl) (fun _ _ d _ _ h => (by cases d <;> exact h)) (by kernel_rfl) hS8 (fun w' hS => ?_) ?_
            rotate_left
            focus (clear hS; go_simp; try rfl; done)
            simp only [List.getElem_toArray, List.getElem_cons_succ, List.getElem_cons_zero, Act.put, List.setIfInBounds_toArray, List.set_cons_zero, List.set_cons_succ]
            refine hd_take (v := ?_) 27 rfl (by kernel_rfl) (fun _ _ d _ _ h => (by cases d <;> exact h)) (by kernel_rfl) hS8 (fun w' hS => ?_) ?_
            rotate_left
            focus (clear hS; go_simp; try rfl; done)
            simp only [List.getElem_toArray, List.getElem_cons_succ, List.getElem_cons_zero, Act.put, List.setIfInBounds_toArray, List.set_cons_zero, List.set_cons_succ]
            refine hd_take (v := ?_) 28 rfl (by kernel_rfl) (fun _ _ d _ _ h => (by cases d <;> exact h)) (by kernel_rfl) hS8 (fun w' hS => ?_) ?_
            rotate_left
            focus (clear hS; go_simp; try rfl; done)
            simp only [List.getElem_toArray, List.getElem_cons_succ, List.getElem_cons_zero, Act.put, List.setIfInBounds_toArray, List.set_cons_zero, List.set_cons_succ]
            refine hd_done (by kernel_rfl) ?_
            clear hS0 G0 G1 G2 G3 G4 G5 G6 G7 GW
            have HS8 := Lib.hid hS8
            clear hS8
            rename_i J K' hJ hK
            refine wpList_nil ?_
            refine hK _ _ (Met.intro (hJ _ _ ?_))
            clear hJ hK
            repeat apply Exists.intro
            refine ⟨⟨congrArg (Value.int .u64) ?_, HS8⟩, rfl⟩
            rw [← HPX.out, nots6]
            simp only [wrapU64]
            unfold p6 add6 SG16 ch6 not6
            rfl
            --]c
          case rest =>
            clear HS1
            obtain ⟨rfl, HS2⟩ := hcut
            go_upto_region 17 with fail
            go_cut [17] from 109 to 133 (fun s17 wx => s17 = .int .u64 qx ∧ Hid (S wx))
            case first =>
              --[d
              refine hd_start S (by kernel_rfl) ?_
              intro w6 hw'
              have hS0 : S w6 := by rw [hw']; exact SD.out _ HS2.out 1
              clear hw' HS2
              refine hd_take (v := ?_) 0 rfl (by kernel_rfl) (fun _ _ d _ _ h => (by cases d <;> exact h)) (by kernel_rfl) hS0 (fun w' hS => ?_) ?_
              rotate_left
              focus (have q0 := G1 w' hS; have q1 := G2 w' hS; clear hS; go_simp; try rfl; done)
              simp only [List.getElem_toArray, List.getElem_cons_succ, List.getElem_cons_zero, Act.put, List.setIfInBounds_toArray, List.set_cons_zero, List.set_cons_succ]
              refine hd_take (v := ?_) 2 rfl (by kernel_rfl) (fun _ _ d _ _ h => (by cases d <;> exact h)) (by kernel_rfl) hS0 (fun w' hS => ?_) ?_
              rotate_left
              focus (have q0 := G1 w' hS; have q1 := G2 w' hS; clear hS; go_simp; try rfl; done)
              simp only [List.getElem_toArray, List.getElem_cons_succ, List.getElem_cons_zero, Act.put, List.setIfInBounds_toArray, List.set_cons_zero, List.set_cons_succ]
              refine hd_take (v := ?_) 5 rfl (by kernel_rfl) (fun _ _ d _ _ h => (by cases d <;> exact h)) (by kernel_rfl) hS0 (fun w' hS => ?_) ?_
              rotate_left
              focus (have q0 := G1 w' hS; have q1 := G2 w' hS; clear hS; go_simp; try rfl; done)
              simp only [List.getElem_toArray, List.getElem_cons_succ, List.getElem_cons_zero, Act.put, List.setIfInBounds_toArray, List.set_cons_zero, List.set_cons_succ]
              refine hd_take (v := ?_) 8 rfl (by kernel_rfl) (fun _ _ d _ _ h => (by cases d <;> exact h)) (by kernel_rfl) hS0 (fun w' hS => ?_) ?_
              rotate_left
              focus (have q0 := G1 w' hS; have q1 := G2 w' hS; clear hS; go_simp; try rfl; done)
              simp only [List.getElem_toArray, List.getElem_cons_succ, List.getElem_cons_zero, Act.put, List.setIfInBounds_toArray, List.set_cons_zero, List.set_cons_succ]
              refine hd_take (v := ?_) 9 rfl (by kernel_rfl) (fun _ _ d _ _ h => (by cases d <;> exact h)) (by kernel_rfl) hS0 (fun w' hS => ?_) ?_
              rotate_left
              focus (have q0 := G1 w' hS; have q1 := G2 w' hS; clear hS; go_simp; try rfl; done)
              simp only [List.getElem_toArray, List.getElem_cons_succ, List.getElem_cons_zero, Act.put, List.setIfInBounds_toArray, List.set_cons_zero, List.set_cons_succ]
              refine hd_take (v := ?_) 10 rfl (by kernel_rfl) (fun _ _ d _ _ h => (by cases d <;> exact h)) (by kernel_rfl) hS0 (fun w' hS => ?_) ?_
              rotate_left
              focus (have q0 := G1 w' hS; have q1 := G2 w' hS; clear hS; go_simp; try rfl; done)
              simp only [List.getElem_toArray, List.getElem_cons_succ, List.getElem_cons_zero, Act.put, List.setIfInBounds_toArray, List.set_cons_zero, List.set_cons_succ]
              refine hd_take (v := ?_) 11 rfl (by kernel_rfl) (fun _ _ d _ _ h => (by cases d <;> exact h)) (by kernel_rfl) hS0 (fun w' hS => ?_) ?_
              rotate_left
              focus (have q0 := G1 w' hS; have q1 := G2 w' hS; clear hS; go_simp; try rfl; done)
              simp only [List.getElem_toArray, List.getElem_cons_succ, List.getElem_cons_zero, Act.put, List.setIfInBounds_toArray, List.set_cons_zero, List.set_cons_succ]
              refine hd_take (v := ?_) 12 rfl (by kernel_rfl) (fun _ _ d _ _ h => (by cases d <;> exact h)) (by kernel_rfl) hS0 (fun w' hS => ?_) ?_
              rotate_left
              focus (have q0 := G1 w' hS; have q1 := G2 w' hS; clear hS; go_simp; try rfl; done)
              simp only [List.getElem_toArray, List.getElem_cons_succ, List.getElem_cons_zero, Act.put, List.setIfInBounds_toArray, List.set_cons_zero, List.set_cons_succ]
              refine hd_take (v := ?_) 13 rfl (by kernel_rfl) (fun _ _ d _ _ h => (by cases d <;> exact h)) (by kernel_rfl) hS0 (fun w' hS => ?_) ?_
              rotate_left
              focus (have q0 := G1 w' hS; have q1 := G2 w' hS; clear hS; go_simp; try rfl; done)
              simp only [List.getElem_toArray, List.getElem_cons_succ, List.getElem_cons_zero, Act.put, List.setIfInBounds_toArray, List.set_cons_zero, List.set_cons_succ]
              refine hd_take (v := ?_) 14 rfl (by kernel_rfl) (fun _ _ d _ _ h => (by cases d <;> exact h)) (by kernel_rfl) hS0 (fun w' hS => ?_) ?_
              rotate_left
              focus (have q0 := G1 w' hS; have q1 := G2 w' hS; clear hS; go_simp; try rfl; done)
              simp only [List.getElem_toArray, List.getElem_cons_succ, List.getElem_cons_zero, Act.put, List.setIfInBounds_toArray, List.set_cons_zero, List.set_cons_succ]
              refine hd_take (v := ?_) 15 rfl (by kernel_rfl) (fun _ _ d _ _ h => (by cases d <;> exact h)) (by kernel_rfl) hS0 (fun w' hS => ?_) ?_
              rotate_left
              focus (have q0 := G1 w' hS; have q1 := G2 w' hS; clear hS; go_simp; try rfl; done)
              simp only [List.getElem_toArray, List.getElem_cons_succ, List.getElem_cons_zero, Act.put, List.setIfInBounds_toArray, List.set_cons_zero, List.set_cons_succ]
              refine hd_take (v := ?_) 16 rfl (by kernel_rfl) (fun _ _ d _ _ h => (by cases d <;> exact h)) (by kernel_rfl) hS0 (fun w' hS => ?_) ?_
              rotate_left
              focus (have q0 := G1 w' hS; have q1 := G2 w' hS; clear hS; go_simp; try rfl; done)
              simp only [List.getElem_toArray, List.getElem_cons_succ, List.getElem_cons_zero, Act.put, List.setIfInBounds_toArray, List.set_cons_zero, List.set_cons_succ]
              refine hd_take (v := ?_) 17 rfl (by kernel_rfl) (fun _ _ d _ _ h => (by cases d <;> exact h)) (by kernel_rfl) hS0 (fun w' hS => ?_) ?_
              rotate_left
              focus (have q0 := G1 w' hS; have q1 := G2 w' hS; clear hS; go_simp; try rfl; done)
              simp only [List.getElem_toArray, List.getElem_cons_succ, List.getElem_cons_zero, Act.put, List.setIfInBounds_toArray, List.set_cons_zero, List.set_cons_succ]
              refine hd_take (v := ?_) 18 rfl (by kernel_rfl) (fun _ _ d _ _ h => (by cases d <;> exact h)) (by kernel_rfl) hS0 (fun w' hS => ?_) ?_
              rotate_left
              focus (have q0 := G1 w' hS; have q1 := G2 w' hS; clear hS; go_simp; try rfl; done)
              simp only [List.getElem_toArray, List.getElem_cons_succ, List.getElem_cons_zero, Act.put, List.setIfInBounds_toArray, List.set_cons_zero, List.set_cons_succ]
              refine hd_take (v := ?_) 19 rfl (by kernel_rfl) (fun _ _ d _ _ h => (by cases d <;> exact h)) (by kernel_rfl) hS0 (fun w' hS => ?_) ?_
              rotate_left
              focus (have q0 := G1 w' hS; have q1 := G2 w' hS; clear hS; go_simp; try rfl; done)
              simp only [List.getElem_toArray, List.getElem_cons_succ, List.getElem_cons_zero, Act.put, List.setIfInBounds_toArray, List.set_cons_zero, List.set_cons_succ]
              refine hd_take (v := ?_) 20 rfl (by kernel_rfl) (fun _ _ d _ _ h => (by cases d <;> exact h)) (by kernel_rfl) hS0 (fun w' hS => ?_) ?_
              rotate_left
              focus (have q0 := G1 w' hS; have q1 := G2 w' hS; clear hS; go_simp; try rfl; done)
              simp only [List.getElem_toArray, List.getElem_cons_succ, List.getElem_cons_zero, Act.put, List.setIfInBounds_toArray, List.set_cons_zero, List.set_cons_succ]
              refine hd_take (v := ?_) 21 rfl (by kernel_rfl) (fun _ _ d _ _ h => (by cases d <;> exact h)) (by kernel_rfl) hS0 (fun w' hS => ?_) ?_
              rotate_left
              focus (have q0 := G1 w' hS; have q1 := G2 w' hS; clear hS; go_simp; try rfl; done)
              simp only [List.getElem_toArray, List.getElem_cons_succ, List.getElem_cons_zero, Act.put, List.setIfInBounds_toArray, List.set_cons_zero, List.set_cons_succ]
              refine hd_take (v := ?_) 22 rfl (by kernel_rfl) (fun _ _ d _ _ h => (by cases d <;> exact h)) (by kernel_rfl) hS0 (fun w' hS => ?_) ?_
              rotate_left
              focus (have q0 := G1 w' hS; have q1 := G2 w' hS; clear hS; go_simp; try rfl; done)
              simp only [List.getElem_toArray, List.getElem_cons_succ, List.getElem_cons_zero, Act.put, List.setIfInBounds_toArray, List.set_cons_zero, List.set_cons_succ]
              refine hd_one 1 (by kernel_rfl) ?_
              refine op_call rfl (by kernel_rfl) (by go_simp; first | exact ⟨rfl, rfl⟩ | rfl) ?_
              refine (right64_any ra 28 (by decide) (by decide) _).mono ?_
              rintro e w7 ⟨rfl, m, rfl⟩
              have hS2 := SD.out _ hS0 m
              refine ⟨_, rfl, hS2, ?_⟩
              simp only [List.getElem_toArray, List.getElem_cons_succ, List.getElem_cons_zero, Act.put, List.setIfInBounds_toArray, List.set_cons_zero, List.set_cons_succ]
              have hS6 := hS2
              clear hS2
              refine hd_one 3 (by kernel_rfl) ?_
              refine op_call rfl (by kernel_rfl) (by go_simp; first | exact ⟨rfl, rfl⟩ | rfl) ?_
              refine (right64_any ra 34 (by decide) (by decide) _).mono ?_
              rintro e w7 ⟨rfl, m2, rfl⟩
              have hS2 := SD.out _ hS6 m2
              refine ⟨_, rfl, hS2, ?_⟩
              simp only [List.getElem_toArray, List.getElem_cons_succ, List.getElem_cons_zero, Act.put, List.setIfInBounds_toArray, List.set_cons_zero, List.set_cons_succ]
              have hS7 := hS2
              clear hS2 hS6
              refine hd_take (v := ?_) 4 rfl (by kernel_rfl) (fun _ _ d _ _ h => (by cases d <;> exact h)) (by kernel_rfl) hS7 (fun w' hS => ?_) ?_
              rotate_left
              focus (clear hS; go_simp; try rfl; done)
              simp only [List.getElem_toArray, List.getElem_cons_succ, List.getElem_cons_zero, Act.put, List.setIfInBounds_toArray, List.set_cons_zero, List.set_cons_succ]
              refine hd_one 6 (by kernel_rfl) ?_
              refine op_call rfl (by kernel_rfl) (by go_simp; first | exact ⟨rfl, rfl⟩ | rfl) ?_
              refine (right64_any ra 39 (by decide) (by decide) _).mono ?_
              rintro e w7 ⟨rfl, m3, rfl⟩
              have hS2 := SD.out _ hS7 m3
              refine ⟨_, rfl, hS2, ?_⟩
              simp only [List.getElem_toArray, List.getElem_cons_succ, List.getElem_cons_zero, Act.put, List.setIfInBounds_toArray, List.set_cons_zero, List.set_cons_succ]
              have hS8 := hS2
              clear hS2 hS7
              refine hd_take (v := ?_) 7 rfl (by kernel_rfl) (fun _ _ d _ _ h => (by cases d <;> exact h)) (by kernel_rfl) hS8 (fun w' hS => ?_) ?_
              rotate_left
              focus (clear hS; go_simp; try rfl; done)
              simp only [List.getElem_toArray, List.getElem_cons_succ, List.getElem_cons_zero, Act.put, List.setIfInBounds_toArray, List.set_cons_zero, List.set_cons_succ]
              refine hd_take (v := ?_) 23 rfl (by kernel_rfl) (fun _ _ d _ _ h => (by cases d <;> exact h)) (by kernel_rfl) hS8 (fun w' hS => ?_) ?_
              rotate_left
              focus (clear hS; go_simp; try rfl; done)
              simp only [List.getElem_toArray, List.getElem_cons_succ, List.getElem_cons_zero, Act.put, List.setIfInBounds_toArray, List.set_cons_zero, List.set_cons_succ]
              refine hd_take (v := ?_) 24 rfl (by kernel_rfl) (fun _ _ d _ _ h => (by cases d <;> exact h)) (by kernel_rfl) hS8 (fun w' hS => ?_) ?_
              rotate_left
              focus (clear hS; go_simp; try rfl; done)
              simp only [List.getElem_toArray, List.getElem_cons_succ, List.getElem_cons_zero, Act.put, List.setIfInBounds_toArray, List.set_cons_zero, List.set_cons_succ]
              refine hd_done (by kernel_rfl) ?_
              clear hS0 G0 G1 G2 G3 G4 G5 G6 G7 GW
              have HS8 := Lib.hid hS8
              clear hS8
              rename_i J K' hJ hK
              refine wpList_nil ?_
              refine hK _ _ (Met.intro (hJ _ _ ?_))
              clear hJ hK
              repeat apply Exists.intro
              refine ⟨⟨congrArg (Value.int .u64) ?_, HS8⟩, rfl⟩
              rw [← HQX.out]
              simp only [wrapU64]
              unfold q6 add6 SG06 maj6
              rfl
              --]d
            case rest =>
              clear HS2
              obtain ⟨rfl, HS3⟩ := hcut
              have c0 := G0 _ HS3.out
              have c1 := G1 _ HS3.out
              have c2 := G2 _ HS3.out
              have c3 := G3 _ HS3.out
              have c4 := G4 _ HS3.out
              have c5 := G5 _ HS3.out
              have c6 := G6 _ HS3.out
              have c7 := G7 _ HS3.out
              have f5 := (SO.out _ HS3.out).vv.unfrozen
              have HD9 : Hid (∀ x y, DW6 w n0 b5 b6 h l W [y, ra, rb, rc, x, re, rf, rg] ((((((((wc.setCell ⟨b6, 7, none⟩ (.int .u64 rg)).setCell ⟨b6, 6, none⟩ (.int .u64 rf)).setCell ⟨b6, 5, none⟩ (.int .u64 re)).setCell ⟨b6, 4, none⟩ (.int .u64 x)).setCell ⟨b6, 3, none⟩ (.int .u64 rc)).setCell ⟨b6, 2, none⟩ (.int .u64 rb)).setCell ⟨b6, 1, none⟩ (.int .u64 ra)).setCell ⟨b6, 0, none⟩ (.int .u64 y))) :=
                Lib.hid (fun x y => (((((((((SO.out _ HS3.out).set 7 rg).set 6 rf).set 5 re).set 4 x).set 3 rc).set 2 rb).set 1 ra).set 0 y))
              clear G0 G1 G2 G3 G4 G5 G6 G7 GW HS3
              go_wp2
              refine ⟨⟨t + 1, by have := HLT.out; omega, by go_num, ?_⟩, by simp [intOf]; have := HLT.out; omega⟩
              rw [HST.out]
              simp only [wrapU64]
              exact Lib.hid (HD9.out _ _)
        · obtain rfl : t = 80 := by omega
          clear hlt4 ht
          obtain ⟨L, hL⟩ : ∃ L, (rTo6 h W 80).list = L := ⟨_, rfl⟩
          have hll : L.length = 8 := by rw [← hL]; rfl
          rw [hL] at HD
          have HL2 := Lib.hid hL
          have HLL := Lib.hid hll
          have HF : Hid (DW6 w n0 b5 b6 (hTo6 h L 0) l W L wr) := HD
          clear HD hL hll
          --[e
          go_wp2_with fail
          go_loopw [161] (fun vi wr => ∃ i : Nat, i ≤ 8 ∧ vi = .int .i64 (i : Int) ∧ Hid (DW6 w n0 b5 b6 (hTo6 h L i) l W L wr)) (fun vi _ => 8 - (intOf vi).toNat)
          case atStart => exact ⟨0, by omega, rfl, HF⟩
          case round =>
            clear HF
            obtain ⟨i, hi, rfl, HF⟩ := hrel
            have hhl : (hTo6 h L i).length = 8 := (hTo6_len h L i).trans HH.out
            by_cases hlt5 : i < 8
            · have hlI : (i : Int) < 8 := by omega
              have F1 : ∀ w', w' = wr.drewN 1 → w'.cell? ⟨n0, i, none⟩ = some (.int .u64 ((hTo6 h L i).getD i 0)) := by
                rintro w' rfl
                exact (HF.out.draw 1).c.hb.cellAt i (wc64_get _ i (by omega))
              have F2 : ∀ w', w' = wr.drewN 1 → w'.cell? ⟨b6, i, none⟩ = some (.int .u64 (L.getD i 0)) := by
                rintro w' rfl
                exact (HF.out.draw 1).vv.cellAt i (wc64_get _ i (by rw [HLL.out]; omega))
              have he : hTo6 h L (i + 1) = (hTo6 h L i).set i (add6 ((hTo6 h L i).getD i 0) (L.getD i 0)) := rfl
              obtain ⟨gv, hgv⟩ : ∃ x, (hTo6 h L i).getD i 0 = x := ⟨_, rfl⟩
              obtain ⟨xv, hxv⟩ : ∃ x, L.getD i 0 = x := ⟨_, rfl⟩
              rw [hgv] at F1 he
              rw [hxv] at F2 he
              have HE := Lib.hid he
              have HLT := Lib.hid hlt5
              have e4 : decide ((i : Int) < 8) = true := by rw [decide_eq_true_eq]; exact hlI
              have c5 : (wr.drewN 1).cell? ⟨n0, i, none⟩ = some (.int .u64 gv) := F1 _ rfl
              have f5 := (HF.out.draw 1).c.hb.unfrozen i
              have HF2 := Lib.hid (fun x => (HF.out.draw 1).seth i x)
              clear he hgv hxv hlt5 HF
              go_upto_region 23 with fail
              refine wp_region_tame (fun w' => w' = wr.drewN 1) 0 8 (by kernel_rfl) (by kernel_rfl) (fun _ _ d _ _ h => (by cases d <;> exact h)) rfl (by decide) ?_
              simp only [List.take_succ_cons, List.take_zero, List.drop_succ_cons, List.drop_zero]
              refine wpPre_nil ?_
              refine wpTame_run (v := ?_) (by decide) rfl (fun w' hS => ?_) ?_
              rotate_left
              focus (have q0 := F1 w' hS; have q1 := F2 w' hS; clear hS; go_simp; try rfl; done)
              simp only [Act.put, List.setIfInBounds_toArray, List.set_cons_zero, List.set_cons_succ]
              refine wpTame_run (v := ?_) (by decide) rfl (fun w' hS => ?_) ?_
              rotate_left
              focus (have q0 := F1 w' hS; have q1 := F2 w' hS; clear hS; go_simp; try rfl; done)
              simp only [Act.put, List.setIfInBounds_toArray, List.set_cons_zero, List.set_cons_succ]
              refine wpTame_run (v := ?_) (by decide) rfl (fun w' hS => ?_) ?_
              rotate_left
              focus (have q0 := F1 w' hS; have q1 := F2 w' hS; clear hS; go_simp; try rfl; done)
              simp only [Act.put, List.setIfInBounds_toArray, List.set_cons_zero, List.set_cons_succ]
              refine wpTame_run (v := ?_) (by decide) rfl (fun w' hS => ?_) ?_
              rotate_left
              focus (have q0 := F1 w' hS; have q1 := F2 w' hS; clear hS; go_simp; try rfl; done)
              simp only [Act.put, List.setIfInBounds_toArray, List.set_cons_zero, List.set_cons_succ]
              refine wpTame_run (v := ?_) (by decide) rfl (fun w' hS => ?_) ?_
              rotate_left
              focus (have q0 := F1 w' hS; have q1 := F2 w' hS; clear hS; go_simp; try rfl; done)
              simp only [Act.put, List.setIfInBounds_toArray, List.set_cons_zero, List.set_cons_succ]
              refine wpTame_run (v := ?_) (by decide) rfl (fun w' hS => ?_) ?_
              rotate_left
              focus (have q0 := F1 w' hS; have q1 := F2 w' hS; clear hS; go_simp; try rfl; done)
              simp only [Act.put, List.setIfInBounds_toArray, List.set_cons_zero, List.set_cons_succ]
              refine wpTame_run (v := ?_) (by decide) rfl (fun w' hS => ?_) ?_
              rotate_left
              focus (have q0 := F1 w' hS; have q1 := F2 w' hS; clear hS; go_simp; try rfl; done)
              simp only [Act.put, List.setIfInBounds_toArray, List.set_cons_zero, List.set_cons_succ]
              refine wpTame_run (v := ?_) (by decide) rfl (fun w' hS => ?_) ?_
              rotate_left
              focus (have q0 := F1 w' hS; have q1 := F2 w' hS; clear hS; go_simp; try rfl; done)
              simp only [Act.put, List.setIfInBounds_toArray, List.set_cons_zero, List.set_cons_succ]
              refine wpTame_nil ?_
              intro w6 hw'
              rw [← hw'] at c5 f5 HF2
              clear hw' F1 F2
              go_wp2
              go_roundw
              case rel =>
                refine ⟨i + 1, by have := HLT.out; omega, by go_num, ?_⟩
                rw [HE.out]
                exact Lib.hid (HF2.out _)
              case measure => simp [intOf]; have := HLT.out; omega
            · obtain rfl : i = 8 := by omega
              have e4 : decide (((8 : Nat) : Int) < 8) = false := by decide
              have HCE : Hid (C6 h l = hTo6 h L 8) := Lib.hid (by unfold C6; rw [HW.out, HL2.out])
              have hsz : (wc64 (hTo6 h L 8)).size = 8 := by rw [wc64_size, hhl]
              have hb0 := HF.out.c.hb
              have hb2 := HF.out.c.rb
              go_wp2_with (first
                | (with_reducible change wpList _ _ _ (Oper.mk _ (Op.load 83 _) _ _ _ _ :: _) _ _; refine wpList_load_blk n0 rfl HF.out.c.hb Try.underlying83 rfl size8w hsz ?_)
                | (with_reducible change wpList _ _ _ (Oper.mk _ (Op.store 83 _ _) _ _ _ _ :: _) _ _; refine wpList_store_blk (n0 + 2) (wc64 (hTo6 h L 8)) rfl rfl HF.out.c.rb size8w hsz rfl (wc64_one _) ?_))
              refine bodyPost_ret (results_cell_blk Try.results46 _ _ (n0 + 2) rfl (Blk.row HF.out.c.rb _) Try.underlying83 rfl size8w hsz) rfl ?_
              exact ⟨by rw [HCE.out], below_row HF.out.c.below (by have := HF.out.c.n; omega) _⟩
          --]e
end Go.Proofs.Ytideobdggdmeiaa
