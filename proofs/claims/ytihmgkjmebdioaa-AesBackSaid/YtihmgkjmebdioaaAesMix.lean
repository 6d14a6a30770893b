/- The contracts of package aes: mixed, boxed. Conditions: a block has sixteen bytes, a row four. -/
import Derived.Test.YtihmgkjmebdioaaRows
import Derived.Test.YtihmgkjmebdioaaAes
import Derived.Test.YtihmgkjmebdioaaCtLaws
namespace Go.Proofs.Ytihmgkjmebdioaa
open Go.RowKit
set_option maxRecDepth 100000
set_option linter.unusedVariables false
set_option linter.unusedSimpArgs false

def dotP (m b : List UInt8) (i : Nat) : Nat → UInt8
  | 0 => 0
  | r + 1 => dotP m b i r ^^^ gmU (m.getD ((r + 4 - i % 4) % 4) 0) (b.getD (i - i % 4 + r) 0)
theorem dotP_mix (m b : List UInt8) (i : Nat) : dotP m b i 4 = mixAt m b i := rfl
theorem mixT_len0 (m b : List UInt8) (k : Nat) : (mixT 16 (mixAt m b) (fun _ => 0) k).length = 16 := mixT_len _ _ _ _
theorem set_getD (l : List UInt8) (k : Nat) (x : UInt8) (h : k < l.length) : (l.set k x).getD k 0 = x := by
  rw [List.getD_eq_getElem?_getD, List.getElem?_set_self h]
  rfl
set_option maxHeartbeats 2000000 in
theorem mixed_any (l m : List UInt8) (w : World) (hl : l.length = 16) (hm : m.length = 4) :
    Calls Try.prog 36 #[.agg (barr l), .agg (barr m)] w fun e w' => e = .returned (.agg (barr (mixB m l))) ∧ Below w.heap.size w w' := by
  have HL := Lib.hid hl
  have HM := Lib.hid hm
  clear hl hm
  go_enter Try.func36, Try.ntmps36
  go_wp2_with fail
  go_loopw [9] (fun i w1 => ∃ k : Nat, k ≤ 16 ∧ i = .int .i64 (k : Int) ∧ Blk w1 w.heap.size 31 (barr l) ∧ Blk w1 (w.heap.size + 1) 79 (barr m) ∧ Blk w1 (w.heap.size + 1 + 1) 31 (barr (List.replicate 16 0)) ∧ Blk w1 (w.heap.size + 1 + 1 + 1) 31 (barr (mixT 16 (mixAt m l) (fun _ => 0) k)) ∧ Below w.heap.size w w1) (fun i _ => 16 - (intOf i).toNat)
  case atStart =>
    refine ⟨0, by omega, rfl, ?_, ?_, ?_, ?_, ?_⟩
    · exact (((Blk.at rfl rfl).alloc _).alloc _).alloc _
    · exact ((Blk.at (by simp) rfl).alloc _).alloc _
    · exact (Blk.at (by simp) rfl).alloc _
    · rw [mixT_zero, tab_zero]
      exact Blk.at (by simp) rfl
    · exact ((((Below.refl _ _).alloc (Nat.le_refl _) _).alloc (by simp) _).alloc (by simp; omega) _).alloc (by simp; omega) _
  case round =>
    obtain ⟨k, hk, rfl, g0, g1, g2, g3, hbl⟩ := hrel
    by_cases hlt : k < 16
    · have G0 := Lib.hid g0
      have G1 := Lib.hid g1
      have G2 := Lib.hid g2
      have G3 := Lib.hid g3
      have HB := Lib.hid hbl
      clear g0 g1 g2 g3 hbl
      obtain ⟨j, hj⟩ : ∃ j, k % 4 = j := ⟨_, rfl⟩
      obtain ⟨c, hc⟩ : ∃ c, k - j = c := ⟨_, rfl⟩
      have hjI : (k : Int) % 4 = (j : Int) := by omega
      have hcI : (k : Int) - (j : Int) = (c : Int) := by omega
      have hj4 : j < 4 := by omega
      have hck : c + 4 ≤ 16 := by omega
      have HJ := Lib.hid hj
      have HCC := Lib.hid hc
      clear hj hc
      go_wp2_with fail
      go_loopw [16] (fun i w1 => ∃ r : Nat, r ≤ 4 ∧ i = .int .i64 (r : Int) ∧ Blk w1 w.heap.size 31 (barr l) ∧ Blk w1 (w.heap.size + 1) 79 (barr m) ∧ Blk w1 (w.heap.size + 1 + 1) 31 (barr (List.replicate 16 0)) ∧ Blk w1 (w.heap.size + 1 + 1 + 1) 31 (barr ((mixT 16 (mixAt m l) (fun _ => 0) k).set k (dotP m l k r))) ∧ Below w.heap.size w w1) (fun i _ => 4 - (intOf i).toNat)
      case atStart =>
        refine ⟨0, by omega, rfl, G0.out, G1.out, G2.out, ?_, HB.out⟩
        have h := G3.out
        have e : (mixT 16 (mixAt m l) (fun _ => 0) k).set k (dotP m l k 0) = mixT 16 (mixAt m l) (fun _ => 0) k := by
          refine set_same _ _ _ ?_
          unfold mixT tab
          rw [List.getElem?_map, List.getElem?_range hlt, Option.map_some, if_neg (by omega)]
          rfl
        rw [e]
        exact h
      case round =>
        obtain ⟨r, hr, rfl, h0, h1, h2, h3, hb2⟩ := hrel
        by_cases hrt : r < 4
        · obtain ⟨d, hd⟩ : ∃ d, r + 4 - j = d := ⟨_, rfl⟩
          have hdI : (r : Int) - (j : Int) + 4 = (d : Int) := by omega
          have hd7 : d < 8 := by omega
          have HD := Lib.hid hd
          obtain ⟨q, hq⟩ : ∃ q, d % 4 = q := ⟨_, rfl⟩
          have hqI : (d : Int) % 4 = (q : Int) := by omega
          have hq4 : q < 4 := by omega
          have HQ := Lib.hid hq
          obtain ⟨s, hs⟩ : ∃ s, c + r = s := ⟨_, rfl⟩
          have hsI : (c : Int) + (r : Int) = (s : Int) := by omega
          have hs16 : s < 16 := by omega
          have HS := Lib.hid hs
          have hT1 : (k : Int).tmod 4 = (j : Int) := by rw [Int.tmod_eq_emod_of_nonneg (by omega)]; exact hjI
          have hT2 : (d : Int).tmod 4 = (q : Int) := by rw [Int.tmod_eq_emod_of_nonneg (by omega)]; exact hqI
          have hq4I : (q : Int) < 4 := by omega
          have hs16I : (s : Int) < 16 := by omega
          have hk16I : (k : Int) < 16 := by omega
          have hW1 : IntKind.i64.wrap ((r : Int) - (j : Int)) = (r : Int) - (j : Int) := IntWalk.i64_in _ (by omega)
          have hW2 : IntKind.i64.wrap (d : Int) = (d : Int) := IntWalk.i64_in _ (by omega)
          have hW3 : IntKind.i64.wrap (s : Int) = (s : Int) := IntWalk.i64_in _ (by omega)
          have c0 := h0.cellAt s (barr_getD l s (by rw [HL.out]; exact hs16))
          have c1 := h1.cellAt q (barr_getD m q (by rw [HM.out]; exact hq4))
          have c3 := h3.cellAt k (barr_getD _ k (by rw [List.length_set, mixT_len]; exact hlt))
          rw [set_getD _ _ _ (by rw [mixT_len]; exact hlt)] at c3
          have f3 := h3.unfrozen k
          have b0 := h0.lt
          have b1 := h1.lt
          have b3 := h3.lt
          have K0 := Lib.hid h0
          have K1 := Lib.hid h1
          have K2 := Lib.hid h2
          have K3 := Lib.hid h3
          have KB := Lib.hid hb2
          generalize hx : l.getD s 0 = x at c0
          generalize hy : m.getD q 0 = y at c1
          generalize hz : dotP m l k r = z at c3
          have HX := Lib.hid hx
          have HY := Lib.hid hy
          have HZ := Lib.hid hz
          clear hx hy hz h0 h1 h2 h3 hb2 hd hq hs
          go_wp2_with fail
          refine wp_region_tame (fun w' => w' = wr.drewN 1) 0 19 (by kernel_rfl) (by kernel_rfl) (fun _ _ d _ _ h => (by cases d <;> exact h)) rfl (by decide) ?_
          simp only [List.take_succ_cons, List.take_zero, List.drop_succ_cons, List.drop_zero]
          refine wpPre_nil ?_
          refine wpTame_run (v := ?_) (by decide) rfl (fun w' hS => ?_) ?_
          rotate_left
          focus (subst hS; go_simp; try rfl; done)
          simp only [Act.put, List.setIfInBounds_toArray, List.set_cons_zero, List.set_cons_succ]
          refine wpTame_run (v := ?_) (by decide) rfl (fun w' hS => ?_) ?_
          rotate_left
          focus (subst hS; go_simp; try rfl; done)
          simp only [Act.put, List.setIfInBounds_toArray, List.set_cons_zero, List.set_cons_succ]
          refine wpTame_run (v := ?_) (by decide) rfl (fun w' hS => ?_) ?_
          rotate_left
          focus (subst hS; go_simp; try rfl; done)
          simp only [Act.put, List.setIfInBounds_toArray, List.set_cons_zero, List.set_cons_succ]
          refine wpTame_run (v := ?_) (by decide) rfl (fun w' hS => ?_) ?_
          rotate_left
          focus (subst hS; go_simp; try rfl; done)
          simp only [Act.put, List.setIfInBounds_toArray, List.set_cons_zero, List.set_cons_succ]
          refine wpTame_run (v := ?_) (by decide) rfl (fun w' hS => ?_) ?_
          rotate_left
          focus (subst hS; go_simp; try rfl; done)
          simp only [Act.put, List.setIfInBounds_toArray, List.set_cons_zero, List.set_cons_succ]
          refine wpTame_run (v := ?_) (by decide) rfl (fun w' hS => ?_) ?_
          rotate_left
          focus (subst hS; go_simp; try rfl; done)
          simp only [Act.put, List.setIfInBounds_toArray, List.set_cons_zero, List.set_cons_succ]
          refine wpTame_run (v := ?_) (by decide) rfl (fun w' hS => ?_) ?_
          rotate_left
          focus (subst hS; go_simp; try rfl; done)
          simp only [Act.put, List.setIfInBounds_toArray, List.set_cons_zero, List.set_cons_succ]
          refine wpTame_run (v := ?_) (by decide) rfl (fun w' hS => ?_) ?_
          rotate_left
          focus (subst hS; go_simp; try rfl; done)
          simp only [Act.put, List.setIfInBounds_toArray, List.set_cons_zero, List.set_cons_succ]
          refine wpTame_run (v := ?_) (by decide) rfl (fun w' hS => ?_) ?_
          rotate_left
          focus (subst hS; go_simp; try rfl; done)
          simp only [Act.put, List.setIfInBounds_toArray, List.set_cons_zero, List.set_cons_succ]
          refine wpTame_run (v := ?_) (by decide) rfl (fun w' hS => ?_) ?_
          rotate_left
          focus (subst hS; go_simp; try rfl; done)
          simp only [Act.put, List.setIfInBounds_toArray, List.set_cons_zero, List.set_cons_succ]
          refine wpTame_run (v := ?_) (by decide) rfl (fun w' hS => ?_) ?_
          rotate_left
          focus (subst hS; go_simp; try rfl; done)
          simp only [Act.put, List.setIfInBounds_toArray, List.set_cons_zero, List.set_cons_succ]
          refine wpTame_run (v := ?_) (by decide) rfl (fun w' hS => ?_) ?_
          rotate_left
          focus (subst hS; go_simp; try rfl; done)
          simp only [Act.put, List.setIfInBounds_toArray, List.set_cons_zero, List.set_cons_succ]
          refine wpTame_run (v := ?_) (by decide) rfl (fun w' hS => ?_) ?_
          rotate_left
          focus (subst hS; go_simp; try rfl; done)
          simp only [Act.put, List.setIfInBounds_toArray, List.set_cons_zero, List.set_cons_succ]
          refine wpTame_run (v := ?_) (by decide) rfl (fun w' hS => ?_) ?_
          rotate_left
          focus (subst hS; go_simp; try rfl; done)
          simp only [Act.put, List.setIfInBounds_toArray, List.set_cons_zero, List.set_cons_succ]
          refine wpTame_run (v := ?_) (by decide) rfl (fun w' hS => ?_) ?_
          rotate_left
          focus (subst hS; go_simp; try rfl; done)
          simp only [Act.put, List.setIfInBounds_toArray, List.set_cons_zero, List.set_cons_succ]
          refine wpTame_run (v := ?_) (by decide) rfl (fun w' hS => ?_) ?_
          rotate_left
          focus (subst hS; go_simp; try rfl; done)
          simp only [Act.put, List.setIfInBounds_toArray, List.set_cons_zero, List.set_cons_succ]
          refine wpTame_call (by decide) rfl (fun w' hS => by subst hS; go_simp; all_goals first | exact ⟨rfl, rfl⟩ | rfl) (fun w' hS => (mulU_any y x w').mono fun e w'' ⟨he, hw⟩ => ⟨he, by rw [← hw]; exact hS⟩) ?_
          simp only [Act.put, List.setIfInBounds_toArray, List.set_cons_zero, List.set_cons_succ]
          refine wpTame_run (v := ?_) (by decide) rfl (fun w' hS => ?_) ?_
          rotate_left
          focus (subst hS; go_simp; try rfl; done)
          simp only [Act.put, List.setIfInBounds_toArray, List.set_cons_zero, List.set_cons_succ]
          refine wpTame_run (v := ?_) (by decide) rfl (fun w' hS => ?_) ?_
          rotate_left
          focus (subst hS; go_simp; try rfl; done)
          simp only [Act.put, List.setIfInBounds_toArray, List.set_cons_zero, List.set_cons_succ]
          refine wpTame_nil ?_
          intro w5 hw5
          subst hw5
          go_wp2
          go_roundw
          case rel =>
            refine ⟨r + 1, by omega, by go_num, (K0.out.draw 1).set_ne (by simp; omega) _, (K1.out.draw 1).set_ne (by simp) _, (K2.out.draw 1).set_ne (by simp) _, ?_, (Below.mk KB.out.os KB.out.tape KB.out.output KB.out.size KB.out.block : Below w.heap.size w (wr.drewN 1)).setCell (by simp; omega) _⟩
            have h := (K3.out.draw 1).set k (.int .u8 ((z ^^^ gmU y x).toNat : Int))
            have e : dotP m l k (r + 1) = z ^^^ gmU y x := by
              rw [dotP, HJ.out, HD.out, HQ.out, HCC.out, HS.out, HX.out, HY.out, HZ.out]
            rw [barr_set, ← e, List.set_set] at h
            rw [xorU, ← e]
            exact h
          case measure => simp [intOf]; omega
        · obtain rfl : r = 4 := by omega
          rw [dotP_mix, mixT_succ] at h3
          go_wp2
          go_roundw
          case rel => exact ⟨k + 1, by omega, by go_num, h0, h1, h2, h3, hb2⟩
          case measure => simp [intOf]; omega
    · obtain rfl : k = 16 := by omega
      rw [mixT_end] at g3
      have hs : (barr (mixB m l)).size = 16 := by rw [barr_size, mixB_len]
      go_wp2_with (first | ((with_reducible change wpList _ _ _ (Oper.mk _ (Op.load 31 _) _ _ _ _ :: _) _ _); refine wpList_load_blk (ty := 31) (w.heap.size + 1 + 1 + 1) rfl g3 Try.underlying31 rfl size16 hs ?_) | ((with_reducible change wpList _ _ _ (Oper.mk _ (Op.store 31 _ _) _ _ _ _ :: _) _ _); refine wpList_store_blk (ty := 31) (w.heap.size + 1 + 1) (barr (mixB m l)) rfl rfl g2 size16 hs (barr_size _) (barr_one _) ?_))
      refine bodyPost_ret (results_cell_blk rfl _ _ (w.heap.size + 1 + 1) rfl (g2.row _) Try.underlying31 rfl size16 hs) rfl ⟨rfl, below_row hbl (by omega) _⟩
def boxL (t : List UInt8) : List UInt8 := tab 4 fun j => boxU (t.getD j 0)
theorem boxL_len (t : List UInt8) : (boxL t).length = 4 := tab_length _ _
set_option maxHeartbeats 1000000 in
theorem boxed_any (l : List UInt8) (w : World) (hl : l.length = 4) :
    Calls Try.prog 51 #[.agg (barr l)] w fun e w' => e = .returned (.agg (barr (boxL l))) ∧ Below w.heap.size w w' := by
  have HL := Lib.hid hl
  clear hl
  go_enter Try.func51, Try.ntmps51
  go_wp2_with fail
  go_loopw [4] (fun i w1 => ∃ k : Nat, k ≤ 4 ∧ i = .int .i64 (k : Int) ∧ Blk w1 w.heap.size 79 (barr (mixT 4 (fun j => boxU (l.getD j 0)) (fun j => l.getD j 0) k)) ∧ Blk w1 (w.heap.size + 1) 79 (barr (List.replicate 4 0)) ∧ Below w.heap.size w w1) (fun i _ => 4 - (intOf i).toNat)
  case atStart =>
    refine ⟨0, by omega, rfl, ?_, ?_, ?_⟩
    · rw [mixT_zero, tab_self l HL.out]
      exact (Blk.at rfl rfl).alloc _
    · exact Blk.at (by simp) rfl
    · exact ((Below.refl _ _).alloc (Nat.le_refl _) _).alloc (by simp) _
  case round =>
    obtain ⟨k, hk, rfl, h0, h1, hbl⟩ := hrel
    by_cases hlt : k < 4
    · have c0 := h0.cellAt k (barr_getD _ k (by rw [mixT_len]; exact hlt))
      rw [mixT_at _ _ _ _ hlt] at c0
      have H0 := Lib.hid h0
      have H1 := Lib.hid h1
      have HB := Lib.hid hbl
      have hb := h0.lt
      generalize hx : l.getD k 0 = x at c0
      have HX := Lib.hid hx
      clear hx h0 h1 hbl
      go_wp2_with fail
      refine (boxU_any x _).mono ?_
      rintro e w' ⟨rfl, n, rfl⟩
      have f0 := H0.out.unfrozen k
      go_wp2
      go_roundw
      case rel =>
        refine ⟨k + 1, by omega, by go_num, ?_, (H1.out.draw n).set_ne (by simp) _, (Below.mk HB.out.os HB.out.tape HB.out.output HB.out.size HB.out.block : Below w.heap.size w (wr.drewN n)).setCell (by simp) _⟩
        have h := (H0.out.draw n).set k (.int .u8 ((boxU x).toNat : Int))
        have e : mixT 4 (fun j => boxU (l.getD j 0)) (fun j => l.getD j 0) (k + 1) = (mixT 4 (fun j => boxU (l.getD j 0)) (fun j => l.getD j 0) k).set k (boxU x) := by
          rw [← mixT_succ, HX.out]
        rw [barr_set, ← e] at h
        exact h
      case measure => simp [intOf]; omega
    · obtain rfl : k = 4 := by omega
      rw [mixT_end] at h0
      have hs : (barr (boxL l)).size = 4 := by rw [barr_size, boxL_len]
      go_wp2_with (first | ((with_reducible change wpList _ _ _ (Oper.mk _ (Op.load 79 _) _ _ _ _ :: _) _ _); refine wpList_load_blk (ty := 79) w.heap.size rfl h0 Try.underlying79 rfl size4 hs ?_) | ((with_reducible change wpList _ _ _ (Oper.mk _ (Op.store 79 _ _) _ _ _ _ :: _) _ _); refine wpList_store_blk (ty := 79) (w.heap.size + 1) (barr (boxL l)) rfl rfl h1 size4 hs (barr_size _) (barr_one _) ?_))
      refine bodyPost_ret (results_cell_blk rfl _ _ (w.heap.size + 1) rfl (h1.row _) Try.underlying79 rfl size4 hs) rfl ⟨rfl, below_row hbl (by omega) _⟩
end Go.Proofs.Ytihmgkjmebdioaa
