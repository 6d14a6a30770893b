/- The document's examples: what example makes, and awake. -/
import Derived.Test.YtkidijjhedjifaaGreatRows
import Derived.Test.YtkidijjhedjifaaGreatQCostScript0
import Derived.Test.YtkidijjhedjifaaGreatQCostScript1
import Derived.Test.YtkidijjhedjifaaGreatQCostScript10
import Derived.Test.YtkidijjhedjifaaGreatQCostScript8
/- The document's done, kind by kind (PART D; printed by wip/mkrefdone2.py). -/
namespace Go.Proofs.YtkidijjhedjifaaGreat
open Go.RowKit
set_option maxRecDepth 100000
set_option linter.unusedVariables false
set_option linter.unusedSimpArgs false
attribute [local go_sem] Oper.semAt_some
section
variable {w0 w : World} {obs : List Ob} {ip il P : Nat} {cs : Array Value} {v : Value} {rs : List Rn} {σ : Hs} {mm : Int}
set_option maxHeartbeats 8000000 in
theorem rdone4_env (hx : OcI obs ip il) (h : Env w0 w (Oc obs ip il P cs v rs)) (hp : PubCs cs σ) (hok : OKr rs 8) (hσ : OKh mm σ) (hmm : mm ≤ 90000000) (s : Sk) (hd0 : 0 ≤ s.data) (hm0 : 0 ≤ s.more) (hk : s.kind = 4) (hc : codeS σ s = 0) :
    Calls Tryz.prog 22 #[rpV P, v, skV s] w fun e w' => ∃ v' cs', e = .returned v' ∧ PubCs cs' (nxS σ s) ∧ Env w0 w' (Oc obs ip il P cs' v' ((evS σ s).foldl timesN rs)) := by
  have hc2 : sesC σ s = 0 := by unfold codeS at hc; rw [hk] at hc; simpa using hc
  obtain ⟨t, ht, hta⟩ := sesC_zero hc2
  have hdm := hσ.dom _ _ ht
  obtain ⟨n, hn⟩ : ∃ n : Nat, s.handle = (n : Int) := ⟨s.handle.toNat, by omega⟩
  have hn64 : n < 64 := by omega
  have htn : σ (n : Int) = some t := by rw [← hn]; exact ht
  have hot := hσ.ok _ _ ht
  have HEV : Hid (evS σ s = [⟨wkK t, wkS t, summedA t⟩, ⟨8, 1024, 1⟩]) := Lib.hid (by unfold evS; simp only [hk, ht, Option.getD_some]; first | rfl | simp)
  have HNX : Hid (nxS σ s = σ.put (n : Int) none) := Lib.hid (by unfold nxS; simp only [hk, ht, Option.getD_some, ← hn]; first | rfl | simp)
  have HTK : Hid (takesR s.kind = false) := Lib.hid (by rw [hk]; rfl)
  have t1 : (s.kind == (1 : Int)) = false := beq_f (by omega)
  have t2 : (s.kind == (2 : Int)) = false := beq_f (by omega)
  have t3 : (s.kind == (3 : Int)) = false := beq_f (by omega)
  have t4 : (s.kind == (4 : Int)) = true := beq_t hk
  have t5 : (s.kind == (5 : Int)) = false := beq_f (by omega)
  have t7 : (s.kind == (7 : Int)) = false := beq_f (by omega)
  have t8 : (s.kind == (8 : Int)) = false := beq_f (by omega)
  have t10 : (s.kind == (10 : Int)) = false := beq_f (by omega)
  have t0 : (s.kind != (1 : Int)) = true := bne_t (by omega)
  have HX := Lib.hid hx
  have HP := Lib.hid hp
  have HOK := Lib.hid hok
  have HM := Lib.hid (And.intro hmm (And.intro hd0 hm0))
  have HN : Hid (s.handle.toNat = n) := Lib.hid (by omega)
  have HBN : Hid (0 ≤ s.handle ∧ s.handle < 64) := Lib.hid (by omega)
  have HTN := Lib.hid htn
  have HOT := Lib.hid hot
  have HI := Lib.hid hta
  have h1 : Env w0 ((w.alloc (.cells #[.int .u8 s.kind, .int .i64 s.handle, .int .u8 s.alg, .int .i64 s.count, .int .i64 s.out, .int .i64 s.data, .int .i64 s.more] 40)).alloc (.cells #[.int .i64 0, .int .u8 0, .int .i64 0, .int .i64 0, .int .i64 0] 54)) (Oc obs ip il P cs v rs ++ [obK w.heap.size 40 (skCells s), obK (w.heap.size + 1) 54 (heCells th0)]) := by
    have h2 := (h.newK 40 (skCells s)).newK 54 (heCells th0)
    rw [List.append_assoc] at h2
    have e1 : (w.alloc (.cells (skCells s) 40)).heap.size = w.heap.size + 1 := by simp
    rw [e1] at h2
    exact h2
  obtain ⟨W, hW⟩ : ∃ y, (w.alloc (.cells #[.int .u8 s.kind, .int .i64 s.handle, .int .u8 s.alg, .int .i64 s.count, .int .i64 s.out, .int .i64 s.data, .int .i64 s.more] 40)).alloc (.cells #[.int .i64 0, .int .u8 0, .int .i64 0, .int .i64 0, .int .i64 0] 54) = y := ⟨_, rfl⟩
  obtain ⟨B2, hB2⟩ : ∃ y, w.heap.size + 1 = y := ⟨_, rfl⟩
  obtain ⟨B1, hB1⟩ : ∃ y, w.heap.size = y := ⟨_, rfl⟩
  rw [hW, hB2, hB1] at h1
  have H1 := Lib.hid h1
  have HNM := Lib.hid (And.intro hW (And.intro hB2 hB1))
  clear h1 h hσ hW hB2 hB1 hx hp hok hmm hd0 hm0 hk hc hc2 ht hdm hn htn hot hta
  unfold skV rpV
  go_enter Tryz.func22, Tryz.ntmps22
  go_upto_region 3 with fail
  obtain ⟨hW, hB2, hB1⟩ := HNM.out
  rw [hW]
  try rw [hB2]
  try simp only [hB1]
  clear hW hB2 hB1
  have hS : Hid (∀ W c, Env w0 W (Oc obs ip il P cs v rs ++ [obK B1 40 (skCells s), obK B2 54 c]) → SCd B1 P n s t W) := Lib.hid fun W c hW => by
    have q := HP.out.he n t hn64 HTN.out
    have hb := Oc_blk HX.out hW
    exact ⟨skBox (one_blk hW), ⟨hb.cellAt _ q.c0, hb.cellAt _ q.c1, hb.cellAt _ q.c2, hb.cellAt _ q.c3, hb.cellAt _ q.c4⟩⟩
  have hhn := HN.out
  have hbn := HBN.out
  refine hd_start (SCd B1 P n s t) (by kernel_rfl) ?_
  intro w2 hw'
  have H2 := Lib.hid (H1.out.draw 1)
  rw [← hw'] at H2
  clear hw' H1
  have S2 := hS.out _ _ H2.out
  refine hd_take (v := ?_) 0 rfl (by kernel_rfl) (fun _ _ d _ _ h => (by cases d <;> exact h)) (by kernel_rfl) S2 (fun w' hS => ?_) ?_
  rotate_left
  focus (have q0 := SCd.b0 w' hS; have q1 := SCd.b1 w' hS; have q2 := SCd.b2 w' hS; have q3 := SCd.b3 w' hS; have q4 := SCd.b4 w' hS; have q5 := SCd.b5 w' hS; have q6 := SCd.b6 w' hS; have q7 := SCd.h0 w' hS; have q8 := SCd.h1 w' hS; have q9 := SCd.h2 w' hS; have q10 := SCd.h3 w' hS; have q11 := SCd.h4 w' hS; clear hS; go_simp; try rfl; done)
  simp only [List.getElem_toArray, List.getElem_cons_succ, List.getElem_cons_zero, Act.put, List.setIfInBounds_toArray, List.set_cons_zero, List.set_cons_succ]
  refine hd_take (v := ?_) 1 rfl (by kernel_rfl) (fun _ _ d _ _ h => (by cases d <;> exact h)) (by kernel_rfl) S2 (fun w' hS => ?_) ?_
  rotate_left
  focus (have q0 := SCd.b0 w' hS; have q1 := SCd.b1 w' hS; have q2 := SCd.b2 w' hS; have q3 := SCd.b3 w' hS; have q4 := SCd.b4 w' hS; have q5 := SCd.b5 w' hS; have q6 := SCd.b6 w' hS; have q7 := SCd.h0 w' hS; have q8 := SCd.h1 w' hS; have q9 := SCd.h2 w' hS; have q10 := SCd.h3 w' hS; have q11 := SCd.h4 w' hS; clear hS; go_simp; try rfl; done)
  simp only [List.getElem_toArray, List.getElem_cons_succ, List.getElem_cons_zero, Act.put, List.setIfInBounds_toArray, List.set_cons_zero, List.set_cons_succ]
  refine hd_take (v := ?_) 2 rfl (by kernel_rfl) (fun _ _ d _ _ h => (by cases d <;> exact h)) (by kernel_rfl) S2 (fun w' hS => ?_) ?_
  rotate_left
  focus (have q0 := SCd.b0 w' hS; have q1 := SCd.b1 w' hS; have q2 := SCd.b2 w' hS; have q3 := SCd.b3 w' hS; have q4 := SCd.b4 w' hS; have q5 := SCd.b5 w' hS; have q6 := SCd.b6 w' hS; have q7 := SCd.h0 w' hS; have q8 := SCd.h1 w' hS; have q9 := SCd.h2 w' hS; have q10 := SCd.h3 w' hS; have q11 := SCd.h4 w' hS; clear hS; go_simp; try rfl; done)
  simp only [List.getElem_toArray, List.getElem_cons_succ, List.getElem_cons_zero, Act.put, List.setIfInBounds_toArray, List.set_cons_zero, List.set_cons_succ]
  refine hd_take (v := ?_) 3 rfl (by kernel_rfl) (fun _ _ d _ _ h => (by cases d <;> exact h)) (by kernel_rfl) S2 (fun w' hS => ?_) ?_
  rotate_left
  focus (have q0 := SCd.b0 w' hS; have q1 := SCd.b1 w' hS; have q2 := SCd.b2 w' hS; have q3 := SCd.b3 w' hS; have q4 := SCd.b4 w' hS; have q5 := SCd.b5 w' hS; have q6 := SCd.b6 w' hS; have q7 := SCd.h0 w' hS; have q8 := SCd.h1 w' hS; have q9 := SCd.h2 w' hS; have q10 := SCd.h3 w' hS; have q11 := SCd.h4 w' hS; clear hS; go_simp; try rfl; done)
  simp only [List.getElem_toArray, List.getElem_cons_succ, List.getElem_cons_zero, Act.put, List.setIfInBounds_toArray, List.set_cons_zero, List.set_cons_succ]
  refine hd_take (v := ?_) 4 rfl (by kernel_rfl) (fun _ _ d _ _ h => (by cases d <;> exact h)) (by kernel_rfl) S2 (fun w' hS => ?_) ?_
  rotate_left
  focus (have q0 := SCd.b0 w' hS; have q1 := SCd.b1 w' hS; have q2 := SCd.b2 w' hS; have q3 := SCd.b3 w' hS; have q4 := SCd.b4 w' hS; have q5 := SCd.b5 w' hS; have q6 := SCd.b6 w' hS; have q7 := SCd.h0 w' hS; have q8 := SCd.h1 w' hS; have q9 := SCd.h2 w' hS; have q10 := SCd.h3 w' hS; have q11 := SCd.h4 w' hS; clear hS; go_simp; try rfl; done)
  simp only [List.getElem_toArray, List.getElem_cons_succ, List.getElem_cons_zero, Act.put, List.setIfInBounds_toArray, List.set_cons_zero, List.set_cons_succ]
  refine hd_take (v := ?_) 5 rfl (by kernel_rfl) (fun _ _ d _ _ h => (by cases d <;> exact h)) (by kernel_rfl) S2 (fun w' hS => ?_) ?_
  rotate_left
  focus (have q0 := SCd.b0 w' hS; have q1 := SCd.b1 w' hS; have q2 := SCd.b2 w' hS; have q3 := SCd.b3 w' hS; have q4 := SCd.b4 w' hS; have q5 := SCd.b5 w' hS; have q6 := SCd.b6 w' hS; have q7 := SCd.h0 w' hS; have q8 := SCd.h1 w' hS; have q9 := SCd.h2 w' hS; have q10 := SCd.h3 w' hS; have q11 := SCd.h4 w' hS; clear hS; go_simp; try rfl; done)
  simp only [List.getElem_toArray, List.getElem_cons_succ, List.getElem_cons_zero, Act.put, List.setIfInBounds_toArray, List.set_cons_zero, List.set_cons_succ]
  refine hd_take (v := ?_) 6 rfl (by kernel_rfl) (fun _ _ d _ _ h => (by cases d <;> exact h)) (by kernel_rfl) S2 (fun w' hS => ?_) ?_
  rotate_left
  focus (have q0 := SCd.b0 w' hS; have q1 := SCd.b1 w' hS; have q2 := SCd.b2 w' hS; have q3 := SCd.b3 w' hS; have q4 := SCd.b4 w' hS; have q5 := SCd.b5 w' hS; have q6 := SCd.b6 w' hS; have q7 := SCd.h0 w' hS; have q8 := SCd.h1 w' hS; have q9 := SCd.h2 w' hS; have q10 := SCd.h3 w' hS; have q11 := SCd.h4 w' hS; clear hS; go_simp; try rfl; done)
  simp only [List.getElem_toArray, List.getElem_cons_succ, List.getElem_cons_zero, Act.put, List.setIfInBounds_toArray, List.set_cons_zero, List.set_cons_succ]
  have kb2 := two_blk H2.out
  have g0 := kb2.cellAt 0 rfl
  have g1 := kb2.cellAt 1 rfl
  have g2 := kb2.cellAt 2 rfl
  have g3 := kb2.cellAt 3 rfl
  have g4 := kb2.cellAt 4 rfl
  have f0 := kb2.unfrozen 0
  have f1 := kb2.unfrozen 1
  have f2 := kb2.unfrozen 2
  have f3 := kb2.unfrozen 3
  have f4 := kb2.unfrozen 4
  have h3 := two_turn H2.out (box_set kb2 ⟨_, _, _, _, _, rfl⟩ t) box_only
  have S3 := hS.out _ _ h3
  refine hd_one 7 (by kernel_rfl) ?_
  refine op_skip rfl (by kernel_rfl) (by go_simp; first | done | rfl) ?_
  refine ⟨S3, ?_⟩
  simp only [List.getElem_toArray, List.getElem_cons_succ, List.getElem_cons_zero, Act.put, List.setIfInBounds_toArray, List.set_cons_zero, List.set_cons_succ]
  refine hd_done (by kernel_rfl) ?_
  clear S2 S3 kb2 g0 g1 g2 g3 g4 f0 f1 f2 f3 f4 hS hhn hbn
  obtain ⟨w3, hw3⟩ : ∃ y, (((((w2).setCell ⟨B2, 0, none⟩ (.int .i64 t.key)).setCell ⟨B2, 1, none⟩ (.int .u8 t.alg)).setCell ⟨B2, 2, none⟩ (.int .i64 t.out)).setCell ⟨B2, 3, none⟩ (.int .i64 t.custom)).setCell ⟨B2, 4, none⟩ (.int .i64 t.msg) = y := ⟨_, rfl⟩
  rw [hw3] at h3 ⊢
  have H3 := Lib.hid h3
  clear h3 hw3 H2
  have SB := SBth.of H3.out
  have y0 := SBth.b0 _ SB
  have y1 := SBth.b1 _ SB
  have y2 := SBth.b2 _ SB
  have y3 := SBth.b3 _ SB
  have y4 := SBth.b4 _ SB
  have y5 := SBth.b5 _ SB
  have y6 := SBth.b6 _ SB
  have z0 := SBth.h0 _ SB
  have z1 := SBth.h1 _ SB
  have z2 := SBth.h2 _ SB
  have z3 := SBth.h3 _ SB
  have z4 := SBth.h4 _ SB
  go_wp2_with fail
  refine (rsummed_d HX.out H3.out (HOK.out.le (by omega)) t (okse_of HOT.out HM.out.1 HI.out)).mono ?_
  rintro e w5 ⟨v5, rfl, h5⟩
  have hsr := summedA_rng HOT.out
  have HR5 := Lib.hid (OKr.step (n := 7) HOK.out (k := wkK t) (s := wkS t) (c := summedA t) (by omega) (by omega) (by omega))
  have H5 := Lib.hid h5
  clear h5 hsr
  clear SB y0 y1 y2 y3 y4 y5 y6 z0 z1 z2 z3 z4
  have SB := SBth.of H5.out
  have y0 := SBth.b0 _ SB
  have y1 := SBth.b1 _ SB
  have y2 := SBth.b2 _ SB
  have y3 := SBth.b3 _ SB
  have y4 := SBth.b4 _ SB
  have y5 := SBth.b5 _ SB
  have y6 := SBth.b6 _ SB
  have z0 := SBth.h0 _ SB
  have z1 := SBth.h1 _ SB
  have z2 := SBth.h2 _ SB
  have z3 := SBth.h3 _ SB
  have z4 := SBth.h4 _ SB
  go_wp2_with fail
  refine (rput_d HX.out H5.out 8 1024 1 (HR5.out.le (by omega)) (by omega)).mono ?_
  rintro e w7 ⟨v7, rfl, h7⟩
  have H7 := Lib.hid h7
  clear h7
  go_upto_region 19 with fail
  clear SB y0 y1 y2 y3 y4 y5 y6 z0 z1 z2 z3 z4
  have hhn := HN.out
  have hbn := HBN.out
  refine hd_start (SBth B1 B2 s t) (by kernel_rfl) ?_
  intro w8 hw'
  have H8 := Lib.hid (H7.out.draw 1)
  rw [← hw'] at H8
  clear hw' H7
  have S8 := SBth.of H8.out
  refine hd_take (v := ?_) 0 rfl (by kernel_rfl) (fun _ _ d _ _ h => (by cases d <;> exact h)) (by kernel_rfl) S8 (fun w' hS => ?_) ?_
  rotate_left
  focus (have q0 := SBth.b0 w' hS; have q1 := SBth.b1 w' hS; have q2 := SBth.b2 w' hS; have q3 := SBth.b3 w' hS; have q4 := SBth.b4 w' hS; have q5 := SBth.b5 w' hS; have q6 := SBth.b6 w' hS; have q7 := SBth.h0 w' hS; have q8 := SBth.h1 w' hS; have q9 := SBth.h2 w' hS; have q10 := SBth.h3 w' hS; have q11 := SBth.h4 w' hS; clear hS; go_simp; try rfl; done)
  simp only [List.getElem_toArray, List.getElem_cons_succ, List.getElem_cons_zero, Act.put, List.setIfInBounds_toArray, List.set_cons_zero, List.set_cons_succ]
  refine hd_take (v := ?_) 1 rfl (by kernel_rfl) (fun _ _ d _ _ h => (by cases d <;> exact h)) (by kernel_rfl) S8 (fun w' hS => ?_) ?_
  rotate_left
  focus (have q0 := SBth.b0 w' hS; have q1 := SBth.b1 w' hS; have q2 := SBth.b2 w' hS; have q3 := SBth.b3 w' hS; have q4 := SBth.b4 w' hS; have q5 := SBth.b5 w' hS; have q6 := SBth.b6 w' hS; have q7 := SBth.h0 w' hS; have q8 := SBth.h1 w' hS; have q9 := SBth.h2 w' hS; have q10 := SBth.h3 w' hS; have q11 := SBth.h4 w' hS; clear hS; go_simp; try rfl; done)
  simp only [List.getElem_toArray, List.getElem_cons_succ, List.getElem_cons_zero, Act.put, List.setIfInBounds_toArray, List.set_cons_zero, List.set_cons_succ]
  refine hd_take (v := ?_) 2 rfl (by kernel_rfl) (fun _ _ d _ _ h => (by cases d <;> exact h)) (by kernel_rfl) S8 (fun w' hS => ?_) ?_
  rotate_left
  focus (have q0 := SBth.b0 w' hS; have q1 := SBth.b1 w' hS; have q2 := SBth.b2 w' hS; have q3 := SBth.b3 w' hS; have q4 := SBth.b4 w' hS; have q5 := SBth.b5 w' hS; have q6 := SBth.b6 w' hS; have q7 := SBth.h0 w' hS; have q8 := SBth.h1 w' hS; have q9 := SBth.h2 w' hS; have q10 := SBth.h3 w' hS; have q11 := SBth.h4 w' hS; clear hS; go_simp; try rfl; done)
  simp only [List.getElem_toArray, List.getElem_cons_succ, List.getElem_cons_zero, Act.put, List.setIfInBounds_toArray, List.set_cons_zero, List.set_cons_succ]
  refine hd_take (v := ?_) 3 rfl (by kernel_rfl) (fun _ _ d _ _ h => (by cases d <;> exact h)) (by kernel_rfl) S8 (fun w' hS => ?_) ?_
  rotate_left
  focus (have q0 := SBth.b0 w' hS; have q1 := SBth.b1 w' hS; have q2 := SBth.b2 w' hS; have q3 := SBth.b3 w' hS; have q4 := SBth.b4 w' hS; have q5 := SBth.b5 w' hS; have q6 := SBth.b6 w' hS; have q7 := SBth.h0 w' hS; have q8 := SBth.h1 w' hS; have q9 := SBth.h2 w' hS; have q10 := SBth.h3 w' hS; have q11 := SBth.h4 w' hS; clear hS; go_simp; try rfl; done)
  simp only [List.getElem_toArray, List.getElem_cons_succ, List.getElem_cons_zero, Act.put, List.setIfInBounds_toArray, List.set_cons_zero, List.set_cons_succ]
  refine hd_take (v := ?_) 4 rfl (by kernel_rfl) (fun _ _ d _ _ h => (by cases d <;> exact h)) (by kernel_rfl) S8 (fun w' hS => ?_) ?_
  rotate_left
  focus (have q0 := SBth.b0 w' hS; have q1 := SBth.b1 w' hS; have q2 := SBth.b2 w' hS; have q3 := SBth.b3 w' hS; have q4 := SBth.b4 w' hS; have q5 := SBth.b5 w' hS; have q6 := SBth.b6 w' hS; have q7 := SBth.h0 w' hS; have q8 := SBth.h1 w' hS; have q9 := SBth.h2 w' hS; have q10 := SBth.h3 w' hS; have q11 := SBth.h4 w' hS; clear hS; go_simp; try rfl; done)
  simp only [List.getElem_toArray, List.getElem_cons_succ, List.getElem_cons_zero, Act.put, List.setIfInBounds_toArray, List.set_cons_zero, List.set_cons_succ]
  refine hd_take (v := ?_) 5 rfl (by kernel_rfl) (fun _ _ d _ _ h => (by cases d <;> exact h)) (by kernel_rfl) S8 (fun w' hS => ?_) ?_
  rotate_left
  focus (have q0 := SBth.b0 w' hS; have q1 := SBth.b1 w' hS; have q2 := SBth.b2 w' hS; have q3 := SBth.b3 w' hS; have q4 := SBth.b4 w' hS; have q5 := SBth.b5 w' hS; have q6 := SBth.b6 w' hS; have q7 := SBth.h0 w' hS; have q8 := SBth.h1 w' hS; have q9 := SBth.h2 w' hS; have q10 := SBth.h3 w' hS; have q11 := SBth.h4 w' hS; clear hS; go_simp; try rfl; done)
  simp only [List.getElem_toArray, List.getElem_cons_succ, List.getElem_cons_zero, Act.put, List.setIfInBounds_toArray, List.set_cons_zero, List.set_cons_succ]
  have kbp := Oc_blk HX.out H8.out
  obtain ⟨u0, g0⟩ := cell_of kbp HP.out.size (k := n) (by omega)
  have f0 := kbp.unfrozen n
  have h9 := Oc_turn HX.out H8.out (kbp.set n (.bool false)) ((Only.refl (fun x => x = P) _).set (p := ⟨P, n, none⟩) (.inl rfl) _)
  have S9 := SBth.of h9
  have SB := S9
  have y0 := SBth.b0 _ SB
  have H9 := Lib.hid h9
  refine hd_one 6 (by kernel_rfl) ?_
  refine op_skip rfl (by kernel_rfl) (by go_simp; first | done | rfl) ?_
  refine ⟨S9, ?_⟩
  simp only [List.getElem_toArray, List.getElem_cons_succ, List.getElem_cons_zero, Act.put, List.setIfInBounds_toArray, List.set_cons_zero, List.set_cons_succ]
  refine hd_done (by kernel_rfl) ?_
  clear S8 S9 kbp g0 f0 h9 hhn hbn
  go_wp2_with fail
  clear SB y0
  refine (rtakes_any s.kind _).mono ?_
  rintro e wt ⟨rfl, rfl⟩
  rw [HTK.out]
  go_wp2_with fail
  go_ret
  exact ⟨_, cs.setIfInBounds n (.bool false), rfl, by rw [HNX.out]; exact HP.out.drop hn64, by rw [HEV.out]; exact two_drop H9.out⟩
set_option maxHeartbeats 8000000 in
theorem rdone5_env (hx : OcI obs ip il) (h : Env w0 w (Oc obs ip il P cs v rs)) (hp : PubCs cs σ) (hok : OKr rs 8) (hσ : OKh mm σ) (hmm : mm ≤ 90000000) (s : Sk) (hd0 : 0 ≤ s.data) (hm0 : 0 ≤ s.more) (hk : s.kind = 5) (hc : codeS σ s = 0) :
    Calls Tryz.prog 22 #[rpV P, v, skV s] w fun e w' => ∃ v' cs', e = .returned v' ∧ PubCs cs' (nxS σ s) ∧ Env w0 w' (Oc obs ip il P cs' v' ((evS σ s).foldl timesN rs)) := by
  have hc2 : verC σ s = 0 := by unfold codeS at hc; rw [hk] at hc; simpa using hc
  obtain ⟨t, ht, hta, i1⟩ := verC_zero hc2
  have hdm := hσ.dom _ _ ht
  obtain ⟨n, hn⟩ : ∃ n : Nat, s.handle = (n : Int) := ⟨s.handle.toNat, by omega⟩
  have hn64 : n < 64 := by omega
  have htn : σ (n : Int) = some t := by rw [← hn]; exact ht
  have hot := hσ.ok _ _ ht
  have HEV : Hid (evS σ s = [⟨wkK t, wkS t, summedA t⟩, ⟨6, t.out, 1⟩, ⟨8, 1024, 1⟩]) := Lib.hid (by unfold evS; simp only [hk, ht, Option.getD_some]; first | rfl | simp)
  have HNX : Hid (nxS σ s = σ.put (n : Int) none) := Lib.hid (by unfold nxS; simp only [hk, ht, Option.getD_some, ← hn]; first | rfl | simp)
  have HTK : Hid (takesR s.kind = false) := Lib.hid (by rw [hk]; rfl)
  have t1 : (s.kind == (1 : Int)) = false := beq_f (by omega)
  have t2 : (s.kind == (2 : Int)) = false := beq_f (by omega)
  have t3 : (s.kind == (3 : Int)) = false := beq_f (by omega)
  have t4 : (s.kind == (4 : Int)) = false := beq_f (by omega)
  have t5 : (s.kind == (5 : Int)) = true := beq_t hk
  have t7 : (s.kind == (7 : Int)) = false := beq_f (by omega)
  have t8 : (s.kind == (8 : Int)) = false := beq_f (by omega)
  have t10 : (s.kind == (10 : Int)) = false := beq_f (by omega)
  have t0 : (s.kind != (1 : Int)) = true := bne_t (by omega)
  have HX := Lib.hid hx
  have HP := Lib.hid hp
  have HOK := Lib.hid hok
  have HM := Lib.hid (And.intro hmm (And.intro hd0 hm0))
  have HN : Hid (s.handle.toNat = n) := Lib.hid (by omega)
  have HBN : Hid (0 ≤ s.handle ∧ s.handle < 64) := Lib.hid (by omega)
  have HTN := Lib.hid htn
  have HOT := Lib.hid hot
  have HI := Lib.hid hta
  have h1 : Env w0 ((w.alloc (.cells #[.int .u8 s.kind, .int .i64 s.handle, .int .u8 s.alg, .int .i64 s.count, .int .i64 s.out, .int .i64 s.data, .int .i64 s.more] 40)).alloc (.cells #[.int .i64 0, .int .u8 0, .int .i64 0, .int .i64 0, .int .i64 0] 54)) (Oc obs ip il P cs v rs ++ [obK w.heap.size 40 (skCells s), obK (w.heap.size + 1) 54 (heCells th0)]) := by
    have h2 := (h.newK 40 (skCells s)).newK 54 (heCells th0)
    rw [List.append_assoc] at h2
    have e1 : (w.alloc (.cells (skCells s) 40)).heap.size = w.heap.size + 1 := by simp
    rw [e1] at h2
    exact h2
  obtain ⟨W, hW⟩ : ∃ y, (w.alloc (.cells #[.int .u8 s.kind, .int .i64 s.handle, .int .u8 s.alg, .int .i64 s.count, .int .i64 s.out, .int .i64 s.data, .int .i64 s.more] 40)).alloc (.cells #[.int .i64 0, .int .u8 0, .int .i64 0, .int .i64 0, .int .i64 0] 54) = y := ⟨_, rfl⟩
  obtain ⟨B2, hB2⟩ : ∃ y, w.heap.size + 1 = y := ⟨_, rfl⟩
  obtain ⟨B1, hB1⟩ : ∃ y, w.heap.size = y := ⟨_, rfl⟩
  rw [hW, hB2, hB1] at h1
  have H1 := Lib.hid h1
  have HNM := Lib.hid (And.intro hW (And.intro hB2 hB1))
  clear h1 h hσ hW hB2 hB1 hx hp hok hmm hd0 hm0 hk hc hc2 ht hdm hn htn hot hta i1
  unfold skV rpV
  go_enter Tryz.func22, Tryz.ntmps22
  go_upto_region 3 with fail
  obtain ⟨hW, hB2, hB1⟩ := HNM.out
  rw [hW]
  try rw [hB2]
  try simp only [hB1]
  clear hW hB2 hB1
  have hS : Hid (∀ W c, Env w0 W (Oc obs ip il P cs v rs ++ [obK B1 40 (skCells s), obK B2 54 c]) → SCd B1 P n s t W) := Lib.hid fun W c hW => by
    have q := HP.out.he n t hn64 HTN.out
    have hb := Oc_blk HX.out hW
    exact ⟨skBox (one_blk hW), ⟨hb.cellAt _ q.c0, hb.cellAt _ q.c1, hb.cellAt _ q.c2, hb.cellAt _ q.c3, hb.cellAt _ q.c4⟩⟩
  have hhn := HN.out
  have hbn := HBN.out
  refine hd_start (SCd B1 P n s t) (by kernel_rfl) ?_
  intro w2 hw'
  have H2 := Lib.hid (H1.out.draw 1)
  rw [← hw'] at H2
  clear hw' H1
  have S2 := hS.out _ _ H2.out
  refine hd_take (v := ?_) 0 rfl (by kernel_rfl) (fun _ _ d _ _ h => (by cases d <;> exact h)) (by kernel_rfl) S2 (fun w' hS => ?_) ?_
  rotate_left
  focus (have q0 := SCd.b0 w' hS; have q1 := SCd.b1 w' hS; have q2 := SCd.b2 w' hS; have q3 := SCd.b3 w' hS; have q4 := SCd.b4 w' hS; have q5 := SCd.b5 w' hS; have q6 := SCd.b6 w' hS; have q7 := SCd.h0 w' hS; have q8 := SCd.h1 w' hS; have q9 := SCd.h2 w' hS; have q10 := SCd.h3 w' hS; have q11 := SCd.h4 w' hS; clear hS; go_simp; try rfl; done)
  simp only [List.getElem_toArray, List.getElem_cons_succ, List.getElem_cons_zero, Act.put, List.setIfInBounds_toArray, List.set_cons_zero, List.set_cons_succ]
  refine hd_take (v := ?_) 1 rfl (by kernel_rfl) (fun _ _ d _ _ h => (by cases d <;> exact h)) (by kernel_rfl) S2 (fun w' hS => ?_) ?_
  rotate_left
  focus (have q0 := SCd.b0 w' hS; have q1 := SCd.b1 w' hS; have q2 := SCd.b2 w' hS; have q3 := SCd.b3 w' hS; have q4 := SCd.b4 w' hS; have q5 := SCd.b5 w' hS; have q6 := SCd.b6 w' hS; have q7 := SCd.h0 w' hS; have q8 := SCd.h1 w' hS; have q9 := SCd.h2 w' hS; have q10 := SCd.h3 w' hS; have q11 := SCd.h4 w' hS; clear hS; go_simp; try rfl; done)
  simp only [List.getElem_toArray, List.getElem_cons_succ, List.getElem_cons_zero, Act.put, List.setIfInBounds_toArray, List.set_cons_zero, List.set_cons_succ]
  refine hd_take (v := ?_) 2 rfl (by kernel_rfl) (fun _ _ d _ _ h => (by cases d <;> exact h)) (by kernel_rfl) S2 (fun w' hS => ?_) ?_
  rotate_left
  focus (have q0 := SCd.b0 w' hS; have q1 := SCd.b1 w' hS; have q2 := SCd.b2 w' hS; have q3 := SCd.b3 w' hS; have q4 := SCd.b4 w' hS; have q5 := SCd.b5 w' hS; have q6 := SCd.b6 w' hS; have q7 := SCd.h0 w' hS; have q8 := SCd.h1 w' hS; have q9 := SCd.h2 w' hS; have q10 := SCd.h3 w' hS; have q11 := SCd.h4 w' hS; clear hS; go_simp; try rfl; done)
  simp only [List.getElem_toArray, List.getElem_cons_succ, List.getElem_cons_zero, Act.put, List.setIfInBounds_toArray, List.set_cons_zero, List.set_cons_succ]
  refine hd_take (v := ?_) 3 rfl (by kernel_rfl) (fun _ _ d _ _ h => (by cases d <;> exact h)) (by kernel_rfl) S2 (fun w' hS => ?_) ?_
  rotate_left
  focus (have q0 := SCd.b0 w' hS; have q1 := SCd.b1 w' hS; have q2 := SCd.b2 w' hS; have q3 := SCd.b3 w' hS; have q4 := SCd.b4 w' hS; have q5 := SCd.b5 w' hS; have q6 := SCd.b6 w' hS; have q7 := SCd.h0 w' hS; have q8 := SCd.h1 w' hS; have q9 := SCd.h2 w' hS; have q10 := SCd.h3 w' hS; have q11 := SCd.h4 w' hS; clear hS; go_simp; try rfl; done)
  simp only [List.getElem_toArray, List.getElem_cons_succ, List.getElem_cons_zero, Act.put, List.setIfInBounds_toArray, List.set_cons_zero, List.set_cons_succ]
  refine hd_take (v := ?_) 4 rfl (by kernel_rfl) (fun _ _ d _ _ h => (by cases d <;> exact h)) (by kernel_rfl) S2 (fun w' hS => ?_) ?_
  rotate_left
  focus (have q0 := SCd.b0 w' hS; have q1 := SCd.b1 w' hS; have q2 := SCd.b2 w' hS; have q3 := SCd.b3 w' hS; have q4 := SCd.b4 w' hS; have q5 := SCd.b5 w' hS; have q6 := SCd.b6 w' hS; have q7 := SCd.h0 w' hS; have q8 := SCd.h1 w' hS; have q9 := SCd.h2 w' hS; have q10 := SCd.h3 w' hS; have q11 := SCd.h4 w' hS; clear hS; go_simp; try rfl; done)
  simp only [List.getElem_toArray, List.getElem_cons_succ, List.getElem_cons_zero, Act.put, List.setIfInBounds_toArray, List.set_cons_zero, List.set_cons_succ]
  refine hd_take (v := ?_) 5 rfl (by kernel_rfl) (fun _ _ d _ _ h => (by cases d <;> exact h)) (by kernel_rfl) S2 (fun w' hS => ?_) ?_
  rotate_left
  focus (have q0 := SCd.b0 w' hS; have q1 := SCd.b1 w' hS; have q2 := SCd.b2 w' hS; have q3 := SCd.b3 w' hS; have q4 := SCd.b4 w' hS; have q5 := SCd.b5 w' hS; have q6 := SCd.b6 w' hS; have q7 := SCd.h0 w' hS; have q8 := SCd.h1 w' hS; have q9 := SCd.h2 w' hS; have q10 := SCd.h3 w' hS; have q11 := SCd.h4 w' hS; clear hS; go_simp; try rfl; done)
  simp only [List.getElem_toArray, List.getElem_cons_succ, List.getElem_cons_zero, Act.put, List.setIfInBounds_toArray, List.set_cons_zero, List.set_cons_succ]
  refine hd_take (v := ?_) 6 rfl (by kernel_rfl) (fun _ _ d _ _ h => (by cases d <;> exact h)) (by kernel_rfl) S2 (fun w' hS => ?_) ?_
  rotate_left
  focus (have q0 := SCd.b0 w' hS; have q1 := SCd.b1 w' hS; have q2 := SCd.b2 w' hS; have q3 := SCd.b3 w' hS; have q4 := SCd.b4 w' hS; have q5 := SCd.b5 w' hS; have q6 := SCd.b6 w' hS; have q7 := SCd.h0 w' hS; have q8 := SCd.h1 w' hS; have q9 := SCd.h2 w' hS; have q10 := SCd.h3 w' hS; have q11 := SCd.h4 w' hS; clear hS; go_simp; try rfl; done)
  simp only [List.getElem_toArray, List.getElem_cons_succ, List.getElem_cons_zero, Act.put, List.setIfInBounds_toArray, List.set_cons_zero, List.set_cons_succ]
  have kb2 := two_blk H2.out
  have g0 := kb2.cellAt 0 rfl
  have g1 := kb2.cellAt 1 rfl
  have g2 := kb2.cellAt 2 rfl
  have g3 := kb2.cellAt 3 rfl
  have g4 := kb2.cellAt 4 rfl
  have f0 := kb2.unfrozen 0
  have f1 := kb2.unfrozen 1
  have f2 := kb2.unfrozen 2
  have f3 := kb2.unfrozen 3
  have f4 := kb2.unfrozen 4
  have h3 := two_turn H2.out (box_set kb2 ⟨_, _, _, _, _, rfl⟩ t) box_only
  have S3 := hS.out _ _ h3
  refine hd_one 7 (by kernel_rfl) ?_
  refine op_skip rfl (by kernel_rfl) (by go_simp; first | done | rfl) ?_
  refine ⟨S3, ?_⟩
  simp only [List.getElem_toArray, List.getElem_cons_succ, List.getElem_cons_zero, Act.put, List.setIfInBounds_toArray, List.set_cons_zero, List.set_cons_succ]
  refine hd_done (by kernel_rfl) ?_
  clear S2 S3 kb2 g0 g1 g2 g3 g4 f0 f1 f2 f3 f4 hS hhn hbn
  obtain ⟨w3, hw3⟩ : ∃ y, (((((w2).setCell ⟨B2, 0, none⟩ (.int .i64 t.key)).setCell ⟨B2, 1, none⟩ (.int .u8 t.alg)).setCell ⟨B2, 2, none⟩ (.int .i64 t.out)).setCell ⟨B2, 3, none⟩ (.int .i64 t.custom)).setCell ⟨B2, 4, none⟩ (.int .i64 t.msg) = y := ⟨_, rfl⟩
  rw [hw3] at h3 ⊢
  have H3 := Lib.hid h3
  clear h3 hw3 H2
  have SB := SBth.of H3.out
  have y0 := SBth.b0 _ SB
  have y1 := SBth.b1 _ SB
  have y2 := SBth.b2 _ SB
  have y3 := SBth.b3 _ SB
  have y4 := SBth.b4 _ SB
  have y5 := SBth.b5 _ SB
  have y6 := SBth.b6 _ SB
  have z0 := SBth.h0 _ SB
  have z1 := SBth.h1 _ SB
  have z2 := SBth.h2 _ SB
  have z3 := SBth.h3 _ SB
  have z4 := SBth.h4 _ SB
  go_wp2_with fail
  refine (rsummed_d HX.out H3.out (HOK.out.le (by omega)) t (okse_of HOT.out HM.out.1 HI.out)).mono ?_
  rintro e w5 ⟨v5, rfl, h5⟩
  have hsr := summedA_rng HOT.out
  have HR5 := Lib.hid (OKr.step (n := 7) HOK.out (k := wkK t) (s := wkS t) (c := summedA t) (by omega) (by omega) (by omega))
  have H5 := Lib.hid h5
  clear h5 hsr
  clear SB y0 y1 y2 y3 y4 y5 y6 z0 z1 z2 z3 z4
  have SB := SBth.of H5.out
  have y0 := SBth.b0 _ SB
  have y1 := SBth.b1 _ SB
  have y2 := SBth.b2 _ SB
  have y3 := SBth.b3 _ SB
  have y4 := SBth.b4 _ SB
  have y5 := SBth.b5 _ SB
  have y6 := SBth.b6 _ SB
  have z0 := SBth.h0 _ SB
  have z1 := SBth.h1 _ SB
  have z2 := SBth.h2 _ SB
  have z3 := SBth.h3 _ SB
  have z4 := SBth.h4 _ SB
  go_wp2_with fail
  refine (rput_d HX.out H5.out 6 t.out 1 (HR5.out.le (by omega)) (by omega)).mono ?_
  rintro e w6 ⟨v6, rfl, h6⟩
  have HR6 := Lib.hid (OKr.step (n := 6) HR5.out (k := 6) (s := t.out) (c := 1) (by omega) (by omega) (by omega))
  have H6 := Lib.hid h6
  clear h6
  clear SB y0 y1 y2 y3 y4 y5 y6 z0 z1 z2 z3 z4
  have SB := SBth.of H6.out
  have y0 := SBth.b0 _ SB
  have y1 := SBth.b1 _ SB
  have y2 := SBth.b2 _ SB
  have y3 := SBth.b3 _ SB
  have y4 := SBth.b4 _ SB
  have y5 := SBth.b5 _ SB
  have y6 := SBth.b6 _ SB
  have z0 := SBth.h0 _ SB
  have z1 := SBth.h1 _ SB
  have z2 := SBth.h2 _ SB
  have z3 := SBth.h3 _ SB
  have z4 := SBth.h4 _ SB
  go_wp2_with fail
  refine (rput_d HX.out H6.out 8 1024 1 (HR6.out.le (by omega)) (by omega)).mono ?_
  rintro e w7 ⟨v7, rfl, h7⟩
  have H7 := Lib.hid h7
  clear h7
  go_upto_region 19 with fail
  clear SB y0 y1 y2 y3 y4 y5 y6 z0 z1 z2 z3 z4
  have hhn := HN.out
  have hbn := HBN.out
  refine hd_start (SBth B1 B2 s t) (by kernel_rfl) ?_
  intro w8 hw'
  have H8 := Lib.hid (H7.out.draw 1)
  rw [← hw'] at H8
  clear hw' H7
  have S8 := SBth.of H8.out
  refine hd_take (v := ?_) 0 rfl (by kernel_rfl) (fun _ _ d _ _ h => (by cases d <;> exact h)) (by kernel_rfl) S8 (fun w' hS => ?_) ?_
  rotate_left
  focus (have q0 := SBth.b0 w' hS; have q1 := SBth.b1 w' hS; have q2 := SBth.b2 w' hS; have q3 := SBth.b3 w' hS; have q4 := SBth.b4 w' hS; have q5 := SBth.b5 w' hS; have q6 := SBth.b6 w' hS; have q7 := SBth.h0 w' hS; have q8 := SBth.h1 w' hS; have q9 := SBth.h2 w' hS; have q10 := SBth.h3 w' hS; have q11 := SBth.h4 w' hS; clear hS; go_simp; try rfl; done)
  simp only [List.getElem_toArray, List.getElem_cons_succ, List.getElem_cons_zero, Act.put, List.setIfInBounds_toArray, List.set_cons_zero, List.set_cons_succ]
  refine hd_take (v := ?_) 1 rfl (by kernel_rfl) (fun _ _ d _ _ h => (by cases d <;> exact h)) (by kernel_rfl) S8 (fun w' hS => ?_) ?_
  rotate_left
  focus (have q0 := SBth.b0 w' hS; have q1 := SBth.b1 w' hS; have q2 := SBth.b2 w' hS; have q3 := SBth.b3 w' hS; have q4 := SBth.b4 w' hS; have q5 := SBth.b5 w' hS; have q6 := SBth.b6 w' hS; have q7 := SBth.h0 w' hS; have q8 := SBth.h1 w' hS; have q9 := SBth.h2 w' hS; have q10 := SBth.h3 w' hS; have q11 := SBth.h4 w' hS; clear hS; go_simp; try rfl; done)
  simp only [List.getElem_toArray, List.getElem_cons_succ, List.getElem_cons_zero, Act.put, List.setIfInBounds_toArray, List.set_cons_zero, List.set_cons_succ]
  refine hd_take (v := ?_) 2 rfl (by kernel_rfl) (fun _ _ d _ _ h => (by cases d <;> exact h)) (by kernel_rfl) S8 (fun w' hS => ?_) ?_
  rotate_left
  focus (have q0 := SBth.b0 w' hS; have q1 := SBth.b1 w' hS; have q2 := SBth.b2 w' hS; have q3 := SBth.b3 w' hS; have q4 := SBth.b4 w' hS; have q5 := SBth.b5 w' hS; have q6 := SBth.b6 w' hS; have q7 := SBth.h0 w' hS; have q8 := SBth.h1 w' hS; have q9 := SBth.h2 w' hS; have q10 := SBth.h3 w' hS; have q11 := SBth.h4 w' hS; clear hS; go_simp; try rfl; done)
  simp only [List.getElem_toArray, List.getElem_cons_succ, List.getElem_cons_zero, Act.put, List.setIfInBounds_toArray, List.set_cons_zero, List.set_cons_succ]
  refine hd_take (v := ?_) 3 rfl (by kernel_rfl) (fun _ _ d _ _ h => (by cases d <;> exact h)) (by kernel_rfl) S8 (fun w' hS => ?_) ?_
  rotate_left
  focus (have q0 := SBth.b0 w' hS; have q1 := SBth.b1 w' hS; have q2 := SBth.b2 w' hS; have q3 := SBth.b3 w' hS; have q4 := SBth.b4 w' hS; have q5 := SBth.b5 w' hS; have q6 := SBth.b6 w' hS; have q7 := SBth.h0 w' hS; have q8 := SBth.h1 w' hS; have q9 := SBth.h2 w' hS; have q10 := SBth.h3 w' hS; have q11 := SBth.h4 w' hS; clear hS; go_simp; try rfl; done)
  simp only [List.getElem_toArray, List.getElem_cons_succ, List.getElem_cons_zero, Act.put, List.setIfInBounds_toArray, List.set_cons_zero, List.set_cons_succ]
  refine hd_take (v := ?_) 4 rfl (by kernel_rfl) (fun _ _ d _ _ h => (by cases d <;> exact h)) (by kernel_rfl) S8 (fun w' hS => ?_) ?_
  rotate_left
  focus (have q0 := SBth.b0 w' hS; have q1 := SBth.b1 w' hS; have q2 := SBth.b2 w' hS; have q3 := SBth.b3 w' hS; have q4 := SBth.b4 w' hS; have q5 := SBth.b5 w' hS; have q6 := SBth.b6 w' hS; have q7 := SBth.h0 w' hS; have q8 := SBth.h1 w' hS; have q9 := SBth.h2 w' hS; have q10 := SBth.h3 w' hS; have q11 := SBth.h4 w' hS; clear hS; go_simp; try rfl; done)
  simp only [List.getElem_toArray, List.getElem_cons_succ, List.getElem_cons_zero, Act.put, List.setIfInBounds_toArray, List.set_cons_zero, List.set_cons_succ]
  refine hd_take (v := ?_) 5 rfl (by kernel_rfl) (fun _ _ d _ _ h => (by cases d <;> exact h)) (by kernel_rfl) S8 (fun w' hS => ?_) ?_
  rotate_left
  focus (have q0 := SBth.b0 w' hS; have q1 := SBth.b1 w' hS; have q2 := SBth.b2 w' hS; have q3 := SBth.b3 w' hS; have q4 := SBth.b4 w' hS; have q5 := SBth.b5 w' hS; have q6 := SBth.b6 w' hS; have q7 := SBth.h0 w' hS; have q8 := SBth.h1 w' hS; have q9 := SBth.h2 w' hS; have q10 := SBth.h3 w' hS; have q11 := SBth.h4 w' hS; clear hS; go_simp; try rfl; done)
  simp only [List.getElem_toArray, List.getElem_cons_succ, List.getElem_cons_zero, Act.put, List.setIfInBounds_toArray, List.set_cons_zero, List.set_cons_succ]
  have kbp := Oc_blk HX.out H8.out
  obtain ⟨u0, g0⟩ := cell_of kbp HP.out.size (k := n) (by omega)
  have f0 := kbp.unfrozen n
  have h9 := Oc_turn HX.out H8.out (kbp.set n (.bool false)) ((Only.refl (fun x => x = P) _).set (p := ⟨P, n, none⟩) (.inl rfl) _)
  have S9 := SBth.of h9
  have SB := S9
  have y0 := SBth.b0 _ SB
  have H9 := Lib.hid h9
  refine hd_one 6 (by kernel_rfl) ?_
  refine op_skip rfl (by kernel_rfl) (by go_simp; first | done | rfl) ?_
  refine ⟨S9, ?_⟩
  simp only [List.getElem_toArray, List.getElem_cons_succ, List.getElem_cons_zero, Act.put, List.setIfInBounds_toArray, List.set_cons_zero, List.set_cons_succ]
  refine hd_done (by kernel_rfl) ?_
  clear S8 S9 kbp g0 f0 h9 hhn hbn
  go_wp2_with fail
  clear SB y0
  refine (rtakes_any s.kind _).mono ?_
  rintro e wt ⟨rfl, rfl⟩
  rw [HTK.out]
  go_wp2_with fail
  go_ret
  exact ⟨_, cs.setIfInBounds n (.bool false), rfl, by rw [HNX.out]; exact HP.out.drop hn64, by rw [HEV.out]; exact two_drop H9.out⟩
end
end Go.Proofs.YtkidijjhedjifaaGreat
/- The document's done, kind by kind (PART E; printed by wip/mkrefdone2.py). -/
namespace Go.Proofs.YtkidijjhedjifaaGreat
open Go.RowKit
set_option maxRecDepth 100000
set_option linter.unusedVariables false
set_option linter.unusedSimpArgs false
attribute [local go_sem] Oper.semAt_some
section
variable {w0 w : World} {obs : List Ob} {ip il P : Nat} {cs : Array Value} {v : Value} {rs : List Rn} {σ : Hs} {mm : Int}
set_option maxHeartbeats 8000000 in
theorem rdone7_env (hx : OcI obs ip il) (h : Env w0 w (Oc obs ip il P cs v rs)) (hp : PubCs cs σ) (hok : OKr rs 8) (hσ : OKh mm σ) (hmm : mm ≤ 90000000) (s : Sk) (hd0 : 0 ≤ s.data) (hm0 : 0 ≤ s.more) (hk : s.kind = 7) (hc : codeS σ s = 0) :
    Calls Tryz.prog 22 #[rpV P, v, skV s] w fun e w' => ∃ v' cs', e = .returned v' ∧ PubCs cs' (nxS σ s) ∧ Env w0 w' (Oc obs ip il P cs' v' ((evS σ s).foldl timesN rs)) := by
  have hc2 : hkdfC σ s = 0 := by unfold codeS at hc; rw [hk] at hc; simpa using hc
  obtain ⟨t, ht, hta, i1, i2, i3, i4, i5, i8⟩ := hkdfC_zero hc2
  have hdm := hσ.dom _ _ ht
  obtain ⟨n, hn⟩ : ∃ n : Nat, s.handle = (n : Int) := ⟨s.handle.toNat, by omega⟩
  have hn64 : n < 64 := by omega
  have htn : σ (n : Int) = some t := by rw [← hn]; exact ht
  have hot := hσ.ok _ _ ht
  obtain ⟨q, hq, hq64⟩ := free_of i8
  have HEV : Hid (evS σ s = [⟨evkA s.alg, wideA s.alg, hk0 t s + hkTo s (hkN s)⟩]) := Lib.hid (by unfold evS; simp only [hk, ht, Option.getD_some]; first | rfl | simp)
  have HNX : Hid (nxS σ s = σ.put (q : Int) (some (⟨0, 0, s.out, 0, 0⟩ : Th))) := Lib.hid (by unfold nxS; simp only [hk, ht, Option.getD_some]; first | exact take_is hq _ | simpa using take_is hq _)
  have HTK : Hid (takesR s.kind = true) := Lib.hid (by rw [hk]; rfl)
  have t1 : (s.kind == (1 : Int)) = false := beq_f (by omega)
  have t2 : (s.kind == (2 : Int)) = false := beq_f (by omega)
  have t3 : (s.kind == (3 : Int)) = false := beq_f (by omega)
  have t4 : (s.kind == (4 : Int)) = false := beq_f (by omega)
  have t5 : (s.kind == (5 : Int)) = false := beq_f (by omega)
  have t7 : (s.kind == (7 : Int)) = true := beq_t hk
  have t8 : (s.kind == (8 : Int)) = false := beq_f (by omega)
  have t10 : (s.kind == (10 : Int)) = false := beq_f (by omega)
  have t0 : (s.kind != (1 : Int)) = true := bne_t (by omega)
  have HX := Lib.hid hx
  have HP := Lib.hid hp
  have HOK := Lib.hid hok
  have HM := Lib.hid (And.intro hmm (And.intro hd0 hm0))
  have HN : Hid (s.handle.toNat = n) := Lib.hid (by omega)
  have HBN : Hid (0 ≤ s.handle ∧ s.handle < 64) := Lib.hid (by omega)
  have HTN := Lib.hid htn
  have HOT := Lib.hid hot
  have HQ := Lib.hid hq
  have HI := Lib.hid (And.intro i1 (And.intro i2 (And.intro i3 (And.intro i4 i5))))
  have h1 : Env w0 ((w.alloc (.cells #[.int .u8 s.kind, .int .i64 s.handle, .int .u8 s.alg, .int .i64 s.count, .int .i64 s.out, .int .i64 s.data, .int .i64 s.more] 40)).alloc (.cells #[.int .i64 0, .int .u8 0, .int .i64 0, .int .i64 0, .int .i64 0] 54)) (Oc obs ip il P cs v rs ++ [obK w.heap.size 40 (skCells s), obK (w.heap.size + 1) 54 (heCells th0)]) := by
    have h2 := (h.newK 40 (skCells s)).newK 54 (heCells th0)
    rw [List.append_assoc] at h2
    have e1 : (w.alloc (.cells (skCells s) 40)).heap.size = w.heap.size + 1 := by simp
    rw [e1] at h2
    exact h2
  obtain ⟨W, hW⟩ : ∃ y, (w.alloc (.cells #[.int .u8 s.kind, .int .i64 s.handle, .int .u8 s.alg, .int .i64 s.count, .int .i64 s.out, .int .i64 s.data, .int .i64 s.more] 40)).alloc (.cells #[.int .i64 0, .int .u8 0, .int .i64 0, .int .i64 0, .int .i64 0] 54) = y := ⟨_, rfl⟩
  obtain ⟨B2, hB2⟩ : ∃ y, w.heap.size + 1 = y := ⟨_, rfl⟩
  obtain ⟨B1, hB1⟩ : ∃ y, w.heap.size = y := ⟨_, rfl⟩
  rw [hW, hB2, hB1] at h1
  have H1 := Lib.hid h1
  have HNM := Lib.hid (And.intro hW (And.intro hB2 hB1))
  clear h1 h hσ hW hB2 hB1 hx hp hok hmm hd0 hm0 hk hc hc2 ht hdm hn htn hot hq hta i1 i2 i3 i4 i5 i8
  unfold skV rpV
  go_enter Tryz.func22, Tryz.ntmps22
  go_upto_region 3 with fail
  obtain ⟨hW, hB2, hB1⟩ := HNM.out
  rw [hW]
  try rw [hB2]
  try simp only [hB1]
  clear hW hB2 hB1
  have hS : Hid (∀ W c, Env w0 W (Oc obs ip il P cs v rs ++ [obK B1 40 (skCells s), obK B2 54 c]) → SCd B1 P n s t W) := Lib.hid fun W c hW => by
    have q := HP.out.he n t hn64 HTN.out
    have hb := Oc_blk HX.out hW
    exact ⟨skBox (one_blk hW), ⟨hb.cellAt _ q.c0, hb.cellAt _ q.c1, hb.cellAt _ q.c2, hb.cellAt _ q.c3, hb.cellAt _ q.c4⟩⟩
  have hhn := HN.out
  have hbn := HBN.out
  refine hd_start (SCd B1 P n s t) (by kernel_rfl) ?_
  intro w2 hw'
  have H2 := Lib.hid (H1.out.draw 1)
  rw [← hw'] at H2
  clear hw' H1
  have S2 := hS.out _ _ H2.out
  refine hd_take (v := ?_) 0 rfl (by kernel_rfl) (fun _ _ d _ _ h => (by cases d <;> exact h)) (by kernel_rfl) S2 (fun w' hS => ?_) ?_
  rotate_left
  focus (have q0 := SCd.b0 w' hS; have q1 := SCd.b1 w' hS; have q2 := SCd.b2 w' hS; have q3 := SCd.b3 w' hS; have q4 := SCd.b4 w' hS; have q5 := SCd.b5 w' hS; have q6 := SCd.b6 w' hS; have q7 := SCd.h0 w' hS; have q8 := SCd.h1 w' hS; have q9 := SCd.h2 w' hS; have q10 := SCd.h3 w' hS; have q11 := SCd.h4 w' hS; clear hS; go_simp; try rfl; done)
  simp only [List.getElem_toArray, List.getElem_cons_succ, List.getElem_cons_zero, Act.put, List.setIfInBounds_toArray, List.set_cons_zero, List.set_cons_succ]
  refine hd_take (v := ?_) 1 rfl (by kernel_rfl) (fun _ _ d _ _ h => (by cases d <;> exact h)) (by kernel_rfl) S2 (fun w' hS => ?_) ?_
  rotate_left
  focus (have q0 := SCd.b0 w' hS; have q1 := SCd.b1 w' hS; have q2 := SCd.b2 w' hS; have q3 := SCd.b3 w' hS; have q4 := SCd.b4 w' hS; have q5 := SCd.b5 w' hS; have q6 := SCd.b6 w' hS; have q7 := SCd.h0 w' hS; have q8 := SCd.h1 w' hS; have q9 := SCd.h2 w' hS; have q10 := SCd.h3 w' hS; have q11 := SCd.h4 w' hS; clear hS; go_simp; try rfl; done)
  simp only [List.getElem_toArray, List.getElem_cons_succ, List.getElem_cons_zero, Act.put, List.setIfInBounds_toArray, List.set_cons_zero, List.set_cons_succ]
  refine hd_take (v := ?_) 2 rfl (by kernel_rfl) (fun _ _ d _ _ h => (by cases d <;> exact h)) (by kernel_rfl) S2 (fun w' hS => ?_) ?_
  rotate_left
  focus (have q0 := SCd.b0 w' hS; have q1 := SCd.b1 w' hS; have q2 := SCd.b2 w' hS; have q3 := SCd.b3 w' hS; have q4 := SCd.b4 w' hS; have q5 := SCd.b5 w' hS; have q6 := SCd.b6 w' hS; have q7 := SCd.h0 w' hS; have q8 := SCd.h1 w' hS; have q9 := SCd.h2 w' hS; have q10 := SCd.h3 w' hS; have q11 := SCd.h4 w' hS; clear hS; go_simp; try rfl; done)
  simp only [List.getElem_toArray, List.getElem_cons_succ, List.getElem_cons_zero, Act.put, List.setIfInBounds_toArray, List.set_cons_zero, List.set_cons_succ]
  refine hd_take (v := ?_) 3 rfl (by kernel_rfl) (fun _ _ d _ _ h => (by cases d <;> exact h)) (by kernel_rfl) S2 (fun w' hS => ?_) ?_
  rotate_left
  focus (have q0 := SCd.b0 w' hS; have q1 := SCd.b1 w' hS; have q2 := SCd.b2 w' hS; have q3 := SCd.b3 w' hS; have q4 := SCd.b4 w' hS; have q5 := SCd.b5 w' hS; have q6 := SCd.b6 w' hS; have q7 := SCd.h0 w' hS; have q8 := SCd.h1 w' hS; have q9 := SCd.h2 w' hS; have q10 := SCd.h3 w' hS; have q11 := SCd.h4 w' hS; clear hS; go_simp; try rfl; done)
  simp only [List.getElem_toArray, List.getElem_cons_succ, List.getElem_cons_zero, Act.put, List.setIfInBounds_toArray, List.set_cons_zero, List.set_cons_succ]
  refine hd_take (v := ?_) 4 rfl (by kernel_rfl) (fun _ _ d _ _ h => (by cases d <;> exact h)) (by kernel_rfl) S2 (fun w' hS => ?_) ?_
  rotate_left
  focus (have q0 := SCd.b0 w' hS; have q1 := SCd.b1 w' hS; have q2 := SCd.b2 w' hS; have q3 := SCd.b3 w' hS; have q4 := SCd.b4 w' hS; have q5 := SCd.b5 w' hS; have q6 := SCd.b6 w' hS; have q7 := SCd.h0 w' hS; have q8 := SCd.h1 w' hS; have q9 := SCd.h2 w' hS; have q10 := SCd.h3 w' hS; have q11 := SCd.h4 w' hS; clear hS; go_simp; try rfl; done)
  simp only [List.getElem_toArray, List.getElem_cons_succ, List.getElem_cons_zero, Act.put, List.setIfInBounds_toArray, List.set_cons_zero, List.set_cons_succ]
  refine hd_take (v := ?_) 5 rfl (by kernel_rfl) (fun _ _ d _ _ h => (by cases d <;> exact h)) (by kernel_rfl) S2 (fun w' hS => ?_) ?_
  rotate_left
  focus (have q0 := SCd.b0 w' hS; have q1 := SCd.b1 w' hS; have q2 := SCd.b2 w' hS; have q3 := SCd.b3 w' hS; have q4 := SCd.b4 w' hS; have q5 := SCd.b5 w' hS; have q6 := SCd.b6 w' hS; have q7 := SCd.h0 w' hS; have q8 := SCd.h1 w' hS; have q9 := SCd.h2 w' hS; have q10 := SCd.h3 w' hS; have q11 := SCd.h4 w' hS; clear hS; go_simp; try rfl; done)
  simp only [List.getElem_toArray, List.getElem_cons_succ, List.getElem_cons_zero, Act.put, List.setIfInBounds_toArray, List.set_cons_zero, List.set_cons_succ]
  refine hd_take (v := ?_) 6 rfl (by kernel_rfl) (fun _ _ d _ _ h => (by cases d <;> exact h)) (by kernel_rfl) S2 (fun w' hS => ?_) ?_
  rotate_left
  focus (have q0 := SCd.b0 w' hS; have q1 := SCd.b1 w' hS; have q2 := SCd.b2 w' hS; have q3 := SCd.b3 w' hS; have q4 := SCd.b4 w' hS; have q5 := SCd.b5 w' hS; have q6 := SCd.b6 w' hS; have q7 := SCd.h0 w' hS; have q8 := SCd.h1 w' hS; have q9 := SCd.h2 w' hS; have q10 := SCd.h3 w' hS; have q11 := SCd.h4 w' hS; clear hS; go_simp; try rfl; done)
  simp only [List.getElem_toArray, List.getElem_cons_succ, List.getElem_cons_zero, Act.put, List.setIfInBounds_toArray, List.set_cons_zero, List.set_cons_succ]
  have kb2 := two_blk H2.out
  have g0 := kb2.cellAt 0 rfl
  have g1 := kb2.cellAt 1 rfl
  have g2 := kb2.cellAt 2 rfl
  have g3 := kb2.cellAt 3 rfl
  have g4 := kb2.cellAt 4 rfl
  have f0 := kb2.unfrozen 0
  have f1 := kb2.unfrozen 1
  have f2 := kb2.unfrozen 2
  have f3 := kb2.unfrozen 3
  have f4 := kb2.unfrozen 4
  have h3 := two_turn H2.out (box_set kb2 ⟨_, _, _, _, _, rfl⟩ t) box_only
  have S3 := hS.out _ _ h3
  refine hd_one 7 (by kernel_rfl) ?_
  refine op_skip rfl (by kernel_rfl) (by go_simp; first | done | rfl) ?_
  refine ⟨S3, ?_⟩
  simp only [List.getElem_toArray, List.getElem_cons_succ, List.getElem_cons_zero, Act.put, List.setIfInBounds_toArray, List.set_cons_zero, List.set_cons_succ]
  refine hd_done (by kernel_rfl) ?_
  clear S2 S3 kb2 g0 g1 g2 g3 g4 f0 f1 f2 f3 f4 hS hhn hbn
  obtain ⟨w3, hw3⟩ : ∃ y, (((((w2).setCell ⟨B2, 0, none⟩ (.int .i64 t.key)).setCell ⟨B2, 1, none⟩ (.int .u8 t.alg)).setCell ⟨B2, 2, none⟩ (.int .i64 t.out)).setCell ⟨B2, 3, none⟩ (.int .i64 t.custom)).setCell ⟨B2, 4, none⟩ (.int .i64 t.msg) = y := ⟨_, rfl⟩
  rw [hw3] at h3 ⊢
  have H3 := Lib.hid h3
  clear h3 hw3 H2
  have he : hk0 t s + hkTo s (hkN s) = keyB s.alg s.data + tagB s.alg t.key + 2 + hkL s.alg s.more (hkC s.alg s.out) := by
    rw [hkL_is s]
    show keyB s.alg (saltA s) + tagB s.alg t.key + keyB s.alg (hashA s.alg) + hkTo s (hkN s) = _
    have e1 : keyB s.alg (hashA s.alg) = 2 := by rcases HI.out.1 with e | e <;> rw [e] <;> rfl
    have e2 : keyB s.alg (saltA s) = keyB s.alg s.data := by
      unfold saltA
      split
      · rename_i e0
        rw [e1, e0]
        rcases HI.out.1 with e | e <;> rw [e] <;> rfl
      · rfl
    rw [e1, e2]
    rfl
  have hrg := hk0_rng HOT.out HI.out.1 HM.out.2.1 HI.out.2.1
  have hrg2 := hkTo_rng (s := s) HI.out.1 HM.out.2.2 (hkN s)
  have hrg3 := hkN_rng (s := s) HI.out.1 HI.out.2.2.2.1 HI.out.2.2.2.2
  obtain ⟨V, hV⟩ : ∃ V, keyB s.alg s.data + tagB s.alg t.key + 2 + hkL s.alg s.more (hkC s.alg s.out) = V := ⟨_, rfl⟩
  have hVb : V ≤ 100000000 := by
    rw [← hV, ← he]
    have hk1 := HOT.out.k1
    have hd2 := HI.out.2.1
    have hm2 := HI.out.2.2.1
    have h5 : (hkN s : Int) * ((s.more + 65) / 64 + 3) ≤ 16 * 2000 := Int.mul_le_mul (by omega) (by omega) (by have := HM.out.2.2; omega) (by omega)
    omega
  rw [hV] at he
  have HV := Lib.hid (And.intro hV (And.intro he hVb))
  clear hV he hVb hrg hrg2 hrg3
  have SB := SBth.of H3.out
  have y0 := SBth.b0 _ SB
  have y1 := SBth.b1 _ SB
  have y2 := SBth.b2 _ SB
  have y3 := SBth.b3 _ SB
  have y4 := SBth.b4 _ SB
  have y5 := SBth.b5 _ SB
  have y6 := SBth.b6 _ SB
  have z0 := SBth.h0 _ SB
  have z1 := SBth.h1 _ SB
  have z2 := SBth.h2 _ SB
  have z3 := SBth.h3 _ SB
  have z4 := SBth.h4 _ SB
  have HBW := Lib.hid (bA_wide HI.out.1)
  go_upto_region 21 with fail
  clear SB y0 y1 y2 y3 y4 y5 y6 z0 z1 z2 z3 z4
  refine hd_start (SBth B1 B2 s t) (by kernel_rfl) ?_
  intro w5 hw'
  have H5 := Lib.hid (H3.out.draw 1)
  rw [← hw'] at H5
  clear hw' H3
  have S5 := SBth.of H5.out
  refine hd_take (v := ?_) 0 rfl (by kernel_rfl) (fun _ _ d _ _ h => (by cases d <;> exact h)) (by kernel_rfl) S5 (fun w' hS => ?_) ?_
  rotate_left
  focus (have q0 := SBth.b0 w' hS; have q1 := SBth.b1 w' hS; have q2 := SBth.b2 w' hS; have q3 := SBth.b3 w' hS; have q4 := SBth.b4 w' hS; have q5 := SBth.b5 w' hS; have q6 := SBth.b6 w' hS; have q7 := SBth.h0 w' hS; have q8 := SBth.h1 w' hS; have q9 := SBth.h2 w' hS; have q10 := SBth.h3 w' hS; have q11 := SBth.h4 w' hS; clear hS; go_simp; try rfl; done)
  simp only [List.getElem_toArray, List.getElem_cons_succ, List.getElem_cons_zero, Act.put, List.setIfInBounds_toArray, List.set_cons_zero, List.set_cons_succ]
  refine hd_take (v := ?_) 1 rfl (by kernel_rfl) (fun _ _ d _ _ h => (by cases d <;> exact h)) (by kernel_rfl) S5 (fun w' hS => ?_) ?_
  rotate_left
  focus (have q0 := SBth.b0 w' hS; have q1 := SBth.b1 w' hS; have q2 := SBth.b2 w' hS; have q3 := SBth.b3 w' hS; have q4 := SBth.b4 w' hS; have q5 := SBth.b5 w' hS; have q6 := SBth.b6 w' hS; have q7 := SBth.h0 w' hS; have q8 := SBth.h1 w' hS; have q9 := SBth.h2 w' hS; have q10 := SBth.h3 w' hS; have q11 := SBth.h4 w' hS; clear hS; go_simp; try rfl; done)
  simp only [List.getElem_toArray, List.getElem_cons_succ, List.getElem_cons_zero, Act.put, List.setIfInBounds_toArray, List.set_cons_zero, List.set_cons_succ]
  refine hd_take (v := ?_) 2 rfl (by kernel_rfl) (fun _ _ d _ _ h => (by cases d <;> exact h)) (by kernel_rfl) S5 (fun w' hS => ?_) ?_
  rotate_left
  focus (have q0 := SBth.b0 w' hS; have q1 := SBth.b1 w' hS; have q2 := SBth.b2 w' hS; have q3 := SBth.b3 w' hS; have q4 := SBth.b4 w' hS; have q5 := SBth.b5 w' hS; have q6 := SBth.b6 w' hS; have q7 := SBth.h0 w' hS; have q8 := SBth.h1 w' hS; have q9 := SBth.h2 w' hS; have q10 := SBth.h3 w' hS; have q11 := SBth.h4 w' hS; clear hS; go_simp; try rfl; done)
  simp only [List.getElem_toArray, List.getElem_cons_succ, List.getElem_cons_zero, Act.put, List.setIfInBounds_toArray, List.set_cons_zero, List.set_cons_succ]
  refine hd_take (v := ?_) 4 rfl (by kernel_rfl) (fun _ _ d _ _ h => (by cases d <;> exact h)) (by kernel_rfl) S5 (fun w' hS => ?_) ?_
  rotate_left
  focus (have q0 := SBth.b0 w' hS; have q1 := SBth.b1 w' hS; have q2 := SBth.b2 w' hS; have q3 := SBth.b3 w' hS; have q4 := SBth.b4 w' hS; have q5 := SBth.b5 w' hS; have q6 := SBth.b6 w' hS; have q7 := SBth.h0 w' hS; have q8 := SBth.h1 w' hS; have q9 := SBth.h2 w' hS; have q10 := SBth.h3 w' hS; have q11 := SBth.h4 w' hS; clear hS; go_simp; try rfl; done)
  simp only [List.getElem_toArray, List.getElem_cons_succ, List.getElem_cons_zero, Act.put, List.setIfInBounds_toArray, List.set_cons_zero, List.set_cons_succ]
  refine hd_take (v := ?_) 5 rfl (by kernel_rfl) (fun _ _ d _ _ h => (by cases d <;> exact h)) (by kernel_rfl) S5 (fun w' hS => ?_) ?_
  rotate_left
  focus (have q0 := SBth.b0 w' hS; have q1 := SBth.b1 w' hS; have q2 := SBth.b2 w' hS; have q3 := SBth.b3 w' hS; have q4 := SBth.b4 w' hS; have q5 := SBth.b5 w' hS; have q6 := SBth.b6 w' hS; have q7 := SBth.h0 w' hS; have q8 := SBth.h1 w' hS; have q9 := SBth.h2 w' hS; have q10 := SBth.h3 w' hS; have q11 := SBth.h4 w' hS; clear hS; go_simp; try rfl; done)
  simp only [List.getElem_toArray, List.getElem_cons_succ, List.getElem_cons_zero, Act.put, List.setIfInBounds_toArray, List.set_cons_zero, List.set_cons_succ]
  refine hd_take (v := ?_) 7 rfl (by kernel_rfl) (fun _ _ d _ _ h => (by cases d <;> exact h)) (by kernel_rfl) S5 (fun w' hS => ?_) ?_
  rotate_left
  focus (have q0 := SBth.b0 w' hS; have q1 := SBth.b1 w' hS; have q2 := SBth.b2 w' hS; have q3 := SBth.b3 w' hS; have q4 := SBth.b4 w' hS; have q5 := SBth.b5 w' hS; have q6 := SBth.b6 w' hS; have q7 := SBth.h0 w' hS; have q8 := SBth.h1 w' hS; have q9 := SBth.h2 w' hS; have q10 := SBth.h3 w' hS; have q11 := SBth.h4 w' hS; clear hS; go_simp; try rfl; done)
  simp only [List.getElem_toArray, List.getElem_cons_succ, List.getElem_cons_zero, Act.put, List.setIfInBounds_toArray, List.set_cons_zero, List.set_cons_succ]
  refine hd_take (v := ?_) 8 rfl (by kernel_rfl) (fun _ _ d _ _ h => (by cases d <;> exact h)) (by kernel_rfl) S5 (fun w' hS => ?_) ?_
  rotate_left
  focus (have q0 := SBth.b0 w' hS; have q1 := SBth.b1 w' hS; have q2 := SBth.b2 w' hS; have q3 := SBth.b3 w' hS; have q4 := SBth.b4 w' hS; have q5 := SBth.b5 w' hS; have q6 := SBth.b6 w' hS; have q7 := SBth.h0 w' hS; have q8 := SBth.h1 w' hS; have q9 := SBth.h2 w' hS; have q10 := SBth.h3 w' hS; have q11 := SBth.h4 w' hS; clear hS; go_simp; try rfl; done)
  simp only [List.getElem_toArray, List.getElem_cons_succ, List.getElem_cons_zero, Act.put, List.setIfInBounds_toArray, List.set_cons_zero, List.set_cons_succ]
  refine hd_take (v := ?_) 9 rfl (by kernel_rfl) (fun _ _ d _ _ h => (by cases d <;> exact h)) (by kernel_rfl) S5 (fun w' hS => ?_) ?_
  rotate_left
  focus (have q0 := SBth.b0 w' hS; have q1 := SBth.b1 w' hS; have q2 := SBth.b2 w' hS; have q3 := SBth.b3 w' hS; have q4 := SBth.b4 w' hS; have q5 := SBth.b5 w' hS; have q6 := SBth.b6 w' hS; have q7 := SBth.h0 w' hS; have q8 := SBth.h1 w' hS; have q9 := SBth.h2 w' hS; have q10 := SBth.h3 w' hS; have q11 := SBth.h4 w' hS; clear hS; go_simp; try rfl; done)
  simp only [List.getElem_toArray, List.getElem_cons_succ, List.getElem_cons_zero, Act.put, List.setIfInBounds_toArray, List.set_cons_zero, List.set_cons_succ]
  refine hd_take (v := ?_) 10 rfl (by kernel_rfl) (fun _ _ d _ _ h => (by cases d <;> exact h)) (by kernel_rfl) S5 (fun w' hS => ?_) ?_
  rotate_left
  focus (have q0 := SBth.b0 w' hS; have q1 := SBth.b1 w' hS; have q2 := SBth.b2 w' hS; have q3 := SBth.b3 w' hS; have q4 := SBth.b4 w' hS; have q5 := SBth.b5 w' hS; have q6 := SBth.b6 w' hS; have q7 := SBth.h0 w' hS; have q8 := SBth.h1 w' hS; have q9 := SBth.h2 w' hS; have q10 := SBth.h3 w' hS; have q11 := SBth.h4 w' hS; clear hS; go_simp; try rfl; done)
  simp only [List.getElem_toArray, List.getElem_cons_succ, List.getElem_cons_zero, Act.put, List.setIfInBounds_toArray, List.set_cons_zero, List.set_cons_succ]
  refine hd_take (v := ?_) 11 rfl (by kernel_rfl) (fun _ _ d _ _ h => (by cases d <;> exact h)) (by kernel_rfl) S5 (fun w' hS => ?_) ?_
  rotate_left
  focus (have q0 := SBth.b0 w' hS; have q1 := SBth.b1 w' hS; have q2 := SBth.b2 w' hS; have q3 := SBth.b3 w' hS; have q4 := SBth.b4 w' hS; have q5 := SBth.b5 w' hS; have q6 := SBth.b6 w' hS; have q7 := SBth.h0 w' hS; have q8 := SBth.h1 w' hS; have q9 := SBth.h2 w' hS; have q10 := SBth.h3 w' hS; have q11 := SBth.h4 w' hS; clear hS; go_simp; try rfl; done)
  simp only [List.getElem_toArray, List.getElem_cons_succ, List.getElem_cons_zero, Act.put, List.setIfInBounds_toArray, List.set_cons_zero, List.set_cons_succ]
  refine hd_take (v := ?_) 12 rfl (by kernel_rfl) (fun _ _ d _ _ h => (by cases d <;> exact h)) (by kernel_rfl) S5 (fun w' hS => ?_) ?_
  rotate_left
  focus (have q0 := SBth.b0 w' hS; have q1 := SBth.b1 w' hS; have q2 := SBth.b2 w' hS; have q3 := SBth.b3 w' hS; have q4 := SBth.b4 w' hS; have q5 := SBth.b5 w' hS; have q6 := SBth.b6 w' hS; have q7 := SBth.h0 w' hS; have q8 := SBth.h1 w' hS; have q9 := SBth.h2 w' hS; have q10 := SBth.h3 w' hS; have q11 := SBth.h4 w' hS; clear hS; go_simp; try rfl; done)
  simp only [List.getElem_toArray, List.getElem_cons_succ, List.getElem_cons_zero, Act.put, List.setIfInBounds_toArray, List.set_cons_zero, List.set_cons_succ]
  refine hd_take (v := ?_) 13 rfl (by kernel_rfl) (fun _ _ d _ _ h => (by cases d <;> exact h)) (by kernel_rfl) S5 (fun w' hS => ?_) ?_
  rotate_left
  focus (have q0 := SBth.b0 w' hS; have q1 := SBth.b1 w' hS; have q2 := SBth.b2 w' hS; have q3 := SBth.b3 w' hS; have q4 := SBth.b4 w' hS; have q5 := SBth.b5 w' hS; have q6 := SBth.b6 w' hS; have q7 := SBth.h0 w' hS; have q8 := SBth.h1 w' hS; have q9 := SBth.h2 w' hS; have q10 := SBth.h3 w' hS; have q11 := SBth.h4 w' hS; clear hS; go_simp; try rfl; done)
  simp only [List.getElem_toArray, List.getElem_cons_succ, List.getElem_cons_zero, Act.put, List.setIfInBounds_toArray, List.set_cons_zero, List.set_cons_succ]
  refine hd_take (v := ?_) 14 rfl (by kernel_rfl) (fun _ _ d _ _ h => (by cases d <;> exact h)) (by kernel_rfl) S5 (fun w' hS => ?_) ?_
  rotate_left
  focus (have q0 := SBth.b0 w' hS; have q1 := SBth.b1 w' hS; have q2 := SBth.b2 w' hS; have q3 := SBth.b3 w' hS; have q4 := SBth.b4 w' hS; have q5 := SBth.b5 w' hS; have q6 := SBth.b6 w' hS; have q7 := SBth.h0 w' hS; have q8 := SBth.h1 w' hS; have q9 := SBth.h2 w' hS; have q10 := SBth.h3 w' hS; have q11 := SBth.h4 w' hS; clear hS; go_simp; try rfl; done)
  simp only [List.getElem_toArray, List.getElem_cons_succ, List.getElem_cons_zero, Act.put, List.setIfInBounds_toArray, List.set_cons_zero, List.set_cons_succ]
  refine hd_take (v := ?_) 15 rfl (by kernel_rfl) (fun _ _ d _ _ h => (by cases d <;> exact h)) (by kernel_rfl) S5 (fun w' hS => ?_) ?_
  rotate_left
  focus (have q0 := SBth.b0 w' hS; have q1 := SBth.b1 w' hS; have q2 := SBth.b2 w' hS; have q3 := SBth.b3 w' hS; have q4 := SBth.b4 w' hS; have q5 := SBth.b5 w' hS; have q6 := SBth.b6 w' hS; have q7 := SBth.h0 w' hS; have q8 := SBth.h1 w' hS; have q9 := SBth.h2 w' hS; have q10 := SBth.h3 w' hS; have q11 := SBth.h4 w' hS; clear hS; go_simp; try rfl; done)
  simp only [List.getElem_toArray, List.getElem_cons_succ, List.getElem_cons_zero, Act.put, List.setIfInBounds_toArray, List.set_cons_zero, List.set_cons_succ]
  refine hd_take (v := ?_) 16 rfl (by kernel_rfl) (fun _ _ d _ _ h => (by cases d <;> exact h)) (by kernel_rfl) S5 (fun w' hS => ?_) ?_
  rotate_left
  focus (have q0 := SBth.b0 w' hS; have q1 := SBth.b1 w' hS; have q2 := SBth.b2 w' hS; have q3 := SBth.b3 w' hS; have q4 := SBth.b4 w' hS; have q5 := SBth.b5 w' hS; have q6 := SBth.b6 w' hS; have q7 := SBth.h0 w' hS; have q8 := SBth.h1 w' hS; have q9 := SBth.h2 w' hS; have q10 := SBth.h3 w' hS; have q11 := SBth.h4 w' hS; clear hS; go_simp; try rfl; done)
  simp only [List.getElem_toArray, List.getElem_cons_succ, List.getElem_cons_zero, Act.put, List.setIfInBounds_toArray, List.set_cons_zero, List.set_cons_succ]
  refine hd_one 3 (by kernel_rfl) ?_
  refine op_call rfl (by kernel_rfl) (by go_simp; first | exact ⟨rfl, rfl⟩ | rfl) ?_
  refine (revent_any s.alg HI.out.1 w5).mono ?_
  rintro e wx ⟨he, hw⟩
  subst he
  subst hw
  have hS2 := S5
  refine ⟨_, rfl, hS2, ?_⟩
  simp only [List.getElem_toArray, List.getElem_cons_succ, List.getElem_cons_zero, Act.put, List.setIfInBounds_toArray, List.set_cons_zero, List.set_cons_succ]
  refine hd_one 6 (by kernel_rfl) ?_
  refine op_call rfl (by kernel_rfl) (by go_simp; first | exact ⟨rfl, rfl⟩ | rfl) ?_
  refine (rblock_any s.alg w5).mono ?_
  rintro e wx ⟨he, hw⟩
  rw [HBW.out] at he
  subst he
  subst hw
  have hS2 := S5
  refine ⟨_, rfl, hS2, ?_⟩
  simp only [List.getElem_toArray, List.getElem_cons_succ, List.getElem_cons_zero, Act.put, List.setIfInBounds_toArray, List.set_cons_zero, List.set_cons_succ]
  refine hd_one 17 (by kernel_rfl) ?_
  refine op_call rfl (by kernel_rfl) (by go_simp; first | exact ⟨rfl, rfl⟩ | rfl) ?_
  refine (rhkdf_any s.alg t.key s.data s.more s.out HI.out.1 HOT.out.k0 (by have := HOT.out.k1; omega) HM.out.2.1 (by have := HI.out.2.1; omega) HM.out.2.2 (by have := HI.out.2.2.1; omega) HI.out.2.2.2.1 HI.out.2.2.2.2 w5).mono ?_
  rintro e w6 ⟨he, hb⟩
  rw [HV.out.1] at he
  subst he
  have H6 := Lib.hid (H5.out.below hb)
  have hS2 := SBth.of H6.out
  clear hb
  refine ⟨_, rfl, hS2, ?_⟩
  simp only [List.getElem_toArray, List.getElem_cons_succ, List.getElem_cons_zero, Act.put, List.setIfInBounds_toArray, List.set_cons_zero, List.set_cons_succ]
  refine hd_one 18 (by kernel_rfl) ?_
  refine op_call rfl (by kernel_rfl) (by go_simp; first | exact ⟨rfl, rfl⟩ | rfl) ?_
  refine (rput_d HX.out H6.out (evkA s.alg) (wideA s.alg) V (HOK.out.le (by omega)) (by have := HV.out.2.2; omega)).mono ?_
  rintro e w7 ⟨v7, rfl, h7⟩
  have H7 := Lib.hid h7
  have hS2 := SBth.of H7.out
  have S7 := hS2
  clear h7
  refine ⟨_, rfl, hS2, ?_⟩
  simp only [List.getElem_toArray, List.getElem_cons_succ, List.getElem_cons_zero, Act.put, List.setIfInBounds_toArray, List.set_cons_zero, List.set_cons_succ]
  refine hd_take (v := ?_) 19 rfl (by kernel_rfl) (fun _ _ d _ _ h => (by cases d <;> exact h)) (by kernel_rfl) S7 (fun w' hS => ?_) ?_
  rotate_left
  focus (clear hS; go_simp; try rfl; done)
  simp only [List.getElem_toArray, List.getElem_cons_succ, List.getElem_cons_zero, Act.put, List.setIfInBounds_toArray, List.set_cons_zero, List.set_cons_succ]
  refine hd_done (by kernel_rfl) ?_
  clear S5 S7
  have kb2 := two_blk H7.out
  have SBn := SBth.of H7.out
  have x0 := SBth.b0 _ SBn
  have x1 := SBth.b1 _ SBn
  have x2 := SBth.b2 _ SBn
  have x3 := SBth.b3 _ SBn
  have x4 := SBth.b4 _ SBn
  have x5 := SBth.b5 _ SBn
  have x6 := SBth.b6 _ SBn
  have g0 := SBth.h0 _ SBn
  have g1 := SBth.h1 _ SBn
  have g2 := SBth.h2 _ SBn
  have g3 := SBth.h3 _ SBn
  have g4 := SBth.h4 _ SBn
  have f0 := kb2.unfrozen 0
  have f1 := kb2.unfrozen 1
  have f2 := kb2.unfrozen 2
  have f3 := kb2.unfrozen 3
  have f4 := kb2.unfrozen 4
  have hset := two_turn H7.out (box_set kb2 ⟨_, _, _, _, _, rfl⟩ (⟨0, 0, s.out, 0, 0⟩ : Th)) box_only
  have HS := Lib.hid hset
  go_upto_region 29 with fail
  clear kb2 SBn g0 g1 g2 g3 g4 f0 f1 f2 f3 f4 x0 x1 x2 x3 x4 x5 x6
  clear hset
  obtain ⟨w10, hw10⟩ : ∃ y, (((((w7).setCell ⟨B2, 0, none⟩ (.int .i64 s.out)).setCell ⟨B2, 1, none⟩ (.int .u8 0)).setCell ⟨B2, 2, none⟩ (.int .i64 0)).setCell ⟨B2, 3, none⟩ (.int .i64 0)).setCell ⟨B2, 4, none⟩ (.int .i64 0) = y := ⟨_, rfl⟩
  have h10 : Env w0 w10 (Oc obs ip il P cs v7 (timesN rs ⟨evkA s.alg, wideA s.alg, V⟩) ++ [obK B1 40 (skCells s), obK B2 54 (heCells (⟨0, 0, s.out, 0, 0⟩ : Th))]) := by rw [← hw10]; exact HS.out
  rw [hw10]
  have y0 := SBth.b0 _ (SBth.of h10)
  have H11 := Lib.hid h10
  clear h10 hw10 HS
  go_wp2_with fail
  clear y0
  refine (rtakes_any s.kind _).mono ?_
  rintro e wt ⟨rfl, rfl⟩
  rw [HTK.out]
  go_wp2_with fail
  refine (rfree_any (σ := σ) ⟨_, Oc_blk HX.out H11.out, HP.out⟩).mono ?_
  rintro e wt ⟨rfl, rfl⟩
  rw [frR_is HQ.out]
  obtain ⟨vq, hvq⟩ := cell_of (Oc_blk HX.out H11.out) HP.out.size (k := q) (by omega)
  have fq := (Oc_blk HX.out H11.out).unfrozen q
  have bq : 0 ≤ (q : Int) ∧ (q : Int) < 64 := by omega
  have h4 := Oc_turn HX.out H11.out ((Oc_blk HX.out H11.out).set q (.bool true)) ((Only.refl (fun x => x = P) _).set (p := ⟨P, q, none⟩) (.inl rfl) _)
  go_upto_region 32 with fail
  obtain ⟨w8, hw8⟩ : ∃ y, World.setCell w10 ⟨P, q, none⟩ (.bool true) = y := ⟨_, rfl⟩
  rw [hw8] at h4 ⊢
  have H8 := Lib.hid h4
  clear h4 hw8 hvq fq
  refine hd_start (SBth B1 B2 s (⟨0, 0, s.out, 0, 0⟩ : Th)) (by kernel_rfl) ?_
  intro w9 hw'
  have H9 := Lib.hid (H8.out.draw 1)
  rw [← hw'] at H9
  clear hw' H8
  have S9 := SBth.of H9.out
  refine hd_take (v := ?_) 0 rfl (by kernel_rfl) (fun _ _ d _ _ h => (by cases d <;> exact h)) (by kernel_rfl) S9 (fun w' hS => ?_) ?_
  rotate_left
  focus (have q0 := SBth.b0 w' hS; have q1 := SBth.b1 w' hS; have q2 := SBth.b2 w' hS; have q3 := SBth.b3 w' hS; have q4 := SBth.b4 w' hS; have q5 := SBth.b5 w' hS; have q6 := SBth.b6 w' hS; have q7 := SBth.h0 w' hS; have q8 := SBth.h1 w' hS; have q9 := SBth.h2 w' hS; have q10 := SBth.h3 w' hS; have q11 := SBth.h4 w' hS; clear hS; go_simp; try rfl; done)
  simp only [List.getElem_toArray, List.getElem_cons_succ, List.getElem_cons_zero, Act.put, List.setIfInBounds_toArray, List.set_cons_zero, List.set_cons_succ]
  refine hd_take (v := ?_) 1 rfl (by kernel_rfl) (fun _ _ d _ _ h => (by cases d <;> exact h)) (by kernel_rfl) S9 (fun w' hS => ?_) ?_
  rotate_left
  focus (have q0 := SBth.b0 w' hS; have q1 := SBth.b1 w' hS; have q2 := SBth.b2 w' hS; have q3 := SBth.b3 w' hS; have q4 := SBth.b4 w' hS; have q5 := SBth.b5 w' hS; have q6 := SBth.b6 w' hS; have q7 := SBth.h0 w' hS; have q8 := SBth.h1 w' hS; have q9 := SBth.h2 w' hS; have q10 := SBth.h3 w' hS; have q11 := SBth.h4 w' hS; clear hS; go_simp; try rfl; done)
  simp only [List.getElem_toArray, List.getElem_cons_succ, List.getElem_cons_zero, Act.put, List.setIfInBounds_toArray, List.set_cons_zero, List.set_cons_succ]
  refine hd_take (v := ?_) 2 rfl (by kernel_rfl) (fun _ _ d _ _ h => (by cases d <;> exact h)) (by kernel_rfl) S9 (fun w' hS => ?_) ?_
  rotate_left
  focus (have q0 := SBth.b0 w' hS; have q1 := SBth.b1 w' hS; have q2 := SBth.b2 w' hS; have q3 := SBth.b3 w' hS; have q4 := SBth.b4 w' hS; have q5 := SBth.b5 w' hS; have q6 := SBth.b6 w' hS; have q7 := SBth.h0 w' hS; have q8 := SBth.h1 w' hS; have q9 := SBth.h2 w' hS; have q10 := SBth.h3 w' hS; have q11 := SBth.h4 w' hS; clear hS; go_simp; try rfl; done)
  simp only [List.getElem_toArray, List.getElem_cons_succ, List.getElem_cons_zero, Act.put, List.setIfInBounds_toArray, List.set_cons_zero, List.set_cons_succ]
  refine hd_take (v := ?_) 3 rfl (by kernel_rfl) (fun _ _ d _ _ h => (by cases d <;> exact h)) (by kernel_rfl) S9 (fun w' hS => ?_) ?_
  rotate_left
  focus (have q0 := SBth.b0 w' hS; have q1 := SBth.b1 w' hS; have q2 := SBth.b2 w' hS; have q3 := SBth.b3 w' hS; have q4 := SBth.b4 w' hS; have q5 := SBth.b5 w' hS; have q6 := SBth.b6 w' hS; have q7 := SBth.h0 w' hS; have q8 := SBth.h1 w' hS; have q9 := SBth.h2 w' hS; have q10 := SBth.h3 w' hS; have q11 := SBth.h4 w' hS; clear hS; go_simp; try rfl; done)
  simp only [List.getElem_toArray, List.getElem_cons_succ, List.getElem_cons_zero, Act.put, List.setIfInBounds_toArray, List.set_cons_zero, List.set_cons_succ]
  refine hd_take (v := ?_) 4 rfl (by kernel_rfl) (fun _ _ d _ _ h => (by cases d <;> exact h)) (by kernel_rfl) S9 (fun w' hS => ?_) ?_
  rotate_left
  focus (have q0 := SBth.b0 w' hS; have q1 := SBth.b1 w' hS; have q2 := SBth.b2 w' hS; have q3 := SBth.b3 w' hS; have q4 := SBth.b4 w' hS; have q5 := SBth.b5 w' hS; have q6 := SBth.b6 w' hS; have q7 := SBth.h0 w' hS; have q8 := SBth.h1 w' hS; have q9 := SBth.h2 w' hS; have q10 := SBth.h3 w' hS; have q11 := SBth.h4 w' hS; clear hS; go_simp; try rfl; done)
  simp only [List.getElem_toArray, List.getElem_cons_succ, List.getElem_cons_zero, Act.put, List.setIfInBounds_toArray, List.set_cons_zero, List.set_cons_succ]
  refine hd_take (v := ?_) 5 rfl (by kernel_rfl) (fun _ _ d _ _ h => (by cases d <;> exact h)) (by kernel_rfl) S9 (fun w' hS => ?_) ?_
  rotate_left
  focus (have q0 := SBth.b0 w' hS; have q1 := SBth.b1 w' hS; have q2 := SBth.b2 w' hS; have q3 := SBth.b3 w' hS; have q4 := SBth.b4 w' hS; have q5 := SBth.b5 w' hS; have q6 := SBth.b6 w' hS; have q7 := SBth.h0 w' hS; have q8 := SBth.h1 w' hS; have q9 := SBth.h2 w' hS; have q10 := SBth.h3 w' hS; have q11 := SBth.h4 w' hS; clear hS; go_simp; try rfl; done)
  simp only [List.getElem_toArray, List.getElem_cons_succ, List.getElem_cons_zero, Act.put, List.setIfInBounds_toArray, List.set_cons_zero, List.set_cons_succ]
  have hsz : (cs.setIfInBounds q (.bool true)).size = 384 := set_size HP.out.size
  have kbp := Oc_blk HX.out H9.out
  obtain ⟨u0, g0⟩ := cell_of kbp hsz (k := 64 + q * 5) (by omega)
  obtain ⟨u1, g1⟩ := cell_of kbp hsz (k := 64 + q * 5 + 1) (by omega)
  obtain ⟨u2, g2⟩ := cell_of kbp hsz (k := 64 + q * 5 + 2) (by omega)
  obtain ⟨u3, g3⟩ := cell_of kbp hsz (k := 64 + q * 5 + 3) (by omega)
  obtain ⟨u4, g4⟩ := cell_of kbp hsz (k := 64 + q * 5 + 4) (by omega)
  have f0 := kbp.unfrozen (64 + q * 5)
  have f1 := kbp.unfrozen (64 + q * 5 + 1)
  have f2 := kbp.unfrozen (64 + q * 5 + 2)
  have f3 := kbp.unfrozen (64 + q * 5 + 3)
  have f4 := kbp.unfrozen (64 + q * 5 + 4)
  have h10 := Oc_turn HX.out H9.out (pub_set (n := q) kbp (⟨0, 0, s.out, 0, 0⟩ : Th)) pub_only
  have S10 := SBth.of h10
  have H10 := Lib.hid h10
  refine hd_one 6 (by kernel_rfl) ?_
  refine op_skip rfl (by kernel_rfl) (by go_simp; first | done | rfl) ?_
  refine ⟨S10, ?_⟩
  simp only [List.getElem_toArray, List.getElem_cons_succ, List.getElem_cons_zero, Act.put, List.setIfInBounds_toArray, List.set_cons_zero, List.set_cons_succ]
  refine hd_done (by kernel_rfl) ?_
  clear S9 S10 kbp g0 g1 g2 g3 g4 f0 f1 f2 f3 f4 h10 bq
  go_wp2_with fail
  go_ret
  first | refine ⟨_, rfl, heSet (cs.setIfInBounds q (.bool true)) q (⟨0, 0, s.out, 0, 0⟩ : Th), ?_, ?_⟩ | refine ⟨_, heSet (cs.setIfInBounds q (.bool true)) q (⟨0, 0, s.out, 0, 0⟩ : Th), rfl, ?_, ?_⟩
  · rw [HNX.out]
    exact HP.out.take hq64 _
  · rw [HEV.out]
    rw [HV.out.2.1]; exact two_drop H10.out
set_option maxHeartbeats 8000000 in
theorem rdone8_env (hx : OcI obs ip il) (h : Env w0 w (Oc obs ip il P cs v rs)) (hp : PubCs cs σ) (hok : OKr rs 8) (hσ : OKh mm σ) (hmm : mm ≤ 90000000) (s : Sk) (hd0 : 0 ≤ s.data) (hm0 : 0 ≤ s.more) (hk : s.kind = 8) (hc : codeS σ s = 0) :
    Calls Tryz.prog 22 #[rpV P, v, skV s] w fun e w' => ∃ v' cs', e = .returned v' ∧ PubCs cs' (nxS σ s) ∧ Env w0 w' (Oc obs ip il P cs' v' ((evS σ s).foldl timesN rs)) := by
  have hc2 : pbkC σ s = 0 := by unfold codeS at hc; rw [hk] at hc; simpa using hc
  obtain ⟨t, ht, hta, i1, i2, i3, i4, i5, i6, i8⟩ := pbkC_zero hc2
  have hdm := hσ.dom _ _ ht
  obtain ⟨n, hn⟩ : ∃ n : Nat, s.handle = (n : Int) := ⟨s.handle.toNat, by omega⟩
  have hn64 : n < 64 := by omega
  have htn : σ (n : Int) = some t := by rw [← hn]; exact ht
  have hot := hσ.ok _ _ ht
  obtain ⟨q, hq, hq64⟩ := free_of i8
  have HEV : Hid (evS σ s = [⟨evkA s.alg, wideA s.alg, pbA t s⟩]) := Lib.hid (by unfold evS; simp only [hk, ht, Option.getD_some]; first | rfl | simp)
  have HNX : Hid (nxS σ s = σ.put (q : Int) (some (⟨0, 0, s.out, 0, 0⟩ : Th))) := Lib.hid (by unfold nxS; simp only [hk, ht, Option.getD_some]; first | exact take_is hq _ | simpa using take_is hq _)
  have HTK : Hid (takesR s.kind = true) := Lib.hid (by rw [hk]; rfl)
  have t1 : (s.kind == (1 : Int)) = false := beq_f (by omega)
  have t2 : (s.kind == (2 : Int)) = false := beq_f (by omega)
  have t3 : (s.kind == (3 : Int)) = false := beq_f (by omega)
  have t4 : (s.kind == (4 : Int)) = false := beq_f (by omega)
  have t5 : (s.kind == (5 : Int)) = false := beq_f (by omega)
  have t7 : (s.kind == (7 : Int)) = false := beq_f (by omega)
  have t8 : (s.kind == (8 : Int)) = true := beq_t hk
  have t10 : (s.kind == (10 : Int)) = false := beq_f (by omega)
  have t0 : (s.kind != (1 : Int)) = true := bne_t (by omega)
  have HX := Lib.hid hx
  have HP := Lib.hid hp
  have HOK := Lib.hid hok
  have HM := Lib.hid (And.intro hmm (And.intro hd0 hm0))
  have HN : Hid (s.handle.toNat = n) := Lib.hid (by omega)
  have HBN : Hid (0 ≤ s.handle ∧ s.handle < 64) := Lib.hid (by omega)
  have HTN := Lib.hid htn
  have HOT := Lib.hid hot
  have HQ := Lib.hid hq
  have HI := Lib.hid (And.intro i1 (And.intro i2 (And.intro i3 (And.intro i4 (And.intro i5 i6)))))
  have h1 : Env w0 ((w.alloc (.cells #[.int .u8 s.kind, .int .i64 s.handle, .int .u8 s.alg, .int .i64 s.count, .int .i64 s.out, .int .i64 s.data, .int .i64 s.more] 40)).alloc (.cells #[.int .i64 0, .int .u8 0, .int .i64 0, .int .i64 0, .int .i64 0] 54)) (Oc obs ip il P cs v rs ++ [obK w.heap.size 40 (skCells s), obK (w.heap.size + 1) 54 (heCells th0)]) := by
    have h2 := (h.newK 40 (skCells s)).newK 54 (heCells th0)
    rw [List.append_assoc] at h2
    have e1 : (w.alloc (.cells (skCells s) 40)).heap.size = w.heap.size + 1 := by simp
    rw [e1] at h2
    exact h2
  obtain ⟨W, hW⟩ : ∃ y, (w.alloc (.cells #[.int .u8 s.kind, .int .i64 s.handle, .int .u8 s.alg, .int .i64 s.count, .int .i64 s.out, .int .i64 s.data, .int .i64 s.more] 40)).alloc (.cells #[.int .i64 0, .int .u8 0, .int .i64 0, .int .i64 0, .int .i64 0] 54) = y := ⟨_, rfl⟩
  obtain ⟨B2, hB2⟩ : ∃ y, w.heap.size + 1 = y := ⟨_, rfl⟩
  obtain ⟨B1, hB1⟩ : ∃ y, w.heap.size = y := ⟨_, rfl⟩
  rw [hW, hB2, hB1] at h1
  have H1 := Lib.hid h1
  have HNM := Lib.hid (And.intro hW (And.intro hB2 hB1))
  clear h1 h hσ hW hB2 hB1 hx hp hok hmm hd0 hm0 hk hc hc2 ht hdm hn htn hot hq hta i1 i2 i3 i4 i5 i6 i8
  unfold skV rpV
  go_enter Tryz.func22, Tryz.ntmps22
  go_upto_region 3 with fail
  obtain ⟨hW, hB2, hB1⟩ := HNM.out
  rw [hW]
  try rw [hB2]
  try simp only [hB1]
  clear hW hB2 hB1
  have hS : Hid (∀ W c, Env w0 W (Oc obs ip il P cs v rs ++ [obK B1 40 (skCells s), obK B2 54 c]) → SCd B1 P n s t W) := Lib.hid fun W c hW => by
    have q := HP.out.he n t hn64 HTN.out
    have hb := Oc_blk HX.out hW
    exact ⟨skBox (one_blk hW), ⟨hb.cellAt _ q.c0, hb.cellAt _ q.c1, hb.cellAt _ q.c2, hb.cellAt _ q.c3, hb.cellAt _ q.c4⟩⟩
  have hhn := HN.out
  have hbn := HBN.out
  refine hd_start (SCd B1 P n s t) (by kernel_rfl) ?_
  intro w2 hw'
  have H2 := Lib.hid (H1.out.draw 1)
  rw [← hw'] at H2
  clear hw' H1
  have S2 := hS.out _ _ H2.out
  refine hd_take (v := ?_) 0 rfl (by kernel_rfl) (fun _ _ d _ _ h => (by cases d <;> exact h)) (by kernel_rfl) S2 (fun w' hS => ?_) ?_
  rotate_left
  focus (have q0 := SCd.b0 w' hS; have q1 := SCd.b1 w' hS; have q2 := SCd.b2 w' hS; have q3 := SCd.b3 w' hS; have q4 := SCd.b4 w' hS; have q5 := SCd.b5 w' hS; have q6 := SCd.b6 w' hS; have q7 := SCd.h0 w' hS; have q8 := SCd.h1 w' hS; have q9 := SCd.h2 w' hS; have q10 := SCd.h3 w' hS; have q11 := SCd.h4 w' hS; clear hS; go_simp; try rfl; done)
  simp only [List.getElem_toArray, List.getElem_cons_succ, List.getElem_cons_zero, Act.put, List.setIfInBounds_toArray, List.set_cons_zero, List.set_cons_succ]
  refine hd_take (v := ?_) 1 rfl (by kernel_rfl) (fun _ _ d _ _ h => (by cases d <;> exact h)) (by kernel_rfl) S2 (fun w' hS => ?_) ?_
  rotate_left
  focus (have q0 := SCd.b0 w' hS; have q1 := SCd.b1 w' hS; have q2 := SCd.b2 w' hS; have q3 := SCd.b3 w' hS; have q4 := SCd.b4 w' hS; have q5 := SCd.b5 w' hS; have q6 := SCd.b6 w' hS; have q7 := SCd.h0 w' hS; have q8 := SCd.h1 w' hS; have q9 := SCd.h2 w' hS; have q10 := SCd.h3 w' hS; have q11 := SCd.h4 w' hS; clear hS; go_simp; try rfl; done)
  simp only [List.getElem_toArray, List.getElem_cons_succ, List.getElem_cons_zero, Act.put, List.setIfInBounds_toArray, List.set_cons_zero, List.set_cons_succ]
  refine hd_take (v := ?_) 2 rfl (by kernel_rfl) (fun _ _ d _ _ h => (by cases d <;> exact h)) (by kernel_rfl) S2 (fun w' hS => ?_) ?_
  rotate_left
  focus (have q0 := SCd.b0 w' hS; have q1 := SCd.b1 w' hS; have q2 := SCd.b2 w' hS; have q3 := SCd.b3 w' hS; have q4 := SCd.b4 w' hS; have q5 := SCd.b5 w' hS; have q6 := SCd.b6 w' hS; have q7 := SCd.h0 w' hS; have q8 := SCd.h1 w' hS; have q9 := SCd.h2 w' hS; have q10 := SCd.h3 w' hS; have q11 := SCd.h4 w' hS; clear hS; go_simp; try rfl; done)
  simp only [List.getElem_toArray, List.getElem_cons_succ, List.getElem_cons_zero, Act.put, List.setIfInBounds_toArray, List.set_cons_zero, List.set_cons_succ]
  refine hd_take (v := ?_) 3 rfl (by kernel_rfl) (fun _ _ d _ _ h => (by cases d <;> exact h)) (by kernel_rfl) S2 (fun w' hS => ?_) ?_
  rotate_left
  focus (have q0 := SCd.b0 w' hS; have q1 := SCd.b1 w' hS; have q2 := SCd.b2 w' hS; have q3 := SCd.b3 w' hS; have q4 := SCd.b4 w' hS; have q5 := SCd.b5 w' hS; have q6 := SCd.b6 w' hS; have q7 := SCd.h0 w' hS; have q8 := SCd.h1 w' hS; have q9 := SCd.h2 w' hS; have q10 := SCd.h3 w' hS; have q11 := SCd.h4 w' hS; clear hS; go_simp; try rfl; done)
  simp only [List.getElem_toArray, List.getElem_cons_succ, List.getElem_cons_zero, Act.put, List.setIfInBounds_toArray, List.set_cons_zero, List.set_cons_succ]
  refine hd_take (v := ?_) 4 rfl (by kernel_rfl) (fun _ _ d _ _ h => (by cases d <;> exact h)) (by kernel_rfl) S2 (fun w' hS => ?_) ?_
  rotate_left
  focus (have q0 := SCd.b0 w' hS; have q1 := SCd.b1 w' hS; have q2 := SCd.b2 w' hS; have q3 := SCd.b3 w' hS; have q4 := SCd.b4 w' hS; have q5 := SCd.b5 w' hS; have q6 := SCd.b6 w' hS; have q7 := SCd.h0 w' hS; have q8 := SCd.h1 w' hS; have q9 := SCd.h2 w' hS; have q10 := SCd.h3 w' hS; have q11 := SCd.h4 w' hS; clear hS; go_simp; try rfl; done)
  simp only [List.getElem_toArray, List.getElem_cons_succ, List.getElem_cons_zero, Act.put, List.setIfInBounds_toArray, List.set_cons_zero, List.set_cons_succ]
  refine hd_take (v := ?_) 5 rfl (by kernel_rfl) (fun _ _ d _ _ h => (by cases d <;> exact h)) (by kernel_rfl) S2 (fun w' hS => ?_) ?_
  rotate_left
  focus (have q0 := SCd.b0 w' hS; have q1 := SCd.b1 w' hS; have q2 := SCd.b2 w' hS; have q3 := SCd.b3 w' hS; have q4 := SCd.b4 w' hS; have q5 := SCd.b5 w' hS; have q6 := SCd.b6 w' hS; have q7 := SCd.h0 w' hS; have q8 := SCd.h1 w' hS; have q9 := SCd.h2 w' hS; have q10 := SCd.h3 w' hS; have q11 := SCd.h4 w' hS; clear hS; go_simp; try rfl; done)
  simp only [List.getElem_toArray, List.getElem_cons_succ, List.getElem_cons_zero, Act.put, List.setIfInBounds_toArray, List.set_cons_zero, List.set_cons_succ]
  refine hd_take (v := ?_) 6 rfl (by kernel_rfl) (fun _ _ d _ _ h => (by cases d <;> exact h)) (by kernel_rfl) S2 (fun w' hS => ?_) ?_
  rotate_left
  focus (have q0 := SCd.b0 w' hS; have q1 := SCd.b1 w' hS; have q2 := SCd.b2 w' hS; have q3 := SCd.b3 w' hS; have q4 := SCd.b4 w' hS; have q5 := SCd.b5 w' hS; have q6 := SCd.b6 w' hS; have q7 := SCd.h0 w' hS; have q8 := SCd.h1 w' hS; have q9 := SCd.h2 w' hS; have q10 := SCd.h3 w' hS; have q11 := SCd.h4 w' hS; clear hS; go_simp; try rfl; done)
  simp only [List.getElem_toArray, List.getElem_cons_succ, List.getElem_cons_zero, Act.put, List.setIfInBounds_toArray, List.set_cons_zero, List.set_cons_succ]
  have kb2 := two_blk H2.out
  have g0 := kb2.cellAt 0 rfl
  have g1 := kb2.cellAt 1 rfl
  have g2 := kb2.cellAt 2 rfl
  have g3 := kb2.cellAt 3 rfl
  have g4 := kb2.cellAt 4 rfl
  have f0 := kb2.unfrozen 0
  have f1 := kb2.unfrozen 1
  have f2 := kb2.unfrozen 2
  have f3 := kb2.unfrozen 3
  have f4 := kb2.unfrozen 4
  have h3 := two_turn H2.out (box_set kb2 ⟨_, _, _, _, _, rfl⟩ t) box_only
  have S3 := hS.out _ _ h3
  refine hd_one 7 (by kernel_rfl) ?_
  refine op_skip rfl (by kernel_rfl) (by go_simp; first | done | rfl) ?_
  refine ⟨S3, ?_⟩
  simp only [List.getElem_toArray, List.getElem_cons_succ, List.getElem_cons_zero, Act.put, List.setIfInBounds_toArray, List.set_cons_zero, List.set_cons_succ]
  refine hd_done (by kernel_rfl) ?_
  clear S2 S3 kb2 g0 g1 g2 g3 g4 f0 f1 f2 f3 f4 hS hhn hbn
  obtain ⟨w3, hw3⟩ : ∃ y, (((((w2).setCell ⟨B2, 0, none⟩ (.int .i64 t.key)).setCell ⟨B2, 1, none⟩ (.int .u8 t.alg)).setCell ⟨B2, 2, none⟩ (.int .i64 t.out)).setCell ⟨B2, 3, none⟩ (.int .i64 t.custom)).setCell ⟨B2, 4, none⟩ (.int .i64 t.msg) = y := ⟨_, rfl⟩
  rw [hw3] at h3 ⊢
  have H3 := Lib.hid h3
  clear h3 hw3 H2
  have hgk := keyB_rng (a := s.alg) HOT.out.k0
  have hgt := tagB_rng (a := s.alg) (n := s.data + 4) (by have := HM.out.2.1; omega)
  have hgh := tagB_hash HI.out.1
  have hpb := pb_arith (B := (s.out + hashA s.alg - 1) / hashA s.alg) (c := s.count) (g := tagB s.alg (s.data + 4)) (E := tagB s.alg (s.data + 4) + (s.count - 1) * 2) (by have h1 := HI.out.2.2.2.2.1; rcases hashA_alg HI.out.1 with e | e <;> rw [e] <;> omega) (by have h1 := HI.out.2.2.2.2.2; rcases hashA_alg HI.out.1 with e | e <;> rw [e] <;> omega) HI.out.2.2.1 HI.out.2.2.2.1 (by omega) (by have := HI.out.2.1; omega) rfl
  obtain ⟨V, hV⟩ : ∃ V, keyB s.alg t.key + ((s.out + hashA s.alg - 1) / hashA s.alg) * (tagB s.alg (s.data + 4) + (s.count - 1) * tagB s.alg (hashA s.alg)) = V := ⟨_, rfl⟩
  have he : pbA t s = V := hV
  have hVb : V ≤ 100000000 := by
    rw [← hV, hgh]
    have hk1 := HOT.out.k1
    omega
  have HV := Lib.hid (And.intro hV (And.intro he hVb))
  clear hV he hVb hgk hgt hgh hpb
  have SB := SBth.of H3.out
  have y0 := SBth.b0 _ SB
  have y1 := SBth.b1 _ SB
  have y2 := SBth.b2 _ SB
  have y3 := SBth.b3 _ SB
  have y4 := SBth.b4 _ SB
  have y5 := SBth.b5 _ SB
  have y6 := SBth.b6 _ SB
  have z0 := SBth.h0 _ SB
  have z1 := SBth.h1 _ SB
  have z2 := SBth.h2 _ SB
  have z3 := SBth.h3 _ SB
  have z4 := SBth.h4 _ SB
  have HBW := Lib.hid (bA_wide HI.out.1)
  go_upto_region 24 with fail
  clear SB y0 y1 y2 y3 y4 y5 y6 z0 z1 z2 z3 z4
  refine hd_start (SBth B1 B2 s t) (by kernel_rfl) ?_
  intro w5 hw'
  have H5 := Lib.hid (H3.out.draw 1)
  rw [← hw'] at H5
  clear hw' H3
  have S5 := SBth.of H5.out
  refine hd_take (v := ?_) 0 rfl (by kernel_rfl) (fun _ _ d _ _ h => (by cases d <;> exact h)) (by kernel_rfl) S5 (fun w' hS => ?_) ?_
  rotate_left
  focus (have q0 := SBth.b0 w' hS; have q1 := SBth.b1 w' hS; have q2 := SBth.b2 w' hS; have q3 := SBth.b3 w' hS; have q4 := SBth.b4 w' hS; have q5 := SBth.b5 w' hS; have q6 := SBth.b6 w' hS; have q7 := SBth.h0 w' hS; have q8 := SBth.h1 w' hS; have q9 := SBth.h2 w' hS; have q10 := SBth.h3 w' hS; have q11 := SBth.h4 w' hS; clear hS; go_simp; try rfl; done)
  simp only [List.getElem_toArray, List.getElem_cons_succ, List.getElem_cons_zero, Act.put, List.setIfInBounds_toArray, List.set_cons_zero, List.set_cons_succ]
  refine hd_take (v := ?_) 1 rfl (by kernel_rfl) (fun _ _ d _ _ h => (by cases d <;> exact h)) (by kernel_rfl) S5 (fun w' hS => ?_) ?_
  rotate_left
  focus (have q0 := SBth.b0 w' hS; have q1 := SBth.b1 w' hS; have q2 := SBth.b2 w' hS; have q3 := SBth.b3 w' hS; have q4 := SBth.b4 w' hS; have q5 := SBth.b5 w' hS; have q6 := SBth.b6 w' hS; have q7 := SBth.h0 w' hS; have q8 := SBth.h1 w' hS; have q9 := SBth.h2 w' hS; have q10 := SBth.h3 w' hS; have q11 := SBth.h4 w' hS; clear hS; go_simp; try rfl; done)
  simp only [List.getElem_toArray, List.getElem_cons_succ, List.getElem_cons_zero, Act.put, List.setIfInBounds_toArray, List.set_cons_zero, List.set_cons_succ]
  refine hd_take (v := ?_) 2 rfl (by kernel_rfl) (fun _ _ d _ _ h => (by cases d <;> exact h)) (by kernel_rfl) S5 (fun w' hS => ?_) ?_
  rotate_left
  focus (have q0 := SBth.b0 w' hS; have q1 := SBth.b1 w' hS; have q2 := SBth.b2 w' hS; have q3 := SBth.b3 w' hS; have q4 := SBth.b4 w' hS; have q5 := SBth.b5 w' hS; have q6 := SBth.b6 w' hS; have q7 := SBth.h0 w' hS; have q8 := SBth.h1 w' hS; have q9 := SBth.h2 w' hS; have q10 := SBth.h3 w' hS; have q11 := SBth.h4 w' hS; clear hS; go_simp; try rfl; done)
  simp only [List.getElem_toArray, List.getElem_cons_succ, List.getElem_cons_zero, Act.put, List.setIfInBounds_toArray, List.set_cons_zero, List.set_cons_succ]
  refine hd_take (v := ?_) 4 rfl (by kernel_rfl) (fun _ _ d _ _ h => (by cases d <;> exact h)) (by kernel_rfl) S5 (fun w' hS => ?_) ?_
  rotate_left
  focus (have q0 := SBth.b0 w' hS; have q1 := SBth.b1 w' hS; have q2 := SBth.b2 w' hS; have q3 := SBth.b3 w' hS; have q4 := SBth.b4 w' hS; have q5 := SBth.b5 w' hS; have q6 := SBth.b6 w' hS; have q7 := SBth.h0 w' hS; have q8 := SBth.h1 w' hS; have q9 := SBth.h2 w' hS; have q10 := SBth.h3 w' hS; have q11 := SBth.h4 w' hS; clear hS; go_simp; try rfl; done)
  simp only [List.getElem_toArray, List.getElem_cons_succ, List.getElem_cons_zero, Act.put, List.setIfInBounds_toArray, List.set_cons_zero, List.set_cons_succ]
  refine hd_take (v := ?_) 5 rfl (by kernel_rfl) (fun _ _ d _ _ h => (by cases d <;> exact h)) (by kernel_rfl) S5 (fun w' hS => ?_) ?_
  rotate_left
  focus (have q0 := SBth.b0 w' hS; have q1 := SBth.b1 w' hS; have q2 := SBth.b2 w' hS; have q3 := SBth.b3 w' hS; have q4 := SBth.b4 w' hS; have q5 := SBth.b5 w' hS; have q6 := SBth.b6 w' hS; have q7 := SBth.h0 w' hS; have q8 := SBth.h1 w' hS; have q9 := SBth.h2 w' hS; have q10 := SBth.h3 w' hS; have q11 := SBth.h4 w' hS; clear hS; go_simp; try rfl; done)
  simp only [List.getElem_toArray, List.getElem_cons_succ, List.getElem_cons_zero, Act.put, List.setIfInBounds_toArray, List.set_cons_zero, List.set_cons_succ]
  refine hd_take (v := ?_) 7 rfl (by kernel_rfl) (fun _ _ d _ _ h => (by cases d <;> exact h)) (by kernel_rfl) S5 (fun w' hS => ?_) ?_
  rotate_left
  focus (have q0 := SBth.b0 w' hS; have q1 := SBth.b1 w' hS; have q2 := SBth.b2 w' hS; have q3 := SBth.b3 w' hS; have q4 := SBth.b4 w' hS; have q5 := SBth.b5 w' hS; have q6 := SBth.b6 w' hS; have q7 := SBth.h0 w' hS; have q8 := SBth.h1 w' hS; have q9 := SBth.h2 w' hS; have q10 := SBth.h3 w' hS; have q11 := SBth.h4 w' hS; clear hS; go_simp; try rfl; done)
  simp only [List.getElem_toArray, List.getElem_cons_succ, List.getElem_cons_zero, Act.put, List.setIfInBounds_toArray, List.set_cons_zero, List.set_cons_succ]
  refine hd_take (v := ?_) 8 rfl (by kernel_rfl) (fun _ _ d _ _ h => (by cases d <;> exact h)) (by kernel_rfl) S5 (fun w' hS => ?_) ?_
  rotate_left
  focus (have q0 := SBth.b0 w' hS; have q1 := SBth.b1 w' hS; have q2 := SBth.b2 w' hS; have q3 := SBth.b3 w' hS; have q4 := SBth.b4 w' hS; have q5 := SBth.b5 w' hS; have q6 := SBth.b6 w' hS; have q7 := SBth.h0 w' hS; have q8 := SBth.h1 w' hS; have q9 := SBth.h2 w' hS; have q10 := SBth.h3 w' hS; have q11 := SBth.h4 w' hS; clear hS; go_simp; try rfl; done)
  simp only [List.getElem_toArray, List.getElem_cons_succ, List.getElem_cons_zero, Act.put, List.setIfInBounds_toArray, List.set_cons_zero, List.set_cons_succ]
  refine hd_take (v := ?_) 9 rfl (by kernel_rfl) (fun _ _ d _ _ h => (by cases d <;> exact h)) (by kernel_rfl) S5 (fun w' hS => ?_) ?_
  rotate_left
  focus (have q0 := SBth.b0 w' hS; have q1 := SBth.b1 w' hS; have q2 := SBth.b2 w' hS; have q3 := SBth.b3 w' hS; have q4 := SBth.b4 w' hS; have q5 := SBth.b5 w' hS; have q6 := SBth.b6 w' hS; have q7 := SBth.h0 w' hS; have q8 := SBth.h1 w' hS; have q9 := SBth.h2 w' hS; have q10 := SBth.h3 w' hS; have q11 := SBth.h4 w' hS; clear hS; go_simp; try rfl; done)
  simp only [List.getElem_toArray, List.getElem_cons_succ, List.getElem_cons_zero, Act.put, List.setIfInBounds_toArray, List.set_cons_zero, List.set_cons_succ]
  refine hd_take (v := ?_) 10 rfl (by kernel_rfl) (fun _ _ d _ _ h => (by cases d <;> exact h)) (by kernel_rfl) S5 (fun w' hS => ?_) ?_
  rotate_left
  focus (have q0 := SBth.b0 w' hS; have q1 := SBth.b1 w' hS; have q2 := SBth.b2 w' hS; have q3 := SBth.b3 w' hS; have q4 := SBth.b4 w' hS; have q5 := SBth.b5 w' hS; have q6 := SBth.b6 w' hS; have q7 := SBth.h0 w' hS; have q8 := SBth.h1 w' hS; have q9 := SBth.h2 w' hS; have q10 := SBth.h3 w' hS; have q11 := SBth.h4 w' hS; clear hS; go_simp; try rfl; done)
  simp only [List.getElem_toArray, List.getElem_cons_succ, List.getElem_cons_zero, Act.put, List.setIfInBounds_toArray, List.set_cons_zero, List.set_cons_succ]
  refine hd_take (v := ?_) 11 rfl (by kernel_rfl) (fun _ _ d _ _ h => (by cases d <;> exact h)) (by kernel_rfl) S5 (fun w' hS => ?_) ?_
  rotate_left
  focus (have q0 := SBth.b0 w' hS; have q1 := SBth.b1 w' hS; have q2 := SBth.b2 w' hS; have q3 := SBth.b3 w' hS; have q4 := SBth.b4 w' hS; have q5 := SBth.b5 w' hS; have q6 := SBth.b6 w' hS; have q7 := SBth.h0 w' hS; have q8 := SBth.h1 w' hS; have q9 := SBth.h2 w' hS; have q10 := SBth.h3 w' hS; have q11 := SBth.h4 w' hS; clear hS; go_simp; try rfl; done)
  simp only [List.getElem_toArray, List.getElem_cons_succ, List.getElem_cons_zero, Act.put, List.setIfInBounds_toArray, List.set_cons_zero, List.set_cons_succ]
  refine hd_take (v := ?_) 12 rfl (by kernel_rfl) (fun _ _ d _ _ h => (by cases d <;> exact h)) (by kernel_rfl) S5 (fun w' hS => ?_) ?_
  rotate_left
  focus (have q0 := SBth.b0 w' hS; have q1 := SBth.b1 w' hS; have q2 := SBth.b2 w' hS; have q3 := SBth.b3 w' hS; have q4 := SBth.b4 w' hS; have q5 := SBth.b5 w' hS; have q6 := SBth.b6 w' hS; have q7 := SBth.h0 w' hS; have q8 := SBth.h1 w' hS; have q9 := SBth.h2 w' hS; have q10 := SBth.h3 w' hS; have q11 := SBth.h4 w' hS; clear hS; go_simp; try rfl; done)
  simp only [List.getElem_toArray, List.getElem_cons_succ, List.getElem_cons_zero, Act.put, List.setIfInBounds_toArray, List.set_cons_zero, List.set_cons_succ]
  refine hd_take (v := ?_) 13 rfl (by kernel_rfl) (fun _ _ d _ _ h => (by cases d <;> exact h)) (by kernel_rfl) S5 (fun w' hS => ?_) ?_
  rotate_left
  focus (have q0 := SBth.b0 w' hS; have q1 := SBth.b1 w' hS; have q2 := SBth.b2 w' hS; have q3 := SBth.b3 w' hS; have q4 := SBth.b4 w' hS; have q5 := SBth.b5 w' hS; have q6 := SBth.b6 w' hS; have q7 := SBth.h0 w' hS; have q8 := SBth.h1 w' hS; have q9 := SBth.h2 w' hS; have q10 := SBth.h3 w' hS; have q11 := SBth.h4 w' hS; clear hS; go_simp; try rfl; done)
  simp only [List.getElem_toArray, List.getElem_cons_succ, List.getElem_cons_zero, Act.put, List.setIfInBounds_toArray, List.set_cons_zero, List.set_cons_succ]
  refine hd_take (v := ?_) 14 rfl (by kernel_rfl) (fun _ _ d _ _ h => (by cases d <;> exact h)) (by kernel_rfl) S5 (fun w' hS => ?_) ?_
  rotate_left
  focus (have q0 := SBth.b0 w' hS; have q1 := SBth.b1 w' hS; have q2 := SBth.b2 w' hS; have q3 := SBth.b3 w' hS; have q4 := SBth.b4 w' hS; have q5 := SBth.b5 w' hS; have q6 := SBth.b6 w' hS; have q7 := SBth.h0 w' hS; have q8 := SBth.h1 w' hS; have q9 := SBth.h2 w' hS; have q10 := SBth.h3 w' hS; have q11 := SBth.h4 w' hS; clear hS; go_simp; try rfl; done)
  simp only [List.getElem_toArray, List.getElem_cons_succ, List.getElem_cons_zero, Act.put, List.setIfInBounds_toArray, List.set_cons_zero, List.set_cons_succ]
  refine hd_take (v := ?_) 15 rfl (by kernel_rfl) (fun _ _ d _ _ h => (by cases d <;> exact h)) (by kernel_rfl) S5 (fun w' hS => ?_) ?_
  rotate_left
  focus (have q0 := SBth.b0 w' hS; have q1 := SBth.b1 w' hS; have q2 := SBth.b2 w' hS; have q3 := SBth.b3 w' hS; have q4 := SBth.b4 w' hS; have q5 := SBth.b5 w' hS; have q6 := SBth.b6 w' hS; have q7 := SBth.h0 w' hS; have q8 := SBth.h1 w' hS; have q9 := SBth.h2 w' hS; have q10 := SBth.h3 w' hS; have q11 := SBth.h4 w' hS; clear hS; go_simp; try rfl; done)
  simp only [List.getElem_toArray, List.getElem_cons_succ, List.getElem_cons_zero, Act.put, List.setIfInBounds_toArray, List.set_cons_zero, List.set_cons_succ]
  refine hd_take (v := ?_) 16 rfl (by kernel_rfl) (fun _ _ d _ _ h => (by cases d <;> exact h)) (by kernel_rfl) S5 (fun w' hS => ?_) ?_
  rotate_left
  focus (have q0 := SBth.b0 w' hS; have q1 := SBth.b1 w' hS; have q2 := SBth.b2 w' hS; have q3 := SBth.b3 w' hS; have q4 := SBth.b4 w' hS; have q5 := SBth.b5 w' hS; have q6 := SBth.b6 w' hS; have q7 := SBth.h0 w' hS; have q8 := SBth.h1 w' hS; have q9 := SBth.h2 w' hS; have q10 := SBth.h3 w' hS; have q11 := SBth.h4 w' hS; clear hS; go_simp; try rfl; done)
  simp only [List.getElem_toArray, List.getElem_cons_succ, List.getElem_cons_zero, Act.put, List.setIfInBounds_toArray, List.set_cons_zero, List.set_cons_succ]
  refine hd_one 3 (by kernel_rfl) ?_
  refine op_call rfl (by kernel_rfl) (by go_simp; first | exact ⟨rfl, rfl⟩ | rfl) ?_
  refine (revent_any s.alg HI.out.1 w5).mono ?_
  rintro e wx ⟨he, hw⟩
  subst he
  subst hw
  have hS2 := S5
  refine ⟨_, rfl, hS2, ?_⟩
  simp only [List.getElem_toArray, List.getElem_cons_succ, List.getElem_cons_zero, Act.put, List.setIfInBounds_toArray, List.set_cons_zero, List.set_cons_succ]
  refine hd_one 6 (by kernel_rfl) ?_
  refine op_call rfl (by kernel_rfl) (by go_simp; first | exact ⟨rfl, rfl⟩ | rfl) ?_
  refine (rblock_any s.alg w5).mono ?_
  rintro e wx ⟨he, hw⟩
  rw [HBW.out] at he
  subst he
  subst hw
  have hS2 := S5
  refine ⟨_, rfl, hS2, ?_⟩
  simp only [List.getElem_toArray, List.getElem_cons_succ, List.getElem_cons_zero, Act.put, List.setIfInBounds_toArray, List.set_cons_zero, List.set_cons_succ]
  refine hd_one 17 (by kernel_rfl) ?_
  refine op_call rfl (by kernel_rfl) (by go_simp; first | exact ⟨rfl, rfl⟩ | rfl) ?_
  refine (rpbkdf_any s.alg t.key s.data s.count s.out HI.out.1 HOT.out.k0 (by have := HOT.out.k1; omega) HM.out.2.1 (by have := HI.out.2.1; omega) HI.out.2.2.1 HI.out.2.2.2.1 HI.out.2.2.2.2.1 HI.out.2.2.2.2.2 w5).mono ?_
  rintro e w6 ⟨he, hb⟩
  rw [HV.out.1] at he
  subst he
  have H6 := Lib.hid (H5.out.below hb)
  have hS2 := SBth.of H6.out
  clear hb
  refine ⟨_, rfl, hS2, ?_⟩
  simp only [List.getElem_toArray, List.getElem_cons_succ, List.getElem_cons_zero, Act.put, List.setIfInBounds_toArray, List.set_cons_zero, List.set_cons_succ]
  refine hd_one 18 (by kernel_rfl) ?_
  refine op_call rfl (by kernel_rfl) (by go_simp; first | exact ⟨rfl, rfl⟩ | rfl) ?_
  refine (rput_d HX.out H6.out (evkA s.alg) (wideA s.alg) V (HOK.out.le (by omega)) (by have := HV.out.2.2; omega)).mono ?_
  rintro e w7 ⟨v7, rfl, h7⟩
  have H7 := Lib.hid h7
  have hS2 := SBth.of H7.out
  have S7 := hS2
  clear h7
  refine ⟨_, rfl, hS2, ?_⟩
  simp only [List.getElem_toArray, List.getElem_cons_succ, List.getElem_cons_zero, Act.put, List.setIfInBounds_toArray, List.set_cons_zero, List.set_cons_succ]
  refine hd_take (v := ?_) 19 rfl (by kernel_rfl) (fun _ _ d _ _ h => (by cases d <;> exact h)) (by kernel_rfl) S7 (fun w' hS => ?_) ?_
  rotate_left
  focus (clear hS; go_simp; try rfl; done)
  simp only [List.getElem_toArray, List.getElem_cons_succ, List.getElem_cons_zero, Act.put, List.setIfInBounds_toArray, List.set_cons_zero, List.set_cons_succ]
  refine hd_done (by kernel_rfl) ?_
  clear S5 S7
  have kb2 := two_blk H7.out
  have SBn := SBth.of H7.out
  have x0 := SBth.b0 _ SBn
  have x1 := SBth.b1 _ SBn
  have x2 := SBth.b2 _ SBn
  have x3 := SBth.b3 _ SBn
  have x4 := SBth.b4 _ SBn
  have x5 := SBth.b5 _ SBn
  have x6 := SBth.b6 _ SBn
  have g0 := SBth.h0 _ SBn
  have g1 := SBth.h1 _ SBn
  have g2 := SBth.h2 _ SBn
  have g3 := SBth.h3 _ SBn
  have g4 := SBth.h4 _ SBn
  have f0 := kb2.unfrozen 0
  have f1 := kb2.unfrozen 1
  have f2 := kb2.unfrozen 2
  have f3 := kb2.unfrozen 3
  have f4 := kb2.unfrozen 4
  have hset := two_turn H7.out (box_set kb2 ⟨_, _, _, _, _, rfl⟩ (⟨0, 0, s.out, 0, 0⟩ : Th)) box_only
  have HS := Lib.hid hset
  go_upto_region 29 with fail
  clear kb2 SBn g0 g1 g2 g3 g4 f0 f1 f2 f3 f4 x0 x1 x2 x3 x4 x5 x6
  clear hset
  obtain ⟨w10, hw10⟩ : ∃ y, (((((w7).setCell ⟨B2, 0, none⟩ (.int .i64 s.out)).setCell ⟨B2, 1, none⟩ (.int .u8 0)).setCell ⟨B2, 2, none⟩ (.int .i64 0)).setCell ⟨B2, 3, none⟩ (.int .i64 0)).setCell ⟨B2, 4, none⟩ (.int .i64 0) = y := ⟨_, rfl⟩
  have h10 : Env w0 w10 (Oc obs ip il P cs v7 (timesN rs ⟨evkA s.alg, wideA s.alg, V⟩) ++ [obK B1 40 (skCells s), obK B2 54 (heCells (⟨0, 0, s.out, 0, 0⟩ : Th))]) := by rw [← hw10]; exact HS.out
  rw [hw10]
  have y0 := SBth.b0 _ (SBth.of h10)
  have H11 := Lib.hid h10
  clear h10 hw10 HS
  go_wp2_with fail
  clear y0
  refine (rtakes_any s.kind _).mono ?_
  rintro e wt ⟨rfl, rfl⟩
  rw [HTK.out]
  go_wp2_with fail
  refine (rfree_any (σ := σ) ⟨_, Oc_blk HX.out H11.out, HP.out⟩).mono ?_
  rintro e wt ⟨rfl, rfl⟩
  rw [frR_is HQ.out]
  obtain ⟨vq, hvq⟩ := cell_of (Oc_blk HX.out H11.out) HP.out.size (k := q) (by omega)
  have fq := (Oc_blk HX.out H11.out).unfrozen q
  have bq : 0 ≤ (q : Int) ∧ (q : Int) < 64 := by omega
  have h4 := Oc_turn HX.out H11.out ((Oc_blk HX.out H11.out).set q (.bool true)) ((Only.refl (fun x => x = P) _).set (p := ⟨P, q, none⟩) (.inl rfl) _)
  go_upto_region 32 with fail
  obtain ⟨w8, hw8⟩ : ∃ y, World.setCell w10 ⟨P, q, none⟩ (.bool true) = y := ⟨_, rfl⟩
  rw [hw8] at h4 ⊢
  have H8 := Lib.hid h4
  clear h4 hw8 hvq fq
  refine hd_start (SBth B1 B2 s (⟨0, 0, s.out, 0, 0⟩ : Th)) (by kernel_rfl) ?_
  intro w9 hw'
  have H9 := Lib.hid (H8.out.draw 1)
  rw [← hw'] at H9
  clear hw' H8
  have S9 := SBth.of H9.out
  refine hd_take (v := ?_) 0 rfl (by kernel_rfl) (fun _ _ d _ _ h => (by cases d <;> exact h)) (by kernel_rfl) S9 (fun w' hS => ?_) ?_
  rotate_left
  focus (have q0 := SBth.b0 w' hS; have q1 := SBth.b1 w' hS; have q2 := SBth.b2 w' hS; have q3 := SBth.b3 w' hS; have q4 := SBth.b4 w' hS; have q5 := SBth.b5 w' hS; have q6 := SBth.b6 w' hS; have q7 := SBth.h0 w' hS; have q8 := SBth.h1 w' hS; have q9 := SBth.h2 w' hS; have q10 := SBth.h3 w' hS; have q11 := SBth.h4 w' hS; clear hS; go_simp; try rfl; done)
  simp only [List.getElem_toArray, List.getElem_cons_succ, List.getElem_cons_zero, Act.put, List.setIfInBounds_toArray, List.set_cons_zero, List.set_cons_succ]
  refine hd_take (v := ?_) 1 rfl (by kernel_rfl) (fun _ _ d _ _ h => (by cases d <;> exact h)) (by kernel_rfl) S9 (fun w' hS => ?_) ?_
  rotate_left
  focus (have q0 := SBth.b0 w' hS; have q1 := SBth.b1 w' hS; have q2 := SBth.b2 w' hS; have q3 := SBth.b3 w' hS; have q4 := SBth.b4 w' hS; have q5 := SBth.b5 w' hS; have q6 := SBth.b6 w' hS; have q7 := SBth.h0 w' hS; have q8 := SBth.h1 w' hS; have q9 := SBth.h2 w' hS; have q10 := SBth.h3 w' hS; have q11 := SBth.h4 w' hS; clear hS; go_simp; try rfl; done)
  simp only [List.getElem_toArray, List.getElem_cons_succ, List.getElem_cons_zero, Act.put, List.setIfInBounds_toArray, List.set_cons_zero, List.set_cons_succ]
  refine hd_take (v := ?_) 2 rfl (by kernel_rfl) (fun _ _ d _ _ h => (by cases d <;> exact h)) (by kernel_rfl) S9 (fun w' hS => ?_) ?_
  rotate_left
  focus (have q0 := SBth.b0 w' hS; have q1 := SBth.b1 w' hS; have q2 := SBth.b2 w' hS; have q3 := SBth.b3 w' hS; have q4 := SBth.b4 w' hS; have q5 := SBth.b5 w' hS; have q6 := SBth.b6 w' hS; have q7 := SBth.h0 w' hS; have q8 := SBth.h1 w' hS; have q9 := SBth.h2 w' hS; have q10 := SBth.h3 w' hS; have q11 := SBth.h4 w' hS; clear hS; go_simp; try rfl; done)
  simp only [List.getElem_toArray, List.getElem_cons_succ, List.getElem_cons_zero, Act.put, List.setIfInBounds_toArray, List.set_cons_zero, List.set_cons_succ]
  refine hd_take (v := ?_) 3 rfl (by kernel_rfl) (fun _ _ d _ _ h => (by cases d <;> exact h)) (by kernel_rfl) S9 (fun w' hS => ?_) ?_
  rotate_left
  focus (have q0 := SBth.b0 w' hS; have q1 := SBth.b1 w' hS; have q2 := SBth.b2 w' hS; have q3 := SBth.b3 w' hS; have q4 := SBth.b4 w' hS; have q5 := SBth.b5 w' hS; have q6 := SBth.b6 w' hS; have q7 := SBth.h0 w' hS; have q8 := SBth.h1 w' hS; have q9 := SBth.h2 w' hS; have q10 := SBth.h3 w' hS; have q11 := SBth.h4 w' hS; clear hS; go_simp; try rfl; done)
  simp only [List.getElem_toArray, List.getElem_cons_succ, List.getElem_cons_zero, Act.put, List.setIfInBounds_toArray, List.set_cons_zero, List.set_cons_succ]
  refine hd_take (v := ?_) 4 rfl (by kernel_rfl) (fun _ _ d _ _ h => (by cases d <;> exact h)) (by kernel_rfl) S9 (fun w' hS => ?_) ?_
  rotate_left
  focus (have q0 := SBth.b0 w' hS; have q1 := SBth.b1 w' hS; have q2 := SBth.b2 w' hS; have q3 := SBth.b3 w' hS; have q4 := SBth.b4 w' hS; have q5 := SBth.b5 w' hS; have q6 := SBth.b6 w' hS; have q7 := SBth.h0 w' hS; have q8 := SBth.h1 w' hS; have q9 := SBth.h2 w' hS; have q10 := SBth.h3 w' hS; have q11 := SBth.h4 w' hS; clear hS; go_simp; try rfl; done)
  simp only [List.getElem_toArray, List.getElem_cons_succ, List.getElem_cons_zero, Act.put, List.setIfInBounds_toArray, List.set_cons_zero, List.set_cons_succ]
  refine hd_take (v := ?_) 5 rfl (by kernel_rfl) (fun _ _ d _ _ h => (by cases d <;> exact h)) (by kernel_rfl) S9 (fun w' hS => ?_) ?_
  rotate_left
  focus (have q0 := SBth.b0 w' hS; have q1 := SBth.b1 w' hS; have q2 := SBth.b2 w' hS; have q3 := SBth.b3 w' hS; have q4 := SBth.b4 w' hS; have q5 := SBth.b5 w' hS; have q6 := SBth.b6 w' hS; have q7 := SBth.h0 w' hS; have q8 := SBth.h1 w' hS; have q9 := SBth.h2 w' hS; have q10 := SBth.h3 w' hS; have q11 := SBth.h4 w' hS; clear hS; go_simp; try rfl; done)
  simp only [List.getElem_toArray, List.getElem_cons_succ, List.getElem_cons_zero, Act.put, List.setIfInBounds_toArray, List.set_cons_zero, List.set_cons_succ]
  have hsz : (cs.setIfInBounds q (.bool true)).size = 384 := set_size HP.out.size
  have kbp := Oc_blk HX.out H9.out
  obtain ⟨u0, g0⟩ := cell_of kbp hsz (k := 64 + q * 5) (by omega)
  obtain ⟨u1, g1⟩ := cell_of kbp hsz (k := 64 + q * 5 + 1) (by omega)
  obtain ⟨u2, g2⟩ := cell_of kbp hsz (k := 64 + q * 5 + 2) (by omega)
  obtain ⟨u3, g3⟩ := cell_of kbp hsz (k := 64 + q * 5 + 3) (by omega)
  obtain ⟨u4, g4⟩ := cell_of kbp hsz (k := 64 + q * 5 + 4) (by omega)
  have f0 := kbp.unfrozen (64 + q * 5)
  have f1 := kbp.unfrozen (64 + q * 5 + 1)
  have f2 := kbp.unfrozen (64 + q * 5 + 2)
  have f3 := kbp.unfrozen (64 + q * 5 + 3)
  have f4 := kbp.unfrozen (64 + q * 5 + 4)
  have h10 := Oc_turn HX.out H9.out (pub_set (n := q) kbp (⟨0, 0, s.out, 0, 0⟩ : Th)) pub_only
  have S10 := SBth.of h10
  have H10 := Lib.hid h10
  refine hd_one 6 (by kernel_rfl) ?_
  refine op_skip rfl (by kernel_rfl) (by go_simp; first | done | rfl) ?_
  refine ⟨S10, ?_⟩
  simp only [List.getElem_toArray, List.getElem_cons_succ, List.getElem_cons_zero, Act.put, List.setIfInBounds_toArray, List.set_cons_zero, List.set_cons_succ]
  refine hd_done (by kernel_rfl) ?_
  clear S9 S10 kbp g0 g1 g2 g3 g4 f0 f1 f2 f3 f4 h10 bq
  go_wp2_with fail
  go_ret
  first | refine ⟨_, rfl, heSet (cs.setIfInBounds q (.bool true)) q (⟨0, 0, s.out, 0, 0⟩ : Th), ?_, ?_⟩ | refine ⟨_, heSet (cs.setIfInBounds q (.bool true)) q (⟨0, 0, s.out, 0, 0⟩ : Th), rfl, ?_, ?_⟩
  · rw [HNX.out]
    exact HP.out.take hq64 _
  · rw [HEV.out]
    rw [HV.out.2.1]; exact two_drop H10.out
end
end Go.Proofs.YtkidijjhedjifaaGreat
/- '==' and '!=' of two arrays of bytes as one step of a walk, and the literal of an array of noughts; whole loads under a guard. No program in sight. -/
namespace Go.Proofs.YtkidijjhedjifaaGreat
open Go.RowKit
set_option linter.unusedSimpArgs false
section
variable {P : Program} {ops : Array Oper} {rest : List Oper} {a : Act} {w : World} {Q : Exit → Act → World → Prop} {d : Option Tmp} {t ot : TypeId} {x y : Operand} {pos : String} {aft : Array Edge} {gd : Option (Nat × Bool)}
end
end Go.Proofs.YtkidijjhedjifaaGreat
/- The document's New, done, Do. -/
namespace Go.Proofs.YtkidijjhedjifaaGreat
open Go.RowKit
set_option maxRecDepth 100000
set_option linter.unusedVariables false
set_option linter.unusedSimpArgs false
attribute [local go_sem] Oper.semAt_some
/-! ### New -/
def zHe : List Value := [.int .i64 0, .int .u8 0, .int .i64 0, .int .i64 0, .int .i64 0]
def zPub : Array Value := (List.replicate 64 (Value.bool false) ++ (List.replicate 64 zHe).flatten).toArray
theorem zPub_cs : PubCs zPub hs0 := by
  refine ⟨by decide, fun n hn => ?_, fun n t hn e => (nomatch (show none = some t from e))⟩
  unfold zPub
  rw [List.getElem?_toArray, List.getElem?_append_left (by simpa using hn), List.getElem?_replicate, if_pos hn]
  rfl
theorem zeroPub (w : World) : (zeroValue 57).run Tryz.prog w = .ok (.agg zPub) w := by kernel_rfl
section
variable {w0 w : World} {obs : List Ob} {ip il P : Nat} {v : Value} {rs : List Rn} {σ : Hs} {mm : Int}
theorem OKr.foldl : ∀ (E : List Rn) {rs : List Rn} {n : Nat}, (∀ r ∈ E, 0 ≤ r.c ∧ r.c ≤ 100000000) → OKr rs (n + E.length) → n + E.length ≤ 1000 → OKr (E.foldl timesN rs) n
  | [], rs, n, _, h, _ => h
  | r :: E, rs, n, hr, h, hn => by
    have h1 := hr r (by simp)
    exact OKr.foldl E (fun x hx => hr x (by simp [hx])) (OKr.step (n := n + E.length) (by simpa [Nat.add_assoc] using h) h1.1 h1.2 (by simp at hn; omega)) (by simp at hn; omega)
theorem rdone_env (h : Env w0 w obs) (hx : OcI obs ip il) (hip : obs[ip]? = some (obRP P σ)) (hil : obs[il]? = some (obRuns v rs)) (hok : OKr rs 8) (hσ : OKh mm σ) (hmm : mm ≤ 90000000) (s : Sk) (hd0 : 0 ≤ s.data) (hm0 : 0 ≤ s.more) (hc : codeS σ s = 0) :
    Calls Tryz.prog 22 #[rpV P, v, skV s] w fun e w' => ∃ v', e = .returned v' ∧ Env w0 w' ((obs.set ip (obRP P (nxS σ s))).set il (obRuns v' ((evS σ s).foldl timesN rs))) := by
  obtain ⟨cs, hp, h1⟩ := Oc_start hx h hip hil
  have hk : s.kind = 1 ∨ s.kind = 2 ∨ s.kind = 3 ∨ s.kind = 4 ∨ s.kind = 5 ∨ s.kind = 6 ∨ s.kind = 7 ∨ s.kind = 8 ∨ s.kind = 9 ∨ s.kind = 10 := by
    unfold codeS at hc
    repeat' split at hc
    all_goals omega
  have fin : ∀ (e : Ending) w', (∃ v' cs', e = .returned v' ∧ PubCs cs' (nxS σ s) ∧ Env w0 w' (Oc obs ip il P cs' v' ((evS σ s).foldl timesN rs))) → ∃ v', e = .returned v' ∧ Env w0 w' ((obs.set ip (obRP P (nxS σ s))).set il (obRuns v' ((evS σ s).foldl timesN rs))) := by
    rintro e w' ⟨v', cs', he, hp', h'⟩
    exact ⟨v', he, Oc_end hx h' hp'⟩
  rcases hk with k | k | k | k | k | k | k | k | k | k
  · exact (rdone1_env hx h1 hp hok hσ hmm s hd0 hm0 k hc).mono fin
  · exact (rdone2_env hx h1 hp hok hσ hmm s hd0 hm0 k hc).mono fin
  · exact (rdone3_env hx h1 hp hok hσ hmm s hd0 hm0 k hc).mono fin
  · exact (rdone4_env hx h1 hp hok hσ hmm s hd0 hm0 k hc).mono fin
  · exact (rdone5_env hx h1 hp hok hσ hmm s hd0 hm0 k hc).mono fin
  · exact (rdone6_env hx h1 hp hok hσ hmm s hd0 hm0 k hc).mono fin
  · exact (rdone7_env hx h1 hp hok hσ hmm s hd0 hm0 k hc).mono fin
  · exact (rdone8_env hx h1 hp hok hσ hmm s hd0 hm0 k hc).mono fin
  · exact (rdone9_env hx h1 hp hok hσ hmm s hd0 hm0 k hc).mono fin
  · exact (rdone10_env hx h1 hp hok hσ hmm s hd0 hm0 k hc).mono fin
theorem Env.pushRP (h : Env w0 w obs) {cs : Array Value} (hp : PubCs cs σ) : Env w0 (w.alloc (.cells cs 57)) (obs ++ [obRP w.heap.size σ]) :=
  h.push (F' := fun x => x = w.heap.size) (obRP w.heap.size σ) ⟨⟨cs, Blk.new w _ cs, hp⟩, rfl⟩ ((Below.refl _ _).alloc (Nat.le_refl _) _) (fun x hx => by rw [hx]; exact Nat.le_refl _)
set_option maxHeartbeats 2000000 in
theorem rnew_env (h : Env w0 w obs) : Calls Tryz.prog 5 #[] w fun e w' => ∃ P : Nat, e = .returned (rpV P) ∧ Env w0 w' (obs ++ [obRP P hs0]) := by
  have H := Lib.hid (h.pushRP zPub_cs)
  obtain ⟨Z, hZ⟩ : ∃ Z, zPub = Z := ⟨_, rfl⟩
  have hz := zeroPub
  rw [hZ] at H hz
  clear h hZ
  unfold rpV
  go_enter Tryz.func5, Tryz.ntmps5
  go_wp2_with fail
  go_ret
  exact ⟨_, rfl, H.out⟩
structure DoF (B : Nat) (s : Sk) (W : World) : Prop where
  c0 : W.cell? ⟨B, 0, none⟩ = some (.int .u8 s.kind)
  c1 : W.cell? ⟨B, 1, none⟩ = some (.int .i64 s.handle)
  c2 : W.cell? ⟨B, 2, none⟩ = some (.int .u8 s.alg)
  c3 : W.cell? ⟨B, 3, none⟩ = some (.int .i64 s.count)
  c4 : W.cell? ⟨B, 4, none⟩ = some (.int .i64 s.out)
  c5 : W.cell? ⟨B, 5, none⟩ = some (.int .i64 s.data)
  c6 : W.cell? ⟨B, 6, none⟩ = some (.int .i64 s.more)
theorem DoF.of {w : World} {B : Nat} {s : Sk} (h : Blk w B 40 (skCells s)) : DoF B s w := ⟨h.cellAt 0 rfl, h.cellAt 1 rfl, h.cellAt 2 rfl, h.cellAt 3 rfl, h.cellAt 4 rfl, h.cellAt 5 rfl, h.cellAt 6 rfl⟩
theorem evS_lenC (σ : Hs) (s : Sk) : (evS σ s).length ≤ 3 := by
  unfold evS beginE
  simp only
  repeat' split
  all_goals simp
theorem at0 {A : List Ob} {x : Ob} {B : List Ob} : (A ++ x :: B)[A.length]? = some x := by rw [List.getElem?_append_right (Nat.le_refl _), Nat.sub_self]; rfl
theorem at1 {A : List Ob} {x y : Ob} {B : List Ob} : (A ++ x :: y :: B)[A.length + 1]? = some y := by rw [List.getElem?_append_right (by omega), show A.length + 1 - A.length = 1 from by omega]; rfl
theorem set0 {A : List Ob} {x z : Ob} {B : List Ob} : (A ++ x :: B).set A.length z = A ++ z :: B := by rw [List.set_append_right _ _ (Nat.le_refl _), Nat.sub_self]; rfl
theorem set1 {A : List Ob} {x y z : Ob} {B : List Ob} : (A ++ x :: y :: B).set (A.length + 1) z = A ++ x :: z :: B := by rw [List.set_append_right _ _ (by omega), show A.length + 1 - A.length = 1 from by omega]; rfl
set_option maxHeartbeats 8000000 in
theorem rdo_env (h : Env w0 w obs) (i : Nat) (hi : obs[i]? = some (obRP P σ)) (hσ : OKh mm σ) (hmm : mm ≤ 90000000) (s0 : Sk) (hs : OKsk s0) :
    Calls Tryz.prog 8 #[rpV P, skV s0] w fun e w' => ∃ v, e = .returned (.tuple #[v, .int .i64 (codeD σ s0)]) ∧ Env w0 w' (obs.set i (obRP P (nxD σ s0)) ++ [obRuns v (runsD σ s0)]) := by
  have hil := (List.getElem?_eq_some_iff.1 hi).1
  obtain ⟨s, hse⟩ : ∃ s, s0.clip = s := ⟨_, rfl⟩
  have hkind : s0.kind = s.kind := by rw [← hse]; rfl
  have hX : (if s0.data < 0 then 0 else s0.data) = s.data := by
    rw [← hse]
    show _ = max 0 s0.data
    split <;> omega
  have hY : (if s0.more < 0 then 0 else s0.more) = s.more := by
    rw [← hse]
    show _ = max 0 s0.more
    split <;> omega
  have hd0 : 0 ≤ s.data ∧ 0 ≤ s.more := by rw [← hse]; exact ⟨by show 0 ≤ max 0 s0.data; omega, by show 0 ≤ max 0 s0.more; omega⟩
  have hkr := hs.hk
  unfold okU at hkr
  have hkw : IntKind.i64.wrap s0.kind = s0.kind := IntWalk.i64_in _ (by omega)
  have HS := Lib.hid hse
  have HI := Lib.hid hi
  have HD := Lib.hid (And.intro hd0 (And.intro hmm hil))
  have HOH := Lib.hid hσ
  have h1 : Env w0 (w.alloc (.cells #[.int .u8 s0.kind, .int .i64 s0.handle, .int .u8 s0.alg, .int .i64 s0.count, .int .i64 s0.out, .int .i64 s0.data, .int .i64 s0.more] 40)) (obs ++ [obK w.heap.size 40 (skCells s0), obRuns (.slice none 0 0) []]) := by
    have h2 := (h.newK 40 (skCells s0)).pushNil KN
    rw [List.append_assoc] at h2
    exact h2
  obtain ⟨W, hW⟩ : ∃ y, w.alloc (.cells #[.int .u8 s0.kind, .int .i64 s0.handle, .int .u8 s0.alg, .int .i64 s0.count, .int .i64 s0.out, .int .i64 s0.data, .int .i64 s0.more] 40) = y := ⟨_, rfl⟩
  obtain ⟨B, hB⟩ : ∃ y, w.heap.size = y := ⟨_, rfl⟩
  rw [hW, hB] at h1
  have H1 := Lib.hid h1
  have HNM := Lib.hid (And.intro hW hB)
  clear h1 h hi hσ hmm hs hkr hd0 hW hB hil hse hkind
  unfold skV rpV
  go_enter Tryz.func8, Tryz.ntmps8
  go_upto_region 1 with fail
  obtain ⟨hW, hB⟩ := HNM.out
  rw [hW]
  try simp only [hB]
  clear hW hB
  have D1 := DoF.of (H1.out.blk obs.length (b := B) at0)
  obtain ⟨c0, c1, c2, c3, c4, c5, c6⟩ := D1
  go_wp2_with fail
  refine (rput_env H1.out (obs.length + 1) at1 11 s0.kind 1 (by simp) (fun r hr => by simp at hr) (by omega)).mono ?_
  rintro e w2 ⟨v2, rfl, h2⟩
  rw [set1] at h2
  have h2 : Env w0 w2 (obs ++ [obK B 40 (skCells s0), obRuns v2 [⟨11, s0.kind, 1⟩]]) := h2
  have kb := h2.blk obs.length (b := B) at0
  clear c0 c1 c2 c3 c4 c5 c6
  obtain ⟨c0, c1, c2, c3, c4, c5, c6⟩ := DoF.of kb
  have f5 := kb.unfrozen 5
  have f6 := kb.unfrozen 6
  have h3 := h2.turnBlk obs.length (b := B) at0 ((kb.set 5 (.int .i64 s.data)).set 6 (.int .i64 s.more)) (((Only.refl (fun x => x = B) w2).set (p := ⟨B, 5, none⟩) (.inl rfl) _).set (p := ⟨B, 6, none⟩) (.inl rfl) _)
  rw [set0] at h3
  have h3 : Env w0 ((w2.setCell ⟨B, 5, none⟩ (.int .i64 s.data)).setCell ⟨B, 6, none⟩ (.int .i64 s.more)) (obs ++ [obK B 40 (skCells s), obRuns v2 [⟨11, s0.kind, 1⟩]]) := by
    have e : ((skCells s0).setIfInBounds 5 (.int .i64 s.data)).setIfInBounds 6 (.int .i64 s.more) = skCells s := by rw [← HS.out]; rfl
    rw [e] at h3
    exact h3
  have H3 := Lib.hid h3
  clear h2 h3 kb H1
  go_upto_region 4 with fail
  clear c0 c1 c2 c3 c4 c5 c6 f5 f6
  obtain ⟨w3, hw3⟩ : ∃ y, (w2.setCell ⟨B, 5, none⟩ (.int .i64 s.data)).setCell ⟨B, 6, none⟩ (.int .i64 s.more) = y := ⟨_, rfl⟩
  have h3 := H3.out
  rw [hw3] at h3 ⊢
  have H4 := Lib.hid h3
  clear h3 hw3 H3 hX hY
  obtain ⟨c0, c1, c2, c3, c4, c5, c6⟩ := DoF.of (H4.out.blk obs.length (b := B) at0)
  go_wp2_with fail
  refine (rcode_any (H4.out.rpub i (by rw [List.getElem?_append_left HD.out.2.2]; exact HI.out)) HOH.out.dom s).mono ?_
  rintro e w5 ⟨rfl, hb⟩
  have H5 := Lib.hid (H4.out.below hb)
  have hcd : codeS σ s = codeD σ s0 := by unfold codeD; rw [HS.out]
  rw [hcd]
  obtain ⟨c, hc⟩ : ∃ c, codeD σ s0 = c := ⟨_, rfl⟩
  rw [hc]
  have HC := Lib.hid (And.intro (hcd.trans hc) hc)
  clear hb H4 hcd hc c0 c1 c2 c3 c4 c5 c6
  have ok0 : OKr [⟨11, s0.kind, 1⟩] 8 := ⟨by simp, fun r hr => by simp at hr; subst hr; exact ⟨by show (0 : Int) ≤ 1; omega, by show (1 : Int) ≤ _; omega⟩⟩
  have HK0 := Lib.hid ok0
  clear ok0
  by_cases c0 : c = 0
  · subst c0
    obtain ⟨c0, c1, c2, c3, c4, c5, c6⟩ := DoF.of (H5.out.blk obs.length (b := B) at0)
    go_wp2_with fail
    refine (rdone_env H5.out (ip := i) (il := obs.length + 1) ⟨by simp; have := HD.out.2.2; omega, by simp, by have := HD.out.2.2; omega⟩ (by rw [List.getElem?_append_left HD.out.2.2]; exact HI.out) at1 HK0.out HOH.out HD.out.2.1 s HD.out.1.1 HD.out.1.2 HC.out.1).mono ?_
    rintro e w6 ⟨v6, rfl, h6⟩
    rw [List.set_append_left _ _ HD.out.2.2] at h6
    have h6 : Env w0 w6 (obs.set i (obRP P (nxS σ s)) ++ [obK B 40 (skCells s), obRuns v6 ((evS σ s).foldl timesN [⟨11, s0.kind, 1⟩])]) := by
      have e1 : obs.length = (obs.set i (obRP P (nxS σ s))).length := by rw [List.length_set]
      rw [e1, set1] at h6
      exact h6
    have hev := events_ok HOH.out (s := s) HD.out.1.1 HD.out.1.2 HC.out.1
    have hl3 : (evS σ s).length ≤ 3 := evS_lenC σ s
    have hok6 : OKr ((evS σ s).foldl timesN [⟨11, s0.kind, 1⟩]) 5 := OKr.foldl (evS σ s) (fun r hr => ⟨(hev.1 r hr).c0, by have := (hev.1 r hr).c1; omega⟩) (HK0.out.le (by omega)) (by omega)
    have H6 := Lib.hid h6
    have HK6 := Lib.hid hok6
    clear h6 hev hl3 hok6 H5 c0 c1 c2 c3 c4 c5 c6
    go_wp2_with fail
    refine (rput_env H6.out ((obs.set i (obRP P (nxS σ s))).length + 1) at1 12 0 1 (by have := HK6.out.len; omega) HK6.out.b (by omega)).mono ?_
    rintro e w7 ⟨v7, rfl, h7⟩
    rw [set1] at h7
    have H7 := Lib.hid (Env.omit (A := obs.set i (obRP P (nxS σ s))) (x := obK B 40 (skCells s)) (by simpa using h7))
    clear h7 H6
    go_wp2_with fail
    go_ret2
    refine ⟨v7, by rw [HC.out.2]; rfl, ?_⟩
    have e1 : nxD σ s0 = nxS σ s := by unfold nxD; rw [if_pos HC.out.2, HS.out]
    have e2 : runsD σ s0 = timesN ((evS σ s).foldl timesN [⟨11, s0.kind, 1⟩]) ⟨12, 0, 1⟩ := by
      unfold runsD
      rw [HC.out.2, if_pos rfl, HS.out]
      rfl
    rw [e1, e2]
    exact H7.out
  · have tc : (c == (0 : Int)) = false := beq_f c0
    have hc0 := Lib.hid c0
    clear c0
    go_wp2_with fail
    refine (rput_env H5.out (obs.length + 1) at1 12 c 1 (by simp) HK0.out.b (by omega)).mono ?_
    rintro e w7 ⟨v7, rfl, h7⟩
    rw [set1] at h7
    have H7 := Lib.hid (Env.omit (A := obs) (x := obK B 40 (skCells s)) (by simpa using h7))
    clear h7 H5
    go_wp2_with fail
    go_ret2
    refine ⟨v7, by rw [HC.out.2]; rfl, ?_⟩
    have e1 : nxD σ s0 = σ := by unfold nxD; rw [if_neg (by rw [HC.out.2]; exact hc0.out)]
    have e2 : runsD σ s0 = timesN [⟨11, s0.kind, 1⟩] ⟨12, c, 1⟩ := by
      unfold runsD
      rw [HC.out.2, if_neg hc0.out]
      rfl
    rw [e1, e2, setIs _ _ _ HI.out]
    exact H7.out
end
end Go.Proofs.YtkidijjhedjifaaGreat
namespace Go.Proofs.YtkidijjhedjifaaGreat
open Go.RowKit
set_option maxRecDepth 100000
set_option linter.unusedVariables false
set_option linter.unusedSimpArgs false
attribute [local go_sem] Oper.semAt_some
/-! ### a region whose order is drawn, under what holds of the operations that have come up -/
section
variable {P : Program} {md : Region.Mode} {ops : Array Oper} {Q : Exit → Act → World → Prop}
theorem mem_ready {listed : Array Bool} {i : Nat} (h : i ∈ Region.ready md ops listed) : i < ops.size ∧ listed.getD i true = false ∧ ∃ o, ops[i]? = some o ∧ ∀ e ∈ o.after, Region.binds md e = true → listed.getD e.on false = true := by
  unfold Region.ready at h
  obtain ⟨h1, h2⟩ := List.mem_filter.1 h
  have hi : i < ops.size := by simpa using h1
  simp only [Bool.and_eq_true, Bool.not_eq_true'] at h2
  refine ⟨hi, h2.1, ops[i], Array.getElem?_eq_getElem hi, fun e he hb => ?_⟩
  have h3 := h2.2
  rw [Array.getElem?_eq_getElem hi] at h3
  simp only [Option.map_some, Option.getD_some] at h3
  have h4 := Array.all_eq_true'.1 h3 e he
  simp only [Bool.or_eq_true, Bool.not_eq_true'] at h4
  rcases h4 with h4 | h4
  · rw [hb] at h4; cases h4
  · exact h4
end
/-! ### example -/
def wants : List (List Rn) := [[⟨11, 1, 1⟩, ⟨12, 0, 1⟩],
  [⟨11, 2, 1⟩, ⟨4, 16, 1⟩, ⟨5, 16, 1⟩, ⟨12, 0, 1⟩],
  [⟨11, 3, 1⟩, ⟨5, 16, 2⟩, ⟨12, 0, 1⟩],
  [⟨11, 4, 1⟩, ⟨5, 16, 1⟩, ⟨8, 1024, 1⟩, ⟨12, 0, 1⟩],
  [⟨11, 2, 1⟩, ⟨1, 64, 2⟩, ⟨12, 0, 1⟩],
  [⟨11, 5, 1⟩, ⟨1, 64, 2⟩, ⟨6, 20, 1⟩, ⟨8, 1024, 1⟩, ⟨12, 0, 1⟩],
  [⟨11, 8, 1⟩, ⟨2, 128, 14⟩, ⟨12, 0, 1⟩],
  [⟨11, 4, 1⟩, ⟨12, 6, 1⟩],
  [⟨11, 10, 1⟩, ⟨12, 5, 1⟩],
  [⟨11, 99, 1⟩, ⟨12, 3, 1⟩]]
inductive Spk where
  | ev (r : Rn)
  | run (l : List Rn)
  | all
def spec22 : List Spk := [.ev ⟨11, 1, 1⟩,
  .ev ⟨12, 0, 1⟩,
  .run [⟨11, 1, 1⟩, ⟨12, 0, 1⟩],
  .ev ⟨11, 2, 1⟩,
  .ev ⟨4, 16, 1⟩,
  .ev ⟨5, 16, 1⟩,
  .ev ⟨12, 0, 1⟩,
  .run [⟨11, 2, 1⟩, ⟨4, 16, 1⟩, ⟨5, 16, 1⟩, ⟨12, 0, 1⟩],
  .ev ⟨11, 3, 1⟩,
  .ev ⟨5, 16, 2⟩,
  .ev ⟨12, 0, 1⟩,
  .run [⟨11, 3, 1⟩, ⟨5, 16, 2⟩, ⟨12, 0, 1⟩],
  .ev ⟨11, 4, 1⟩,
  .ev ⟨5, 16, 1⟩,
  .ev ⟨8, 1024, 1⟩,
  .ev ⟨12, 0, 1⟩,
  .run [⟨11, 4, 1⟩, ⟨5, 16, 1⟩, ⟨8, 1024, 1⟩, ⟨12, 0, 1⟩],
  .ev ⟨11, 2, 1⟩,
  .ev ⟨1, 64, 2⟩,
  .ev ⟨12, 0, 1⟩,
  .run [⟨11, 2, 1⟩, ⟨1, 64, 2⟩, ⟨12, 0, 1⟩],
  .ev ⟨11, 5, 1⟩,
  .ev ⟨1, 64, 2⟩,
  .ev ⟨6, 20, 1⟩,
  .ev ⟨8, 1024, 1⟩,
  .ev ⟨12, 0, 1⟩,
  .run [⟨11, 5, 1⟩, ⟨1, 64, 2⟩, ⟨6, 20, 1⟩, ⟨8, 1024, 1⟩, ⟨12, 0, 1⟩],
  .ev ⟨11, 8, 1⟩,
  .ev ⟨2, 128, 14⟩,
  .ev ⟨12, 0, 1⟩,
  .run [⟨11, 8, 1⟩, ⟨2, 128, 14⟩, ⟨12, 0, 1⟩],
  .ev ⟨11, 4, 1⟩,
  .ev ⟨12, 6, 1⟩,
  .run [⟨11, 4, 1⟩, ⟨12, 6, 1⟩],
  .ev ⟨11, 10, 1⟩,
  .ev ⟨12, 5, 1⟩,
  .run [⟨11, 10, 1⟩, ⟨12, 5, 1⟩],
  .ev ⟨11, 99, 1⟩,
  .ev ⟨12, 3, 1⟩,
  .run [⟨11, 99, 1⟩, ⟨12, 3, 1⟩],
  .all,
  .all]
def dst22 (i : Nat) : Nat := if i = 41 then 4 else 17 + i
def rnV (r : Rn) : Value := .agg #[.int .u8 r.k, .int .i64 r.s, .int .i64 r.c]
def Fx (sp : Spk) (v : Value) (w : World) : Prop := match sp with
  | .ev r => v = rnV r
  | .run l => ∃ b, v = .slice (some ⟨b, 0, none⟩) l.length l.length ∧ KN.R w (.slice (some ⟨b, 0, none⟩) l.length l.length) l
  | .all => ∃ b, v = .slice (some ⟨b, 0, none⟩) 10 10 ∧ ∀ j rs, wants[j]? = some rs → ∃ u, w.cell? ⟨b, j, none⟩ = some u ∧ KN.R w u rs
theorem Fx.below {sp : Spk} {v : Value} {w w' : World} (h : Fx sp v w) (hb : Below w.heap.size w w') : Fx sp v w' := by
  cases sp with
  | ev r => exact h
  | run l =>
    obtain ⟨b, h1, h2⟩ := h
    exact ⟨b, h1, h2.grow hb⟩
  | all =>
    obtain ⟨b, h1, h2⟩ := h
    refine ⟨b, h1, fun j rs hj => ?_⟩
    obtain ⟨u, h3, h4⟩ := h2 j rs hj
    exact ⟨u, (hb.cell (World.block_lt_of_cell? w _ h3)).trans h3, h4.grow hb⟩
def upd60 (x : Nat → Value) (d : Nat) (v : Value) : Nat → Value := fun j => if j = d then v else x j
structure JX (w1 : World) (B3 : Nat) (v2 : Value) (listed : Array Bool) (x : Nat → Value) (w : World) : Prop where
  sz : listed.size = 42
  up : Below w1.heap.size w1 w
  b3 : Blk w B3 76 #[.int .u8 12, .int .i64 0, .int .i64 1]
  x2 : x 2 = v2
  x3 : x 3 = .pointer (some ⟨B3, 0, none⟩)
  f : ∀ i sp, spec22[i]? = some sp → listed.getD i false = true → Fx sp (x (dst22 i)) w
section
variable {w1 w w' : World} {B3 : Nat} {v2 : Value} {listed : Array Bool} {x : Nat → Value}
theorem dst22_inj {i j : Nat} (hi : i < 42) (hj : j < 42) (h : dst22 i = dst22 j) : i = j := by
  unfold dst22 at h
  split at h <;> split at h <;> omega
theorem JX.put (h : JX w1 B3 v2 listed x w) (i d : Nat) (v : Value) (sp : Spk) (hi : i < 42) (hd : dst22 i = d) (hb : Below w.heap.size w w') (hf : Fx sp v w') (hsp : spec22[i]? = some sp := by rfl) : JX w1 B3 v2 (listed.setIfInBounds i true) (upd60 x d v) w' := by
  have hd2 : d ≠ 2 ∧ d ≠ 3 := by
    rw [← hd]
    unfold dst22
    split <;> omega
  refine ⟨by simp [h.sz], h.up.trans (hb.mono h.up.size), h.b3.only (Only.nothing hb) (fun h => h), ?_, ?_, fun j sp' hj hl => ?_⟩
  · show (if 2 = d then v else x 2) = v2
    rw [if_neg (fun e => hd2.1 e.symm)]
    exact h.x2
  · show (if 3 = d then v else x 3) = _
    rw [if_neg (fun e => hd2.2 e.symm)]
    exact h.x3
  · have hj42 : j < 42 := by
      have := (List.getElem?_eq_some_iff.1 hj).1
      exact this
    by_cases e : j = i
    · subst e
      rw [hsp] at hj
      injection hj with hj
      subst hj
      show Fx _ (if dst22 j = d then v else x (dst22 j)) w'
      rw [if_pos hd]
      exact hf
    · show Fx _ (if dst22 j = d then v else x (dst22 j)) w'
      rw [if_neg (fun e2 => e (dst22_inj hj42 hi (e2.trans hd.symm)))]
      refine (h.f j sp' hj ?_).below hb
      rw [Array.getD_eq_getD_getElem?, Array.getElem?_setIfInBounds_ne (fun e2 => e e2.symm)] at hl
      rw [Array.getD_eq_getD_getElem?]
      exact hl
theorem JX.ev (h : JX w1 B3 v2 listed x w) (i : Nat) (hl : listed.getD i false = true) {r : Rn} (hsp : spec22[i]? = some (.ev r)) : x (dst22 i) = rnV r := h.f i _ hsp hl
theorem JX.run (h : JX w1 B3 v2 listed x w) (i : Nat) (hl : listed.getD i false = true) (l : List Rn) (hsp : spec22[i]? = some (.run l)) : ∃ b, x (dst22 i) = .slice (some ⟨b, 0, none⟩) l.length l.length ∧ KN.R w (.slice (some ⟨b, 0, none⟩) l.length l.length) l := h.f i _ hsp hl
theorem JX.all (h : JX w1 B3 v2 listed x w) (i : Nat) (hl : listed.getD i false = true) (hsp : spec22[i]? = some .all) : ∃ b, x (dst22 i) = .slice (some ⟨b, 0, none⟩) 10 10 ∧ ∀ j rs, wants[j]? = some rs → ∃ u, w.cell? ⟨b, j, none⟩ = some u ∧ KN.R w u rs := h.f i _ hsp hl
end
def SAw (g b : Nat) (j : Nat) (rv sv : Value) (W : World) : Prop := W.cell? ⟨g, j, none⟩ = some rv ∧ W.cell? ⟨b, j, none⟩ = some sv
theorem SAw.id {g b : Nat} {j : Nat} {rv sv : Value} (W : World) (h : SAw g b j rv sv W) : W.cell? ⟨g, j, none⟩ = some rv ∧ W.cell? ⟨b, j, none⟩ = some sv := h
end Go.Proofs.YtkidijjhedjifaaGreat
