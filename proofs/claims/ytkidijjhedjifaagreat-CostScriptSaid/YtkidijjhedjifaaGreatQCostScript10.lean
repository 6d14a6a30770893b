/- The document's done, kind by kind (PART C; printed by wip/mkrefdone2.py). -/
import Derived.Test.YtkidijjhedjifaaGreatRows
import Derived.Test.YtkidijjhedjifaaGreatQCostScript9
/- The document's done, kind by kind (PART B; printed by wip/mkrefdone2.py). -/
namespace Go.Proofs.YtkidijjhedjifaaGreat
open Go.RowKit
set_option maxRecDepth 100000
set_option linter.unusedVariables false
set_option linter.unusedSimpArgs false
attribute [local go_sem] Oper.semAt_some
theorem free_of {σ : Hs} (h : cntH σ ≠ 64) : ∃ q, freeH σ = some q ∧ q < 64 := by
  cases e : freeH σ with
  | none => exact absurd ((full_free σ).2 e) h
  | some q =>
    have := freeTo_some σ 64 0 e
    exact ⟨q, rfl, by omega⟩
theorem take_is {σ : Hs} {q : Nat} (h : freeH σ = some q) (t : Th) : takeH σ t = σ.put (q : Int) (some t) := by
  unfold takeH
  rw [h]
theorem frR_is {σ : Hs} {q : Nat} (h : freeH σ = some q) : frR σ = (q : Int) := by
  unfold frR
  rw [h]
theorem cell_of {w : World} {P : Nat} {cs : Array Value} (h : Blk w P 57 cs) (hs : cs.size = 384) {k : Nat} (hk : k < 384) : ∃ v, w.cell? ⟨P, k, none⟩ = some v := ⟨_, h.cellAt k (Array.getElem?_eq_getElem (by rw [hs]; exact hk))⟩
theorem okse_of {mm : Int} {t : Th} (h : OKt mm t) (hmm : mm ≤ 90000000) (ha : t.alg ≠ 0) : OKse t := ⟨by have := h.a0; omega, h.a7, h.k0, h.k1, h.c0, h.c1, h.o1 ha, h.o2, h.m0, by have := h.m1; omega⟩
theorem OKr.le {rs : List Rn} {n m : Nat} (h : OKr rs n) (hm : m ≤ n) : OKr rs m := ⟨by have := h.len; omega, fun r hr => by have := h.cnt r hr; omega⟩
section
variable {w0 w : World} {obs : List Ob} {ip il P : Nat} {cs : Array Value} {v : Value} {rs : List Rn} {σ : Hs} {mm : Int}
set_option maxHeartbeats 8000000 in
theorem rdone9_env (hx : OcI obs ip il) (h : Env w0 w (Oc obs ip il P cs v rs)) (hp : PubCs cs σ) (hok : OKr rs 8) (hσ : OKh mm σ) (hmm : mm ≤ 90000000) (s : Sk) (hd0 : 0 ≤ s.data) (hm0 : 0 ≤ s.more) (hk : s.kind = 9) (hc : codeS σ s = 0) :
    Calls Tryz.prog 22 #[rpV P, v, skV s] w fun e w' => ∃ v' cs', e = .returned v' ∧ PubCs cs' (nxS σ s) ∧ Env w0 w' (Oc obs ip il P cs' v' ((evS σ s).foldl timesN rs)) := by
  have hc2 : keyC σ s = 0 := by unfold codeS at hc; rw [hk] at hc; simpa using hc
  obtain ⟨t, ht⟩ : ∃ t, σ s.handle = some t := by
    unfold keyC at hc2
    cases e : σ s.handle with
    | none => rw [e] at hc2; simp at hc2
    | some t => exact ⟨t, rfl⟩
  have hdm := hσ.dom _ _ ht
  obtain ⟨n, hn⟩ : ∃ n : Nat, s.handle = (n : Int) := ⟨s.handle.toNat, by omega⟩
  have hn64 : n < 64 := by omega
  have htn : σ (n : Int) = some t := by rw [← hn]; exact ht
  have hot := hσ.ok _ _ ht
  have HEV : Hid (evS σ s = []) := Lib.hid (by unfold evS; simp only [hk, ht, Option.getD_some]; first | rfl | simp)
  have HNX : Hid (nxS σ s = σ) := Lib.hid (by unfold nxS; simp only [hk]; first | rfl | simp)
  have HTK : Hid (takesR s.kind = false) := Lib.hid (by rw [hk]; rfl)
  have t1 : (s.kind == (1 : Int)) = false := beq_f (by omega)
  have t2 : (s.kind == (2 : Int)) = false := beq_f (by omega)
  have t3 : (s.kind == (3 : Int)) = false := beq_f (by omega)
  have t4 : (s.kind == (4 : Int)) = false := beq_f (by omega)
  have t5 : (s.kind == (5 : Int)) = false := beq_f (by omega)
  have t7 : (s.kind == (7 : Int)) = false := beq_f (by omega)
  have t8 : (s.kind == (8 : Int)) = false := beq_f (by omega)
  have t10 : (s.kind == (10 : Int)) = false := beq_f (by omega)
  have t0 : (s.kind != (1 : Int)) = true := bne_t (by omega)
  have HX := Lib.hid hx
  have HP := Lib.hid hp
  have HOK := Lib.hid hok
  have HM := Lib.hid (And.intro hmm (And.intro hd0 hm0))
  have HN : Hid (s.handle.toNat = n) := Lib.hid (by omega)
  have HBN : Hid (0 ≤ s.handle ∧ s.handle < 64) := Lib.hid (by omega)
  have HTN := Lib.hid htn
  have HOT := Lib.hid hot
  have h1 : Env w0 ((w.alloc (.cells #[.int .u8 s.kind, .int .i64 s.handle, .int .u8 s.alg, .int .i64 s.count, .int .i64 s.out, .int .i64 s.data, .int .i64 s.more] 40)).alloc (.cells #[.int .i64 0, .int .u8 0, .int .i64 0, .int .i64 0, .int .i64 0] 54)) (Oc obs ip il P cs v rs ++ [obK w.heap.size 40 (skCells s), obK (w.heap.size + 1) 54 (heCells th0)]) := by
    have h2 := (h.newK 40 (skCells s)).newK 54 (heCells th0)
    rw [List.append_assoc] at h2
    have e1 : (w.alloc (.cells (skCells s) 40)).heap.size = w.heap.size + 1 := by simp
    rw [e1] at h2
    exact h2
  obtain ⟨W, hW⟩ : ∃ y, (w.alloc (.cells #[.int .u8 s.kind, .int .i64 s.handle, .int .u8 s.alg, .int .i64 s.count, .int .i64 s.out, .int .i64 s.data, .int .i64 s.more] 40)).alloc (.cells #[.int .i64 0, .int .u8 0, .int .i64 0, .int .i64 0, .int .i64 0] 54) = y := ⟨_, rfl⟩
  obtain ⟨B2, hB2⟩ : ∃ y, w.heap.size + 1 = y := ⟨_, rfl⟩
  obtain ⟨B1, hB1⟩ : ∃ y, w.heap.size = y := ⟨_, rfl⟩
  rw [hW, hB2, hB1] at h1
  have H1 := Lib.hid h1
  have HNM := Lib.hid (And.intro hW (And.intro hB2 hB1))
  clear h1 h hσ hW hB2 hB1 hx hp hok hmm hd0 hm0 hk hc hc2 ht hdm hn htn hot
  unfold skV rpV
  go_enter Tryz.func22, Tryz.ntmps22
  go_upto_region 3 with fail
  obtain ⟨hW, hB2, hB1⟩ := HNM.out
  rw [hW]
  try rw [hB2]
  try simp only [hB1]
  clear hW hB2 hB1
  have hS : Hid (∀ W c, Env w0 W (Oc obs ip il P cs v rs ++ [obK B1 40 (skCells s), obK B2 54 c]) → SCd B1 P n s t W) := Lib.hid fun W c hW => by
    have q := HP.out.he n t hn64 HTN.out
    have hb := Oc_blk HX.out hW
    exact ⟨skBox (one_blk hW), ⟨hb.cellAt _ q.c0, hb.cellAt _ q.c1, hb.cellAt _ q.c2, hb.cellAt _ q.c3, hb.cellAt _ q.c4⟩⟩
  have hhn := HN.out
  have hbn := HBN.out
  refine hd_start (SCd B1 P n s t) (by kernel_rfl) ?_
  intro w2 hw'
  have H2 := Lib.hid (H1.out.draw 1)
  rw [← hw'] at H2
  clear hw' H1
  have S2 := hS.out _ _ H2.out
  refine hd_take (v := ?_) 0 rfl (by kernel_rfl) (fun _ _ d _ _ h => (by cases d <;> exact h)) (by kernel_rfl) S2 (fun w' hS => ?_) ?_
  rotate_left
  focus (have q0 := SCd.b0 w' hS; have q1 := SCd.b1 w' hS; have q2 := SCd.b2 w' hS; have q3 := SCd.b3 w' hS; have q4 := SCd.b4 w' hS; have q5 := SCd.b5 w' hS; have q6 := SCd.b6 w' hS; have q7 := SCd.h0 w' hS; have q8 := SCd.h1 w' hS; have q9 := SCd.h2 w' hS; have q10 := SCd.h3 w' hS; have q11 := SCd.h4 w' hS; clear hS; go_simp; try rfl; done)
  simp only [List.getElem_toArray, List.getElem_cons_succ, List.getElem_cons_zero, Act.put, List.setIfInBounds_toArray, List.set_cons_zero, List.set_cons_succ]
  refine hd_take (v := ?_) 1 rfl (by kernel_rfl) (fun _ _ d _ _ h => (by cases d <;> exact h)) (by kernel_rfl) S2 (fun w' hS => ?_) ?_
  rotate_left
  focus (have q0 := SCd.b0 w' hS; have q1 := SCd.b1 w' hS; have q2 := SCd.b2 w' hS; have q3 := SCd.b3 w' hS; have q4 := SCd.b4 w' hS; have q5 := SCd.b5 w' hS; have q6 := SCd.b6 w' hS; have q7 := SCd.h0 w' hS; have q8 := SCd.h1 w' hS; have q9 := SCd.h2 w' hS; have q10 := SCd.h3 w' hS; have q11 := SCd.h4 w' hS; clear hS; go_simp; try rfl; done)
  simp only [List.getElem_toArray, List.getElem_cons_succ, List.getElem_cons_zero, Act.put, List.setIfInBounds_toArray, List.set_cons_zero, List.set_cons_succ]
  refine hd_take (v := ?_) 2 rfl (by kernel_rfl) (fun _ _ d _ _ h => (by cases d <;> exact h)) (by kernel_rfl) S2 (fun w' hS => ?_) ?_
  rotate_left
  focus (have q0 := SCd.b0 w' hS; have q1 := SCd.b1 w' hS; have q2 := SCd.b2 w' hS; have q3 := SCd.b3 w' hS; have q4 := SCd.b4 w' hS; have q5 := SCd.b5 w' hS; have q6 := SCd.b6 w' hS; have q7 := SCd.h0 w' hS; have q8 := SCd.h1 w' hS; have q9 := SCd.h2 w' hS; have q10 := SCd.h3 w' hS; have q11 := SCd.h4 w' hS; clear hS; go_simp; try rfl; done)
  simp only [List.getElem_toArray, List.getElem_cons_succ, List.getElem_cons_zero, Act.put, List.setIfInBounds_toArray, List.set_cons_zero, List.set_cons_succ]
  refine hd_take (v := ?_) 3 rfl (by kernel_rfl) (fun _ _ d _ _ h => (by cases d <;> exact h)) (by kernel_rfl) S2 (fun w' hS => ?_) ?_
  rotate_left
  focus (have q0 := SCd.b0 w' hS; have q1 := SCd.b1 w' hS; have q2 := SCd.b2 w' hS; have q3 := SCd.b3 w' hS; have q4 := SCd.b4 w' hS; have q5 := SCd.b5 w' hS; have q6 := SCd.b6 w' hS; have q7 := SCd.h0 w' hS; have q8 := SCd.h1 w' hS; have q9 := SCd.h2 w' hS; have q10 := SCd.h3 w' hS; have q11 := SCd.h4 w' hS; clear hS; go_simp; try rfl; done)
  simp only [List.getElem_toArray, List.getElem_cons_succ, List.getElem_cons_zero, Act.put, List.setIfInBounds_toArray, List.set_cons_zero, List.set_cons_succ]
  refine hd_take (v := ?_) 4 rfl (by kernel_rfl) (fun _ _ d _ _ h => (by cases d <;> exact h)) (by kernel_rfl) S2 (fun w' hS => ?_) ?_
  rotate_left
  focus (have q0 := SCd.b0 w' hS; have q1 := SCd.b1 w' hS; have q2 := SCd.b2 w' hS; have q3 := SCd.b3 w' hS; have q4 := SCd.b4 w' hS; have q5 := SCd.b5 w' hS; have q6 := SCd.b6 w' hS; have q7 := SCd.h0 w' hS; have q8 := SCd.h1 w' hS; have q9 := SCd.h2 w' hS; have q10 := SCd.h3 w' hS; have q11 := SCd.h4 w' hS; clear hS; go_simp; try rfl; done)
  simp only [List.getElem_toArray, List.getElem_cons_succ, List.getElem_cons_zero, Act.put, List.setIfInBounds_toArray, List.set_cons_zero, List.set_cons_succ]
  refine hd_take (v := ?_) 5 rfl (by kernel_rfl) (fun _ _ d _ _ h => (by cases d <;> exact h)) (by kernel_rfl) S2 (fun w' hS => ?_) ?_
  rotate_left
  focus (have q0 := SCd.b0 w' hS; have q1 := SCd.b1 w' hS; have q2 := SCd.b2 w' hS; have q3 := SCd.b3 w' hS; have q4 := SCd.b4 w' hS; have q5 := SCd.b5 w' hS; have q6 := SCd.b6 w' hS; have q7 := SCd.h0 w' hS; have q8 := SCd.h1 w' hS; have q9 := SCd.h2 w' hS; have q10 := SCd.h3 w' hS; have q11 := SCd.h4 w' hS; clear hS; go_simp; try rfl; done)
  simp only [List.getElem_toArray, List.getElem_cons_succ, List.getElem_cons_zero, Act.put, List.setIfInBounds_toArray, List.set_cons_zero, List.set_cons_succ]
  refine hd_take (v := ?_) 6 rfl (by kernel_rfl) (fun _ _ d _ _ h => (by cases d <;> exact h)) (by kernel_rfl) S2 (fun w' hS => ?_) ?_
  rotate_left
  focus (have q0 := SCd.b0 w' hS; have q1 := SCd.b1 w' hS; have q2 := SCd.b2 w' hS; have q3 := SCd.b3 w' hS; have q4 := SCd.b4 w' hS; have q5 := SCd.b5 w' hS; have q6 := SCd.b6 w' hS; have q7 := SCd.h0 w' hS; have q8 := SCd.h1 w' hS; have q9 := SCd.h2 w' hS; have q10 := SCd.h3 w' hS; have q11 := SCd.h4 w' hS; clear hS; go_simp; try rfl; done)
  simp only [List.getElem_toArray, List.getElem_cons_succ, List.getElem_cons_zero, Act.put, List.setIfInBounds_toArray, List.set_cons_zero, List.set_cons_succ]
  have kb2 := two_blk H2.out
  have g0 := kb2.cellAt 0 rfl
  have g1 := kb2.cellAt 1 rfl
  have g2 := kb2.cellAt 2 rfl
  have g3 := kb2.cellAt 3 rfl
  have g4 := kb2.cellAt 4 rfl
  have f0 := kb2.unfrozen 0
  have f1 := kb2.unfrozen 1
  have f2 := kb2.unfrozen 2
  have f3 := kb2.unfrozen 3
  have f4 := kb2.unfrozen 4
  have h3 := two_turn H2.out (box_set kb2 ⟨_, _, _, _, _, rfl⟩ t) box_only
  have S3 := hS.out _ _ h3
  refine hd_one 7 (by kernel_rfl) ?_
  refine op_skip rfl (by kernel_rfl) (by go_simp; first | done | rfl) ?_
  refine ⟨S3, ?_⟩
  simp only [List.getElem_toArray, List.getElem_cons_succ, List.getElem_cons_zero, Act.put, List.setIfInBounds_toArray, List.set_cons_zero, List.set_cons_succ]
  refine hd_done (by kernel_rfl) ?_
  clear S2 S3 kb2 g0 g1 g2 g3 g4 f0 f1 f2 f3 f4 hS hhn hbn
  obtain ⟨w3, hw3⟩ : ∃ y, (((((w2).setCell ⟨B2, 0, none⟩ (.int .i64 t.key)).setCell ⟨B2, 1, none⟩ (.int .u8 t.alg)).setCell ⟨B2, 2, none⟩ (.int .i64 t.out)).setCell ⟨B2, 3, none⟩ (.int .i64 t.custom)).setCell ⟨B2, 4, none⟩ (.int .i64 t.msg) = y := ⟨_, rfl⟩
  rw [hw3] at h3 ⊢
  have H3 := Lib.hid h3
  clear h3 hw3 H2
  have SB := SBth.of H3.out
  have y0 := SBth.b0 _ SB
  have y1 := SBth.b1 _ SB
  have y2 := SBth.b2 _ SB
  have y3 := SBth.b3 _ SB
  have y4 := SBth.b4 _ SB
  have y5 := SBth.b5 _ SB
  have y6 := SBth.b6 _ SB
  have z0 := SBth.h0 _ SB
  have z1 := SBth.h1 _ SB
  have z2 := SBth.h2 _ SB
  have z3 := SBth.h3 _ SB
  have z4 := SBth.h4 _ SB
  go_wp2_with fail
  clear SB y0 y1 y2 y3 y4 y5 y6 z0 z1 z2 z3 z4
  refine (rtakes_any s.kind _).mono ?_
  rintro e wt ⟨rfl, rfl⟩
  rw [HTK.out]
  go_wp2_with fail
  go_ret
  exact ⟨_, cs, rfl, by rw [HNX.out]; exact HP.out, by rw [HEV.out]; exact two_drop H3.out⟩
set_option maxHeartbeats 8000000 in
theorem rdone6_env (hx : OcI obs ip il) (h : Env w0 w (Oc obs ip il P cs v rs)) (hp : PubCs cs σ) (hok : OKr rs 8) (hσ : OKh mm σ) (hmm : mm ≤ 90000000) (s : Sk) (hd0 : 0 ≤ s.data) (hm0 : 0 ≤ s.more) (hk : s.kind = 6) (hc : codeS σ s = 0) :
    Calls Tryz.prog 22 #[rpV P, v, skV s] w fun e w' => ∃ v' cs', e = .returned v' ∧ PubCs cs' (nxS σ s) ∧ Env w0 w' (Oc obs ip il P cs' v' ((evS σ s).foldl timesN rs)) := by
  have hc2 : cloC σ s = 0 := by unfold codeS at hc; rw [hk] at hc; simpa using hc
  obtain ⟨t, ht⟩ : ∃ t, σ s.handle = some t := by
    unfold cloC at hc2
    cases e : σ s.handle with
    | none => rw [e] at hc2; simp at hc2
    | some t => exact ⟨t, rfl⟩
  have i8 : cntH σ ≠ 64 := by
    unfold cloC roomC at hc2
    rw [ht] at hc2
    simp only at hc2
    split at hc2
    · omega
    · assumption
  have hdm := hσ.dom _ _ ht
  obtain ⟨n, hn⟩ : ∃ n : Nat, s.handle = (n : Int) := ⟨s.handle.toNat, by omega⟩
  have hn64 : n < 64 := by omega
  have htn : σ (n : Int) = some t := by rw [← hn]; exact ht
  have hot := hσ.ok _ _ ht
  obtain ⟨q, hq, hq64⟩ := free_of i8
  have HEV : Hid (evS σ s = []) := Lib.hid (by unfold evS; simp only [hk, ht, Option.getD_some]; first | rfl | simp)
  have HNX : Hid (nxS σ s = σ.put (q : Int) (some t)) := Lib.hid (by unfold nxS; simp only [hk, ht, Option.getD_some]; first | exact take_is hq _ | simpa using take_is hq _)
  have HTK : Hid (takesR s.kind = true) := Lib.hid (by rw [hk]; rfl)
  have t1 : (s.kind == (1 : Int)) = false := beq_f (by omega)
  have t2 : (s.kind == (2 : Int)) = false := beq_f (by omega)
  have t3 : (s.kind == (3 : Int)) = false := beq_f (by omega)
  have t4 : (s.kind == (4 : Int)) = false := beq_f (by omega)
  have t5 : (s.kind == (5 : Int)) = false := beq_f (by omega)
  have t7 : (s.kind == (7 : Int)) = false := beq_f (by omega)
  have t8 : (s.kind == (8 : Int)) = false := beq_f (by omega)
  have t10 : (s.kind == (10 : Int)) = false := beq_f (by omega)
  have t0 : (s.kind != (1 : Int)) = true := bne_t (by omega)
  have HX := Lib.hid hx
  have HP := Lib.hid hp
  have HOK := Lib.hid hok
  have HM := Lib.hid (And.intro hmm (And.intro hd0 hm0))
  have HN : Hid (s.handle.toNat = n) := Lib.hid (by omega)
  have HBN : Hid (0 ≤ s.handle ∧ s.handle < 64) := Lib.hid (by omega)
  have HTN := Lib.hid htn
  have HOT := Lib.hid hot
  have HQ := Lib.hid hq
  have h1 : Env w0 ((w.alloc (.cells #[.int .u8 s.kind, .int .i64 s.handle, .int .u8 s.alg, .int .i64 s.count, .int .i64 s.out, .int .i64 s.data, .int .i64 s.more] 40)).alloc (.cells #[.int .i64 0, .int .u8 0, .int .i64 0, .int .i64 0, .int .i64 0] 54)) (Oc obs ip il P cs v rs ++ [obK w.heap.size 40 (skCells s), obK (w.heap.size + 1) 54 (heCells th0)]) := by
    have h2 := (h.newK 40 (skCells s)).newK 54 (heCells th0)
    rw [List.append_assoc] at h2
    have e1 : (w.alloc (.cells (skCells s) 40)).heap.size = w.heap.size + 1 := by simp
    rw [e1] at h2
    exact h2
  obtain ⟨W, hW⟩ : ∃ y, (w.alloc (.cells #[.int .u8 s.kind, .int .i64 s.handle, .int .u8 s.alg, .int .i64 s.count, .int .i64 s.out, .int .i64 s.data, .int .i64 s.more] 40)).alloc (.cells #[.int .i64 0, .int .u8 0, .int .i64 0, .int .i64 0, .int .i64 0] 54) = y := ⟨_, rfl⟩
  obtain ⟨B2, hB2⟩ : ∃ y, w.heap.size + 1 = y := ⟨_, rfl⟩
  obtain ⟨B1, hB1⟩ : ∃ y, w.heap.size = y := ⟨_, rfl⟩
  rw [hW, hB2, hB1] at h1
  have H1 := Lib.hid h1
  have HNM := Lib.hid (And.intro hW (And.intro hB2 hB1))
  clear h1 h hσ hW hB2 hB1 hx hp hok hmm hd0 hm0 hk hc hc2 ht hdm hn htn hot hq i8
  unfold skV rpV
  go_enter Tryz.func22, Tryz.ntmps22
  go_upto_region 3 with fail
  obtain ⟨hW, hB2, hB1⟩ := HNM.out
  rw [hW]
  try rw [hB2]
  try simp only [hB1]
  clear hW hB2 hB1
  have hS : Hid (∀ W c, Env w0 W (Oc obs ip il P cs v rs ++ [obK B1 40 (skCells s), obK B2 54 c]) → SCd B1 P n s t W) := Lib.hid fun W c hW => by
    have q := HP.out.he n t hn64 HTN.out
    have hb := Oc_blk HX.out hW
    exact ⟨skBox (one_blk hW), ⟨hb.cellAt _ q.c0, hb.cellAt _ q.c1, hb.cellAt _ q.c2, hb.cellAt _ q.c3, hb.cellAt _ q.c4⟩⟩
  have hhn := HN.out
  have hbn := HBN.out
  refine hd_start (SCd B1 P n s t) (by kernel_rfl) ?_
  intro w2 hw'
  have H2 := Lib.hid (H1.out.draw 1)
  rw [← hw'] at H2
  clear hw' H1
  have S2 := hS.out _ _ H2.out
  refine hd_take (v := ?_) 0 rfl (by kernel_rfl) (fun _ _ d _ _ h => (by cases d <;> exact h)) (by kernel_rfl) S2 (fun w' hS => ?_) ?_
  rotate_left
  focus (have q0 := SCd.b0 w' hS; have q1 := SCd.b1 w' hS; have q2 := SCd.b2 w' hS; have q3 := SCd.b3 w' hS; have q4 := SCd.b4 w' hS; have q5 := SCd.b5 w' hS; have q6 := SCd.b6 w' hS; have q7 := SCd.h0 w' hS; have q8 := SCd.h1 w' hS; have q9 := SCd.h2 w' hS; have q10 := SCd.h3 w' hS; have q11 := SCd.h4 w' hS; clear hS; go_simp; try rfl; done)
  simp only [List.getElem_toArray, List.getElem_cons_succ, List.getElem_cons_zero, Act.put, List.setIfInBounds_toArray, List.set_cons_zero, List.set_cons_succ]
  refine hd_take (v := ?_) 1 rfl (by kernel_rfl) (fun _ _ d _ _ h => (by cases d <;> exact h)) (by kernel_rfl) S2 (fun w' hS => ?_) ?_
  rotate_left
  focus (have q0 := SCd.b0 w' hS; have q1 := SCd.b1 w' hS; have q2 := SCd.b2 w' hS; have q3 := SCd.b3 w' hS; have q4 := SCd.b4 w' hS; have q5 := SCd.b5 w' hS; have q6 := SCd.b6 w' hS; have q7 := SCd.h0 w' hS; have q8 := SCd.h1 w' hS; have q9 := SCd.h2 w' hS; have q10 := SCd.h3 w' hS; have q11 := SCd.h4 w' hS; clear hS; go_simp; try rfl; done)
  simp only [List.getElem_toArray, List.getElem_cons_succ, List.getElem_cons_zero, Act.put, List.setIfInBounds_toArray, List.set_cons_zero, List.set_cons_succ]
  refine hd_take (v := ?_) 2 rfl (by kernel_rfl) (fun _ _ d _ _ h => (by cases d <;> exact h)) (by kernel_rfl) S2 (fun w' hS => ?_) ?_
  rotate_left
  focus (have q0 := SCd.b0 w' hS; have q1 := SCd.b1 w' hS; have q2 := SCd.b2 w' hS; have q3 := SCd.b3 w' hS; have q4 := SCd.b4 w' hS; have q5 := SCd.b5 w' hS; have q6 := SCd.b6 w' hS; have q7 := SCd.h0 w' hS; have q8 := SCd.h1 w' hS; have q9 := SCd.h2 w' hS; have q10 := SCd.h3 w' hS; have q11 := SCd.h4 w' hS; clear hS; go_simp; try rfl; done)
  simp only [List.getElem_toArray, List.getElem_cons_succ, List.getElem_cons_zero, Act.put, List.setIfInBounds_toArray, List.set_cons_zero, List.set_cons_succ]
  refine hd_take (v := ?_) 3 rfl (by kernel_rfl) (fun _ _ d _ _ h => (by cases d <;> exact h)) (by kernel_rfl) S2 (fun w' hS => ?_) ?_
  rotate_left
  focus (have q0 := SCd.b0 w' hS; have q1 := SCd.b1 w' hS; have q2 := SCd.b2 w' hS; have q3 := SCd.b3 w' hS; have q4 := SCd.b4 w' hS; have q5 := SCd.b5 w' hS; have q6 := SCd.b6 w' hS; have q7 := SCd.h0 w' hS; have q8 := SCd.h1 w' hS; have q9 := SCd.h2 w' hS; have q10 := SCd.h3 w' hS; have q11 := SCd.h4 w' hS; clear hS; go_simp; try rfl; done)
  simp only [List.getElem_toArray, List.getElem_cons_succ, List.getElem_cons_zero, Act.put, List.setIfInBounds_toArray, List.set_cons_zero, List.set_cons_succ]
  refine hd_take (v := ?_) 4 rfl (by kernel_rfl) (fun _ _ d _ _ h => (by cases d <;> exact h)) (by kernel_rfl) S2 (fun w' hS => ?_) ?_
  rotate_left
  focus (have q0 := SCd.b0 w' hS; have q1 := SCd.b1 w' hS; have q2 := SCd.b2 w' hS; have q3 := SCd.b3 w' hS; have q4 := SCd.b4 w' hS; have q5 := SCd.b5 w' hS; have q6 := SCd.b6 w' hS; have q7 := SCd.h0 w' hS; have q8 := SCd.h1 w' hS; have q9 := SCd.h2 w' hS; have q10 := SCd.h3 w' hS; have q11 := SCd.h4 w' hS; clear hS; go_simp; try rfl; done)
  simp only [List.getElem_toArray, List.getElem_cons_succ, List.getElem_cons_zero, Act.put, List.setIfInBounds_toArray, List.set_cons_zero, List.set_cons_succ]
  refine hd_take (v := ?_) 5 rfl (by kernel_rfl) (fun _ _ d _ _ h => (by cases d <;> exact h)) (by kernel_rfl) S2 (fun w' hS => ?_) ?_
  rotate_left
  focus (have q0 := SCd.b0 w' hS; have q1 := SCd.b1 w' hS; have q2 := SCd.b2 w' hS; have q3 := SCd.b3 w' hS; have q4 := SCd.b4 w' hS; have q5 := SCd.b5 w' hS; have q6 := SCd.b6 w' hS; have q7 := SCd.h0 w' hS; have q8 := SCd.h1 w' hS; have q9 := SCd.h2 w' hS; have q10 := SCd.h3 w' hS; have q11 := SCd.h4 w' hS; clear hS; go_simp; try rfl; done)
  simp only [List.getElem_toArray, List.getElem_cons_succ, List.getElem_cons_zero, Act.put, List.setIfInBounds_toArray, List.set_cons_zero, List.set_cons_succ]
  refine hd_take (v := ?_) 6 rfl (by kernel_rfl) (fun _ _ d _ _ h => (by cases d <;> exact h)) (by kernel_rfl) S2 (fun w' hS => ?_) ?_
  rotate_left
  focus (have q0 := SCd.b0 w' hS; have q1 := SCd.b1 w' hS; have q2 := SCd.b2 w' hS; have q3 := SCd.b3 w' hS; have q4 := SCd.b4 w' hS; have q5 := SCd.b5 w' hS; have q6 := SCd.b6 w' hS; have q7 := SCd.h0 w' hS; have q8 := SCd.h1 w' hS; have q9 := SCd.h2 w' hS; have q10 := SCd.h3 w' hS; have q11 := SCd.h4 w' hS; clear hS; go_simp; try rfl; done)
  simp only [List.getElem_toArray, List.getElem_cons_succ, List.getElem_cons_zero, Act.put, List.setIfInBounds_toArray, List.set_cons_zero, List.set_cons_succ]
  have kb2 := two_blk H2.out
  have g0 := kb2.cellAt 0 rfl
  have g1 := kb2.cellAt 1 rfl
  have g2 := kb2.cellAt 2 rfl
  have g3 := kb2.cellAt 3 rfl
  have g4 := kb2.cellAt 4 rfl
  have f0 := kb2.unfrozen 0
  have f1 := kb2.unfrozen 1
  have f2 := kb2.unfrozen 2
  have f3 := kb2.unfrozen 3
  have f4 := kb2.unfrozen 4
  have h3 := two_turn H2.out (box_set kb2 ⟨_, _, _, _, _, rfl⟩ t) box_only
  have S3 := hS.out _ _ h3
  refine hd_one 7 (by kernel_rfl) ?_
  refine op_skip rfl (by kernel_rfl) (by go_simp; first | done | rfl) ?_
  refine ⟨S3, ?_⟩
  simp only [List.getElem_toArray, List.getElem_cons_succ, List.getElem_cons_zero, Act.put, List.setIfInBounds_toArray, List.set_cons_zero, List.set_cons_succ]
  refine hd_done (by kernel_rfl) ?_
  clear S2 S3 kb2 g0 g1 g2 g3 g4 f0 f1 f2 f3 f4 hS hhn hbn
  obtain ⟨w3, hw3⟩ : ∃ y, (((((w2).setCell ⟨B2, 0, none⟩ (.int .i64 t.key)).setCell ⟨B2, 1, none⟩ (.int .u8 t.alg)).setCell ⟨B2, 2, none⟩ (.int .i64 t.out)).setCell ⟨B2, 3, none⟩ (.int .i64 t.custom)).setCell ⟨B2, 4, none⟩ (.int .i64 t.msg) = y := ⟨_, rfl⟩
  rw [hw3] at h3 ⊢
  have H3 := Lib.hid h3
  clear h3 hw3 H2
  have SB := SBth.of H3.out
  have y0 := SBth.b0 _ SB
  have y1 := SBth.b1 _ SB
  have y2 := SBth.b2 _ SB
  have y3 := SBth.b3 _ SB
  have y4 := SBth.b4 _ SB
  have y5 := SBth.b5 _ SB
  have y6 := SBth.b6 _ SB
  have z0 := SBth.h0 _ SB
  have z1 := SBth.h1 _ SB
  have z2 := SBth.h2 _ SB
  have z3 := SBth.h3 _ SB
  have z4 := SBth.h4 _ SB
  go_wp2_with fail
  clear SB y0 y1 y2 y3 y4 y5 y6 z0 z1 z2 z3 z4
  refine (rtakes_any s.kind _).mono ?_
  rintro e wt ⟨rfl, rfl⟩
  rw [HTK.out]
  go_wp2_with fail
  refine (rfree_any (σ := σ) ⟨_, Oc_blk HX.out H3.out, HP.out⟩).mono ?_
  rintro e wt ⟨rfl, rfl⟩
  rw [frR_is HQ.out]
  obtain ⟨vq, hvq⟩ := cell_of (Oc_blk HX.out H3.out) HP.out.size (k := q) (by omega)
  have fq := (Oc_blk HX.out H3.out).unfrozen q
  have bq : 0 ≤ (q : Int) ∧ (q : Int) < 64 := by omega
  have h4 := Oc_turn HX.out H3.out ((Oc_blk HX.out H3.out).set q (.bool true)) ((Only.refl (fun x => x = P) _).set (p := ⟨P, q, none⟩) (.inl rfl) _)
  go_upto_region 32 with fail
  obtain ⟨w8, hw8⟩ : ∃ y, World.setCell w3 ⟨P, q, none⟩ (.bool true) = y := ⟨_, rfl⟩
  rw [hw8] at h4 ⊢
  have H8 := Lib.hid h4
  clear h4 hw8 hvq fq
  refine hd_start (SBth B1 B2 s t) (by kernel_rfl) ?_
  intro w9 hw'
  have H9 := Lib.hid (H8.out.draw 1)
  rw [← hw'] at H9
  clear hw' H8
  have S9 := SBth.of H9.out
  refine hd_take (v := ?_) 0 rfl (by kernel_rfl) (fun _ _ d _ _ h => (by cases d <;> exact h)) (by kernel_rfl) S9 (fun w' hS => ?_) ?_
  rotate_left
  focus (have q0 := SBth.b0 w' hS; have q1 := SBth.b1 w' hS; have q2 := SBth.b2 w' hS; have q3 := SBth.b3 w' hS; have q4 := SBth.b4 w' hS; have q5 := SBth.b5 w' hS; have q6 := SBth.b6 w' hS; have q7 := SBth.h0 w' hS; have q8 := SBth.h1 w' hS; have q9 := SBth.h2 w' hS; have q10 := SBth.h3 w' hS; have q11 := SBth.h4 w' hS; clear hS; go_simp; try rfl; done)
  simp only [List.getElem_toArray, List.getElem_cons_succ, List.getElem_cons_zero, Act.put, List.setIfInBounds_toArray, List.set_cons_zero, List.set_cons_succ]
  refine hd_take (v := ?_) 1 rfl (by kernel_rfl) (fun _ _ d _ _ h => (by cases d <;> exact h)) (by kernel_rfl) S9 (fun w' hS => ?_) ?_
  rotate_left
  focus (have q0 := SBth.b0 w' hS; have q1 := SBth.b1 w' hS; have q2 := SBth.b2 w' hS; have q3 := SBth.b3 w' hS; have q4 := SBth.b4 w' hS; have q5 := SBth.b5 w' hS; have q6 := SBth.b6 w' hS; have q7 := SBth.h0 w' hS; have q8 := SBth.h1 w' hS; have q9 := SBth.h2 w' hS; have q10 := SBth.h3 w' hS; have q11 := SBth.h4 w' hS; clear hS; go_simp; try rfl; done)
  simp only [List.getElem_toArray, List.getElem_cons_succ, List.getElem_cons_zero, Act.put, List.setIfInBounds_toArray, List.set_cons_zero, List.set_cons_succ]
  refine hd_take (v := ?_) 2 rfl (by kernel_rfl) (fun _ _ d _ _ h => (by cases d <;> exact h)) (by kernel_rfl) S9 (fun w' hS => ?_) ?_
  rotate_left
  focus (have q0 := SBth.b0 w' hS; have q1 := SBth.b1 w' hS; have q2 := SBth.b2 w' hS; have q3 := SBth.b3 w' hS; have q4 := SBth.b4 w' hS; have q5 := SBth.b5 w' hS; have q6 := SBth.b6 w' hS; have q7 := SBth.h0 w' hS; have q8 := SBth.h1 w' hS; have q9 := SBth.h2 w' hS; have q10 := SBth.h3 w' hS; have q11 := SBth.h4 w' hS; clear hS; go_simp; try rfl; done)
  simp only [List.getElem_toArray, List.getElem_cons_succ, List.getElem_cons_zero, Act.put, List.setIfInBounds_toArray, List.set_cons_zero, List.set_cons_succ]
  refine hd_take (v := ?_) 3 rfl (by kernel_rfl) (fun _ _ d _ _ h => (by cases d <;> exact h)) (by kernel_rfl) S9 (fun w' hS => ?_) ?_
  rotate_left
  focus (have q0 := SBth.b0 w' hS; have q1 := SBth.b1 w' hS; have q2 := SBth.b2 w' hS; have q3 := SBth.b3 w' hS; have q4 := SBth.b4 w' hS; have q5 := SBth.b5 w' hS; have q6 := SBth.b6 w' hS; have q7 := SBth.h0 w' hS; have q8 := SBth.h1 w' hS; have q9 := SBth.h2 w' hS; have q10 := SBth.h3 w' hS; have q11 := SBth.h4 w' hS; clear hS; go_simp; try rfl; done)
  simp only [List.getElem_toArray, List.getElem_cons_succ, List.getElem_cons_zero, Act.put, List.setIfInBounds_toArray, List.set_cons_zero, List.set_cons_succ]
  refine hd_take (v := ?_) 4 rfl (by kernel_rfl) (fun _ _ d _ _ h => (by cases d <;> exact h)) (by kernel_rfl) S9 (fun w' hS => ?_) ?_
  rotate_left
  focus (have q0 := SBth.b0 w' hS; have q1 := SBth.b1 w' hS; have q2 := SBth.b2 w' hS; have q3 := SBth.b3 w' hS; have q4 := SBth.b4 w' hS; have q5 := SBth.b5 w' hS; have q6 := SBth.b6 w' hS; have q7 := SBth.h0 w' hS; have q8 := SBth.h1 w' hS; have q9 := SBth.h2 w' hS; have q10 := SBth.h3 w' hS; have q11 := SBth.h4 w' hS; clear hS; go_simp; try rfl; done)
  simp only [List.getElem_toArray, List.getElem_cons_succ, List.getElem_cons_zero, Act.put, List.setIfInBounds_toArray, List.set_cons_zero, List.set_cons_succ]
  refine hd_take (v := ?_) 5 rfl (by kernel_rfl) (fun _ _ d _ _ h => (by cases d <;> exact h)) (by kernel_rfl) S9 (fun w' hS => ?_) ?_
  rotate_left
  focus (have q0 := SBth.b0 w' hS; have q1 := SBth.b1 w' hS; have q2 := SBth.b2 w' hS; have q3 := SBth.b3 w' hS; have q4 := SBth.b4 w' hS; have q5 := SBth.b5 w' hS; have q6 := SBth.b6 w' hS; have q7 := SBth.h0 w' hS; have q8 := SBth.h1 w' hS; have q9 := SBth.h2 w' hS; have q10 := SBth.h3 w' hS; have q11 := SBth.h4 w' hS; clear hS; go_simp; try rfl; done)
  simp only [List.getElem_toArray, List.getElem_cons_succ, List.getElem_cons_zero, Act.put, List.setIfInBounds_toArray, List.set_cons_zero, List.set_cons_succ]
  have hsz : (cs.setIfInBounds q (.bool true)).size = 384 := set_size HP.out.size
  have kbp := Oc_blk HX.out H9.out
  obtain ⟨u0, g0⟩ := cell_of kbp hsz (k := 64 + q * 5) (by omega)
  obtain ⟨u1, g1⟩ := cell_of kbp hsz (k := 64 + q * 5 + 1) (by omega)
  obtain ⟨u2, g2⟩ := cell_of kbp hsz (k := 64 + q * 5 + 2) (by omega)
  obtain ⟨u3, g3⟩ := cell_of kbp hsz (k := 64 + q * 5 + 3) (by omega)
  obtain ⟨u4, g4⟩ := cell_of kbp hsz (k := 64 + q * 5 + 4) (by omega)
  have f0 := kbp.unfrozen (64 + q * 5)
  have f1 := kbp.unfrozen (64 + q * 5 + 1)
  have f2 := kbp.unfrozen (64 + q * 5 + 2)
  have f3 := kbp.unfrozen (64 + q * 5 + 3)
  have f4 := kbp.unfrozen (64 + q * 5 + 4)
  have h10 := Oc_turn HX.out H9.out (pub_set (n := q) kbp t) pub_only
  have S10 := SBth.of h10
  have H10 := Lib.hid h10
  refine hd_one 6 (by kernel_rfl) ?_
  refine op_skip rfl (by kernel_rfl) (by go_simp; first | done | rfl) ?_
  refine ⟨S10, ?_⟩
  simp only [List.getElem_toArray, List.getElem_cons_succ, List.getElem_cons_zero, Act.put, List.setIfInBounds_toArray, List.set_cons_zero, List.set_cons_succ]
  refine hd_done (by kernel_rfl) ?_
  clear S9 S10 kbp g0 g1 g2 g3 g4 f0 f1 f2 f3 f4 h10 bq
  go_wp2_with fail
  go_ret
  first | refine ⟨_, rfl, heSet (cs.setIfInBounds q (.bool true)) q t, ?_, ?_⟩ | refine ⟨_, heSet (cs.setIfInBounds q (.bool true)) q t, rfl, ?_, ?_⟩
  · rw [HNX.out]
    exact HP.out.take hq64 _
  · rw [HEV.out]
    exact two_drop H10.out
set_option maxHeartbeats 8000000 in
theorem rdone10_env (hx : OcI obs ip il) (h : Env w0 w (Oc obs ip il P cs v rs)) (hp : PubCs cs σ) (hok : OKr rs 8) (hσ : OKh mm σ) (hmm : mm ≤ 90000000) (s : Sk) (hd0 : 0 ≤ s.data) (hm0 : 0 ≤ s.more) (hk : s.kind = 10) (hc : codeS σ s = 0) :
    Calls Tryz.prog 22 #[rpV P, v, skV s] w fun e w' => ∃ v' cs', e = .returned v' ∧ PubCs cs' (nxS σ s) ∧ Env w0 w' (Oc obs ip il P cs' v' ((evS σ s).foldl timesN rs)) := by
  have hc2 : anyC σ s = 0 := by unfold codeS at hc; rw [hk] at hc; simpa using hc
  obtain ⟨t, ht⟩ := anyC_zero hc2
  have hdm := hσ.dom _ _ ht
  obtain ⟨n, hn⟩ : ∃ n : Nat, s.handle = (n : Int) := ⟨s.handle.toNat, by omega⟩
  have hn64 : n < 64 := by omega
  have htn : σ (n : Int) = some t := by rw [← hn]; exact ht
  have hot := hσ.ok _ _ ht
  have HEV : Hid (evS σ s = [⟨8, 1024, 1⟩]) := Lib.hid (by unfold evS; simp only [hk, ht, Option.getD_some]; first | rfl | simp)
  have HNX : Hid (nxS σ s = σ.put (n : Int) none) := Lib.hid (by unfold nxS; simp only [hk, ht, Option.getD_some, ← hn]; first | rfl | simp)
  have HTK : Hid (takesR s.kind = false) := Lib.hid (by rw [hk]; rfl)
  have t1 : (s.kind == (1 : Int)) = false := beq_f (by omega)
  have t2 : (s.kind == (2 : Int)) = false := beq_f (by omega)
  have t3 : (s.kind == (3 : Int)) = false := beq_f (by omega)
  have t4 : (s.kind == (4 : Int)) = false := beq_f (by omega)
  have t5 : (s.kind == (5 : Int)) = false := beq_f (by omega)
  have t7 : (s.kind == (7 : Int)) = false := beq_f (by omega)
  have t8 : (s.kind == (8 : Int)) = false := beq_f (by omega)
  have t10 : (s.kind == (10 : Int)) = true := beq_t hk
  have t0 : (s.kind != (1 : Int)) = true := bne_t (by omega)
  have HX := Lib.hid hx
  have HP := Lib.hid hp
  have HOK := Lib.hid hok
  have HM := Lib.hid (And.intro hmm (And.intro hd0 hm0))
  have HN : Hid (s.handle.toNat = n) := Lib.hid (by omega)
  have HBN : Hid (0 ≤ s.handle ∧ s.handle < 64) := Lib.hid (by omega)
  have HTN := Lib.hid htn
  have HOT := Lib.hid hot
  have h1 : Env w0 ((w.alloc (.cells #[.int .u8 s.kind, .int .i64 s.handle, .int .u8 s.alg, .int .i64 s.count, .int .i64 s.out, .int .i64 s.data, .int .i64 s.more] 40)).alloc (.cells #[.int .i64 0, .int .u8 0, .int .i64 0, .int .i64 0, .int .i64 0] 54)) (Oc obs ip il P cs v rs ++ [obK w.heap.size 40 (skCells s), obK (w.heap.size + 1) 54 (heCells th0)]) := by
    have h2 := (h.newK 40 (skCells s)).newK 54 (heCells th0)
    rw [List.append_assoc] at h2
    have e1 : (w.alloc (.cells (skCells s) 40)).heap.size = w.heap.size + 1 := by simp
    rw [e1] at h2
    exact h2
  obtain ⟨W, hW⟩ : ∃ y, (w.alloc (.cells #[.int .u8 s.kind, .int .i64 s.handle, .int .u8 s.alg, .int .i64 s.count, .int .i64 s.out, .int .i64 s.data, .int .i64 s.more] 40)).alloc (.cells #[.int .i64 0, .int .u8 0, .int .i64 0, .int .i64 0, .int .i64 0] 54) = y := ⟨_, rfl⟩
  obtain ⟨B2, hB2⟩ : ∃ y, w.heap.size + 1 = y := ⟨_, rfl⟩
  obtain ⟨B1, hB1⟩ : ∃ y, w.heap.size = y := ⟨_, rfl⟩
  rw [hW, hB2, hB1] at h1
  have H1 := Lib.hid h1
  have HNM := Lib.hid (And.intro hW (And.intro hB2 hB1))
  clear h1 h hσ hW hB2 hB1 hx hp hok hmm hd0 hm0 hk hc hc2 ht hdm hn htn hot
  unfold skV rpV
  go_enter Tryz.func22, Tryz.ntmps22
  go_upto_region 3 with fail
  obtain ⟨hW, hB2, hB1⟩ := HNM.out
  rw [hW]
  try rw [hB2]
  try simp only [hB1]
  clear hW hB2 hB1
  have hS : Hid (∀ W c, Env w0 W (Oc obs ip il P cs v rs ++ [obK B1 40 (skCells s), obK B2 54 c]) → SCd B1 P n s t W) := Lib.hid fun W c hW => by
    have q := HP.out.he n t hn64 HTN.out
    have hb := Oc_blk HX.out hW
    exact ⟨skBox (one_blk hW), ⟨hb.cellAt _ q.c0, hb.cellAt _ q.c1, hb.cellAt _ q.c2, hb.cellAt _ q.c3, hb.cellAt _ q.c4⟩⟩
  have hhn := HN.out
  have hbn := HBN.out
  refine hd_start (SCd B1 P n s t) (by kernel_rfl) ?_
  intro w2 hw'
  have H2 := Lib.hid (H1.out.draw 1)
  rw [← hw'] at H2
  clear hw' H1
  have S2 := hS.out _ _ H2.out
  refine hd_take (v := ?_) 0 rfl (by kernel_rfl) (fun _ _ d _ _ h => (by cases d <;> exact h)) (by kernel_rfl) S2 (fun w' hS => ?_) ?_
  rotate_left
  focus (have q0 := SCd.b0 w' hS; have q1 := SCd.b1 w' hS; have q2 := SCd.b2 w' hS; have q3 := SCd.b3 w' hS; have q4 := SCd.b4 w' hS; have q5 := SCd.b5 w' hS; have q6 := SCd.b6 w' hS; have q7 := SCd.h0 w' hS; have q8 := SCd.h1 w' hS; have q9 := SCd.h2 w' hS; have q10 := SCd.h3 w' hS; have q11 := SCd.h4 w' hS; clear hS; go_simp; try rfl; done)
  simp only [List.getElem_toArray, List.getElem_cons_succ, List.getElem_cons_zero, Act.put, List.setIfInBounds_toArray, List.set_cons_zero, List.set_cons_succ]
  refine hd_take (v := ?_) 1 rfl (by kernel_rfl) (fun _ _ d _ _ h => (by cases d <;> exact h)) (by kernel_rfl) S2 (fun w' hS => ?_) ?_
  rotate_left
  focus (have q0 := SCd.b0 w' hS; have q1 := SCd.b1 w' hS; have q2 := SCd.b2 w' hS; have q3 := SCd.b3 w' hS; have q4 := SCd.b4 w' hS; have q5 := SCd.b5 w' hS; have q6 := SCd.b6 w' hS; have q7 := SCd.h0 w' hS; have q8 := SCd.h1 w' hS; have q9 := SCd.h2 w' hS; have q10 := SCd.h3 w' hS; have q11 := SCd.h4 w' hS; clear hS; go_simp; try rfl; done)
  simp only [List.getElem_toArray, List.getElem_cons_succ, List.getElem_cons_zero, Act.put, List.setIfInBounds_toArray, List.set_cons_zero, List.set_cons_succ]
  refine hd_take (v := ?_) 2 rfl (by kernel_rfl) (fun _ _ d _ _ h => (by cases d <;> exact h)) (by kernel_rfl) S2 (fun w' hS => ?_) ?_
  rotate_left
  focus (have q0 := SCd.b0 w' hS; have q1 := SCd.b1 w' hS; have q2 := SCd.b2 w' hS; have q3 := SCd.b3 w' hS; have q4 := SCd.b4 w' hS; have q5 := SCd.b5 w' hS; have q6 := SCd.b6 w' hS; have q7 := SCd.h0 w' hS; have q8 := SCd.h1 w' hS; have q9 := SCd.h2 w' hS; have q10 := SCd.h3 w' hS; have q11 := SCd.h4 w' hS; clear hS; go_simp; try rfl; done)
  simp only [List.getElem_toArray, List.getElem_cons_succ, List.getElem_cons_zero, Act.put, List.setIfInBounds_toArray, List.set_cons_zero, List.set_cons_succ]
  refine hd_take (v := ?_) 3 rfl (by kernel_rfl) (fun _ _ d _ _ h => (by cases d <;> exact h)) (by kernel_rfl) S2 (fun w' hS => ?_) ?_
  rotate_left
  focus (have q0 := SCd.b0 w' hS; have q1 := SCd.b1 w' hS; have q2 := SCd.b2 w' hS; have q3 := SCd.b3 w' hS; have q4 := SCd.b4 w' hS; have q5 := SCd.b5 w' hS; have q6 := SCd.b6 w' hS; have q7 := SCd.h0 w' hS; have q8 := SCd.h1 w' hS; have q9 := SCd.h2 w' hS; have q10 := SCd.h3 w' hS; have q11 := SCd.h4 w' hS; clear hS; go_simp; try rfl; done)
  simp only [List.getElem_toArray, List.getElem_cons_succ, List.getElem_cons_zero, Act.put, List.setIfInBounds_toArray, List.set_cons_zero, List.set_cons_succ]
  refine hd_take (v := ?_) 4 rfl (by kernel_rfl) (fun _ _ d _ _ h => (by cases d <;> exact h)) (by kernel_rfl) S2 (fun w' hS => ?_) ?_
  rotate_left
  focus (have q0 := SCd.b0 w' hS; have q1 := SCd.b1 w' hS; have q2 := SCd.b2 w' hS; have q3 := SCd.b3 w' hS; have q4 := SCd.b4 w' hS; have q5 := SCd.b5 w' hS; have q6 := SCd.b6 w' hS; have q7 := SCd.h0 w' hS; have q8 := SCd.h1 w' hS; have q9 := SCd.h2 w' hS; have q10 := SCd.h3 w' hS; have q11 := SCd.h4 w' hS; clear hS; go_simp; try rfl; done)
  simp only [List.getElem_toArray, List.getElem_cons_succ, List.getElem_cons_zero, Act.put, List.setIfInBounds_toArray, List.set_cons_zero, List.set_cons_succ]
  refine hd_take (v := ?_) 5 rfl (by kernel_rfl) (fun _ _ d _ _ h => (by cases d <;> exact h)) (by kernel_rfl) S2 (fun w' hS => ?_) ?_
  rotate_left
  focus (have q0 := SCd.b0 w' hS; have q1 := SCd.b1 w' hS; have q2 := SCd.b2 w' hS; have q3 := SCd.b3 w' hS; have q4 := SCd.b4 w' hS; have q5 := SCd.b5 w' hS; have q6 := SCd.b6 w' hS; have q7 := SCd.h0 w' hS; have q8 := SCd.h1 w' hS; have q9 := SCd.h2 w' hS; have q10 := SCd.h3 w' hS; have q11 := SCd.h4 w' hS; clear hS; go_simp; try rfl; done)
  simp only [List.getElem_toArray, List.getElem_cons_succ, List.getElem_cons_zero, Act.put, List.setIfInBounds_toArray, List.set_cons_zero, List.set_cons_succ]
  refine hd_take (v := ?_) 6 rfl (by kernel_rfl) (fun _ _ d _ _ h => (by cases d <;> exact h)) (by kernel_rfl) S2 (fun w' hS => ?_) ?_
  rotate_left
  focus (have q0 := SCd.b0 w' hS; have q1 := SCd.b1 w' hS; have q2 := SCd.b2 w' hS; have q3 := SCd.b3 w' hS; have q4 := SCd.b4 w' hS; have q5 := SCd.b5 w' hS; have q6 := SCd.b6 w' hS; have q7 := SCd.h0 w' hS; have q8 := SCd.h1 w' hS; have q9 := SCd.h2 w' hS; have q10 := SCd.h3 w' hS; have q11 := SCd.h4 w' hS; clear hS; go_simp; try rfl; done)
  simp only [List.getElem_toArray, List.getElem_cons_succ, List.getElem_cons_zero, Act.put, List.setIfInBounds_toArray, List.set_cons_zero, List.set_cons_succ]
  have kb2 := two_blk H2.out
  have g0 := kb2.cellAt 0 rfl
  have g1 := kb2.cellAt 1 rfl
  have g2 := kb2.cellAt 2 rfl
  have g3 := kb2.cellAt 3 rfl
  have g4 := kb2.cellAt 4 rfl
  have f0 := kb2.unfrozen 0
  have f1 := kb2.unfrozen 1
  have f2 := kb2.unfrozen 2
  have f3 := kb2.unfrozen 3
  have f4 := kb2.unfrozen 4
  have h3 := two_turn H2.out (box_set kb2 ⟨_, _, _, _, _, rfl⟩ t) box_only
  have S3 := hS.out _ _ h3
  refine hd_one 7 (by kernel_rfl) ?_
  refine op_skip rfl (by kernel_rfl) (by go_simp; first | done | rfl) ?_
  refine ⟨S3, ?_⟩
  simp only [List.getElem_toArray, List.getElem_cons_succ, List.getElem_cons_zero, Act.put, List.setIfInBounds_toArray, List.set_cons_zero, List.set_cons_succ]
  refine hd_done (by kernel_rfl) ?_
  clear S2 S3 kb2 g0 g1 g2 g3 g4 f0 f1 f2 f3 f4 hS hhn hbn
  obtain ⟨w3, hw3⟩ : ∃ y, (((((w2).setCell ⟨B2, 0, none⟩ (.int .i64 t.key)).setCell ⟨B2, 1, none⟩ (.int .u8 t.alg)).setCell ⟨B2, 2, none⟩ (.int .i64 t.out)).setCell ⟨B2, 3, none⟩ (.int .i64 t.custom)).setCell ⟨B2, 4, none⟩ (.int .i64 t.msg) = y := ⟨_, rfl⟩
  rw [hw3] at h3 ⊢
  have H3 := Lib.hid h3
  clear h3 hw3 H2
  have SB := SBth.of H3.out
  have y0 := SBth.b0 _ SB
  have y1 := SBth.b1 _ SB
  have y2 := SBth.b2 _ SB
  have y3 := SBth.b3 _ SB
  have y4 := SBth.b4 _ SB
  have y5 := SBth.b5 _ SB
  have y6 := SBth.b6 _ SB
  have z0 := SBth.h0 _ SB
  have z1 := SBth.h1 _ SB
  have z2 := SBth.h2 _ SB
  have z3 := SBth.h3 _ SB
  have z4 := SBth.h4 _ SB
  go_wp2_with fail
  refine (rput_d HX.out H3.out 8 1024 1 (HOK.out.le (by omega)) (by omega)).mono ?_
  rintro e w7 ⟨v7, rfl, h7⟩
  have H7 := Lib.hid h7
  clear h7
  go_upto_region 28 with fail
  clear SB y0 y1 y2 y3 y4 y5 y6 z0 z1 z2 z3 z4
  have hhn := HN.out
  have hbn := HBN.out
  refine hd_start (SBth B1 B2 s t) (by kernel_rfl) ?_
  intro w8 hw'
  have H8 := Lib.hid (H7.out.draw 1)
  rw [← hw'] at H8
  clear hw' H7
  have S8 := SBth.of H8.out
  refine hd_take (v := ?_) 0 rfl (by kernel_rfl) (fun _ _ d _ _ h => (by cases d <;> exact h)) (by kernel_rfl) S8 (fun w' hS => ?_) ?_
  rotate_left
  focus (have q0 := SBth.b0 w' hS; have q1 := SBth.b1 w' hS; have q2 := SBth.b2 w' hS; have q3 := SBth.b3 w' hS; have q4 := SBth.b4 w' hS; have q5 := SBth.b5 w' hS; have q6 := SBth.b6 w' hS; have q7 := SBth.h0 w' hS; have q8 := SBth.h1 w' hS; have q9 := SBth.h2 w' hS; have q10 := SBth.h3 w' hS; have q11 := SBth.h4 w' hS; clear hS; go_simp; try rfl; done)
  simp only [List.getElem_toArray, List.getElem_cons_succ, List.getElem_cons_zero, Act.put, List.setIfInBounds_toArray, List.set_cons_zero, List.set_cons_succ]
  refine hd_take (v := ?_) 1 rfl (by kernel_rfl) (fun _ _ d _ _ h => (by cases d <;> exact h)) (by kernel_rfl) S8 (fun w' hS => ?_) ?_
  rotate_left
  focus (have q0 := SBth.b0 w' hS; have q1 := SBth.b1 w' hS; have q2 := SBth.b2 w' hS; have q3 := SBth.b3 w' hS; have q4 := SBth.b4 w' hS; have q5 := SBth.b5 w' hS; have q6 := SBth.b6 w' hS; have q7 := SBth.h0 w' hS; have q8 := SBth.h1 w' hS; have q9 := SBth.h2 w' hS; have q10 := SBth.h3 w' hS; have q11 := SBth.h4 w' hS; clear hS; go_simp; try rfl; done)
  simp only [List.getElem_toArray, List.getElem_cons_succ, List.getElem_cons_zero, Act.put, List.setIfInBounds_toArray, List.set_cons_zero, List.set_cons_succ]
  refine hd_take (v := ?_) 2 rfl (by kernel_rfl) (fun _ _ d _ _ h => (by cases d <;> exact h)) (by kernel_rfl) S8 (fun w' hS => ?_) ?_
  rotate_left
  focus (have q0 := SBth.b0 w' hS; have q1 := SBth.b1 w' hS; have q2 := SBth.b2 w' hS; have q3 := SBth.b3 w' hS; have q4 := SBth.b4 w' hS; have q5 := SBth.b5 w' hS; have q6 := SBth.b6 w' hS; have q7 := SBth.h0 w' hS; have q8 := SBth.h1 w' hS; have q9 := SBth.h2 w' hS; have q10 := SBth.h3 w' hS; have q11 := SBth.h4 w' hS; clear hS; go_simp; try rfl; done)
  simp only [List.getElem_toArray, List.getElem_cons_succ, List.getElem_cons_zero, Act.put, List.setIfInBounds_toArray, List.set_cons_zero, List.set_cons_succ]
  refine hd_take (v := ?_) 3 rfl (by kernel_rfl) (fun _ _ d _ _ h => (by cases d <;> exact h)) (by kernel_rfl) S8 (fun w' hS => ?_) ?_
  rotate_left
  focus (have q0 := SBth.b0 w' hS; have q1 := SBth.b1 w' hS; have q2 := SBth.b2 w' hS; have q3 := SBth.b3 w' hS; have q4 := SBth.b4 w' hS; have q5 := SBth.b5 w' hS; have q6 := SBth.b6 w' hS; have q7 := SBth.h0 w' hS; have q8 := SBth.h1 w' hS; have q9 := SBth.h2 w' hS; have q10 := SBth.h3 w' hS; have q11 := SBth.h4 w' hS; clear hS; go_simp; try rfl; done)
  simp only [List.getElem_toArray, List.getElem_cons_succ, List.getElem_cons_zero, Act.put, List.setIfInBounds_toArray, List.set_cons_zero, List.set_cons_succ]
  refine hd_take (v := ?_) 4 rfl (by kernel_rfl) (fun _ _ d _ _ h => (by cases d <;> exact h)) (by kernel_rfl) S8 (fun w' hS => ?_) ?_
  rotate_left
  focus (have q0 := SBth.b0 w' hS; have q1 := SBth.b1 w' hS; have q2 := SBth.b2 w' hS; have q3 := SBth.b3 w' hS; have q4 := SBth.b4 w' hS; have q5 := SBth.b5 w' hS; have q6 := SBth.b6 w' hS; have q7 := SBth.h0 w' hS; have q8 := SBth.h1 w' hS; have q9 := SBth.h2 w' hS; have q10 := SBth.h3 w' hS; have q11 := SBth.h4 w' hS; clear hS; go_simp; try rfl; done)
  simp only [List.getElem_toArray, List.getElem_cons_succ, List.getElem_cons_zero, Act.put, List.setIfInBounds_toArray, List.set_cons_zero, List.set_cons_succ]
  refine hd_take (v := ?_) 5 rfl (by kernel_rfl) (fun _ _ d _ _ h => (by cases d <;> exact h)) (by kernel_rfl) S8 (fun w' hS => ?_) ?_
  rotate_left
  focus (have q0 := SBth.b0 w' hS; have q1 := SBth.b1 w' hS; have q2 := SBth.b2 w' hS; have q3 := SBth.b3 w' hS; have q4 := SBth.b4 w' hS; have q5 := SBth.b5 w' hS; have q6 := SBth.b6 w' hS; have q7 := SBth.h0 w' hS; have q8 := SBth.h1 w' hS; have q9 := SBth.h2 w' hS; have q10 := SBth.h3 w' hS; have q11 := SBth.h4 w' hS; clear hS; go_simp; try rfl; done)
  simp only [List.getElem_toArray, List.getElem_cons_succ, List.getElem_cons_zero, Act.put, List.setIfInBounds_toArray, List.set_cons_zero, List.set_cons_succ]
  have kbp := Oc_blk HX.out H8.out
  obtain ⟨u0, g0⟩ := cell_of kbp HP.out.size (k := n) (by omega)
  have f0 := kbp.unfrozen n
  have h9 := Oc_turn HX.out H8.out (kbp.set n (.bool false)) ((Only.refl (fun x => x = P) _).set (p := ⟨P, n, none⟩) (.inl rfl) _)
  have S9 := SBth.of h9
  have SB := S9
  have y0 := SBth.b0 _ SB
  have H9 := Lib.hid h9
  refine hd_one 6 (by kernel_rfl) ?_
  refine op_skip rfl (by kernel_rfl) (by go_simp; first | done | rfl) ?_
  refine ⟨S9, ?_⟩
  simp only [List.getElem_toArray, List.getElem_cons_succ, List.getElem_cons_zero, Act.put, List.setIfInBounds_toArray, List.set_cons_zero, List.set_cons_succ]
  refine hd_done (by kernel_rfl) ?_
  clear S8 S9 kbp g0 f0 h9 hhn hbn
  go_wp2_with fail
  clear SB y0
  refine (rtakes_any s.kind _).mono ?_
  rintro e wt ⟨rfl, rfl⟩
  rw [HTK.out]
  go_wp2_with fail
  go_ret
  exact ⟨_, cs.setIfInBounds n (.bool false), rfl, by rw [HNX.out]; exact HP.out.drop hn64, by rw [HEV.out]; exact two_drop H9.out⟩
end
end Go.Proofs.YtkidijjhedjifaaGreat
namespace Go.Proofs.YtkidijjhedjifaaGreat
open Go.RowKit
set_option maxRecDepth 100000
set_option linter.unusedVariables false
set_option linter.unusedSimpArgs false
attribute [local go_sem] Oper.semAt_some
section
variable {w0 w : World} {obs : List Ob} {ip il P : Nat} {cs : Array Value} {v : Value} {rs : List Rn} {σ : Hs} {mm : Int}
set_option maxHeartbeats 8000000 in
theorem rdone1_env (hx : OcI obs ip il) (h : Env w0 w (Oc obs ip il P cs v rs)) (hp : PubCs cs σ) (hok : OKr rs 8) (hσ : OKh mm σ) (hmm : mm ≤ 90000000) (s : Sk) (hd0 : 0 ≤ s.data) (hm0 : 0 ≤ s.more) (hk : s.kind = 1) (hc : codeS σ s = 0) :
    Calls Tryz.prog 22 #[rpV P, v, skV s] w fun e w' => ∃ v' cs', e = .returned v' ∧ PubCs cs' (nxS σ s) ∧ Env w0 w' (Oc obs ip il P cs' v' ((evS σ s).foldl timesN rs)) := by
  have hc2 : cputC σ s = 0 := by unfold codeS at hc; rw [hk] at hc; simpa using hc
  have hc3 : s.data ≤ 512 ∧ cntH σ ≠ 64 := by
    unfold cputC roomC at hc2
    split at hc2
    · omega
    split at hc2
    · omega
    · rename_i n1 n2
      exact ⟨by omega, n2⟩
  obtain ⟨q, hq, hq64⟩ := free_of hc3.2
  have HEV : Hid (evS σ s = []) := Lib.hid (by unfold evS; simp only [hk, Option.getD_some]; first | rfl | simp)
  have HNX : Hid (nxS σ s = σ.put (q : Int) (some (⟨0, 0, s.data, 0, 0⟩ : Th))) := Lib.hid (by unfold nxS; simp only [hk, Option.getD_some]; first | exact take_is hq _ | simpa using take_is hq _)
  have HTK : Hid (takesR s.kind = true) := Lib.hid (by rw [hk]; rfl)
  have t1 : (s.kind == (1 : Int)) = true := beq_t hk
  have t2 : (s.kind == (2 : Int)) = false := beq_f (by omega)
  have t3 : (s.kind == (3 : Int)) = false := beq_f (by omega)
  have t4 : (s.kind == (4 : Int)) = false := beq_f (by omega)
  have t5 : (s.kind == (5 : Int)) = false := beq_f (by omega)
  have t7 : (s.kind == (7 : Int)) = false := beq_f (by omega)
  have t8 : (s.kind == (8 : Int)) = false := beq_f (by omega)
  have t10 : (s.kind == (10 : Int)) = false := beq_f (by omega)
  have t0 : (s.kind != (1 : Int)) = false := bne_f hk
  have HX := Lib.hid hx
  have HP := Lib.hid hp
  have HOK := Lib.hid hok
  have HM := Lib.hid (And.intro hmm (And.intro hd0 hm0))
  have HQ := Lib.hid hq
  have HI := Lib.hid hc3
  have h1 : Env w0 ((w.alloc (.cells #[.int .u8 s.kind, .int .i64 s.handle, .int .u8 s.alg, .int .i64 s.count, .int .i64 s.out, .int .i64 s.data, .int .i64 s.more] 40)).alloc (.cells #[.int .i64 0, .int .u8 0, .int .i64 0, .int .i64 0, .int .i64 0] 54)) (Oc obs ip il P cs v rs ++ [obK w.heap.size 40 (skCells s), obK (w.heap.size + 1) 54 (heCells th0)]) := by
    have h2 := (h.newK 40 (skCells s)).newK 54 (heCells th0)
    rw [List.append_assoc] at h2
    have e1 : (w.alloc (.cells (skCells s) 40)).heap.size = w.heap.size + 1 := by simp
    rw [e1] at h2
    exact h2
  obtain ⟨W, hW⟩ : ∃ y, (w.alloc (.cells #[.int .u8 s.kind, .int .i64 s.handle, .int .u8 s.alg, .int .i64 s.count, .int .i64 s.out, .int .i64 s.data, .int .i64 s.more] 40)).alloc (.cells #[.int .i64 0, .int .u8 0, .int .i64 0, .int .i64 0, .int .i64 0] 54) = y := ⟨_, rfl⟩
  obtain ⟨B2, hB2⟩ : ∃ y, w.heap.size + 1 = y := ⟨_, rfl⟩
  obtain ⟨B1, hB1⟩ : ∃ y, w.heap.size = y := ⟨_, rfl⟩
  rw [hW, hB2, hB1] at h1
  have H1 := Lib.hid h1
  have HNM := Lib.hid (And.intro hW (And.intro hB2 hB1))
  clear h1 h hσ hW hB2 hB1 hx hp hok hmm hd0 hm0 hk hc hc2 hq hc3
  unfold skV rpV
  go_enter Tryz.func22, Tryz.ntmps22
  go_upto_region 4 with fail
  obtain ⟨hW, hB2, hB1⟩ := HNM.out
  rw [hW]
  try rw [hB2]
  try simp only [hB1]
  clear hW hB2 hB1
  have kb2 := two_blk H1.out
  have SBn := SBth.of H1.out
  have x0 := SBth.b0 _ SBn
  have x1 := SBth.b1 _ SBn
  have x2 := SBth.b2 _ SBn
  have x3 := SBth.b3 _ SBn
  have x4 := SBth.b4 _ SBn
  have x5 := SBth.b5 _ SBn
  have x6 := SBth.b6 _ SBn
  have g0 := SBth.h0 _ SBn
  have g1 := SBth.h1 _ SBn
  have g2 := SBth.h2 _ SBn
  have g3 := SBth.h3 _ SBn
  have g4 := SBth.h4 _ SBn
  have f0 := kb2.unfrozen 0
  have f1 := kb2.unfrozen 1
  have f2 := kb2.unfrozen 2
  have f3 := kb2.unfrozen 3
  have f4 := kb2.unfrozen 4
  have hset := two_turn H1.out (box_set kb2 ⟨_, _, _, _, _, rfl⟩ (⟨0, 0, s.data, 0, 0⟩ : Th)) box_only
  have HS := Lib.hid hset
  go_upto_region 29 with fail
  clear kb2 SBn g0 g1 g2 g3 g4 f0 f1 f2 f3 f4 x0 x1 x2 x3 x4 x5 x6
  clear hset
  obtain ⟨w3, hw3⟩ : ∃ y, (((((W).setCell ⟨B2, 0, none⟩ (.int .i64 s.data)).setCell ⟨B2, 1, none⟩ (.int .u8 0)).setCell ⟨B2, 2, none⟩ (.int .i64 0)).setCell ⟨B2, 3, none⟩ (.int .i64 0)).setCell ⟨B2, 4, none⟩ (.int .i64 0) = y := ⟨_, rfl⟩
  have h3 : Env w0 w3 (Oc obs ip il P cs v rs ++ [obK B1 40 (skCells s), obK B2 54 (heCells (⟨0, 0, s.data, 0, 0⟩ : Th))]) := by rw [← hw3]; exact HS.out
  rw [hw3]
  have y0 := SBth.b0 _ (SBth.of h3)
  have H3 := Lib.hid h3
  clear h3 hw3 HS
  go_wp2_with fail
  clear y0
  refine (rtakes_any s.kind _).mono ?_
  rintro e wt ⟨rfl, rfl⟩
  rw [HTK.out]
  go_wp2_with fail
  refine (rfree_any (σ := σ) ⟨_, Oc_blk HX.out H3.out, HP.out⟩).mono ?_
  rintro e wt ⟨rfl, rfl⟩
  rw [frR_is HQ.out]
  obtain ⟨vq, hvq⟩ := cell_of (Oc_blk HX.out H3.out) HP.out.size (k := q) (by omega)
  have fq := (Oc_blk HX.out H3.out).unfrozen q
  have bq : 0 ≤ (q : Int) ∧ (q : Int) < 64 := by omega
  have h4 := Oc_turn HX.out H3.out ((Oc_blk HX.out H3.out).set q (.bool true)) ((Only.refl (fun x => x = P) _).set (p := ⟨P, q, none⟩) (.inl rfl) _)
  go_upto_region 32 with fail
  obtain ⟨w8, hw8⟩ : ∃ y, World.setCell w3 ⟨P, q, none⟩ (.bool true) = y := ⟨_, rfl⟩
  rw [hw8] at h4 ⊢
  have H8 := Lib.hid h4
  clear h4 hw8 hvq fq
  refine hd_start (SBth B1 B2 s (⟨0, 0, s.data, 0, 0⟩ : Th)) (by kernel_rfl) ?_
  intro w9 hw'
  have H9 := Lib.hid (H8.out.draw 1)
  rw [← hw'] at H9
  clear hw' H8
  have S9 := SBth.of H9.out
  refine hd_take (v := ?_) 0 rfl (by kernel_rfl) (fun _ _ d _ _ h => (by cases d <;> exact h)) (by kernel_rfl) S9 (fun w' hS => ?_) ?_
  rotate_left
  focus (have q0 := SBth.b0 w' hS; have q1 := SBth.b1 w' hS; have q2 := SBth.b2 w' hS; have q3 := SBth.b3 w' hS; have q4 := SBth.b4 w' hS; have q5 := SBth.b5 w' hS; have q6 := SBth.b6 w' hS; have q7 := SBth.h0 w' hS; have q8 := SBth.h1 w' hS; have q9 := SBth.h2 w' hS; have q10 := SBth.h3 w' hS; have q11 := SBth.h4 w' hS; clear hS; go_simp; try rfl; done)
  simp only [List.getElem_toArray, List.getElem_cons_succ, List.getElem_cons_zero, Act.put, List.setIfInBounds_toArray, List.set_cons_zero, List.set_cons_succ]
  refine hd_take (v := ?_) 1 rfl (by kernel_rfl) (fun _ _ d _ _ h => (by cases d <;> exact h)) (by kernel_rfl) S9 (fun w' hS => ?_) ?_
  rotate_left
  focus (have q0 := SBth.b0 w' hS; have q1 := SBth.b1 w' hS; have q2 := SBth.b2 w' hS; have q3 := SBth.b3 w' hS; have q4 := SBth.b4 w' hS; have q5 := SBth.b5 w' hS; have q6 := SBth.b6 w' hS; have q7 := SBth.h0 w' hS; have q8 := SBth.h1 w' hS; have q9 := SBth.h2 w' hS; have q10 := SBth.h3 w' hS; have q11 := SBth.h4 w' hS; clear hS; go_simp; try rfl; done)
  simp only [List.getElem_toArray, List.getElem_cons_succ, List.getElem_cons_zero, Act.put, List.setIfInBounds_toArray, List.set_cons_zero, List.set_cons_succ]
  refine hd_take (v := ?_) 2 rfl (by kernel_rfl) (fun _ _ d _ _ h => (by cases d <;> exact h)) (by kernel_rfl) S9 (fun w' hS => ?_) ?_
  rotate_left
  focus (have q0 := SBth.b0 w' hS; have q1 := SBth.b1 w' hS; have q2 := SBth.b2 w' hS; have q3 := SBth.b3 w' hS; have q4 := SBth.b4 w' hS; have q5 := SBth.b5 w' hS; have q6 := SBth.b6 w' hS; have q7 := SBth.h0 w' hS; have q8 := SBth.h1 w' hS; have q9 := SBth.h2 w' hS; have q10 := SBth.h3 w' hS; have q11 := SBth.h4 w' hS; clear hS; go_simp; try rfl; done)
  simp only [List.getElem_toArray, List.getElem_cons_succ, List.getElem_cons_zero, Act.put, List.setIfInBounds_toArray, List.set_cons_zero, List.set_cons_succ]
  refine hd_take (v := ?_) 3 rfl (by kernel_rfl) (fun _ _ d _ _ h => (by cases d <;> exact h)) (by kernel_rfl) S9 (fun w' hS => ?_) ?_
  rotate_left
  focus (have q0 := SBth.b0 w' hS; have q1 := SBth.b1 w' hS; have q2 := SBth.b2 w' hS; have q3 := SBth.b3 w' hS; have q4 := SBth.b4 w' hS; have q5 := SBth.b5 w' hS; have q6 := SBth.b6 w' hS; have q7 := SBth.h0 w' hS; have q8 := SBth.h1 w' hS; have q9 := SBth.h2 w' hS; have q10 := SBth.h3 w' hS; have q11 := SBth.h4 w' hS; clear hS; go_simp; try rfl; done)
  simp only [List.getElem_toArray, List.getElem_cons_succ, List.getElem_cons_zero, Act.put, List.setIfInBounds_toArray, List.set_cons_zero, List.set_cons_succ]
  refine hd_take (v := ?_) 4 rfl (by kernel_rfl) (fun _ _ d _ _ h => (by cases d <;> exact h)) (by kernel_rfl) S9 (fun w' hS => ?_) ?_
  rotate_left
  focus (have q0 := SBth.b0 w' hS; have q1 := SBth.b1 w' hS; have q2 := SBth.b2 w' hS; have q3 := SBth.b3 w' hS; have q4 := SBth.b4 w' hS; have q5 := SBth.b5 w' hS; have q6 := SBth.b6 w' hS; have q7 := SBth.h0 w' hS; have q8 := SBth.h1 w' hS; have q9 := SBth.h2 w' hS; have q10 := SBth.h3 w' hS; have q11 := SBth.h4 w' hS; clear hS; go_simp; try rfl; done)
  simp only [List.getElem_toArray, List.getElem_cons_succ, List.getElem_cons_zero, Act.put, List.setIfInBounds_toArray, List.set_cons_zero, List.set_cons_succ]
  refine hd_take (v := ?_) 5 rfl (by kernel_rfl) (fun _ _ d _ _ h => (by cases d <;> exact h)) (by kernel_rfl) S9 (fun w' hS => ?_) ?_
  rotate_left
  focus (have q0 := SBth.b0 w' hS; have q1 := SBth.b1 w' hS; have q2 := SBth.b2 w' hS; have q3 := SBth.b3 w' hS; have q4 := SBth.b4 w' hS; have q5 := SBth.b5 w' hS; have q6 := SBth.b6 w' hS; have q7 := SBth.h0 w' hS; have q8 := SBth.h1 w' hS; have q9 := SBth.h2 w' hS; have q10 := SBth.h3 w' hS; have q11 := SBth.h4 w' hS; clear hS; go_simp; try rfl; done)
  simp only [List.getElem_toArray, List.getElem_cons_succ, List.getElem_cons_zero, Act.put, List.setIfInBounds_toArray, List.set_cons_zero, List.set_cons_succ]
  have hsz : (cs.setIfInBounds q (.bool true)).size = 384 := set_size HP.out.size
  have kbp := Oc_blk HX.out H9.out
  obtain ⟨u0, g0⟩ := cell_of kbp hsz (k := 64 + q * 5) (by omega)
  obtain ⟨u1, g1⟩ := cell_of kbp hsz (k := 64 + q * 5 + 1) (by omega)
  obtain ⟨u2, g2⟩ := cell_of kbp hsz (k := 64 + q * 5 + 2) (by omega)
  obtain ⟨u3, g3⟩ := cell_of kbp hsz (k := 64 + q * 5 + 3) (by omega)
  obtain ⟨u4, g4⟩ := cell_of kbp hsz (k := 64 + q * 5 + 4) (by omega)
  have f0 := kbp.unfrozen (64 + q * 5)
  have f1 := kbp.unfrozen (64 + q * 5 + 1)
  have f2 := kbp.unfrozen (64 + q * 5 + 2)
  have f3 := kbp.unfrozen (64 + q * 5 + 3)
  have f4 := kbp.unfrozen (64 + q * 5 + 4)
  have h10 := Oc_turn HX.out H9.out (pub_set (n := q) kbp (⟨0, 0, s.data, 0, 0⟩ : Th)) pub_only
  have S10 := SBth.of h10
  have H10 := Lib.hid h10
  refine hd_one 6 (by kernel_rfl) ?_
  refine op_skip rfl (by kernel_rfl) (by go_simp; first | done | rfl) ?_
  refine ⟨S10, ?_⟩
  simp only [List.getElem_toArray, List.getElem_cons_succ, List.getElem_cons_zero, Act.put, List.setIfInBounds_toArray, List.set_cons_zero, List.set_cons_succ]
  refine hd_done (by kernel_rfl) ?_
  clear S9 S10 kbp g0 g1 g2 g3 g4 f0 f1 f2 f3 f4 h10 bq
  go_wp2_with fail
  go_ret
  first | refine ⟨_, rfl, heSet (cs.setIfInBounds q (.bool true)) q (⟨0, 0, s.data, 0, 0⟩ : Th), ?_, ?_⟩ | refine ⟨_, heSet (cs.setIfInBounds q (.bool true)) q (⟨0, 0, s.data, 0, 0⟩ : Th), rfl, ?_, ?_⟩
  · rw [HNX.out]
    exact HP.out.take hq64 _
  · rw [HEV.out]
    exact two_drop H10.out
set_option maxHeartbeats 8000000 in
theorem rdone2_env (hx : OcI obs ip il) (h : Env w0 w (Oc obs ip il P cs v rs)) (hp : PubCs cs σ) (hok : OKr rs 8) (hσ : OKh mm σ) (hmm : mm ≤ 90000000) (s : Sk) (hd0 : 0 ≤ s.data) (hm0 : 0 ≤ s.more) (hk : s.kind = 2) (hc : codeS σ s = 0) :
    Calls Tryz.prog 22 #[rpV P, v, skV s] w fun e w' => ∃ v' cs', e = .returned v' ∧ PubCs cs' (nxS σ s) ∧ Env w0 w' (Oc obs ip il P cs' v' ((evS σ s).foldl timesN rs)) := by
  have hc2 : beginC σ s = 0 := by unfold codeS at hc; rw [hk] at hc; simpa using hc
  obtain ⟨t, ht, hta, i1, i2, i3, i4, i5, i6, i7, i8⟩ := beginC_zero hc2
  have hdm := hσ.dom _ _ ht
  obtain ⟨n, hn⟩ : ∃ n : Nat, s.handle = (n : Int) := ⟨s.handle.toNat, by omega⟩
  have hn64 : n < 64 := by omega
  have htn : σ (n : Int) = some t := by rw [← hn]; exact ht
  have hot := hσ.ok _ _ ht
  obtain ⟨q, hq, hq64⟩ := free_of i8
  have HEV : Hid (evS σ s = beginE (thB t s)) := Lib.hid (by unfold evS; simp only [hk, ht, Option.getD_some]; first | rfl | simp)
  have HNX : Hid (nxS σ s = σ.put (q : Int) (some (thB t s))) := Lib.hid (by unfold nxS; simp only [hk, ht, Option.getD_some]; first | exact take_is hq _ | simpa using take_is hq _)
  have HTK : Hid (takesR s.kind = true) := Lib.hid (by rw [hk]; rfl)
  have t1 : (s.kind == (1 : Int)) = false := beq_f (by omega)
  have t2 : (s.kind == (2 : Int)) = true := beq_t hk
  have t3 : (s.kind == (3 : Int)) = false := beq_f (by omega)
  have t4 : (s.kind == (4 : Int)) = false := beq_f (by omega)
  have t5 : (s.kind == (5 : Int)) = false := beq_f (by omega)
  have t7 : (s.kind == (7 : Int)) = false := beq_f (by omega)
  have t8 : (s.kind == (8 : Int)) = false := beq_f (by omega)
  have t10 : (s.kind == (10 : Int)) = false := beq_f (by omega)
  have t0 : (s.kind != (1 : Int)) = true := bne_t (by omega)
  have HX := Lib.hid hx
  have HP := Lib.hid hp
  have HOK := Lib.hid hok
  have HM := Lib.hid (And.intro hmm (And.intro hd0 hm0))
  have HN : Hid (s.handle.toNat = n) := Lib.hid (by omega)
  have HBN : Hid (0 ≤ s.handle ∧ s.handle < 64) := Lib.hid (by omega)
  have HTN := Lib.hid htn
  have HOT := Lib.hid hot
  have HQ := Lib.hid hq
  have HI := Lib.hid (And.intro i1 (And.intro i2 (And.intro i5 (And.intro i6 i7))))
  have h1 : Env w0 ((w.alloc (.cells #[.int .u8 s.kind, .int .i64 s.handle, .int .u8 s.alg, .int .i64 s.count, .int .i64 s.out, .int .i64 s.data, .int .i64 s.more] 40)).alloc (.cells #[.int .i64 0, .int .u8 0, .int .i64 0, .int .i64 0, .int .i64 0] 54)) (Oc obs ip il P cs v rs ++ [obK w.heap.size 40 (skCells s), obK (w.heap.size + 1) 54 (heCells th0)]) := by
    have h2 := (h.newK 40 (skCells s)).newK 54 (heCells th0)
    rw [List.append_assoc] at h2
    have e1 : (w.alloc (.cells (skCells s) 40)).heap.size = w.heap.size + 1 := by simp
    rw [e1] at h2
    exact h2
  obtain ⟨W, hW⟩ : ∃ y, (w.alloc (.cells #[.int .u8 s.kind, .int .i64 s.handle, .int .u8 s.alg, .int .i64 s.count, .int .i64 s.out, .int .i64 s.data, .int .i64 s.more] 40)).alloc (.cells #[.int .i64 0, .int .u8 0, .int .i64 0, .int .i64 0, .int .i64 0] 54) = y := ⟨_, rfl⟩
  obtain ⟨B2, hB2⟩ : ∃ y, w.heap.size + 1 = y := ⟨_, rfl⟩
  obtain ⟨B1, hB1⟩ : ∃ y, w.heap.size = y := ⟨_, rfl⟩
  rw [hW, hB2, hB1] at h1
  have H1 := Lib.hid h1
  have HNM := Lib.hid (And.intro hW (And.intro hB2 hB1))
  clear h1 h hσ hW hB2 hB1 hx hp hok hmm hd0 hm0 hk hc hc2 ht hdm hn htn hot hq hta i1 i2 i3 i4 i5 i6 i7 i8
  unfold skV rpV
  go_enter Tryz.func22, Tryz.ntmps22
  go_upto_region 3 with fail
  obtain ⟨hW, hB2, hB1⟩ := HNM.out
  rw [hW]
  try rw [hB2]
  try simp only [hB1]
  clear hW hB2 hB1
  have hS : Hid (∀ W c, Env w0 W (Oc obs ip il P cs v rs ++ [obK B1 40 (skCells s), obK B2 54 c]) → SCd B1 P n s t W) := Lib.hid fun W c hW => by
    have q := HP.out.he n t hn64 HTN.out
    have hb := Oc_blk HX.out hW
    exact ⟨skBox (one_blk hW), ⟨hb.cellAt _ q.c0, hb.cellAt _ q.c1, hb.cellAt _ q.c2, hb.cellAt _ q.c3, hb.cellAt _ q.c4⟩⟩
  have hhn := HN.out
  have hbn := HBN.out
  refine hd_start (SCd B1 P n s t) (by kernel_rfl) ?_
  intro w2 hw'
  have H2 := Lib.hid (H1.out.draw 1)
  rw [← hw'] at H2
  clear hw' H1
  have S2 := hS.out _ _ H2.out
  refine hd_take (v := ?_) 0 rfl (by kernel_rfl) (fun _ _ d _ _ h => (by cases d <;> exact h)) (by kernel_rfl) S2 (fun w' hS => ?_) ?_
  rotate_left
  focus (have q0 := SCd.b0 w' hS; have q1 := SCd.b1 w' hS; have q2 := SCd.b2 w' hS; have q3 := SCd.b3 w' hS; have q4 := SCd.b4 w' hS; have q5 := SCd.b5 w' hS; have q6 := SCd.b6 w' hS; have q7 := SCd.h0 w' hS; have q8 := SCd.h1 w' hS; have q9 := SCd.h2 w' hS; have q10 := SCd.h3 w' hS; have q11 := SCd.h4 w' hS; clear hS; go_simp; try rfl; done)
  simp only [List.getElem_toArray, List.getElem_cons_succ, List.getElem_cons_zero, Act.put, List.setIfInBounds_toArray, List.set_cons_zero, List.set_cons_succ]
  refine hd_take (v := ?_) 1 rfl (by kernel_rfl) (fun _ _ d _ _ h => (by cases d <;> exact h)) (by kernel_rfl) S2 (fun w' hS => ?_) ?_
  rotate_left
  focus (have q0 := SCd.b0 w' hS; have q1 := SCd.b1 w' hS; have q2 := SCd.b2 w' hS; have q3 := SCd.b3 w' hS; have q4 := SCd.b4 w' hS; have q5 := SCd.b5 w' hS; have q6 := SCd.b6 w' hS; have q7 := SCd.h0 w' hS; have q8 := SCd.h1 w' hS; have q9 := SCd.h2 w' hS; have q10 := SCd.h3 w' hS; have q11 := SCd.h4 w' hS; clear hS; go_simp; try rfl; done)
  simp only [List.getElem_toArray, List.getElem_cons_succ, List.getElem_cons_zero, Act.put, List.setIfInBounds_toArray, List.set_cons_zero, List.set_cons_succ]
  refine hd_take (v := ?_) 2 rfl (by kernel_rfl) (fun _ _ d _ _ h => (by cases d <;> exact h)) (by kernel_rfl) S2 (fun w' hS => ?_) ?_
  rotate_left
  focus (have q0 := SCd.b0 w' hS; have q1 := SCd.b1 w' hS; have q2 := SCd.b2 w' hS; have q3 := SCd.b3 w' hS; have q4 := SCd.b4 w' hS; have q5 := SCd.b5 w' hS; have q6 := SCd.b6 w' hS; have q7 := SCd.h0 w' hS; have q8 := SCd.h1 w' hS; have q9 := SCd.h2 w' hS; have q10 := SCd.h3 w' hS; have q11 := SCd.h4 w' hS; clear hS; go_simp; try rfl; done)
  simp only [List.getElem_toArray, List.getElem_cons_succ, List.getElem_cons_zero, Act.put, List.setIfInBounds_toArray, List.set_cons_zero, List.set_cons_succ]
  refine hd_take (v := ?_) 3 rfl (by kernel_rfl) (fun _ _ d _ _ h => (by cases d <;> exact h)) (by kernel_rfl) S2 (fun w' hS => ?_) ?_
  rotate_left
  focus (have q0 := SCd.b0 w' hS; have q1 := SCd.b1 w' hS; have q2 := SCd.b2 w' hS; have q3 := SCd.b3 w' hS; have q4 := SCd.b4 w' hS; have q5 := SCd.b5 w' hS; have q6 := SCd.b6 w' hS; have q7 := SCd.h0 w' hS; have q8 := SCd.h1 w' hS; have q9 := SCd.h2 w' hS; have q10 := SCd.h3 w' hS; have q11 := SCd.h4 w' hS; clear hS; go_simp; try rfl; done)
  simp only [List.getElem_toArray, List.getElem_cons_succ, List.getElem_cons_zero, Act.put, List.setIfInBounds_toArray, List.set_cons_zero, List.set_cons_succ]
  refine hd_take (v := ?_) 4 rfl (by kernel_rfl) (fun _ _ d _ _ h => (by cases d <;> exact h)) (by kernel_rfl) S2 (fun w' hS => ?_) ?_
  rotate_left
  focus (have q0 := SCd.b0 w' hS; have q1 := SCd.b1 w' hS; have q2 := SCd.b2 w' hS; have q3 := SCd.b3 w' hS; have q4 := SCd.b4 w' hS; have q5 := SCd.b5 w' hS; have q6 := SCd.b6 w' hS; have q7 := SCd.h0 w' hS; have q8 := SCd.h1 w' hS; have q9 := SCd.h2 w' hS; have q10 := SCd.h3 w' hS; have q11 := SCd.h4 w' hS; clear hS; go_simp; try rfl; done)
  simp only [List.getElem_toArray, List.getElem_cons_succ, List.getElem_cons_zero, Act.put, List.setIfInBounds_toArray, List.set_cons_zero, List.set_cons_succ]
  refine hd_take (v := ?_) 5 rfl (by kernel_rfl) (fun _ _ d _ _ h => (by cases d <;> exact h)) (by kernel_rfl) S2 (fun w' hS => ?_) ?_
  rotate_left
  focus (have q0 := SCd.b0 w' hS; have q1 := SCd.b1 w' hS; have q2 := SCd.b2 w' hS; have q3 := SCd.b3 w' hS; have q4 := SCd.b4 w' hS; have q5 := SCd.b5 w' hS; have q6 := SCd.b6 w' hS; have q7 := SCd.h0 w' hS; have q8 := SCd.h1 w' hS; have q9 := SCd.h2 w' hS; have q10 := SCd.h3 w' hS; have q11 := SCd.h4 w' hS; clear hS; go_simp; try rfl; done)
  simp only [List.getElem_toArray, List.getElem_cons_succ, List.getElem_cons_zero, Act.put, List.setIfInBounds_toArray, List.set_cons_zero, List.set_cons_succ]
  refine hd_take (v := ?_) 6 rfl (by kernel_rfl) (fun _ _ d _ _ h => (by cases d <;> exact h)) (by kernel_rfl) S2 (fun w' hS => ?_) ?_
  rotate_left
  focus (have q0 := SCd.b0 w' hS; have q1 := SCd.b1 w' hS; have q2 := SCd.b2 w' hS; have q3 := SCd.b3 w' hS; have q4 := SCd.b4 w' hS; have q5 := SCd.b5 w' hS; have q6 := SCd.b6 w' hS; have q7 := SCd.h0 w' hS; have q8 := SCd.h1 w' hS; have q9 := SCd.h2 w' hS; have q10 := SCd.h3 w' hS; have q11 := SCd.h4 w' hS; clear hS; go_simp; try rfl; done)
  simp only [List.getElem_toArray, List.getElem_cons_succ, List.getElem_cons_zero, Act.put, List.setIfInBounds_toArray, List.set_cons_zero, List.set_cons_succ]
  have kb2 := two_blk H2.out
  have g0 := kb2.cellAt 0 rfl
  have g1 := kb2.cellAt 1 rfl
  have g2 := kb2.cellAt 2 rfl
  have g3 := kb2.cellAt 3 rfl
  have g4 := kb2.cellAt 4 rfl
  have f0 := kb2.unfrozen 0
  have f1 := kb2.unfrozen 1
  have f2 := kb2.unfrozen 2
  have f3 := kb2.unfrozen 3
  have f4 := kb2.unfrozen 4
  have h3 := two_turn H2.out (box_set kb2 ⟨_, _, _, _, _, rfl⟩ t) box_only
  have S3 := hS.out _ _ h3
  refine hd_one 7 (by kernel_rfl) ?_
  refine op_skip rfl (by kernel_rfl) (by go_simp; first | done | rfl) ?_
  refine ⟨S3, ?_⟩
  simp only [List.getElem_toArray, List.getElem_cons_succ, List.getElem_cons_zero, Act.put, List.setIfInBounds_toArray, List.set_cons_zero, List.set_cons_succ]
  refine hd_done (by kernel_rfl) ?_
  clear S2 S3 kb2 g0 g1 g2 g3 g4 f0 f1 f2 f3 f4 hS hhn hbn
  obtain ⟨w3, hw3⟩ : ∃ y, (((((w2).setCell ⟨B2, 0, none⟩ (.int .i64 t.key)).setCell ⟨B2, 1, none⟩ (.int .u8 t.alg)).setCell ⟨B2, 2, none⟩ (.int .i64 t.out)).setCell ⟨B2, 3, none⟩ (.int .i64 t.custom)).setCell ⟨B2, 4, none⟩ (.int .i64 t.msg) = y := ⟨_, rfl⟩
  rw [hw3] at h3 ⊢
  have H3 := Lib.hid h3
  clear h3 hw3 H2
  have kb2 := two_blk H3.out
  have SBn := SBth.of H3.out
  have x0 := SBth.b0 _ SBn
  have x1 := SBth.b1 _ SBn
  have x2 := SBth.b2 _ SBn
  have x3 := SBth.b3 _ SBn
  have x4 := SBth.b4 _ SBn
  have x5 := SBth.b5 _ SBn
  have x6 := SBth.b6 _ SBn
  have g0 := SBth.h0 _ SBn
  have g1 := SBth.h1 _ SBn
  have g2 := SBth.h2 _ SBn
  have g3 := SBth.h3 _ SBn
  have g4 := SBth.h4 _ SBn
  have f0 := kb2.unfrozen 0
  have f1 := kb2.unfrozen 1
  have f2 := kb2.unfrozen 2
  have f3 := kb2.unfrozen 3
  have f4 := kb2.unfrozen 4
  have hset := two_turn H3.out (box_set kb2 ⟨_, _, _, _, _, rfl⟩ (thB t s)) box_only
  have HS := Lib.hid hset
  go_upto_region 9 with fail
  clear kb2 SBn g0 g1 g2 g3 g4 f0 f1 f2 f3 f4 x0 x1 x2 x3 x4 x5 x6
  clear hset
  obtain ⟨w4, hw4⟩ : ∃ y, (((((w3).setCell ⟨B2, 0, none⟩ (.int .i64 t.key)).setCell ⟨B2, 1, none⟩ (.int .u8 s.alg)).setCell ⟨B2, 2, none⟩ (.int .i64 s.out)).setCell ⟨B2, 3, none⟩ (.int .i64 s.data)).setCell ⟨B2, 4, none⟩ (.int .i64 0) = y := ⟨_, rfl⟩
  have h4 : Env w0 w4 (Oc obs ip il P cs v rs ++ [obK B1 40 (skCells s), obK B2 54 (heCells (thB t s))]) := by rw [← hw4]; exact HS.out
  rw [hw4]
  have H4 := Lib.hid h4
  clear h4 hw4 HS H3
  have SB := SBth.of H4.out
  have y0 := SBth.b0 _ SB
  have y1 := SBth.b1 _ SB
  have y2 := SBth.b2 _ SB
  have y3 := SBth.b3 _ SB
  have y4 := SBth.b4 _ SB
  have y5 := SBth.b5 _ SB
  have y6 := SBth.b6 _ SB
  have z0 := SBth.h0 _ SB
  have z1 := SBth.h1 _ SB
  have z2 := SBth.h2 _ SB
  have z3 := SBth.h3 _ SB
  have z4 := SBth.h4 _ SB
  go_wp2_with fail
  refine (rbegun_d HX.out H4.out (HOK.out.le (by omega)) (thB t s) ⟨HI.out.1, HI.out.2.1, HOT.out.k0, HOT.out.k1, HM.out.2.1, HI.out.2.2.1, HI.out.2.2.2.1, by have := mostA_le s.alg; have := HI.out.2.2.2.2; show s.out ≤ 64; omega, Int.le_refl 0, by show (0 : Int) ≤ 100000000; omega⟩).mono ?_
  rintro e w5 ⟨v5, rfl, h5⟩
  have H5 := Lib.hid h5
  clear h5
  clear SB y0 y1 y2 y3 y4 y5 y6 z0 z1 z2 z3 z4
  have y0 := SBth.b0 _ (SBth.of H5.out)
  go_wp2_with fail
  clear y0 H4
  refine (rtakes_any s.kind _).mono ?_
  rintro e wt ⟨rfl, rfl⟩
  rw [HTK.out]
  go_wp2_with fail
  refine (rfree_any (σ := σ) ⟨_, Oc_blk HX.out H5.out, HP.out⟩).mono ?_
  rintro e wt ⟨rfl, rfl⟩
  rw [frR_is HQ.out]
  obtain ⟨vq, hvq⟩ := cell_of (Oc_blk HX.out H5.out) HP.out.size (k := q) (by omega)
  have fq := (Oc_blk HX.out H5.out).unfrozen q
  have bq : 0 ≤ (q : Int) ∧ (q : Int) < 64 := by omega
  have h4 := Oc_turn HX.out H5.out ((Oc_blk HX.out H5.out).set q (.bool true)) ((Only.refl (fun x => x = P) _).set (p := ⟨P, q, none⟩) (.inl rfl) _)
  go_upto_region 32 with fail
  obtain ⟨w8, hw8⟩ : ∃ y, World.setCell w5 ⟨P, q, none⟩ (.bool true) = y := ⟨_, rfl⟩
  rw [hw8] at h4 ⊢
  have H8 := Lib.hid h4
  clear h4 hw8 hvq fq
  refine hd_start (SBth B1 B2 s (thB t s)) (by kernel_rfl) ?_
  intro w9 hw'
  have H9 := Lib.hid (H8.out.draw 1)
  rw [← hw'] at H9
  clear hw' H8
  have S9 := SBth.of H9.out
  refine hd_take (v := ?_) 0 rfl (by kernel_rfl) (fun _ _ d _ _ h => (by cases d <;> exact h)) (by kernel_rfl) S9 (fun w' hS => ?_) ?_
  rotate_left
  focus (have q0 := SBth.b0 w' hS; have q1 := SBth.b1 w' hS; have q2 := SBth.b2 w' hS; have q3 := SBth.b3 w' hS; have q4 := SBth.b4 w' hS; have q5 := SBth.b5 w' hS; have q6 := SBth.b6 w' hS; have q7 := SBth.h0 w' hS; have q8 := SBth.h1 w' hS; have q9 := SBth.h2 w' hS; have q10 := SBth.h3 w' hS; have q11 := SBth.h4 w' hS; clear hS; go_simp; try rfl; done)
  simp only [List.getElem_toArray, List.getElem_cons_succ, List.getElem_cons_zero, Act.put, List.setIfInBounds_toArray, List.set_cons_zero, List.set_cons_succ]
  refine hd_take (v := ?_) 1 rfl (by kernel_rfl) (fun _ _ d _ _ h => (by cases d <;> exact h)) (by kernel_rfl) S9 (fun w' hS => ?_) ?_
  rotate_left
  focus (have q0 := SBth.b0 w' hS; have q1 := SBth.b1 w' hS; have q2 := SBth.b2 w' hS; have q3 := SBth.b3 w' hS; have q4 := SBth.b4 w' hS; have q5 := SBth.b5 w' hS; have q6 := SBth.b6 w' hS; have q7 := SBth.h0 w' hS; have q8 := SBth.h1 w' hS; have q9 := SBth.h2 w' hS; have q10 := SBth.h3 w' hS; have q11 := SBth.h4 w' hS; clear hS; go_simp; try rfl; done)
  simp only [List.getElem_toArray, List.getElem_cons_succ, List.getElem_cons_zero, Act.put, List.setIfInBounds_toArray, List.set_cons_zero, List.set_cons_succ]
  refine hd_take (v := ?_) 2 rfl (by kernel_rfl) (fun _ _ d _ _ h => (by cases d <;> exact h)) (by kernel_rfl) S9 (fun w' hS => ?_) ?_
  rotate_left
  focus (have q0 := SBth.b0 w' hS; have q1 := SBth.b1 w' hS; have q2 := SBth.b2 w' hS; have q3 := SBth.b3 w' hS; have q4 := SBth.b4 w' hS; have q5 := SBth.b5 w' hS; have q6 := SBth.b6 w' hS; have q7 := SBth.h0 w' hS; have q8 := SBth.h1 w' hS; have q9 := SBth.h2 w' hS; have q10 := SBth.h3 w' hS; have q11 := SBth.h4 w' hS; clear hS; go_simp; try rfl; done)
  simp only [List.getElem_toArray, List.getElem_cons_succ, List.getElem_cons_zero, Act.put, List.setIfInBounds_toArray, List.set_cons_zero, List.set_cons_succ]
  refine hd_take (v := ?_) 3 rfl (by kernel_rfl) (fun _ _ d _ _ h => (by cases d <;> exact h)) (by kernel_rfl) S9 (fun w' hS => ?_) ?_
  rotate_left
  focus (have q0 := SBth.b0 w' hS; have q1 := SBth.b1 w' hS; have q2 := SBth.b2 w' hS; have q3 := SBth.b3 w' hS; have q4 := SBth.b4 w' hS; have q5 := SBth.b5 w' hS; have q6 := SBth.b6 w' hS; have q7 := SBth.h0 w' hS; have q8 := SBth.h1 w' hS; have q9 := SBth.h2 w' hS; have q10 := SBth.h3 w' hS; have q11 := SBth.h4 w' hS; clear hS; go_simp; try rfl; done)
  simp only [List.getElem_toArray, List.getElem_cons_succ, List.getElem_cons_zero, Act.put, List.setIfInBounds_toArray, List.set_cons_zero, List.set_cons_succ]
  refine hd_take (v := ?_) 4 rfl (by kernel_rfl) (fun _ _ d _ _ h => (by cases d <;> exact h)) (by kernel_rfl) S9 (fun w' hS => ?_) ?_
  rotate_left
  focus (have q0 := SBth.b0 w' hS; have q1 := SBth.b1 w' hS; have q2 := SBth.b2 w' hS; have q3 := SBth.b3 w' hS; have q4 := SBth.b4 w' hS; have q5 := SBth.b5 w' hS; have q6 := SBth.b6 w' hS; have q7 := SBth.h0 w' hS; have q8 := SBth.h1 w' hS; have q9 := SBth.h2 w' hS; have q10 := SBth.h3 w' hS; have q11 := SBth.h4 w' hS; clear hS; go_simp; try rfl; done)
  simp only [List.getElem_toArray, List.getElem_cons_succ, List.getElem_cons_zero, Act.put, List.setIfInBounds_toArray, List.set_cons_zero, List.set_cons_succ]
  refine hd_take (v := ?_) 5 rfl (by kernel_rfl) (fun _ _ d _ _ h => (by cases d <;> exact h)) (by kernel_rfl) S9 (fun w' hS => ?_) ?_
  rotate_left
  focus (have q0 := SBth.b0 w' hS; have q1 := SBth.b1 w' hS; have q2 := SBth.b2 w' hS; have q3 := SBth.b3 w' hS; have q4 := SBth.b4 w' hS; have q5 := SBth.b5 w' hS; have q6 := SBth.b6 w' hS; have q7 := SBth.h0 w' hS; have q8 := SBth.h1 w' hS; have q9 := SBth.h2 w' hS; have q10 := SBth.h3 w' hS; have q11 := SBth.h4 w' hS; clear hS; go_simp; try rfl; done)
  simp only [List.getElem_toArray, List.getElem_cons_succ, List.getElem_cons_zero, Act.put, List.setIfInBounds_toArray, List.set_cons_zero, List.set_cons_succ]
  have hsz : (cs.setIfInBounds q (.bool true)).size = 384 := set_size HP.out.size
  have kbp := Oc_blk HX.out H9.out
  obtain ⟨u0, g0⟩ := cell_of kbp hsz (k := 64 + q * 5) (by omega)
  obtain ⟨u1, g1⟩ := cell_of kbp hsz (k := 64 + q * 5 + 1) (by omega)
  obtain ⟨u2, g2⟩ := cell_of kbp hsz (k := 64 + q * 5 + 2) (by omega)
  obtain ⟨u3, g3⟩ := cell_of kbp hsz (k := 64 + q * 5 + 3) (by omega)
  obtain ⟨u4, g4⟩ := cell_of kbp hsz (k := 64 + q * 5 + 4) (by omega)
  have f0 := kbp.unfrozen (64 + q * 5)
  have f1 := kbp.unfrozen (64 + q * 5 + 1)
  have f2 := kbp.unfrozen (64 + q * 5 + 2)
  have f3 := kbp.unfrozen (64 + q * 5 + 3)
  have f4 := kbp.unfrozen (64 + q * 5 + 4)
  have h10 := Oc_turn HX.out H9.out (pub_set (n := q) kbp (thB t s)) pub_only
  have S10 := SBth.of h10
  have H10 := Lib.hid h10
  refine hd_one 6 (by kernel_rfl) ?_
  refine op_skip rfl (by kernel_rfl) (by go_simp; first | done | rfl) ?_
  refine ⟨S10, ?_⟩
  simp only [List.getElem_toArray, List.getElem_cons_succ, List.getElem_cons_zero, Act.put, List.setIfInBounds_toArray, List.set_cons_zero, List.set_cons_succ]
  refine hd_done (by kernel_rfl) ?_
  clear S9 S10 kbp g0 g1 g2 g3 g4 f0 f1 f2 f3 f4 h10 bq
  go_wp2_with fail
  go_ret
  first | refine ⟨_, rfl, heSet (cs.setIfInBounds q (.bool true)) q (thB t s), ?_, ?_⟩ | refine ⟨_, heSet (cs.setIfInBounds q (.bool true)) q (thB t s), rfl, ?_, ?_⟩
  · rw [HNX.out]
    exact HP.out.take hq64 _
  · rw [HEV.out]
    exact two_drop H10.out
set_option maxHeartbeats 8000000 in
theorem rdone3_env (hx : OcI obs ip il) (h : Env w0 w (Oc obs ip il P cs v rs)) (hp : PubCs cs σ) (hok : OKr rs 8) (hσ : OKh mm σ) (hmm : mm ≤ 90000000) (s : Sk) (hd0 : 0 ≤ s.data) (hm0 : 0 ≤ s.more) (hk : s.kind = 3) (hc : codeS σ s = 0) :
    Calls Tryz.prog 22 #[rpV P, v, skV s] w fun e w' => ∃ v' cs', e = .returned v' ∧ PubCs cs' (nxS σ s) ∧ Env w0 w' (Oc obs ip il P cs' v' ((evS σ s).foldl timesN rs)) := by
  have hc2 : updC σ s = 0 := by unfold codeS at hc; rw [hk] at hc; simpa using hc
  obtain ⟨t, ht, hta, i1⟩ := updC_zero hc2
  have hdm := hσ.dom _ _ ht
  obtain ⟨n, hn⟩ : ∃ n : Nat, s.handle = (n : Int) := ⟨s.handle.toNat, by omega⟩
  have hn64 : n < 64 := by omega
  have htn : σ (n : Int) = some t := by rw [← hn]; exact ht
  have hot := hσ.ok _ _ ht
  have HEV : Hid (evS σ s = [⟨wkK t, wkS t, takenA t t.msg (t.msg + s.data)⟩]) := Lib.hid (by unfold evS; simp only [hk, ht, Option.getD_some]; first | rfl | simp)
  have HNX : Hid (nxS σ s = σ.put (n : Int) (some { t with msg := t.msg + s.data })) := Lib.hid (by unfold nxS; simp only [hk, ht, Option.getD_some, ← hn]; first | rfl | simp)
  have HTK : Hid (takesR s.kind = false) := Lib.hid (by rw [hk]; rfl)
  have t1 : (s.kind == (1 : Int)) = false := beq_f (by omega)
  have t2 : (s.kind == (2 : Int)) = false := beq_f (by omega)
  have t3 : (s.kind == (3 : Int)) = true := beq_t hk
  have t4 : (s.kind == (4 : Int)) = false := beq_f (by omega)
  have t5 : (s.kind == (5 : Int)) = false := beq_f (by omega)
  have t7 : (s.kind == (7 : Int)) = false := beq_f (by omega)
  have t8 : (s.kind == (8 : Int)) = false := beq_f (by omega)
  have t10 : (s.kind == (10 : Int)) = false := beq_f (by omega)
  have t0 : (s.kind != (1 : Int)) = true := bne_t (by omega)
  have HX := Lib.hid hx
  have HP := Lib.hid hp
  have HOK := Lib.hid hok
  have HM := Lib.hid (And.intro hmm (And.intro hd0 hm0))
  have HN : Hid (s.handle.toNat = n) := Lib.hid (by omega)
  have HBN : Hid (0 ≤ s.handle ∧ s.handle < 64) := Lib.hid (by omega)
  have HTN := Lib.hid htn
  have HOT := Lib.hid hot
  have HI := Lib.hid (And.intro hta i1)
  have h1 : Env w0 ((w.alloc (.cells #[.int .u8 s.kind, .int .i64 s.handle, .int .u8 s.alg, .int .i64 s.count, .int .i64 s.out, .int .i64 s.data, .int .i64 s.more] 40)).alloc (.cells #[.int .i64 0, .int .u8 0, .int .i64 0, .int .i64 0, .int .i64 0] 54)) (Oc obs ip il P cs v rs ++ [obK w.heap.size 40 (skCells s), obK (w.heap.size + 1) 54 (heCells th0)]) := by
    have h2 := (h.newK 40 (skCells s)).newK 54 (heCells th0)
    rw [List.append_assoc] at h2
    have e1 : (w.alloc (.cells (skCells s) 40)).heap.size = w.heap.size + 1 := by simp
    rw [e1] at h2
    exact h2
  obtain ⟨W, hW⟩ : ∃ y, (w.alloc (.cells #[.int .u8 s.kind, .int .i64 s.handle, .int .u8 s.alg, .int .i64 s.count, .int .i64 s.out, .int .i64 s.data, .int .i64 s.more] 40)).alloc (.cells #[.int .i64 0, .int .u8 0, .int .i64 0, .int .i64 0, .int .i64 0] 54) = y := ⟨_, rfl⟩
  obtain ⟨B2, hB2⟩ : ∃ y, w.heap.size + 1 = y := ⟨_, rfl⟩
  obtain ⟨B1, hB1⟩ : ∃ y, w.heap.size = y := ⟨_, rfl⟩
  rw [hW, hB2, hB1] at h1
  have H1 := Lib.hid h1
  have HNM := Lib.hid (And.intro hW (And.intro hB2 hB1))
  clear h1 h hσ hW hB2 hB1 hx hp hok hmm hd0 hm0 hk hc hc2 ht hdm hn htn hot hta i1
  unfold skV rpV
  go_enter Tryz.func22, Tryz.ntmps22
  go_upto_region 3 with fail
  obtain ⟨hW, hB2, hB1⟩ := HNM.out
  rw [hW]
  try rw [hB2]
  try simp only [hB1]
  clear hW hB2 hB1
  have hS : Hid (∀ W c, Env w0 W (Oc obs ip il P cs v rs ++ [obK B1 40 (skCells s), obK B2 54 c]) → SCd B1 P n s t W) := Lib.hid fun W c hW => by
    have q := HP.out.he n t hn64 HTN.out
    have hb := Oc_blk HX.out hW
    exact ⟨skBox (one_blk hW), ⟨hb.cellAt _ q.c0, hb.cellAt _ q.c1, hb.cellAt _ q.c2, hb.cellAt _ q.c3, hb.cellAt _ q.c4⟩⟩
  have hhn := HN.out
  have hbn := HBN.out
  refine hd_start (SCd B1 P n s t) (by kernel_rfl) ?_
  intro w2 hw'
  have H2 := Lib.hid (H1.out.draw 1)
  rw [← hw'] at H2
  clear hw' H1
  have S2 := hS.out _ _ H2.out
  refine hd_take (v := ?_) 0 rfl (by kernel_rfl) (fun _ _ d _ _ h => (by cases d <;> exact h)) (by kernel_rfl) S2 (fun w' hS => ?_) ?_
  rotate_left
  focus (have q0 := SCd.b0 w' hS; have q1 := SCd.b1 w' hS; have q2 := SCd.b2 w' hS; have q3 := SCd.b3 w' hS; have q4 := SCd.b4 w' hS; have q5 := SCd.b5 w' hS; have q6 := SCd.b6 w' hS; have q7 := SCd.h0 w' hS; have q8 := SCd.h1 w' hS; have q9 := SCd.h2 w' hS; have q10 := SCd.h3 w' hS; have q11 := SCd.h4 w' hS; clear hS; go_simp; try rfl; done)
  simp only [List.getElem_toArray, List.getElem_cons_succ, List.getElem_cons_zero, Act.put, List.setIfInBounds_toArray, List.set_cons_zero, List.set_cons_succ]
  refine hd_take (v := ?_) 1 rfl (by kernel_rfl) (fun _ _ d _ _ h => (by cases d <;> exact h)) (by kernel_rfl) S2 (fun w' hS => ?_) ?_
  rotate_left
  focus (have q0 := SCd.b0 w' hS; have q1 := SCd.b1 w' hS; have q2 := SCd.b2 w' hS; have q3 := SCd.b3 w' hS; have q4 := SCd.b4 w' hS; have q5 := SCd.b5 w' hS; have q6 := SCd.b6 w' hS; have q7 := SCd.h0 w' hS; have q8 := SCd.h1 w' hS; have q9 := SCd.h2 w' hS; have q10 := SCd.h3 w' hS; have q11 := SCd.h4 w' hS; clear hS; go_simp; try rfl; done)
  simp only [List.getElem_toArray, List.getElem_cons_succ, List.getElem_cons_zero, Act.put, List.setIfInBounds_toArray, List.set_cons_zero, List.set_cons_succ]
  refine hd_take (v := ?_) 2 rfl (by kernel_rfl) (fun _ _ d _ _ h => (by cases d <;> exact h)) (by kernel_rfl) S2 (fun w' hS => ?_) ?_
  rotate_left
  focus (have q0 := SCd.b0 w' hS; have q1 := SCd.b1 w' hS; have q2 := SCd.b2 w' hS; have q3 := SCd.b3 w' hS; have q4 := SCd.b4 w' hS; have q5 := SCd.b5 w' hS; have q6 := SCd.b6 w' hS; have q7 := SCd.h0 w' hS; have q8 := SCd.h1 w' hS; have q9 := SCd.h2 w' hS; have q10 := SCd.h3 w' hS; have q11 := SCd.h4 w' hS; clear hS; go_simp; try rfl; done)
  simp only [List.getElem_toArray, List.getElem_cons_succ, List.getElem_cons_zero, Act.put, List.setIfInBounds_toArray, List.set_cons_zero, List.set_cons_succ]
  refine hd_take (v := ?_) 3 rfl (by kernel_rfl) (fun _ _ d _ _ h => (by cases d <;> exact h)) (by kernel_rfl) S2 (fun w' hS => ?_) ?_
  rotate_left
  focus (have q0 := SCd.b0 w' hS; have q1 := SCd.b1 w' hS; have q2 := SCd.b2 w' hS; have q3 := SCd.b3 w' hS; have q4 := SCd.b4 w' hS; have q5 := SCd.b5 w' hS; have q6 := SCd.b6 w' hS; have q7 := SCd.h0 w' hS; have q8 := SCd.h1 w' hS; have q9 := SCd.h2 w' hS; have q10 := SCd.h3 w' hS; have q11 := SCd.h4 w' hS; clear hS; go_simp; try rfl; done)
  simp only [List.getElem_toArray, List.getElem_cons_succ, List.getElem_cons_zero, Act.put, List.setIfInBounds_toArray, List.set_cons_zero, List.set_cons_succ]
  refine hd_take (v := ?_) 4 rfl (by kernel_rfl) (fun _ _ d _ _ h => (by cases d <;> exact h)) (by kernel_rfl) S2 (fun w' hS => ?_) ?_
  rotate_left
  focus (have q0 := SCd.b0 w' hS; have q1 := SCd.b1 w' hS; have q2 := SCd.b2 w' hS; have q3 := SCd.b3 w' hS; have q4 := SCd.b4 w' hS; have q5 := SCd.b5 w' hS; have q6 := SCd.b6 w' hS; have q7 := SCd.h0 w' hS; have q8 := SCd.h1 w' hS; have q9 := SCd.h2 w' hS; have q10 := SCd.h3 w' hS; have q11 := SCd.h4 w' hS; clear hS; go_simp; try rfl; done)
  simp only [List.getElem_toArray, List.getElem_cons_succ, List.getElem_cons_zero, Act.put, List.setIfInBounds_toArray, List.set_cons_zero, List.set_cons_succ]
  refine hd_take (v := ?_) 5 rfl (by kernel_rfl) (fun _ _ d _ _ h => (by cases d <;> exact h)) (by kernel_rfl) S2 (fun w' hS => ?_) ?_
  rotate_left
  focus (have q0 := SCd.b0 w' hS; have q1 := SCd.b1 w' hS; have q2 := SCd.b2 w' hS; have q3 := SCd.b3 w' hS; have q4 := SCd.b4 w' hS; have q5 := SCd.b5 w' hS; have q6 := SCd.b6 w' hS; have q7 := SCd.h0 w' hS; have q8 := SCd.h1 w' hS; have q9 := SCd.h2 w' hS; have q10 := SCd.h3 w' hS; have q11 := SCd.h4 w' hS; clear hS; go_simp; try rfl; done)
  simp only [List.getElem_toArray, List.getElem_cons_succ, List.getElem_cons_zero, Act.put, List.setIfInBounds_toArray, List.set_cons_zero, List.set_cons_succ]
  refine hd_take (v := ?_) 6 rfl (by kernel_rfl) (fun _ _ d _ _ h => (by cases d <;> exact h)) (by kernel_rfl) S2 (fun w' hS => ?_) ?_
  rotate_left
  focus (have q0 := SCd.b0 w' hS; have q1 := SCd.b1 w' hS; have q2 := SCd.b2 w' hS; have q3 := SCd.b3 w' hS; have q4 := SCd.b4 w' hS; have q5 := SCd.b5 w' hS; have q6 := SCd.b6 w' hS; have q7 := SCd.h0 w' hS; have q8 := SCd.h1 w' hS; have q9 := SCd.h2 w' hS; have q10 := SCd.h3 w' hS; have q11 := SCd.h4 w' hS; clear hS; go_simp; try rfl; done)
  simp only [List.getElem_toArray, List.getElem_cons_succ, List.getElem_cons_zero, Act.put, List.setIfInBounds_toArray, List.set_cons_zero, List.set_cons_succ]
  have kb2 := two_blk H2.out
  have g0 := kb2.cellAt 0 rfl
  have g1 := kb2.cellAt 1 rfl
  have g2 := kb2.cellAt 2 rfl
  have g3 := kb2.cellAt 3 rfl
  have g4 := kb2.cellAt 4 rfl
  have f0 := kb2.unfrozen 0
  have f1 := kb2.unfrozen 1
  have f2 := kb2.unfrozen 2
  have f3 := kb2.unfrozen 3
  have f4 := kb2.unfrozen 4
  have h3 := two_turn H2.out (box_set kb2 ⟨_, _, _, _, _, rfl⟩ t) box_only
  have S3 := hS.out _ _ h3
  refine hd_one 7 (by kernel_rfl) ?_
  refine op_skip rfl (by kernel_rfl) (by go_simp; first | done | rfl) ?_
  refine ⟨S3, ?_⟩
  simp only [List.getElem_toArray, List.getElem_cons_succ, List.getElem_cons_zero, Act.put, List.setIfInBounds_toArray, List.set_cons_zero, List.set_cons_succ]
  refine hd_done (by kernel_rfl) ?_
  clear S2 S3 kb2 g0 g1 g2 g3 g4 f0 f1 f2 f3 f4 hS hhn hbn
  obtain ⟨w3, hw3⟩ : ∃ y, (((((w2).setCell ⟨B2, 0, none⟩ (.int .i64 t.key)).setCell ⟨B2, 1, none⟩ (.int .u8 t.alg)).setCell ⟨B2, 2, none⟩ (.int .i64 t.out)).setCell ⟨B2, 3, none⟩ (.int .i64 t.custom)).setCell ⟨B2, 4, none⟩ (.int .i64 t.msg) = y := ⟨_, rfl⟩
  rw [hw3] at h3 ⊢
  have H3 := Lib.hid h3
  clear h3 hw3 H2
  have SB := SBth.of H3.out
  have y0 := SBth.b0 _ SB
  have y1 := SBth.b1 _ SB
  have y2 := SBth.b2 _ SB
  have y3 := SBth.b3 _ SB
  have y4 := SBth.b4 _ SB
  have y5 := SBth.b5 _ SB
  have y6 := SBth.b6 _ SB
  have z0 := SBth.h0 _ SB
  have z1 := SBth.h1 _ SB
  have z2 := SBth.h2 _ SB
  have z3 := SBth.h3 _ SB
  have z4 := SBth.h4 _ SB
  go_wp2_with fail
  refine (rtold_d HX.out H3.out (HOK.out.le (by omega)) t (okse_of HOT.out HM.out.1 HI.out.1) s.data HM.out.2.1 HI.out.2).mono ?_
  rintro e w5 ⟨v5, rfl, h5⟩
  have H5 := Lib.hid h5
  clear h5
  go_upto_region 12 with fail
  clear SB y0 y1 y2 y3 y4 y5 y6 z0 z1 z2 z3 z4
  have hhn := HN.out
  have hbn := HBN.out
  have wm : IntKind.i64.wrap (t.msg + s.data) = t.msg + s.data := IntWalk.i64_in _ (by have := HOT.out.m0; have := HOT.out.m1; have := HM.out.1; have := HM.out.2.1; have := HI.out.2; omega)
  refine hd_start (SBth B1 B2 s t) (by kernel_rfl) ?_
  intro w8 hw'
  have H8 := Lib.hid (H5.out.draw 1)
  rw [← hw'] at H8
  clear hw' H5
  have S8 := SBth.of H8.out
  refine hd_take (v := ?_) 0 rfl (by kernel_rfl) (fun _ _ d _ _ h => (by cases d <;> exact h)) (by kernel_rfl) S8 (fun w' hS => ?_) ?_
  rotate_left
  focus (have q0 := SBth.b0 w' hS; have q1 := SBth.b1 w' hS; have q2 := SBth.b2 w' hS; have q3 := SBth.b3 w' hS; have q4 := SBth.b4 w' hS; have q5 := SBth.b5 w' hS; have q6 := SBth.b6 w' hS; have q7 := SBth.h0 w' hS; have q8 := SBth.h1 w' hS; have q9 := SBth.h2 w' hS; have q10 := SBth.h3 w' hS; have q11 := SBth.h4 w' hS; clear hS; go_simp; try rfl; done)
  simp only [List.getElem_toArray, List.getElem_cons_succ, List.getElem_cons_zero, Act.put, List.setIfInBounds_toArray, List.set_cons_zero, List.set_cons_succ]
  refine hd_take (v := ?_) 1 rfl (by kernel_rfl) (fun _ _ d _ _ h => (by cases d <;> exact h)) (by kernel_rfl) S8 (fun w' hS => ?_) ?_
  rotate_left
  focus (have q0 := SBth.b0 w' hS; have q1 := SBth.b1 w' hS; have q2 := SBth.b2 w' hS; have q3 := SBth.b3 w' hS; have q4 := SBth.b4 w' hS; have q5 := SBth.b5 w' hS; have q6 := SBth.b6 w' hS; have q7 := SBth.h0 w' hS; have q8 := SBth.h1 w' hS; have q9 := SBth.h2 w' hS; have q10 := SBth.h3 w' hS; have q11 := SBth.h4 w' hS; clear hS; go_simp; try rfl; done)
  simp only [List.getElem_toArray, List.getElem_cons_succ, List.getElem_cons_zero, Act.put, List.setIfInBounds_toArray, List.set_cons_zero, List.set_cons_succ]
  refine hd_take (v := ?_) 2 rfl (by kernel_rfl) (fun _ _ d _ _ h => (by cases d <;> exact h)) (by kernel_rfl) S8 (fun w' hS => ?_) ?_
  rotate_left
  focus (have q0 := SBth.b0 w' hS; have q1 := SBth.b1 w' hS; have q2 := SBth.b2 w' hS; have q3 := SBth.b3 w' hS; have q4 := SBth.b4 w' hS; have q5 := SBth.b5 w' hS; have q6 := SBth.b6 w' hS; have q7 := SBth.h0 w' hS; have q8 := SBth.h1 w' hS; have q9 := SBth.h2 w' hS; have q10 := SBth.h3 w' hS; have q11 := SBth.h4 w' hS; clear hS; go_simp; try rfl; done)
  simp only [List.getElem_toArray, List.getElem_cons_succ, List.getElem_cons_zero, Act.put, List.setIfInBounds_toArray, List.set_cons_zero, List.set_cons_succ]
  refine hd_take (v := ?_) 3 rfl (by kernel_rfl) (fun _ _ d _ _ h => (by cases d <;> exact h)) (by kernel_rfl) S8 (fun w' hS => ?_) ?_
  rotate_left
  focus (have q0 := SBth.b0 w' hS; have q1 := SBth.b1 w' hS; have q2 := SBth.b2 w' hS; have q3 := SBth.b3 w' hS; have q4 := SBth.b4 w' hS; have q5 := SBth.b5 w' hS; have q6 := SBth.b6 w' hS; have q7 := SBth.h0 w' hS; have q8 := SBth.h1 w' hS; have q9 := SBth.h2 w' hS; have q10 := SBth.h3 w' hS; have q11 := SBth.h4 w' hS; clear hS; go_simp; try rfl; done)
  simp only [List.getElem_toArray, List.getElem_cons_succ, List.getElem_cons_zero, Act.put, List.setIfInBounds_toArray, List.set_cons_zero, List.set_cons_succ]
  refine hd_take (v := ?_) 4 rfl (by kernel_rfl) (fun _ _ d _ _ h => (by cases d <;> exact h)) (by kernel_rfl) S8 (fun w' hS => ?_) ?_
  rotate_left
  focus (have q0 := SBth.b0 w' hS; have q1 := SBth.b1 w' hS; have q2 := SBth.b2 w' hS; have q3 := SBth.b3 w' hS; have q4 := SBth.b4 w' hS; have q5 := SBth.b5 w' hS; have q6 := SBth.b6 w' hS; have q7 := SBth.h0 w' hS; have q8 := SBth.h1 w' hS; have q9 := SBth.h2 w' hS; have q10 := SBth.h3 w' hS; have q11 := SBth.h4 w' hS; clear hS; go_simp; try rfl; done)
  simp only [List.getElem_toArray, List.getElem_cons_succ, List.getElem_cons_zero, Act.put, List.setIfInBounds_toArray, List.set_cons_zero, List.set_cons_succ]
  refine hd_take (v := ?_) 5 rfl (by kernel_rfl) (fun _ _ d _ _ h => (by cases d <;> exact h)) (by kernel_rfl) S8 (fun w' hS => ?_) ?_
  rotate_left
  focus (have q0 := SBth.b0 w' hS; have q1 := SBth.b1 w' hS; have q2 := SBth.b2 w' hS; have q3 := SBth.b3 w' hS; have q4 := SBth.b4 w' hS; have q5 := SBth.b5 w' hS; have q6 := SBth.b6 w' hS; have q7 := SBth.h0 w' hS; have q8 := SBth.h1 w' hS; have q9 := SBth.h2 w' hS; have q10 := SBth.h3 w' hS; have q11 := SBth.h4 w' hS; clear hS; go_simp; try rfl; done)
  simp only [List.getElem_toArray, List.getElem_cons_succ, List.getElem_cons_zero, Act.put, List.setIfInBounds_toArray, List.set_cons_zero, List.set_cons_succ]
  refine hd_take (v := ?_) 6 rfl (by kernel_rfl) (fun _ _ d _ _ h => (by cases d <;> exact h)) (by kernel_rfl) S8 (fun w' hS => ?_) ?_
  rotate_left
  focus (have q0 := SBth.b0 w' hS; have q1 := SBth.b1 w' hS; have q2 := SBth.b2 w' hS; have q3 := SBth.b3 w' hS; have q4 := SBth.b4 w' hS; have q5 := SBth.b5 w' hS; have q6 := SBth.b6 w' hS; have q7 := SBth.h0 w' hS; have q8 := SBth.h1 w' hS; have q9 := SBth.h2 w' hS; have q10 := SBth.h3 w' hS; have q11 := SBth.h4 w' hS; clear hS; go_simp; try rfl; done)
  simp only [List.getElem_toArray, List.getElem_cons_succ, List.getElem_cons_zero, Act.put, List.setIfInBounds_toArray, List.set_cons_zero, List.set_cons_succ]
  refine hd_take (v := ?_) 7 rfl (by kernel_rfl) (fun _ _ d _ _ h => (by cases d <;> exact h)) (by kernel_rfl) S8 (fun w' hS => ?_) ?_
  rotate_left
  focus (have q0 := SBth.b0 w' hS; have q1 := SBth.b1 w' hS; have q2 := SBth.b2 w' hS; have q3 := SBth.b3 w' hS; have q4 := SBth.b4 w' hS; have q5 := SBth.b5 w' hS; have q6 := SBth.b6 w' hS; have q7 := SBth.h0 w' hS; have q8 := SBth.h1 w' hS; have q9 := SBth.h2 w' hS; have q10 := SBth.h3 w' hS; have q11 := SBth.h4 w' hS; clear hS; go_simp; try rfl; done)
  simp only [List.getElem_toArray, List.getElem_cons_succ, List.getElem_cons_zero, Act.put, List.setIfInBounds_toArray, List.set_cons_zero, List.set_cons_succ]
  refine hd_take (v := ?_) 8 rfl (by kernel_rfl) (fun _ _ d _ _ h => (by cases d <;> exact h)) (by kernel_rfl) S8 (fun w' hS => ?_) ?_
  rotate_left
  focus (have q0 := SBth.b0 w' hS; have q1 := SBth.b1 w' hS; have q2 := SBth.b2 w' hS; have q3 := SBth.b3 w' hS; have q4 := SBth.b4 w' hS; have q5 := SBth.b5 w' hS; have q6 := SBth.b6 w' hS; have q7 := SBth.h0 w' hS; have q8 := SBth.h1 w' hS; have q9 := SBth.h2 w' hS; have q10 := SBth.h3 w' hS; have q11 := SBth.h4 w' hS; clear hS; go_simp; try rfl; done)
  simp only [List.getElem_toArray, List.getElem_cons_succ, List.getElem_cons_zero, Act.put, List.setIfInBounds_toArray, List.set_cons_zero, List.set_cons_succ]
  refine hd_take (v := ?_) 9 rfl (by kernel_rfl) (fun _ _ d _ _ h => (by cases d <;> exact h)) (by kernel_rfl) S8 (fun w' hS => ?_) ?_
  rotate_left
  focus (have q0 := SBth.b0 w' hS; have q1 := SBth.b1 w' hS; have q2 := SBth.b2 w' hS; have q3 := SBth.b3 w' hS; have q4 := SBth.b4 w' hS; have q5 := SBth.b5 w' hS; have q6 := SBth.b6 w' hS; have q7 := SBth.h0 w' hS; have q8 := SBth.h1 w' hS; have q9 := SBth.h2 w' hS; have q10 := SBth.h3 w' hS; have q11 := SBth.h4 w' hS; clear hS; go_simp; try rfl; done)
  simp only [List.getElem_toArray, List.getElem_cons_succ, List.getElem_cons_zero, Act.put, List.setIfInBounds_toArray, List.set_cons_zero, List.set_cons_succ]
  refine hd_take (v := ?_) 10 rfl (by kernel_rfl) (fun _ _ d _ _ h => (by cases d <;> exact h)) (by kernel_rfl) S8 (fun w' hS => ?_) ?_
  rotate_left
  focus (have q0 := SBth.b0 w' hS; have q1 := SBth.b1 w' hS; have q2 := SBth.b2 w' hS; have q3 := SBth.b3 w' hS; have q4 := SBth.b4 w' hS; have q5 := SBth.b5 w' hS; have q6 := SBth.b6 w' hS; have q7 := SBth.h0 w' hS; have q8 := SBth.h1 w' hS; have q9 := SBth.h2 w' hS; have q10 := SBth.h3 w' hS; have q11 := SBth.h4 w' hS; clear hS; go_simp; try rfl; done)
  simp only [List.getElem_toArray, List.getElem_cons_succ, List.getElem_cons_zero, Act.put, List.setIfInBounds_toArray, List.set_cons_zero, List.set_cons_succ]
  refine hd_take (v := ?_) 11 rfl (by kernel_rfl) (fun _ _ d _ _ h => (by cases d <;> exact h)) (by kernel_rfl) S8 (fun w' hS => ?_) ?_
  rotate_left
  focus (have q0 := SBth.b0 w' hS; have q1 := SBth.b1 w' hS; have q2 := SBth.b2 w' hS; have q3 := SBth.b3 w' hS; have q4 := SBth.b4 w' hS; have q5 := SBth.b5 w' hS; have q6 := SBth.b6 w' hS; have q7 := SBth.h0 w' hS; have q8 := SBth.h1 w' hS; have q9 := SBth.h2 w' hS; have q10 := SBth.h3 w' hS; have q11 := SBth.h4 w' hS; clear hS; go_simp; try rfl; done)
  simp only [List.getElem_toArray, List.getElem_cons_succ, List.getElem_cons_zero, Act.put, List.setIfInBounds_toArray, List.set_cons_zero, List.set_cons_succ]
  have kbp := Oc_blk HX.out H8.out
  obtain ⟨u0, g0⟩ := cell_of kbp HP.out.size (k := 64 + n * 5 + 4) (by omega)
  have f0 := kbp.unfrozen (64 + n * 5 + 4)
  have h9 := Oc_turn HX.out H8.out (kbp.set (64 + n * 5 + 4) (.int .i64 (t.msg + s.data))) ((Only.refl (fun x => x = P) _).set (p := ⟨P, 64 + n * 5 + 4, none⟩) (.inl rfl) _)
  have S9 := SBth.of h9
  have SB := S9
  have y0 := SBth.b0 _ SB
  have H9 := Lib.hid h9
  refine hd_one 12 (by kernel_rfl) ?_
  refine op_skip rfl (by kernel_rfl) (by go_simp; first | done | rfl) ?_
  refine ⟨S9, ?_⟩
  simp only [List.getElem_toArray, List.getElem_cons_succ, List.getElem_cons_zero, Act.put, List.setIfInBounds_toArray, List.set_cons_zero, List.set_cons_succ]
  refine hd_done (by kernel_rfl) ?_
  clear S8 S9 kbp g0 f0 h9 hhn hbn wm
  go_wp2_with fail
  clear SB y0
  refine (rtakes_any s.kind _).mono ?_
  rintro e wt ⟨rfl, rfl⟩
  rw [HTK.out]
  go_wp2_with fail
  go_ret
  exact ⟨_, cs.setIfInBounds (64 + n * 5 + 4) (.int .i64 (t.msg + s.data)), rfl, by rw [HNX.out]; exact HP.out.told hn64 HTN.out _, by rw [HEV.out]; exact two_drop H9.out⟩
end
end Go.Proofs.YtkidijjhedjifaaGreat
