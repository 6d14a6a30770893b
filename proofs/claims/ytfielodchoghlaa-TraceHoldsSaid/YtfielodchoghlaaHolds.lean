/- The walk of TraceHolds. Conditions: the form's own reach. -/
import Derived.Test.YtfielodchoghlaaRows
import Derived.Test.YtfielodchoghlaaTrace
import Derived.Test.YtfielodchoghlaaKenv
import Derived.Test.YtfielodchoghlaaOpenI
namespace Go.Proofs.Ytfielodchoghlaa
open Go.RowKit
set_option maxRecDepth 100000
set_option linter.unusedVariables false
set_option linter.unusedSimpArgs false
theorem realsL_len (l : List Int) : (realsL l).length = l.length := by simp [realsL]
theorem apart2R {w0 w : World} {a b c : Ob} {v1 v2 : Value} {l1 l2 : List Nat} (h : Env w0 w [a, b, KR.ob v1 l1, KR.ob v2 l2, c]) (h1 : l1.length ≤ 17592186044410) (h2 : l2.length ≤ 17592186044410) (g : Nat) (hg : g = w.heap.size) :
    Calls Try.prog 16 #[.slice (some ⟨g, 0, none⟩) 2 2] (w.alloc (.cells #[v1, v2] 25)) fun e w' => e = .returned (.bool true) ∧ Env w0 w' [] := by
  refine apartReals_any (w0 := w0) (.slice (some ⟨g, 0, none⟩) 2 2) [v1, v2] (fun j => if j = 0 then l1.length else l2.length) (fun j => if j = 0 then KR.fl l1 else KR.fl l2) []
    (AEnv.lit h g hg (fun j => j + 2) (fun i j _ _ he => by simpa using he) (by simp) (fun j hj => ?_) (fun j ob hj => by simp at hj)) (fun j hj => ?_) (by simp)
  · have hj4 : j < 2 := hj
    match j, hj4 with
    | 0, _ => rfl
    | 1, _ => rfl
  · split
    · exact h1
    · exact h2
set_option maxHeartbeats 4000000 in
theorem traceHolds.walk {w : World} (va : Value) (a : List Int) (ha : InI w va a) (vb : Value) (b : List Int) (hb : InI w vb b) :
    Calls Try.prog 3 #[va, vb] w fun e w' => e = .returned (.bool true) ∧ Below w.heap.size w w' := by
  have la := ha.2
  have lb := hb.2
  have HA := Lib.hid ha.1
  have HB := Lib.hid hb.1
  obtain ⟨ao, cap, rfl, h1, h2, _⟩ := ha.1.any
  obtain ⟨bo, dap, rfl, h3, h4, _⟩ := hb.1.any
  clear ha hb
  go_enter Try.func3, Try.ntmps3
  go_wp2_with fail
  refine (lentI_any _ a w HA.out (by omega)).mono ?_
  rintro e w1 hn
  obtain ⟨x, rfl, h5⟩ := Knd.New.env (Env.start w) hn
  clear hn
  have H1 := Lib.hid h5
  clear h5
  obtain ⟨g, cg, rfl, x1, x2⟩ := H1.out.lentF 0 rfl
  go_wp2_with fail
  refine (lentI_any _ b w1 (H1.out.oldK HB.out) (by omega)).mono ?_
  rintro e w2 hn
  obtain ⟨y, rfl, h5⟩ := Knd.New.env H1.out hn
  clear hn
  have H2 := Lib.hid h5
  clear h5 H1
  obtain ⟨g2, cg2, rfl, y1, y2⟩ := H2.out.lentF 1 rfl
  have hwa : IntKind.i64.wrap (a.length : Int) = a.length := IntWalk.i64_in _ (by omega)
  have hwb : IntKind.i64.wrap (b.length : Int) = b.length := IntWalk.i64_in _ (by omega)
  have na : a.length ≤ cg := by omega
  have nb : b.length ≤ cg2 := by omega
  obtain ⟨n, hn⟩ : ∃ n, distN a b = n := ⟨_, rfl⟩
  have HN := Lib.hid hn
  clear hn
  go_wp2_with fail
  refine wp_region_tame (fun w' => w' = w2.drewN 1) 0 8 (by kernel_rfl) (by kernel_rfl) (fun _ _ d _ _ h => (by cases d <;> exact h)) rfl (by decide) ?_
  simp only [List.take_succ_cons, List.take_zero, List.drop_succ_cons, List.drop_zero]
  refine wpPre_nil ?_
  refine wpTame_run (v := ?_) (by decide) rfl (fun w' hS => ?_) ?_
  rotate_left
  focus (clear hS; go_simp; try rfl; done)
  simp only [Act.put, List.setIfInBounds_toArray, List.set_cons_zero, List.set_cons_succ]
  refine wpTame_run (v := ?_) (by decide) rfl (fun w' hS => ?_) ?_
  rotate_left
  focus (clear hS; go_simp; try rfl; done)
  simp only [Act.put, List.setIfInBounds_toArray, List.set_cons_zero, List.set_cons_succ]
  refine wpTame_run (v := ?_) (by decide) rfl (fun w' hS => ?_) ?_
  rotate_left
  focus (clear hS; go_simp; try rfl; done)
  simp only [Act.put, List.setIfInBounds_toArray, List.set_cons_zero, List.set_cons_succ]
  refine wpTame_run (v := ?_) (by decide) rfl (fun w' hS => ?_) ?_
  rotate_left
  focus (clear hS; go_simp; try rfl; done)
  simp only [Act.put, List.setIfInBounds_toArray, List.set_cons_zero, List.set_cons_succ]
  refine wpTame_run (v := ?_) (by decide) rfl (fun w' hS => ?_) ?_
  rotate_left
  focus (clear hS; go_simp; try rfl; done)
  simp only [Act.put, List.setIfInBounds_toArray, List.set_cons_zero, List.set_cons_succ]
  refine wpTame_run (v := ?_) (by decide) rfl (fun w' hS => ?_) ?_
  rotate_left
  focus (clear hS; go_simp; try rfl; done)
  simp only [Act.put, List.setIfInBounds_toArray, List.set_cons_zero, List.set_cons_succ]
  refine wpTame_run (v := ?_) (by decide) rfl (fun w' hS => ?_) ?_
  rotate_left
  focus (clear hS; go_simp; try rfl; done)
  simp only [Act.put, List.setIfInBounds_toArray, List.set_cons_zero, List.set_cons_succ]
  refine wpTame_run (v := ?_) (by decide) rfl (fun w' hS => ?_) ?_
  rotate_left
  focus (clear hS; go_simp; try rfl; done)
  simp only [Act.put, List.setIfInBounds_toArray, List.set_cons_zero, List.set_cons_succ]
  refine wpTame_nil ?_
  intro w3 hw'
  have H3 := Lib.hid (H2.out.draw 1)
  rw [← hw'] at H3
  clear hw' H2
  go_wp2_with fail
  refine (dist_any _ _ a b _ (H3.out.kR 0 rfl).lent (H3.out.kR 1 rfl).lent (by omega) (by omega)).mono ?_
  rintro e w' ⟨he, rfl⟩
  rw [HN.out] at he
  subst he
  go_wp2_with fail
  refine wp_region_script [(0, true), (1, true), (2, true), (3, true), (5, true), (6, true), (7, true), (8, true), (4, false), (9, false), (10, true), (11, true)] (by kernel_rfl) (by kernel_rfl) (fun _ _ d _ _ h => (by cases d <;> exact h)) ?_
  intro w4 hw'
  have H4 := Lib.hid (H3.out.draw 1)
  rw [← hw'] at H4
  clear hw' H3
  refine scr_pure (v := ?_) rfl rfl (fun w' => ?_) ?_
  rotate_left
  focus (go_simp; try rfl; done)
  simp only [Act.put, List.setIfInBounds_toArray, List.set_cons_zero, List.set_cons_succ]
  refine scr_pure (v := ?_) rfl rfl (fun w' => ?_) ?_
  rotate_left
  focus (go_simp; try rfl; done)
  simp only [Act.put, List.setIfInBounds_toArray, List.set_cons_zero, List.set_cons_succ]
  refine scr_pure (v := ?_) rfl rfl (fun w' => ?_) ?_
  rotate_left
  focus (go_simp; try rfl; done)
  simp only [Act.put, List.setIfInBounds_toArray, List.set_cons_zero, List.set_cons_succ]
  refine scr_pure (v := ?_) rfl rfl (fun w' => ?_) ?_
  rotate_left
  focus (go_simp; try rfl; done)
  simp only [Act.put, List.setIfInBounds_toArray, List.set_cons_zero, List.set_cons_succ]
  refine scr_pure (v := ?_) rfl rfl (fun w' => ?_) ?_
  rotate_left
  focus (go_simp; try rfl; done)
  simp only [Act.put, List.setIfInBounds_toArray, List.set_cons_zero, List.set_cons_succ]
  refine scr_pure (v := ?_) rfl rfl (fun w' => ?_) ?_
  rotate_left
  focus (go_simp; try rfl; done)
  simp only [Act.put, List.setIfInBounds_toArray, List.set_cons_zero, List.set_cons_succ]
  refine scr_pure (v := ?_) rfl rfl (fun w' => ?_) ?_
  rotate_left
  focus (go_simp; try rfl; done)
  simp only [Act.put, List.setIfInBounds_toArray, List.set_cons_zero, List.set_cons_succ]
  refine scr_pure (v := ?_) rfl rfl (fun w' => ?_) ?_
  rotate_left
  focus (go_simp; try rfl; done)
  simp only [Act.put, List.setIfInBounds_toArray, List.set_cons_zero, List.set_cons_succ]
  refine scr_call rfl rfl (by go_simp; first | exact ⟨rfl, rfl⟩ | rfl) ?_
  refine (reals_any _ a w4 (H4.out.kR 0 rfl).lent (by omega)).mono ?_
  rintro e w5 hn
  obtain ⟨p, rfl, h5⟩ := Knd.New.env H4.out hn
  clear hn
  have H5 := Lib.hid h5
  clear h5 H4
  refine ⟨_, rfl, ?_⟩
  simp only [Act.put, List.setIfInBounds_toArray, List.set_cons_zero, List.set_cons_succ]
  refine scr_call rfl rfl (by go_simp; first | exact ⟨rfl, rfl⟩ | rfl) ?_
  refine (reals_any _ a w5 (H5.out.kR 0 rfl).lent (by omega)).mono ?_
  rintro e w6 hn
  obtain ⟨q, rfl, h5⟩ := Knd.New.env H5.out hn
  clear hn
  have H6 := Lib.hid h5
  clear h5 H5
  refine ⟨_, rfl, ?_⟩
  simp only [Act.put, List.setIfInBounds_toArray, List.set_cons_zero, List.set_cons_succ]
  refine scr_pure (v := ?_) rfl rfl (fun w' => ?_) ?_
  rotate_left
  focus (go_simp; try rfl; done)
  simp only [Act.put, List.setIfInBounds_toArray, List.set_cons_zero, List.set_cons_succ]
  refine scr_pure (v := ?_) rfl rfl (fun w' => ?_) ?_
  rotate_left
  focus (go_simp; try rfl; done)
  simp only [Act.put, List.setIfInBounds_toArray, List.set_cons_zero, List.set_cons_succ]
  unfold wpScript
  go_wp2_with fail
  refine (rdist_any _ _ a b w6 (H6.out.oldK HA.out) (H6.out.oldK HB.out) (by omega) (by omega)).mono ?_
  rintro e w7 ⟨he, m, hw⟩
  rw [HN.out] at he
  subst he
  have h5 := H6.out.draw m
  rw [← hw] at h5
  clear hw
  have H7 := Lib.hid h5
  clear h5 H6
  go_wp2_with fail
  refine (keptI_any _ _ (lentM mkI a) a w7 (H7.out.kR 0 rfl) (H7.out.oldK HA.out) (by omega)).mono ?_
  rintro e w8 ⟨he, hb⟩
  rw [sameL_refl eqI (fun x => by simp [eqI])] at he
  subst he
  have h5 := H7.out.below hb
  clear hb
  have H8 := Lib.hid h5
  clear h5 H7
  go_wp2_with fail
  refine (keptI_any _ _ (lentM mkI b) b w8 (H8.out.kR 1 rfl) (H8.out.oldK HB.out) (by omega)).mono ?_
  rintro e w9 ⟨he, hb⟩
  rw [sameL_refl eqI (fun x => by simp [eqI])] at he
  subst he
  have h5 := H8.out.below hb
  clear hb
  have H9 := Lib.hid h5
  clear h5 H8
  go_wp2_with fail
  refine (overI_any _ (lentM mkI a) w9 (H9.out.kO 0 rfl) (by rw [lentM_len]; omega)).mono ?_
  rintro e w10 ⟨rfl, ho, hf⟩
  have h5 := H9.out.turnK 0 rfl ho hf
  clear ho hf
  have H10 := Lib.hid h5
  clear h5 H9
  go_wp2_with fail
  refine (rreals_any _ a w10 (H10.out.oldK HA.out) (by omega)).mono ?_
  rintro e w11 hn
  obtain ⟨want, rfl, h5⟩ := Knd.New.env H10.out hn
  clear hn
  have H11 := Lib.hid h5
  clear h5 H10
  go_wp2_with fail
  refine (sameR_any _ _ (realsL a) (realsL a) w11 (H11.out.kR 2 rfl) (H11.out.kR 4 rfl)).mono ?_
  rintro e w12 ⟨he, m, hw⟩
  rw [sameL_refl eqR eqR_refl] at he
  subst he
  have h5 := H11.out.draw m
  rw [← hw] at h5
  clear hw
  have H12 := Lib.hid h5
  clear h5 H11
  go_wp2_with fail
  refine (sameR_any _ _ (realsL a) (realsL a) w12 (H12.out.kR 3 rfl) (H12.out.kR 4 rfl)).mono ?_
  rintro e w13 ⟨he, m, hw⟩
  rw [sameL_refl eqR eqR_refl] at he
  subst he
  have h5 := H12.out.draw m
  rw [← hw] at h5
  clear hw
  have H13 := Lib.hid h5
  clear h5 H12
  obtain ⟨o3, c3, rfl⟩ := H13.out.any 2 (K := KR) rfl
  obtain ⟨o4, c4, rfl⟩ := H13.out.any 3 (K := KR) rfl
  go_wp2_with fail
  refine (apart2R H13.out (by rw [realsL_len]; omega) (by rw [realsL_len]; omega) w13.heap.size rfl).mono ?_
  rintro e w14 ⟨rfl, h5⟩
  have H14 := Lib.hid h5
  clear h5 H13
  go_wp2
  go_ret
  exact ⟨rfl, H14.out.base⟩
end Go.Proofs.Ytfielodchoghlaa
