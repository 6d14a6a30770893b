/- The walk of CtChooses. Conditions: each list has at most 2^47 - 4096 bytes (the form's own reach). -/
import Derived.Test.YthegjgbidhbmfaaRows
import Derived.Test.YthegjgbidhbmfaaReset
import Derived.Test.YthegjgbidhbmfaaApartBytes
namespace Go.Proofs.Ythegjgbidhbmfaa
open Go.RowKit
set_option maxRecDepth 100000
set_option linter.unusedVariables false

theorem obB_eq (v : Value) (l : List UInt8) : obB v l = obE MB.e MB.sz v l.length (l.map B) := rfl
theorem over_len (n : Nat) : (over n).length = n := by simp [over]
/-- four things behind a law's first two: ApartBytes of a literal of them -/
theorem apart4_env {w0 w : World} {a b f : Ob} {v1 v2 v3 v4 : Value} {l1 l2 l3 l4 : List UInt8} (h : Env w0 w [a, b, obB v1 l1, obB v2 l2, obB v3 l3, obB v4 l4, f]) (h1 : l1.length ≤ 140737488355000) (h2 : l2.length ≤ 140737488355000) (h3 : l3.length ≤ 140737488355000) (h4 : l4.length ≤ 140737488355000) (g : Nat) (hg : g = w.heap.size) :
    Calls Try.prog 27 #[.slice (some ⟨g, 0, none⟩) 4 4] (w.alloc (.cells #[v1, v2, v3, v4] 22)) fun e w' => e = .returned (.bool true) ∧ Env w0 w' [] := by
  refine apartBytes_any (w0 := w0) (.slice (some ⟨g, 0, none⟩) 4 4) [v1, v2, v3, v4] (fun j => if j = 0 then l1.length else if j = 1 then l2.length else if j = 2 then l3.length else l4.length) (fun j => if j = 0 then l1.map B else if j = 1 then l2.map B else if j = 2 then l3.map B else l4.map B) []
    (AEnv.lit h g hg (fun j => j + 2) (fun i j _ _ he => by simpa using he) (by simp) (fun j hj => ?_) (fun j ob hj => by simp at hj)) (fun j hj => ?_) (by simp)
  · have hj4 : j < 4 := hj
    match j, hj4 with
    | 0, _ => rfl
    | 1, _ => rfl
    | 2, _ => rfl
    | 3, _ => rfl
  · split
    · exact h1
    · split
      · exact h2
      · split
        · exact h3
        · exact h4
set_option maxHeartbeats 4000000 in
theorem ctChooses_walk (yes : Bool) (va vb : Value) (a b : List UInt8) (w : World) (ha : Bs w va a) (hb : Bs w vb b) (la : a.length ≤ 140737488351232) (lb : b.length ≤ 140737488351232) (hl : a.length = b.length) :
    Calls Try.prog 4 #[.bool yes, va, vb] w fun e w' => e = .returned (.bool true) ∧ Below w.heap.size w w' := by
  have HA := Lib.hid ha
  have HB := Lib.hid hb
  have HL := Lib.hid hl
  obtain ⟨ao, cap, rfl, h1, h2, _, _⟩ := ha.form
  obtain ⟨bo, dap, rfl, h3, h4, _, _⟩ := hb.form
  clear ha hb hl
  go_enter Try.func4, Try.ntmps4
  go_wp2_with fail
  refine (newP_env (Env.start w)).mono ?_
  rintro e w1 ⟨p, rfl, h5⟩
  have H1 := Lib.hid h5
  clear h5
  go_wp2_with fail
  refine (newR_env H1.out).mono ?_
  rintro e w2 ⟨q, rfl, h5⟩
  have H2 := Lib.hid h5
  clear h5 H1
  go_wp2_with fail
  refine (lent_env H2.out (H2.out.old HA.out) (by omega)).mono ?_
  rintro e w3 ⟨g, cg, rfl, h5⟩
  have H3 := Lib.hid h5
  clear h5 H2
  go_wp2_with fail
  refine (lent_env H3.out (H3.out.old HB.out) (by omega)).mono ?_
  rintro e w4 ⟨g2, cg2, rfl, h5⟩
  have H4 := Lib.hid h5
  clear h5 H3
  have HX := H4.out.bytes 2 rfl
  have HY := H4.out.bytes 3 rfl
  obtain ⟨x1, x2⟩ := HX.caps
  obtain ⟨y1, y2⟩ := HY.caps
  rw [lent_length] at x1 y1
  clear HX HY
  have hwa : IntKind.i64.wrap (a.length : Int) = a.length := IntWalk.i64_in _ (by omega)
  have hwb : IntKind.i64.wrap (b.length : Int) = b.length := IntWalk.i64_in _ (by omega)
  have HR1 : ∃ r1, Hid (noteL [] 7 a.length 1 = r1 ∧ Few r1 1) := ⟨_, Lib.hid ⟨rfl, Few.nil.note 7 a.length⟩⟩
  obtain ⟨r1, HR1⟩ := HR1
  have HSL : ∃ s, Hid (sel yes a b = s ∧ s.length = a.length) := ⟨_, Lib.hid ⟨rfl, sel_len yes a b HL.out⟩⟩
  obtain ⟨s, HSL⟩ := HSL
  go_wp2_with fail
  have na : a.length ≤ cg := by omega
  have nb : b.length ≤ cg2 := by omega
  refine wp_region_call (fun w' => w' = w4.drewN 1) 10 15 _ (by kernel_rfl) (by kernel_rfl) rfl rfl (by decide) ?_
  simp only [List.take_succ_cons, List.take_zero, List.drop_succ_cons, List.drop_zero]
  refine wpTame_run (v := ?_) (by decide) rfl (fun w' hS => ?_) ?_
  rotate_left
  focus (clear hS; go_simp; try rfl; done)
  simp only [Act.put, List.setIfInBounds_toArray, List.set_cons_zero, List.set_cons_succ]
  refine wpTame_run (v := ?_) (by decide) rfl (fun w' hS => ?_) ?_
  rotate_left
  focus (clear hS; go_simp; try rfl; done)
  simp only [Act.put, List.setIfInBounds_toArray, List.set_cons_zero, List.set_cons_succ]
  refine wpTame_run (v := ?_) (by decide) rfl (fun w' hS => ?_) ?_
  rotate_left
  focus (clear hS; go_simp; try rfl; done)
  simp only [Act.put, List.setIfInBounds_toArray, List.set_cons_zero, List.set_cons_succ]
  refine wpTame_run (v := ?_) (by decide) rfl (fun w' hS => ?_) ?_
  rotate_left
  focus (clear hS; go_simp; try rfl; done)
  simp only [Act.put, List.setIfInBounds_toArray, List.set_cons_zero, List.set_cons_succ]
  refine wpTame_run (v := ?_) (by decide) rfl (fun w' hS => ?_) ?_
  rotate_left
  focus (clear hS; go_simp; try rfl; done)
  simp only [Act.put, List.setIfInBounds_toArray, List.set_cons_zero, List.set_cons_succ]
  refine wpTame_run (v := ?_) (by decide) rfl (fun w' hS => ?_) ?_
  rotate_left
  focus (clear hS; go_simp; try rfl; done)
  simp only [Act.put, List.setIfInBounds_toArray, List.set_cons_zero, List.set_cons_succ]
  refine wpTame_run (v := ?_) (by decide) rfl (fun w' hS => ?_) ?_
  rotate_left
  focus (clear hS; go_simp; try rfl; done)
  simp only [Act.put, List.setIfInBounds_toArray, List.set_cons_zero, List.set_cons_succ]
  refine wpTame_run (v := ?_) (by decide) rfl (fun w' hS => ?_) ?_
  rotate_left
  focus (clear hS; go_simp; try rfl; done)
  simp only [Act.put, List.setIfInBounds_toArray, List.set_cons_zero, List.set_cons_succ]
  refine wpTame_run (v := ?_) (by decide) rfl (fun w' hS => ?_) ?_
  rotate_left
  focus (clear hS; go_simp; try rfl; done)
  simp only [Act.put, List.setIfInBounds_toArray, List.set_cons_zero, List.set_cons_succ]
  refine wpTame_run (v := ?_) (by decide) rfl (fun w' hS => ?_) ?_
  rotate_left
  focus (clear hS; go_simp; try rfl; done)
  simp only [Act.put, List.setIfInBounds_toArray, List.set_cons_zero, List.set_cons_succ]
  refine wpTame_nil ?_
  intro w5 hw'
  have H5 := Lib.hid (H4.out.draw 1)
  rw [← hw'] at H5
  clear hw' H4
  refine wp_mid_call (by go_simp; first | exact ⟨rfl, rfl⟩ | rfl) ?_
  refine (choose_env H5.out 0 rfl (Few.nil.room (by omega)) yes (Src.lent H5.out 0 2 (by decide) rfl) (Src.lent H5.out 0 3 (by decide) rfl) HL.out (by omega)).mono ?_
  rintro e w6 ⟨got, rfl, h5⟩
  rw [noteO_some, HR1.out.1, HSL.out.1] at h5
  have H6 := Lib.hid h5
  clear h5 H5
  refine ⟨_, rfl, (fun w' => w' = w6), rfl, ?_⟩
  simp only [Act.put, List.setIfInBounds_toArray, List.set_cons_zero, List.set_cons_succ]
  refine wpTame_run (v := ?_) (by decide) rfl (fun w' hS => ?_) ?_
  rotate_left
  focus (clear hS; go_simp; try rfl; done)
  simp only [Act.put, List.setIfInBounds_toArray, List.set_cons_zero, List.set_cons_succ]
  refine wpTame_run (v := ?_) (by decide) rfl (fun w' hS => ?_) ?_
  rotate_left
  focus (clear hS; go_simp; try rfl; done)
  simp only [Act.put, List.setIfInBounds_toArray, List.set_cons_zero, List.set_cons_succ]
  refine wpTame_run (v := ?_) (by decide) rfl (fun w' hS => ?_) ?_
  rotate_left
  focus (clear hS; go_simp; try rfl; done)
  simp only [Act.put, List.setIfInBounds_toArray, List.set_cons_zero, List.set_cons_succ]
  refine wpTame_run (v := ?_) (by decide) rfl (fun w' hS => ?_) ?_
  rotate_left
  focus (clear hS; go_simp; try rfl; done)
  simp only [Act.put, List.setIfInBounds_toArray, List.set_cons_zero, List.set_cons_succ]
  refine wpTame_nil ?_
  intro w' hw'
  rw [hw']
  clear hw'
  go_wp2_with fail
  refine wp_region_call (fun w' => w' = w6.drewN 1) 9 14 _ (by kernel_rfl) (by kernel_rfl) rfl rfl (by decide) ?_
  simp only [List.take_succ_cons, List.take_zero, List.drop_succ_cons, List.drop_zero]
  refine wpTame_run (v := ?_) (by decide) rfl (fun w' hS => ?_) ?_
  rotate_left
  focus (clear hS; go_simp; try rfl; done)
  simp only [Act.put, List.setIfInBounds_toArray, List.set_cons_zero, List.set_cons_succ]
  refine wpTame_run (v := ?_) (by decide) rfl (fun w' hS => ?_) ?_
  rotate_left
  focus (clear hS; go_simp; try rfl; done)
  simp only [Act.put, List.setIfInBounds_toArray, List.set_cons_zero, List.set_cons_succ]
  refine wpTame_run (v := ?_) (by decide) rfl (fun w' hS => ?_) ?_
  rotate_left
  focus (clear hS; go_simp; try rfl; done)
  simp only [Act.put, List.setIfInBounds_toArray, List.set_cons_zero, List.set_cons_succ]
  refine wpTame_run (v := ?_) (by decide) rfl (fun w' hS => ?_) ?_
  rotate_left
  focus (clear hS; go_simp; try rfl; done)
  simp only [Act.put, List.setIfInBounds_toArray, List.set_cons_zero, List.set_cons_succ]
  refine wpTame_run (v := ?_) (by decide) rfl (fun w' hS => ?_) ?_
  rotate_left
  focus (clear hS; go_simp; try rfl; done)
  simp only [Act.put, List.setIfInBounds_toArray, List.set_cons_zero, List.set_cons_succ]
  refine wpTame_run (v := ?_) (by decide) rfl (fun w' hS => ?_) ?_
  rotate_left
  focus (clear hS; go_simp; try rfl; done)
  simp only [Act.put, List.setIfInBounds_toArray, List.set_cons_zero, List.set_cons_succ]
  refine wpTame_run (v := ?_) (by decide) rfl (fun w' hS => ?_) ?_
  rotate_left
  focus (clear hS; go_simp; try rfl; done)
  simp only [Act.put, List.setIfInBounds_toArray, List.set_cons_zero, List.set_cons_succ]
  refine wpTame_run (v := ?_) (by decide) rfl (fun w' hS => ?_) ?_
  rotate_left
  focus (clear hS; go_simp; try rfl; done)
  simp only [Act.put, List.setIfInBounds_toArray, List.set_cons_zero, List.set_cons_succ]
  refine wpTame_run (v := ?_) (by decide) rfl (fun w' hS => ?_) ?_
  rotate_left
  focus (clear hS; go_simp; try rfl; done)
  simp only [Act.put, List.setIfInBounds_toArray, List.set_cons_zero, List.set_cons_succ]
  refine wpTame_nil ?_
  intro w7 hw'
  have H7 := Lib.hid (H6.out.draw 1)
  rw [← hw'] at H7
  clear hw' H6
  refine wp_mid_call (by go_simp; first | exact ⟨rfl, rfl⟩ | rfl) ?_
  refine (choose_nil H7.out yes (Src.lent H7.out 0 2 (by decide) rfl).1 (Src.lent H7.out 0 3 (by decide) rfl).1 HL.out (by omega)).mono ?_
  rintro e w8 ⟨more, rfl, h5⟩
  rw [HSL.out.1] at h5
  have H8 := Lib.hid h5
  clear h5 H7
  refine ⟨_, rfl, (fun w' => w' = w8), rfl, ?_⟩
  simp only [Act.put, List.setIfInBounds_toArray, List.set_cons_zero, List.set_cons_succ]
  refine wpTame_run (v := ?_) (by decide) rfl (fun w' hS => ?_) ?_
  rotate_left
  focus (clear hS; go_simp; try rfl; done)
  simp only [Act.put, List.setIfInBounds_toArray, List.set_cons_zero, List.set_cons_succ]
  refine wpTame_run (v := ?_) (by decide) rfl (fun w' hS => ?_) ?_
  rotate_left
  focus (clear hS; go_simp; try rfl; done)
  simp only [Act.put, List.setIfInBounds_toArray, List.set_cons_zero, List.set_cons_succ]
  refine wpTame_run (v := ?_) (by decide) rfl (fun w' hS => ?_) ?_
  rotate_left
  focus (clear hS; go_simp; try rfl; done)
  simp only [Act.put, List.setIfInBounds_toArray, List.set_cons_zero, List.set_cons_succ]
  refine wpTame_run (v := ?_) (by decide) rfl (fun w' hS => ?_) ?_
  rotate_left
  focus (clear hS; go_simp; try rfl; done)
  simp only [Act.put, List.setIfInBounds_toArray, List.set_cons_zero, List.set_cons_succ]
  refine wpTame_nil ?_
  intro w' hw'
  rw [hw']
  clear hw'
  go_wp2_with fail
  refine (rchoose_env H8.out 1 rfl (Few.nil.room (by omega)) yes (Src.old H8.out 1 HA.out) (Src.old H8.out 1 HB.out) HL.out (by omega)).mono ?_
  rintro e w9 ⟨want, rfl, h5⟩
  rw [noteO_some, HR1.out.1, HSL.out.1] at h5
  have H9 := Lib.hid h5
  clear h5 H8
  have hz : ((0 : Int) != 0) = false := rfl
  go_wp2_with fail
  refine (kept_env H9.out (H9.out.bytes 2 rfl).rd (H9.out.old HA.out) (by omega)).mono ?_
  rintro e w10 ⟨he, h5⟩
  rw [decide_eq_true rfl] at he
  subst he
  have H10 := Lib.hid h5
  clear h5 H9
  go_wp2_with fail
  refine (kept_env H10.out (H10.out.bytes 3 rfl).rd (H10.out.old HB.out) (by omega)).mono ?_
  rintro e w11 ⟨he, h5⟩
  rw [decide_eq_true rfl] at he
  subst he
  have H11 := Lib.hid h5
  clear h5 H10
  obtain ⟨mk, HMK⟩ : ∃ m, Hid (maskI yes = m) := ⟨_, Lib.hid rfl⟩
  go_wp2_with fail
  refine (mask_any yes _).mono ?_
  rintro e w' ⟨he, rfl⟩
  rw [HMK.out] at he
  subst he
  go_wp2_with fail
  refine (rmask_any yes _).mono ?_
  rintro e w' ⟨he, rfl⟩
  rw [HMK.out] at he
  subst he
  go_wp2_with fail
  refine (over_env H11.out 2 rfl (by rw [lent_length]; omega)).mono ?_
  rintro e w12 ⟨rfl, h5⟩
  have H12 := Lib.hid h5
  clear h5 H11
  go_wp2_with fail
  refine (over_env H12.out 3 rfl (by rw [lent_length]; omega)).mono ?_
  rintro e w13 ⟨rfl, h5⟩
  have H13 := Lib.hid h5
  clear h5 H12
  go_wp2_with fail
  refine (sameBytes_env H13.out (H13.out.bytes 4 rfl).rd (H13.out.bytes 6 rfl).rd).mono ?_
  rintro e w14 ⟨he, h5⟩
  rw [decide_eq_true rfl] at he
  subst he
  have H14 := Lib.hid h5
  clear h5 H13
  go_wp2_with fail
  refine (sameBytes_env H14.out (H14.out.bytes 5 rfl).rd (H14.out.bytes 6 rfl).rd).mono ?_
  rintro e w15 ⟨he, h5⟩
  rw [decide_eq_true rfl] at he
  subst he
  have H15 := Lib.hid h5
  clear h5 H14
  go_wp2_with fail
  refine (runsP_env H15.out 0 rfl (HR1.out.2.len (by omega))).mono ?_
  rintro e w16 ⟨vp, rfl, h5⟩
  have H16 := Lib.hid h5
  clear h5 H15
  go_wp2_with fail
  refine (runsR_env H16.out 1 rfl (HR1.out.2.len (by omega))).mono ?_
  rintro e w17 ⟨vr, rfl, h5⟩
  have H17 := Lib.hid h5
  clear h5 H16
  go_wp2_with fail
  refine (sameRuns_env H17.out (H17.out.runs 7 rfl).rd (H17.out.runs 8 rfl).rd).mono ?_
  rintro e w18 ⟨he, h5⟩
  rw [decide_eq_true rfl] at he
  subst he
  have H18 := Lib.hid h5
  clear h5 H17
  have H19 := Lib.hid H18.out.drop.drop
  obtain ⟨o3, c3, rfl⟩ := (H19.out.bytes 4 rfl).any
  obtain ⟨o4, c4, rfl⟩ := (H19.out.bytes 5 rfl).any
  clear H18
  go_wp2_with fail
  refine (apart4_env H19.out (by rw [over_len, lent_length]; omega) (by rw [over_len, lent_length]; omega) (by rw [HSL.out.2]; omega) (by rw [HSL.out.2]; omega) w18.heap.size rfl).mono ?_
  rintro e w19 ⟨rfl, h5⟩
  have H20 := Lib.hid h5
  clear h5 H19
  go_wp2
  go_ret
  exact ⟨rfl, H20.out.base⟩
theorem rchoose_off_env {w0 w : World} {obs : List Ob} (h : Env w0 w obs) (p : Value) (yes : Bool) {u v : Value} {xs ys : List UInt8} (hu : Bs w u xs) (hv : Bs w v ys) (hl : ¬ xs.length = ys.length) :
    Calls Try.prog 22 #[p, .bool yes, u, v] w fun e w' => e = .returned (.tuple #[.slice none 0 0, .int .i64 2]) ∧ Env w0 w' obs :=
  (rchoose_off p yes u v xs ys w hu hv hl).mono fun e w' ⟨he, hw⟩ => ⟨he, by rw [← hw]; exact h⟩
set_option maxHeartbeats 4000000 in
theorem ctChooses_off (yes : Bool) (va vb : Value) (a b : List UInt8) (w : World) (ha : Bs w va a) (hb : Bs w vb b) (la : a.length ≤ 140737488351232) (lb : b.length ≤ 140737488351232) (hl : ¬ a.length = b.length) :
    Calls Try.prog 4 #[.bool yes, va, vb] w fun e w' => e = .returned (.bool true) ∧ Below w.heap.size w w' := by
  have HA := Lib.hid ha
  have HB := Lib.hid hb
  have HL := Lib.hid hl
  obtain ⟨ao, cap, rfl, h1, h2, _, _⟩ := ha.form
  obtain ⟨bo, dap, rfl, h3, h4, _, _⟩ := hb.form
  clear ha hb hl
  go_enter Try.func4, Try.ntmps4
  go_wp2_with fail
  refine (newP_env (Env.start w)).mono ?_
  rintro e w1 ⟨p, rfl, h5⟩
  have H1 := Lib.hid h5
  clear h5
  go_wp2_with fail
  refine (newR_env H1.out).mono ?_
  rintro e w2 ⟨q, rfl, h5⟩
  have H2 := Lib.hid h5
  clear h5 H1
  go_wp2_with fail
  refine (lent_env H2.out (H2.out.old HA.out) (by omega)).mono ?_
  rintro e w3 ⟨g, cg, rfl, h5⟩
  have H3 := Lib.hid h5
  clear h5 H2
  go_wp2_with fail
  refine (lent_env H3.out (H3.out.old HB.out) (by omega)).mono ?_
  rintro e w4 ⟨g2, cg2, rfl, h5⟩
  have H4 := Lib.hid h5
  clear h5 H3
  have HX := H4.out.bytes 2 rfl
  have HY := H4.out.bytes 3 rfl
  obtain ⟨x1, x2⟩ := HX.caps
  obtain ⟨y1, y2⟩ := HY.caps
  rw [lent_length] at x1 y1
  clear HX HY
  have hwa : IntKind.i64.wrap (a.length : Int) = a.length := IntWalk.i64_in _ (by omega)
  have hwb : IntKind.i64.wrap (b.length : Int) = b.length := IntWalk.i64_in _ (by omega)
  go_wp2_with fail
  have na : a.length ≤ cg := by omega
  have nb : b.length ≤ cg2 := by omega
  refine wp_region_call (fun w' => w' = w4.drewN 1) 10 15 _ (by kernel_rfl) (by kernel_rfl) rfl rfl (by decide) ?_
  simp only [List.take_succ_cons, List.take_zero, List.drop_succ_cons, List.drop_zero]
  refine wpTame_run (v := ?_) (by decide) rfl (fun w' hS => ?_) ?_
  rotate_left
  focus (clear hS; go_simp; try rfl; done)
  simp only [Act.put, List.setIfInBounds_toArray, List.set_cons_zero, List.set_cons_succ]
  refine wpTame_run (v := ?_) (by decide) rfl (fun w' hS => ?_) ?_
  rotate_left
  focus (clear hS; go_simp; try rfl; done)
  simp only [Act.put, List.setIfInBounds_toArray, List.set_cons_zero, List.set_cons_succ]
  refine wpTame_run (v := ?_) (by decide) rfl (fun w' hS => ?_) ?_
  rotate_left
  focus (clear hS; go_simp; try rfl; done)
  simp only [Act.put, List.setIfInBounds_toArray, List.set_cons_zero, List.set_cons_succ]
  refine wpTame_run (v := ?_) (by decide) rfl (fun w' hS => ?_) ?_
  rotate_left
  focus (clear hS; go_simp; try rfl; done)
  simp only [Act.put, List.setIfInBounds_toArray, List.set_cons_zero, List.set_cons_succ]
  refine wpTame_run (v := ?_) (by decide) rfl (fun w' hS => ?_) ?_
  rotate_left
  focus (clear hS; go_simp; try rfl; done)
  simp only [Act.put, List.setIfInBounds_toArray, List.set_cons_zero, List.set_cons_succ]
  refine wpTame_run (v := ?_) (by decide) rfl (fun w' hS => ?_) ?_
  rotate_left
  focus (clear hS; go_simp; try rfl; done)
  simp only [Act.put, List.setIfInBounds_toArray, List.set_cons_zero, List.set_cons_succ]
  refine wpTame_run (v := ?_) (by decide) rfl (fun w' hS => ?_) ?_
  rotate_left
  focus (clear hS; go_simp; try rfl; done)
  simp only [Act.put, List.setIfInBounds_toArray, List.set_cons_zero, List.set_cons_succ]
  refine wpTame_run (v := ?_) (by decide) rfl (fun w' hS => ?_) ?_
  rotate_left
  focus (clear hS; go_simp; try rfl; done)
  simp only [Act.put, List.setIfInBounds_toArray, List.set_cons_zero, List.set_cons_succ]
  refine wpTame_run (v := ?_) (by decide) rfl (fun w' hS => ?_) ?_
  rotate_left
  focus (clear hS; go_simp; try rfl; done)
  simp only [Act.put, List.setIfInBounds_toArray, List.set_cons_zero, List.set_cons_succ]
  refine wpTame_run (v := ?_) (by decide) rfl (fun w' hS => ?_) ?_
  rotate_left
  focus (clear hS; go_simp; try rfl; done)
  simp only [Act.put, List.setIfInBounds_toArray, List.set_cons_zero, List.set_cons_succ]
  refine wpTame_nil ?_
  intro w5 hw'
  have H5 := Lib.hid (H4.out.draw 1)
  rw [← hw'] at H5
  clear hw' H4
  refine wp_mid_call (by go_simp; first | exact ⟨rfl, rfl⟩ | rfl) ?_
  refine (choose_off_env H5.out p yes (Src.lent H5.out 0 2 (by decide) rfl).1 (Src.lent H5.out 0 3 (by decide) rfl).1 HL.out).mono ?_
  rintro e w6 ⟨rfl, h5⟩
  have H6 := Lib.hid h5
  clear h5 H5
  refine ⟨_, rfl, (fun w' => w' = w6), rfl, ?_⟩
  simp only [Act.put, List.setIfInBounds_toArray, List.set_cons_zero, List.set_cons_succ]
  refine wpTame_run (v := ?_) (by decide) rfl (fun w' hS => ?_) ?_
  rotate_left
  focus (clear hS; go_simp; try rfl; done)
  simp only [Act.put, List.setIfInBounds_toArray, List.set_cons_zero, List.set_cons_succ]
  refine wpTame_run (v := ?_) (by decide) rfl (fun w' hS => ?_) ?_
  rotate_left
  focus (clear hS; go_simp; try rfl; done)
  simp only [Act.put, List.setIfInBounds_toArray, List.set_cons_zero, List.set_cons_succ]
  refine wpTame_run (v := ?_) (by decide) rfl (fun w' hS => ?_) ?_
  rotate_left
  focus (clear hS; go_simp; try rfl; done)
  simp only [Act.put, List.setIfInBounds_toArray, List.set_cons_zero, List.set_cons_succ]
  refine wpTame_run (v := ?_) (by decide) rfl (fun w' hS => ?_) ?_
  rotate_left
  focus (clear hS; go_simp; try rfl; done)
  simp only [Act.put, List.setIfInBounds_toArray, List.set_cons_zero, List.set_cons_succ]
  refine wpTame_nil ?_
  intro w' hw'
  rw [hw']
  clear hw'
  go_wp2_with fail
  refine wp_region_call (fun w' => w' = w6.drewN 1) 9 14 _ (by kernel_rfl) (by kernel_rfl) rfl rfl (by decide) ?_
  simp only [List.take_succ_cons, List.take_zero, List.drop_succ_cons, List.drop_zero]
  refine wpTame_run (v := ?_) (by decide) rfl (fun w' hS => ?_) ?_
  rotate_left
  focus (clear hS; go_simp; try rfl; done)
  simp only [Act.put, List.setIfInBounds_toArray, List.set_cons_zero, List.set_cons_succ]
  refine wpTame_run (v := ?_) (by decide) rfl (fun w' hS => ?_) ?_
  rotate_left
  focus (clear hS; go_simp; try rfl; done)
  simp only [Act.put, List.setIfInBounds_toArray, List.set_cons_zero, List.set_cons_succ]
  refine wpTame_run (v := ?_) (by decide) rfl (fun w' hS => ?_) ?_
  rotate_left
  focus (clear hS; go_simp; try rfl; done)
  simp only [Act.put, List.setIfInBounds_toArray, List.set_cons_zero, List.set_cons_succ]
  refine wpTame_run (v := ?_) (by decide) rfl (fun w' hS => ?_) ?_
  rotate_left
  focus (clear hS; go_simp; try rfl; done)
  simp only [Act.put, List.setIfInBounds_toArray, List.set_cons_zero, List.set_cons_succ]
  refine wpTame_run (v := ?_) (by decide) rfl (fun w' hS => ?_) ?_
  rotate_left
  focus (clear hS; go_simp; try rfl; done)
  simp only [Act.put, List.setIfInBounds_toArray, List.set_cons_zero, List.set_cons_succ]
  refine wpTame_run (v := ?_) (by decide) rfl (fun w' hS => ?_) ?_
  rotate_left
  focus (clear hS; go_simp; try rfl; done)
  simp only [Act.put, List.setIfInBounds_toArray, List.set_cons_zero, List.set_cons_succ]
  refine wpTame_run (v := ?_) (by decide) rfl (fun w' hS => ?_) ?_
  rotate_left
  focus (clear hS; go_simp; try rfl; done)
  simp only [Act.put, List.setIfInBounds_toArray, List.set_cons_zero, List.set_cons_succ]
  refine wpTame_run (v := ?_) (by decide) rfl (fun w' hS => ?_) ?_
  rotate_left
  focus (clear hS; go_simp; try rfl; done)
  simp only [Act.put, List.setIfInBounds_toArray, List.set_cons_zero, List.set_cons_succ]
  refine wpTame_run (v := ?_) (by decide) rfl (fun w' hS => ?_) ?_
  rotate_left
  focus (clear hS; go_simp; try rfl; done)
  simp only [Act.put, List.setIfInBounds_toArray, List.set_cons_zero, List.set_cons_succ]
  refine wpTame_nil ?_
  intro w7 hw'
  have H7 := Lib.hid (H6.out.draw 1)
  rw [← hw'] at H7
  clear hw' H6
  refine wp_mid_call (by go_simp; first | exact ⟨rfl, rfl⟩ | rfl) ?_
  refine (choose_off_env H7.out (.pointer none) yes (Src.lent H7.out 0 2 (by decide) rfl).1 (Src.lent H7.out 0 3 (by decide) rfl).1 HL.out).mono ?_
  rintro e w8 ⟨rfl, h5⟩
  have H8 := Lib.hid h5
  clear h5 H7
  refine ⟨_, rfl, (fun w' => w' = w8), rfl, ?_⟩
  simp only [Act.put, List.setIfInBounds_toArray, List.set_cons_zero, List.set_cons_succ]
  refine wpTame_run (v := ?_) (by decide) rfl (fun w' hS => ?_) ?_
  rotate_left
  focus (clear hS; go_simp; try rfl; done)
  simp only [Act.put, List.setIfInBounds_toArray, List.set_cons_zero, List.set_cons_succ]
  refine wpTame_run (v := ?_) (by decide) rfl (fun w' hS => ?_) ?_
  rotate_left
  focus (clear hS; go_simp; try rfl; done)
  simp only [Act.put, List.setIfInBounds_toArray, List.set_cons_zero, List.set_cons_succ]
  refine wpTame_run (v := ?_) (by decide) rfl (fun w' hS => ?_) ?_
  rotate_left
  focus (clear hS; go_simp; try rfl; done)
  simp only [Act.put, List.setIfInBounds_toArray, List.set_cons_zero, List.set_cons_succ]
  refine wpTame_run (v := ?_) (by decide) rfl (fun w' hS => ?_) ?_
  rotate_left
  focus (clear hS; go_simp; try rfl; done)
  simp only [Act.put, List.setIfInBounds_toArray, List.set_cons_zero, List.set_cons_succ]
  refine wpTame_nil ?_
  intro w' hw'
  rw [hw']
  clear hw'
  go_wp2_with fail
  refine (rchoose_off_env H8.out q yes (Src.old H8.out 1 HA.out).1 (Src.old H8.out 1 HB.out).1 HL.out).mono ?_
  rintro e w9 ⟨rfl, h5⟩
  have H9 := Lib.hid h5
  clear h5 H8
  go_wp2_with fail
  refine (kept_env H9.out (H9.out.bytes 2 rfl).rd (H9.out.old HA.out) (by omega)).mono ?_
  rintro e w10 ⟨he, h5⟩
  rw [decide_eq_true rfl] at he
  subst he
  have H10 := Lib.hid h5
  clear h5 H9
  go_wp2_with fail
  refine (kept_env H10.out (H10.out.bytes 3 rfl).rd (H10.out.old HB.out) (by omega)).mono ?_
  rintro e w11 ⟨he, h5⟩
  rw [decide_eq_true rfl] at he
  subst he
  have H11 := Lib.hid h5
  clear h5 H10
  obtain ⟨mk, HMK⟩ : ∃ m, Hid (maskI yes = m) := ⟨_, Lib.hid rfl⟩
  go_wp2_with fail
  refine (mask_any yes _).mono ?_
  rintro e w' ⟨he, rfl⟩
  rw [HMK.out] at he
  subst he
  go_wp2_with fail
  refine (rmask_any yes _).mono ?_
  rintro e w' ⟨he, rfl⟩
  rw [HMK.out] at he
  subst he
  go_wp2_with fail
  refine (over_env H11.out 2 rfl (by rw [lent_length]; omega)).mono ?_
  rintro e w12 ⟨rfl, h5⟩
  have H12 := Lib.hid h5
  clear h5 H11
  go_wp2_with fail
  refine (over_env H12.out 3 rfl (by rw [lent_length]; omega)).mono ?_
  rintro e w13 ⟨rfl, h5⟩
  have H13 := Lib.hid h5
  clear h5 H12
  go_wp2_with fail
  refine (sameBytes_env H13.out (Bs.nil _) (Bs.nil _)).mono ?_
  rintro e w14 ⟨he, h5⟩
  rw [decide_eq_true rfl] at he
  subst he
  have H14 := Lib.hid h5
  clear h5 H13
  go_wp2_with fail
  refine (sameBytes_env H14.out (Bs.nil _) (Bs.nil _)).mono ?_
  rintro e w15 ⟨he, h5⟩
  rw [decide_eq_true rfl] at he
  subst he
  have H15 := Lib.hid h5
  clear h5 H14
  go_wp2_with fail
  refine (runsP_env H15.out 0 rfl (by decide)).mono ?_
  rintro e w16 ⟨vp, rfl, h5⟩
  have H16 := Lib.hid h5
  clear h5 H15
  go_wp2_with fail
  refine (runsR_env H16.out 1 rfl (by decide)).mono ?_
  rintro e w17 ⟨vr, rfl, h5⟩
  have H17 := Lib.hid h5
  clear h5 H16
  go_wp2_with fail
  refine (sameRuns_env H17.out (H17.out.runs 4 rfl).rd (H17.out.runs 5 rfl).rd).mono ?_
  rintro e w18 ⟨he, h5⟩
  rw [decide_eq_true rfl] at he
  subst he
  have H18 := Lib.hid h5
  clear h5 H17
  have H19 := Lib.hid (((H18.out.drop.drop.pushB (OB.nil w18) (Below.refl _ _) (fun x hx => by simp [fpv, Value.ownBlock] at hx)).pushB (OB.nil w18) (Below.refl _ _) (fun x hx => by simp [fpv, Value.ownBlock] at hx)).pushB (OB.nil w18) (Below.refl _ _) (fun x hx => by simp [fpv, Value.ownBlock] at hx))
  clear H18
  go_wp2_with fail
  refine (apart4_env H19.out (by rw [over_len, lent_length]; omega) (by rw [over_len, lent_length]; omega) (by simp) (by simp) w18.heap.size rfl).mono ?_
  rintro e w19 ⟨rfl, h5⟩
  have H20 := Lib.hid h5
  clear h5 H19
  go_wp2
  go_ret
  exact ⟨rfl, H20.out.base⟩
theorem ctChooses.walk {w : World} (yes : Bool) (va : Value) (a : List UInt8) (ha : In w va a) (vb : Value) (b : List UInt8) (hb : In w vb b) :
    Calls Try.prog 4 #[.bool yes, va, vb] w fun e w' => e = .returned (.bool true) ∧ Below w.heap.size w w' := by
  by_cases hl : a.length = b.length
  · exact ctChooses_walk yes va vb a b w ha.1 hb.1 ha.2 hb.2 hl
  · exact ctChooses_off yes va vb a b w ha.1 hb.1 ha.2 hb.2 hl
end Go.Proofs.Ythegjgbidhbmfaa
