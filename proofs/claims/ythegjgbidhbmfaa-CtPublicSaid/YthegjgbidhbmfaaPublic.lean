/- The walk of CtPublic. Conditions: each list has at most 2^47 - 4096 bytes (the form's own reach). -/
import Derived.Test.YthegjgbidhbmfaaRows
import Derived.Test.YthegjgbidhbmfaaCtLaws
namespace Go.Proofs.Ythegjgbidhbmfaa
open Go.RowKit
set_option maxRecDepth 100000
set_option linter.unusedVariables false

/-- what record leaves in a ledger: by the lengths alone -/
def rec1 (rs : List Rn) (n m : Nat) : List Rn := noteIf (n = m) rs 6 n
def rec2 (rs : List Rn) (n m : Nat) : List Rn := noteIf (n = m) (rec1 rs n m) 6 n
def rec3 (rs : List Rn) (n m : Nat) : List Rn := noteL (rec2 rs n m) 6 n 1
def rec4 (rs : List Rn) (n m : Nat) : List Rn := noteIf (n = m) (rec3 rs n m) 7 n
def rec5 (rs : List Rn) (n m : Nat) : List Rn := noteL (rec4 rs n m) 7 m 1
def rec6 (rs : List Rn) (n m : Nat) : List Rn := noteL (rec5 rs n m) 8 m 1
theorem rec_few (rs : List Rn) (k n m : Nat) (h : Few rs k) : Few (rec1 rs n m) (k + 1) ∧ Few (rec2 rs n m) (k + 2) ∧ Few (rec3 rs n m) (k + 3) ∧ Few (rec4 rs n m) (k + 4) ∧ Few (rec5 rs n m) (k + 5) ∧ Few (rec6 rs n m) (k + 6) := by
  have h1 := h.noteIf (n = m) 6 n
  have h2 := h1.noteIf (n = m) 6 n
  have h3 := h2.note 6 n
  have h4 := h3.noteIf (n = m) 7 n
  have h5 := h4.note 7 m
  have h6 := h5.note 8 m
  exact ⟨h1, h2, h3, h4, h5, h6⟩
set_option maxHeartbeats 4000000 in
theorem record_env {w0 w : World} {obs : List Ob} (h : Env w0 w obs) (i : Nat) {p : Value} {rs : List Rn} (hi : obs[i]? = some (obP p (some rs))) (k : Nat) (hk : k ≤ 900000) (hf : Few rs k) (yes : Bool) {u v : Value} {xs ys : List UInt8} (hu : Bs w0 u xs) (hv : Bs w0 v ys) (lx : xs.length ≤ 140737488351232) (ly : ys.length ≤ 140737488351232) :
    Calls Try.prog 35 #[p, u, v, .bool yes] w fun e w' => e = .returned (.tuple #[]) ∧ Env w0 w' (obs.set i (obP p (some (rec6 rs xs.length ys.length)))) := by
  have HU := Lib.hid hu
  have HV := Lib.hid hv
  have hlt : i < obs.length := (List.getElem?_eq_some_iff.1 hi).1
  have HLT := Lib.hid hlt
  have HF := Lib.hid (rec_few rs k xs.length ys.length hf)
  have HF0 := Lib.hid hf
  have H0 := Lib.hid h
  have HI := Lib.hid hi
  have HG : Hid (∀ x : Ob, (obs.set i x)[i]? = some x) := Lib.hid (fun x => List.getElem?_set_self hlt)
  have HS : Hid (∀ x y : Ob, (obs.set i x).set i y = obs.set i y) := Lib.hid (fun x y => List.set_set ..)
  clear hu hv hlt hf h hi
  go_enter Try.func35, Try.ntmps35
  go_wp2_with fail
  refine (equal_env H0.out i HI.out (HF0.out.room (by omega)) (Src.old H0.out i HU.out) (Src.old H0.out i HV.out)).mono ?_
  rintro e w1 ⟨rfl, h5⟩
  rw [noteIf_some] at h5
  change Env w0 w1 (obs.set i (obP p (some (rec1 rs xs.length ys.length)))) at h5
  have H1 := Lib.hid h5
  clear h5 H0
  go_wp2_with fail
  refine (less_env H1.out i (HG.out _) (HF.out.1.room (by omega)) (Src.old H1.out i HU.out) (Src.old H1.out i HV.out)).mono ?_
  rintro e w2 ⟨he, h5⟩
  obtain ⟨rb, er, rfl⟩ : ∃ rb er, e = .returned (.tuple #[.bool rb, .int .i64 er]) := ⟨_, _, he⟩
  clear he
  rw [noteIf_some, HS.out] at h5
  change Env w0 w2 (obs.set i (obP p (some (rec2 rs xs.length ys.length)))) at h5
  have H2 := Lib.hid h5
  clear h5 H1
  go_wp2_with fail
  refine (isZero_env H2.out i (HG.out _) (HF.out.2.1.room (by omega)) (Src.old H2.out i HU.out)).mono ?_
  rintro e w3 ⟨rfl, h5⟩
  rw [noteO_some, HS.out] at h5
  change Env w0 w3 (obs.set i (obP p (some (rec3 rs xs.length ys.length)))) at h5
  have H3 := Lib.hid h5
  clear h5 H2
  go_wp2_with fail
  refine (chooseL_env H3.out i (HG.out _) (HF.out.2.2.1.room (by omega)) yes (Src.old H3.out i HU.out) (Src.old H3.out i HV.out) (by omega)).mono ?_
  rintro e w4 ⟨⟨r, er, rfl⟩, h5⟩
  rw [noteIf_some, HS.out] at h5
  change Env w0 w4 (obs.set i (obP p (some (rec4 rs xs.length ys.length)))) at h5
  have H4 := Lib.hid h5
  clear h5 H3
  go_wp2_with fail
  refine (chooseL_env H4.out i (HG.out _) (HF.out.2.2.2.1.room (by omega)) yes (Src.old H4.out i HV.out) (Src.old H4.out i HV.out) (by omega)).mono ?_
  rintro e w5 ⟨⟨r, er, rfl⟩, h5⟩
  rw [if_pos rfl, noteO_some, HS.out] at h5
  change Env w0 w5 (obs.set i (obP p (some (rec5 rs xs.length ys.length)))) at h5
  have H5 := Lib.hid h5
  clear h5 H4
  go_wp2_with fail
  refine (copy_env H5.out (H5.out.old HV.out) (by omega)).mono ?_
  rintro e w6 ⟨vc, rfl, h5⟩
  have H6 := Lib.hid h5
  clear h5 H5
  go_wp2_with fail
  refine (wipeNew_env H6.out i (HG.out _) (HF.out.2.2.2.2.1.room (by omega)) (by omega)).mono ?_
  rintro e w7 ⟨rfl, h5⟩
  rw [noteO_some, HS.out] at h5
  change Env w0 w7 (obs.set i (obP p (some (rec6 rs xs.length ys.length)))) at h5
  have H7 := Lib.hid h5
  clear h5 H6
  go_wp2
  refine bodyPost_end (results_none rfl _ _ _) rfl ?_
  exact ⟨rfl, H7.out⟩

set_option maxHeartbeats 4000000 in
theorem ctPublic_walk (va vb vc vd : Value) (a b c d : List UInt8) (yes no : Bool) (w : World) (ha : In w va a) (hb : In w vb b) (hc : In w vc c) (hd : In w vd d) :
    Calls Try.prog 7 #[va, vb, vc, vd, .bool yes, .bool no] w fun e w' => e = .returned (.bool true) ∧ Below w.heap.size w w' := by
  have la := ha.2
  have lb := hb.2
  have lc := hc.2
  have ld := hd.2
  have HA := Lib.hid ha.1
  have HB := Lib.hid hb.1
  have HC := Lib.hid hc.1
  have HD := Lib.hid hd.1
  obtain ⟨ao, acap, rfl, a1, a2, _, _⟩ := ha.1.form
  obtain ⟨bo, bcap, rfl, b1, b2, _, _⟩ := hb.1.form
  obtain ⟨co, ccap, rfl, c1, c2, _, _⟩ := hc.1.form
  obtain ⟨do', dcap, rfl, d1, d2, _, _⟩ := hd.1.form
  clear ha hb hc hd
  have hmn : ∃ n : Nat, n ≤ a.length ∧ n ≤ c.length ∧ (if c.length < a.length then (c.length : Int) else (a.length : Int)) = (n : Int) := by
    by_cases h : c.length < a.length
    · exact ⟨c.length, by omega, Nat.le_refl _, by rw [if_pos h]⟩
    · exact ⟨a.length, Nat.le_refl _, by omega, by rw [if_neg h]⟩
  have hmm : ∃ n : Nat, n ≤ b.length ∧ n ≤ d.length ∧ (if d.length < b.length then (d.length : Int) else (b.length : Int)) = (n : Int) := by
    by_cases h : d.length < b.length
    · exact ⟨d.length, by omega, Nat.le_refl _, by rw [if_pos h]⟩
    · exact ⟨b.length, Nat.le_refl _, by omega, by rw [if_neg h]⟩
  obtain ⟨n, n1, n2, hn⟩ := hmn
  obtain ⟨m, m1, m2, hm⟩ := hmm
  go_enter Try.func7, Try.ntmps7
  go_wp2_with fail
  refine (newP_env (Env.start w)).mono ?_
  rintro e w1 ⟨p, rfl, h5⟩
  have H1 := Lib.hid h5
  clear h5
  go_wp2_with fail
  refine (newP_env H1.out).mono ?_
  rintro e w2 ⟨q, rfl, h5⟩
  have H2 := Lib.hid h5
  clear h5 H1
  clear hn hm
  have hwn : IntKind.i64.wrap (n : Int) = n := IntWalk.i64_in _ (by omega)
  have hwm : IntKind.i64.wrap (m : Int) = m := IntWalk.i64_in _ (by omega)
  go_wp2_with fail
  have na : n ≤ acap := by omega
  have nc : n ≤ ccap := by omega
  have mb : m ≤ bcap := by omega
  have md : m ≤ dcap := by omega
  refine wp_region_tame (fun w' => w' = { w2 with drawn := w2.drawn + 1 }) 0 8 (by kernel_rfl) (by kernel_rfl) (fun _ _ d _ _ h => (by cases d <;> exact h)) rfl (by decide) ?_
  simp only [List.take_succ_cons, List.take_zero, List.drop_succ_cons, List.drop_zero]
  refine wpPre_nil ?_
  refine wpTame_run (v := ?_) (by decide) rfl (fun w' hS => ?_) ?_
  rotate_left
  focus (clear hS; go_simp; try rfl; done)
  simp only [Act.put, List.setIfInBounds_toArray, List.set_cons_zero, List.set_cons_succ]
  refine wpTame_run (v := ?_) (by decide) rfl (fun w' hS => ?_) ?_
  rotate_left
  focus (clear hS; go_simp; try rfl; done)
  simp only [Act.put, List.setIfInBounds_toArray, List.set_cons_zero, List.set_cons_succ]
  refine wpTame_run (v := ?_) (by decide) rfl (fun w' hS => ?_) ?_
  rotate_left
  focus (clear hS; go_simp; try rfl; done)
  simp only [Act.put, List.setIfInBounds_toArray, List.set_cons_zero, List.set_cons_succ]
  refine wpTame_run (v := ?_) (by decide) rfl (fun w' hS => ?_) ?_
  rotate_left
  focus (clear hS; go_simp; try rfl; done)
  simp only [Act.put, List.setIfInBounds_toArray, List.set_cons_zero, List.set_cons_succ]
  refine wpTame_run (v := ?_) (by decide) rfl (fun w' hS => ?_) ?_
  rotate_left
  focus (clear hS; go_simp; try rfl; done)
  simp only [Act.put, List.setIfInBounds_toArray, List.set_cons_zero, List.set_cons_succ]
  refine wpTame_run (v := ?_) (by decide) rfl (fun w' hS => ?_) ?_
  rotate_left
  focus (clear hS; go_simp; try rfl; done)
  simp only [Act.put, List.setIfInBounds_toArray, List.set_cons_zero, List.set_cons_succ]
  refine wpTame_run (v := ?_) (by decide) rfl (fun w' hS => ?_) ?_
  rotate_left
  focus (clear hS; go_simp; try rfl; done)
  simp only [Act.put, List.setIfInBounds_toArray, List.set_cons_zero, List.set_cons_succ]
  refine wpTame_run (v := ?_) (by decide) rfl (fun w' hS => ?_) ?_
  rotate_left
  focus (clear hS; go_simp; try rfl; done)
  simp only [Act.put, List.setIfInBounds_toArray, List.set_cons_zero, List.set_cons_succ]
  refine wpTame_nil ?_
  intro w' hw'
  have H3 : Hid (Env w w' [obP p (some []), obP q (some [])]) := Lib.hid (by rw [hw']; exact H2.out.draw 1)
  clear hw' H2
  go_wp2_with fail
  refine (record_env H3.out 0 rfl 0 (by omega) Few.nil yes (HA.out.take n n1) (HB.out.take m m1) (by simp; omega) (by simp; omega)).mono ?_
  rintro e w3 ⟨rfl, h5⟩
  have H4 : Hid (Env w w3 [obP p (some (rec6 [] n m)), obP q (some [])]) := Lib.hid (by rw [show n = (a.take n).length from by simp; omega, show m = (b.take m).length from by simp; omega]; simpa using h5)
  clear h5 H3
  go_wp2_with fail
  refine wp_region_tame (fun w' => w' = { w3 with drawn := w3.drawn + 1 }) 0 8 (by kernel_rfl) (by kernel_rfl) (fun _ _ d _ _ h => (by cases d <;> exact h)) rfl (by decide) ?_
  simp only [List.take_succ_cons, List.take_zero, List.drop_succ_cons, List.drop_zero]
  refine wpPre_nil ?_
  refine wpTame_run (v := ?_) (by decide) rfl (fun w' hS => ?_) ?_
  rotate_left
  focus (clear hS; go_simp; try rfl; done)
  simp only [Act.put, List.setIfInBounds_toArray, List.set_cons_zero, List.set_cons_succ]
  refine wpTame_run (v := ?_) (by decide) rfl (fun w' hS => ?_) ?_
  rotate_left
  focus (clear hS; go_simp; try rfl; done)
  simp only [Act.put, List.setIfInBounds_toArray, List.set_cons_zero, List.set_cons_succ]
  refine wpTame_run (v := ?_) (by decide) rfl (fun w' hS => ?_) ?_
  rotate_left
  focus (clear hS; go_simp; try rfl; done)
  simp only [Act.put, List.setIfInBounds_toArray, List.set_cons_zero, List.set_cons_succ]
  refine wpTame_run (v := ?_) (by decide) rfl (fun w' hS => ?_) ?_
  rotate_left
  focus (clear hS; go_simp; try rfl; done)
  simp only [Act.put, List.setIfInBounds_toArray, List.set_cons_zero, List.set_cons_succ]
  refine wpTame_run (v := ?_) (by decide) rfl (fun w' hS => ?_) ?_
  rotate_left
  focus (clear hS; go_simp; try rfl; done)
  simp only [Act.put, List.setIfInBounds_toArray, List.set_cons_zero, List.set_cons_succ]
  refine wpTame_run (v := ?_) (by decide) rfl (fun w' hS => ?_) ?_
  rotate_left
  focus (clear hS; go_simp; try rfl; done)
  simp only [Act.put, List.setIfInBounds_toArray, List.set_cons_zero, List.set_cons_succ]
  refine wpTame_run (v := ?_) (by decide) rfl (fun w' hS => ?_) ?_
  rotate_left
  focus (clear hS; go_simp; try rfl; done)
  simp only [Act.put, List.setIfInBounds_toArray, List.set_cons_zero, List.set_cons_succ]
  refine wpTame_run (v := ?_) (by decide) rfl (fun w' hS => ?_) ?_
  rotate_left
  focus (clear hS; go_simp; try rfl; done)
  simp only [Act.put, List.setIfInBounds_toArray, List.set_cons_zero, List.set_cons_succ]
  refine wpTame_nil ?_
  intro w4 hw'
  have H5 : Hid (Env w w4 [obP p (some (rec6 [] n m)), obP q (some [])]) := Lib.hid (by rw [hw']; exact H4.out.draw 1)
  clear hw' H4
  go_wp2_with fail
  refine (record_env H5.out 1 rfl 0 (by omega) Few.nil no (HC.out.take n n2) (HD.out.take m m2) (by simp; omega) (by simp; omega)).mono ?_
  rintro e w5 ⟨rfl, h5⟩
  have H6 : Hid (Env w w5 [obP p (some (rec6 [] n m)), obP q (some (rec6 [] n m))]) := Lib.hid (by
    rw [show (c.take n).length = n from by simp; omega, show (d.take m).length = m from by simp; omega] at h5
    exact h5)
  clear h5 H5
  have HFW := Lib.hid (rec_few [] 0 n m Few.nil).2.2.2.2.2
  go_wp2_with fail
  refine (ctAwake_any _).mono ?_
  rintro e w6 ⟨rfl, hb⟩
  have H7 := Lib.hid (H6.out.below hb)
  clear hb H6
  go_wp2_with fail
  refine (runsP_env H7.out 0 rfl (HFW.out.len (by omega))).mono ?_
  rintro e w16 ⟨vp, rfl, h5⟩
  have H8 := Lib.hid h5
  clear h5 H7
  go_wp2_with fail
  refine (runsP_env H8.out 1 rfl (HFW.out.len (by omega))).mono ?_
  rintro e w17 ⟨vr, rfl, h5⟩
  have H9 := Lib.hid h5
  clear h5 H8
  go_wp2_with fail
  refine (sameRuns_env H9.out (H9.out.runs 2 rfl).rd (H9.out.runs 3 rfl).rd).mono ?_
  rintro e w18 ⟨he, h5⟩
  rw [decide_eq_true rfl] at he
  subst he
  have H10 := Lib.hid h5
  clear h5 H9
  go_wp2
  go_ret
  exact ⟨rfl, H10.out.base⟩
theorem ctPublic.walk {w : World} (va : Value) (a : List UInt8) (ha : In w va a) (vb : Value) (b : List UInt8) (hb : In w vb b) (vc : Value) (c : List UInt8) (hc : In w vc c) (vd : Value) (d : List UInt8) (hd : In w vd d) (yes no : Bool) :
    Calls Try.prog 7 #[va, vb, vc, vd, .bool yes, .bool no] w fun e w' => e = .returned (.bool true) ∧ Below w.heap.size w w' := ctPublic_walk va vb vc vd a b c d yes no w ha hb hc hd
end Go.Proofs.Ythegjgbidhbmfaa
