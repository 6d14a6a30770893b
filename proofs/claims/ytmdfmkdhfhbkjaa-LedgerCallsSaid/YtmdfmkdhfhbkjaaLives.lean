/- LedgerXxx's example: lives. -/
import Derived.Test.YtmdfmkdhfhbkjaaRows
import Derived.Test.YtmdfmkdhfhbkjaaHeld
import Derived.Test.YtmdfmkdhfhbkjaaKenv
import Derived.Test.YtmdfmkdhfhbkjaaCount
import Derived.Test.YtmdfmkdhfhbkjaaRuns
namespace Go.Proofs.Ytmdfmkdhfhbkjaa
open Go.RowKit
set_option maxRecDepth 100000
set_option linter.unusedVariables false
set_option linter.unusedSimpArgs false
theorem cnt_two : cnt [⟨5, 16, 3⟩, ⟨8, 8, 1⟩] 5 = 3 := by decide
def livesL : List Rn := [⟨5, 16, 3⟩, ⟨8, 8, 1⟩]
set_option maxHeartbeats 4000000 in
theorem lives_any (w : World) : Calls Try.prog 8 #[] w fun e w' => e = .returned (.bool true) ∧ Below w.heap.size w w' := by
  go_enter Try.func8, Try.ntmps8
  go_wp2_with fail
  obtain ⟨wA, hA⟩ : ∃ wA, (w.alloc (.cells #[.int .u8 5, .int .i64 16] 39)).alloc (.cells #[.int .u8 8, .int .i64 8] 39) = wA := ⟨_, rfl⟩
  have BA : Hid (Below w.heap.size w wA) := Lib.hid (by rw [← hA]; exact ((Below.refl _ _).alloc (Nat.le_refl _) _).alloc (by simp) _)
  have ca1 : wA.cell? ⟨w.heap.size, 0, none⟩ = some (.int .u8 5) := by rw [← hA, World.cell?_alloc_some _ _ _ (by rw [World.cell?_alloc_new]; rfl), World.cell?_alloc_new]; rfl
  have ca2 : wA.cell? ⟨w.heap.size, 1, none⟩ = some (.int .i64 16) := by rw [← hA, World.cell?_alloc_some _ _ _ (by rw [World.cell?_alloc_new]; rfl), World.cell?_alloc_new]; rfl
  have cb1 : wA.cell? ⟨w.heap.size + 1, 0, none⟩ = some (.int .u8 8) := by rw [← hA, show w.heap.size + 1 = (w.alloc (.cells #[.int .u8 5, .int .i64 16] 39)).heap.size from by simp, World.cell?_alloc_new]; rfl
  have cb2 : wA.cell? ⟨w.heap.size + 1, 1, none⟩ = some (.int .i64 8) := by rw [← hA, show w.heap.size + 1 = (w.alloc (.cells #[.int .u8 5, .int .i64 16] 39)).heap.size from by simp, World.cell?_alloc_new]; rfl
  rw [hA]
  clear hA
  have gA : w.heap.size < wA.heap.size := World.block_lt_of_cell? wA _ ca1
  have gB : w.heap.size + 1 < wA.heap.size := World.block_lt_of_cell? wA _ cb1
  have CA : Hid (∀ w', Below wA.heap.size wA w' → w'.cell? ⟨w.heap.size, 0, none⟩ = some (.int .u8 5) ∧ w'.cell? ⟨w.heap.size, 1, none⟩ = some (.int .i64 16)) := Lib.hid fun w' hb => ⟨(hb.cell gA).trans ca1, (hb.cell gA).trans ca2⟩
  have CB : Hid (∀ w', Below wA.heap.size wA w' → w'.cell? ⟨w.heap.size + 1, 0, none⟩ = some (.int .u8 8) ∧ w'.cell? ⟨w.heap.size + 1, 1, none⟩ = some (.int .i64 8)) := Lib.hid fun w' hb => ⟨(hb.cell gB).trans cb1, (hb.cell gB).trans cb2⟩
  clear ca1 ca2 cb1 cb2 gA gB
  go_wp2_with fail
  refine (newP_env' (Env.start wA)).mono ?_
  rintro e w1 ⟨p, rfl, h5⟩
  have H1 := Lib.hid h5
  clear h5
  obtain ⟨a1, a2⟩ := CA.out w1 H1.out.base
  go_wp2_with fail
  refine (noteP_env H1.out 0 rfl 5 16 (Room.some (by decide) (by decide))).mono ?_
  rintro e w2 ⟨rfl, h5⟩
  replace h5 : Env wA w2 [obP p (some [⟨5, 16, 1⟩])] := h5
  clear a1 a2
  have H2 := Lib.hid h5
  clear h5 H1
  obtain ⟨a1, a2⟩ := CA.out w2 H2.out.base
  go_wp2_with fail
  refine (timesP_env H2.out 0 rfl 5 16 2 (Room.some (by decide) (by decide))).mono ?_
  rintro e w3 ⟨rfl, h5⟩
  replace h5 : Env wA w3 [obP p (some [⟨5, 16, 3⟩])] := h5
  clear a1 a2
  have H3 := Lib.hid h5
  clear h5 H2
  obtain ⟨a1, a2⟩ := CB.out w3 H3.out.base
  go_wp2_with fail
  refine (noteP_env H3.out 0 rfl 8 8 (Room.some (by decide) (by decide))).mono ?_
  rintro e w4 ⟨rfl, h5⟩
  replace h5 : Env wA w4 [obP p (some livesL)] := h5
  clear a1 a2
  have H4 := Lib.hid h5
  clear h5 H3
  obtain ⟨S, hS⟩ : ∃ S : World → Prop, S = fun w' => Below wA.heap.size wA w' := ⟨_, rfl⟩
  have HS : Hid (∀ w', Below wA.heap.size wA w' → S w') := Lib.hid (fun w' h => by rw [hS]; exact h)
  have FA1 : ∀ w', S w' → w'.cell? ⟨w.heap.size, 0, none⟩ = some (.int .u8 5) := fun w' h => (CA.out w' (by rw [hS] at h; exact h)).1
  have FA2 : ∀ w', S w' → w'.cell? ⟨w.heap.size, 1, none⟩ = some (.int .i64 16) := fun w' h => (CA.out w' (by rw [hS] at h; exact h)).2
  have FB1 : ∀ w', S w' → w'.cell? ⟨w.heap.size + 1, 0, none⟩ = some (.int .u8 8) := fun w' h => (CB.out w' (by rw [hS] at h; exact h)).1
  have FB2 : ∀ w', S w' → w'.cell? ⟨w.heap.size + 1, 1, none⟩ = some (.int .i64 8) := fun w' h => (CB.out w' (by rw [hS] at h; exact h)).2
  have S4 : S w4 := HS.out w4 H4.out.base
  clear CA CB hS
  go_wp2_with fail
  refine hd_start S (by kernel_rfl) ?_
  intro w5 hw'
  have H5 := Lib.hid (H4.out.draw 1)
  rw [← hw'] at H5
  clear hw' H4
  have S5 : S w5 := HS.out w5 H5.out.base
  clear S4
  refine hd_take (v := ?_) 0 rfl (by kernel_rfl) (fun _ _ d _ _ h => (by cases d <;> exact h)) (by kernel_rfl) S5 (fun w' hS => ?_) ?_
  rotate_left
  focus (clear hS; go_simp; try rfl; done)
  simp only [List.getElem_toArray, List.getElem_cons_succ, List.getElem_cons_zero, Act.put, List.setIfInBounds_toArray, List.set_cons_zero, List.set_cons_succ]
  refine hd_one 1 (by kernel_rfl) ?_
  refine op_call rfl (by kernel_rfl) (by go_simp; first | exact ⟨rfl, rfl⟩ | rfl) ?_
  refine (lenP_env' H5.out 0 rfl).mono ?_
  rintro e w6 ⟨he, hw⟩
  subst hw
  rw [show tot livesL = 4 from by decide] at he
  subst he
  have hS2 := S5
  refine ⟨_, rfl, hS2, ?_⟩
  simp only [List.getElem_toArray, List.getElem_cons_succ, List.getElem_cons_zero, Act.put, List.setIfInBounds_toArray, List.set_cons_zero, List.set_cons_succ]
  refine hd_take (v := ?_) 2 rfl (by kernel_rfl) (fun _ _ d _ _ h => (by cases d <;> exact h)) (by kernel_rfl) hS2 (fun w' hS => ?_) ?_
  rotate_left
  focus (clear hS; go_simp; try rfl; done)
  simp only [List.getElem_toArray, List.getElem_cons_succ, List.getElem_cons_zero, Act.put, List.setIfInBounds_toArray, List.set_cons_zero, List.set_cons_succ]
  refine hd_take (v := ?_) 3 rfl (by kernel_rfl) (fun _ _ d _ _ h => (by cases d <;> exact h)) (by kernel_rfl) hS2 (fun w' hS => ?_) ?_
  rotate_left
  focus (clear hS; go_simp; try rfl; done)
  simp only [List.getElem_toArray, List.getElem_cons_succ, List.getElem_cons_zero, Act.put, List.setIfInBounds_toArray, List.set_cons_zero, List.set_cons_succ]
  refine hd_take (v := ?_) 4 rfl (by kernel_rfl) (fun _ _ d _ _ h => (by cases d <;> exact h)) (by kernel_rfl) hS2 (fun w' hS => ?_) ?_
  rotate_left
  focus (clear hS; go_simp; try rfl; done)
  simp only [List.getElem_toArray, List.getElem_cons_succ, List.getElem_cons_zero, Act.put, List.setIfInBounds_toArray, List.set_cons_zero, List.set_cons_succ]
  refine hd_take (v := ?_) 6 rfl (by kernel_rfl) (fun _ _ d _ _ h => (by cases d <;> exact h)) (by kernel_rfl) hS2 (fun w' hS => ?_) ?_
  rotate_left
  focus (have q0 := FA1 w' hS; have q1 := FA2 w' hS; clear hS; go_simp; try rfl; done)
  simp only [List.getElem_toArray, List.getElem_cons_succ, List.getElem_cons_zero, Act.put, List.setIfInBounds_toArray, List.set_cons_zero, List.set_cons_succ]
  refine hd_take (v := ?_) 7 rfl (by kernel_rfl) (fun _ _ d _ _ h => (by cases d <;> exact h)) (by kernel_rfl) hS2 (fun w' hS => ?_) ?_
  rotate_left
  focus (clear hS; go_simp; try rfl; done)
  simp only [List.getElem_toArray, List.getElem_cons_succ, List.getElem_cons_zero, Act.put, List.setIfInBounds_toArray, List.set_cons_zero, List.set_cons_succ]
  refine hd_take (v := ?_) 8 rfl (by kernel_rfl) (fun _ _ d _ _ h => (by cases d <;> exact h)) (by kernel_rfl) hS2 (fun w' hS => ?_) ?_
  rotate_left
  focus (have q0 := FB1 w' hS; have q1 := FB2 w' hS; clear hS; go_simp; try rfl; done)
  simp only [List.getElem_toArray, List.getElem_cons_succ, List.getElem_cons_zero, Act.put, List.setIfInBounds_toArray, List.set_cons_zero, List.set_cons_succ]
  refine hd_take (v := ?_) 9 rfl (by kernel_rfl) (fun _ _ d _ _ h => (by cases d <;> exact h)) (by kernel_rfl) hS2 (fun w' hS => ?_) ?_
  rotate_left
  focus (clear hS; go_simp; try rfl; done)
  simp only [List.getElem_toArray, List.getElem_cons_succ, List.getElem_cons_zero, Act.put, List.setIfInBounds_toArray, List.set_cons_zero, List.set_cons_succ]
  clear FA1 FA2 FB1 FB2
  refine hd_two 5 10 (by kernel_rfl) ?_ ?_
  refine op_call rfl (by kernel_rfl) (by go_simp; first | exact ⟨rfl, rfl⟩ | rfl) ?_
  refine (runsP_env' H5.out 0 rfl (by decide)).mono ?_
  rintro e w6 ⟨v, rfl, h5⟩
  have hS2 : S w6 := HS.out w6 h5.base
  have H6 := Lib.hid h5
  clear h5
  refine ⟨_, rfl, hS2, ?_⟩
  simp only [List.getElem_toArray, List.getElem_cons_succ, List.getElem_cons_zero, Act.put, List.setIfInBounds_toArray, List.set_cons_zero, List.set_cons_succ]
  refine hd_one 10 (by kernel_rfl) ?_
  have S7 : S (w6.alloc (.cells #[.int .u8 5, .int .i64 16, .int .i64 3, .int .u8 8, .int .i64 8, .int .i64 1] 61)) := HS.out _ (H6.out.base.alloc H6.out.base.size _)
  have HL : Hid (RunsRd (w6.alloc (.cells #[.int .u8 5, .int .i64 16, .int .i64 3, .int .u8 8, .int .i64 8, .int .i64 1] 61)) (.slice (some ⟨w6.heap.size, 0, none⟩) 2 2) livesL) := by
    obtain ⟨v, hv, h1, _⟩ := Knd.New.lit KN livesL w6 (by decide)
    injection hv with hv
    subst hv
    exact Lib.hid h1.rd
  obtain ⟨w7, hw7⟩ : ∃ w7, w7 = w6.alloc (.cells #[.int .u8 5, .int .i64 16, .int .i64 3, .int .u8 8, .int .i64 8, .int .i64 1] 61) := ⟨_, rfl⟩
  obtain ⟨u, hu⟩ : ∃ u, u = Value.slice (some ⟨w6.heap.size, 0, none⟩) 2 2 := ⟨_, rfl⟩
  have H7 : Hid (Env wA w7 [obP p (some livesL), obRuns v livesL]) := by rw [hw7]; exact Lib.hid (H6.out.below ((Below.refl _ _).alloc (Nat.le_refl _) _))
  refine op_run rfl (by kernel_rfl) (by go_simp; first | done | exact ⟨rfl, rfl⟩ | rfl) ?_
  refine ⟨S7, ?_⟩
  simp only [List.getElem_toArray, List.getElem_cons_succ, List.getElem_cons_zero, Act.put, List.setIfInBounds_toArray, List.set_cons_zero, List.set_cons_succ]
  rw [← hw7, ← hu]
  rw [← hw7] at S7
  rw [← hw7, ← hu] at HL
  have HV := Lib.hid (H7.out.runs 1 rfl).rd
  clear hw7 hu H6
  rotate_left
  have S6 : S (w5.alloc (.cells #[.int .u8 5, .int .i64 16, .int .i64 3, .int .u8 8, .int .i64 8, .int .i64 1] 61)) := HS.out _ (H5.out.base.alloc H5.out.base.size _)
  refine op_run rfl (by kernel_rfl) (by go_simp; first | done | exact ⟨rfl, rfl⟩ | rfl) ?_
  refine ⟨S6, ?_⟩
  simp only [List.getElem_toArray, List.getElem_cons_succ, List.getElem_cons_zero, Act.put, List.setIfInBounds_toArray, List.set_cons_zero, List.set_cons_succ]
  clear S6
  obtain ⟨w6, hw6⟩ : ∃ w6, w6 = w5.alloc (.cells #[.int .u8 5, .int .i64 16, .int .i64 3, .int .u8 8, .int .i64 8, .int .i64 1] 61) := ⟨_, rfl⟩
  obtain ⟨u, hu⟩ : ∃ u, u = Value.slice (some ⟨w5.heap.size, 0, none⟩) 2 2 := ⟨_, rfl⟩
  rw [← hw6, ← hu]
  have H6 : Hid (Env wA w6 [obP p (some livesL), KN.ob u livesL]) := by
    obtain ⟨v, hv, h6⟩ := Knd.New.env H5.out (Knd.New.lit KN livesL w5 (by decide))
    injection hv with hv
    subst hv
    rw [hw6, hu]
    exact Lib.hid h6
  clear hw6 hu
  refine hd_one 5 (by kernel_rfl) ?_
  refine op_call rfl (by kernel_rfl) (by go_simp; first | exact ⟨rfl, rfl⟩ | rfl) ?_
  refine (runsP_env' H6.out 0 rfl (by decide)).mono ?_
  rintro e w7 ⟨v, rfl, h5⟩
  have hS2 : S w7 := HS.out w7 h5.base
  have H7 := Lib.hid h5
  clear h5
  refine ⟨_, rfl, hS2, ?_⟩
  simp only [List.getElem_toArray, List.getElem_cons_succ, List.getElem_cons_zero, Act.put, List.setIfInBounds_toArray, List.set_cons_zero, List.set_cons_succ]
  have HL : Hid (RunsRd w7 u livesL) := Lib.hid (H7.out.kR 1 rfl)
  have HV := Lib.hid (H7.out.runs 2 rfl).rd
  clear H5 S5
  all_goals
    refine hd_one 11 (by kernel_rfl) ?_
    refine op_call rfl (by kernel_rfl) (by go_simp; first | exact ⟨rfl, rfl⟩ | rfl) ?_
    refine (sameRuns_env' H7.out HV.out HL.out).mono ?_
    rintro e w8 ⟨he, h5⟩
    have hS2 : S w8 := HS.out w8 h5.base
    rw [show (decide (livesL = livesL)) = true from by decide] at he
    subst he
    have H8 := Lib.hid h5
    clear h5 H7
    refine ⟨_, rfl, hS2, ?_⟩
    simp only [List.getElem_toArray, List.getElem_cons_succ, List.getElem_cons_zero, Act.put, List.setIfInBounds_toArray, List.set_cons_zero, List.set_cons_succ]
    refine hd_take (v := ?_) 12 rfl (by kernel_rfl) (fun _ _ d _ _ h => (by cases d <;> exact h)) (by kernel_rfl) hS2 (fun w' hS => ?_) ?_
    rotate_left
    focus (clear hS; go_simp; try rfl; done)
    simp only [List.getElem_toArray, List.getElem_cons_succ, List.getElem_cons_zero, Act.put, List.setIfInBounds_toArray, List.set_cons_zero, List.set_cons_succ]
    refine hd_take (v := ?_) 13 rfl (by kernel_rfl) (fun _ _ d _ _ h => (by cases d <;> exact h)) (by kernel_rfl) hS2 (fun w' hS => ?_) ?_
    rotate_left
    focus (clear hS; go_simp; try rfl; done)
    simp only [List.getElem_toArray, List.getElem_cons_succ, List.getElem_cons_zero, Act.put, List.setIfInBounds_toArray, List.set_cons_zero, List.set_cons_succ]
    refine hd_take (v := ?_) 14 rfl (by kernel_rfl) (fun _ _ d _ _ h => (by cases d <;> exact h)) (by kernel_rfl) hS2 (fun w' hS => ?_) ?_
    rotate_left
    focus (clear hS; go_simp; try rfl; done)
    simp only [List.getElem_toArray, List.getElem_cons_succ, List.getElem_cons_zero, Act.put, List.setIfInBounds_toArray, List.set_cons_zero, List.set_cons_succ]
    refine hd_one 15 (by kernel_rfl) ?_
    refine op_call rfl (by kernel_rfl) (by go_simp; first | exact ⟨rfl, rfl⟩ | rfl) ?_
    refine (countP_env H8.out 0 rfl 5 (by decide) (by decide)).mono ?_
    rintro e w9 ⟨he, h5, _⟩
    have hS2 : S w9 := HS.out w9 h5.base
    rw [show cnt livesL 5 = 3 from by decide] at he
    subst he
    have H9 := Lib.hid h5
    clear h5 H8
    refine ⟨_, rfl, hS2, ?_⟩
    simp only [List.getElem_toArray, List.getElem_cons_succ, List.getElem_cons_zero, Act.put, List.setIfInBounds_toArray, List.set_cons_zero, List.set_cons_succ]
    refine hd_take (v := ?_) 16 rfl (by kernel_rfl) (fun _ _ d _ _ h => (by cases d <;> exact h)) (by kernel_rfl) hS2 (fun w' hS => ?_) ?_
    rotate_left
    focus (clear hS; go_simp; try rfl; done)
    simp only [List.getElem_toArray, List.getElem_cons_succ, List.getElem_cons_zero, Act.put, List.setIfInBounds_toArray, List.set_cons_zero, List.set_cons_succ]
    refine hd_take (v := ?_) 17 rfl (by kernel_rfl) (fun _ _ d _ _ h => (by cases d <;> exact h)) (by kernel_rfl) hS2 (fun w' hS => ?_) ?_
    rotate_left
    focus (clear hS; go_simp; try rfl; done)
    simp only [List.getElem_toArray, List.getElem_cons_succ, List.getElem_cons_zero, Act.put, List.setIfInBounds_toArray, List.set_cons_zero, List.set_cons_succ]
    refine hd_one 18 (by kernel_rfl) ?_
    refine op_run rfl (by kernel_rfl) (by go_simp; first | done | exact ⟨rfl, rfl⟩ | rfl) ?_
    refine ⟨hS2, ?_⟩
    simp only [List.getElem_toArray, List.getElem_cons_succ, List.getElem_cons_zero, Act.put, List.setIfInBounds_toArray, List.set_cons_zero, List.set_cons_succ]
    refine hd_done (by kernel_rfl) ?_
    have H := Lib.hid (BA.out.trans (H9.out.base.mono BA.out.size))
    clear HS H9
    go_wp2
    go_ret
    exact ⟨rfl, H.out⟩
end Go.Proofs.Ytmdfmkdhfhbkjaa
