/- The walk of LedgerNames (printed by mknames.py). -/
import Derived.Test.YtmdfmkdhfhbkjaaRows
import Derived.Test.YtmdfmkdhfhbkjaaSinceEnv
import Derived.Test.YtmdfmkdhfhbkjaaLives
import Derived.Test.YtmdfmkdhfhbkjaaJoin
import Derived.Test.YtmdfmkdhfhbkjaaChk
import Derived.Test.YtmdfmkdhfhbkjaaSums
import Derived.Deep.DeepCutAuto
namespace Go.Proofs.Ytmdfmkdhfhbkjaa
open Go.RowKit
set_option maxRecDepth 100000
set_option linter.unusedVariables false
set_option linter.unusedSimpArgs false
def nmL : List Rn := [⟨5, 16, 3⟩, ⟨8, 8, 2⟩]
theorem nm_tot : tot nmL = 5 := by decide
theorem nm4 : sinceL nmL 4 = [⟨8, 8, 1⟩] := by decide
theorem nm2 : sinceL nmL 2 = [⟨5, 16, 1⟩, ⟨8, 8, 2⟩] := by decide
theorem nmM : sinceL nmL (-1) = nmL := by decide
theorem ledgerNames.joined : joinL [⟨5, 16, 2⟩, ⟨8, 8, 0⟩] [⟨5, 16, 1⟩, ⟨8, 8, 3⟩] = [⟨5, 16, 3⟩, ⟨8, 8, 3⟩] := by decide
set_option maxHeartbeats 8000000 in
theorem ledgerNames.walk (w : World) : Calls Try.prog 6 #[] w fun e w' => e = .returned (.bool true) ∧ Below w.heap.size w w' := by
  go_enter Try.func6, Try.ntmps6
  go_wp2_with fail
  obtain ⟨wA, hA⟩ : ∃ wA, (w.alloc (.cells #[.int .u8 5, .int .i64 16] 39)).alloc (.cells #[.int .u8 8, .int .i64 8] 39) = wA := ⟨_, rfl⟩
  have BA : Hid (Below w.heap.size w wA) := Lib.hid (by rw [← hA]; exact ((Below.refl _ _).alloc (Nat.le_refl _) _).alloc (by simp) _)
  have ca1 : wA.cell? ⟨w.heap.size, 0, none⟩ = some (.int .u8 5) := by rw [← hA, World.cell?_alloc_some _ _ _ (by rw [World.cell?_alloc_new]; rfl), World.cell?_alloc_new]; rfl
  have ca2 : wA.cell? ⟨w.heap.size, 1, none⟩ = some (.int .i64 16) := by rw [← hA, World.cell?_alloc_some _ _ _ (by rw [World.cell?_alloc_new]; rfl), World.cell?_alloc_new]; rfl
  have cb1 : wA.cell? ⟨w.heap.size + 1, 0, none⟩ = some (.int .u8 8) := by rw [← hA, show w.heap.size + 1 = (w.alloc (.cells #[.int .u8 5, .int .i64 16] 39)).heap.size from by simp, World.cell?_alloc_new]; rfl
  have cb2 : wA.cell? ⟨w.heap.size + 1, 1, none⟩ = some (.int .i64 8) := by rw [← hA, show w.heap.size + 1 = (w.alloc (.cells #[.int .u8 5, .int .i64 16] 39)).heap.size from by simp, World.cell?_alloc_new]; rfl
  rw [hA]
  clear hA
  have gA : w.heap.size < wA.heap.size := World.block_lt_of_cell? wA _ ca1
  have gB : w.heap.size + 1 < wA.heap.size := World.block_lt_of_cell? wA _ cb1
  have CA : Hid (∀ w', Below wA.heap.size wA w' → w'.cell? ⟨w.heap.size, 0, none⟩ = some (.int .u8 5) ∧ w'.cell? ⟨w.heap.size, 1, none⟩ = some (.int .i64 16)) := Lib.hid fun w' hb => ⟨(hb.cell gA).trans ca1, (hb.cell gA).trans ca2⟩
  have CB : Hid (∀ w', Below wA.heap.size wA w' → w'.cell? ⟨w.heap.size + 1, 0, none⟩ = some (.int .u8 8) ∧ w'.cell? ⟨w.heap.size + 1, 1, none⟩ = some (.int .i64 8)) := Lib.hid fun w' hb => ⟨(hb.cell gB).trans cb1, (hb.cell gB).trans cb2⟩
  clear ca1 ca2 cb1 cb2 gA gB
  go_wp2_with fail
  refine (newP_env' (Env.start wA)).mono ?_
  rintro e w1 ⟨p, rfl, h5⟩
  have H1 := Lib.hid h5
  clear h5
  obtain ⟨a1, a2⟩ := CA.out w1 H1.out.base
  go_wp2_with fail
  refine (timesP_env H1.out 0 rfl 5 16 3 (Room.some (by decide) (by decide))).mono ?_
  rintro e w2 ⟨rfl, h5⟩
  replace h5 : Env wA w2 [obP p (some [⟨5, 16, 3⟩])] := h5
  clear a1 a2
  have H2 := Lib.hid h5
  clear h5 H1
  obtain ⟨a1, a2⟩ := CB.out w2 H2.out.base
  go_wp2_with fail
  refine (timesP_env H2.out 0 rfl 8 8 0 (Room.some (by decide) (by decide))).mono ?_
  rintro e w3 ⟨rfl, h5⟩
  replace h5 : Env wA w3 [obP p (some [⟨5, 16, 3⟩])] := h5
  clear a1 a2
  have H3 := Lib.hid h5
  clear h5 H2
  obtain ⟨a1, a2⟩ := CB.out w3 H3.out.base
  go_wp2_with fail
  refine (noteP_env H3.out 0 rfl 8 8 (Room.some (by decide) (by decide))).mono ?_
  rintro e w4 ⟨rfl, h5⟩
  replace h5 : Env wA w4 [obP p (some livesL)] := h5
  clear a1 a2
  have H4 := Lib.hid h5
  clear h5 H3
  go_wp2_with fail
  refine (markN_env H4.out 0 rfl).mono ?_
  rintro e w5 ⟨he, hw⟩
  subst hw
  rw [show tot livesL = 4 from by decide] at he
  subst he
  obtain ⟨a1, a2⟩ := CB.out w4 H4.out.base
  go_wp2_with fail
  refine (noteP_env H4.out 0 rfl 8 8 (Room.some (by decide) (by decide))).mono ?_
  rintro e w5 ⟨rfl, h5⟩
  replace h5 : Env wA w5 [obP p (some nmL)] := h5
  clear a1 a2
  have H5 := Lib.hid h5
  clear h5 H4
  obtain ⟨S, hS⟩ : ∃ S : World → Prop, S = fun w' => Below wA.heap.size wA w' := ⟨_, rfl⟩
  have HS : Hid (∀ w', Below wA.heap.size wA w' → S w') := Lib.hid (fun w' h => by rw [hS]; exact h)
  have FA1 : ∀ w', S w' → w'.cell? ⟨w.heap.size, 0, none⟩ = some (.int .u8 5) := fun w' h => (CA.out w' (by rw [hS] at h; exact h)).1
  have FA2 : ∀ w', S w' → w'.cell? ⟨w.heap.size, 1, none⟩ = some (.int .i64 16) := fun w' h => (CA.out w' (by rw [hS] at h; exact h)).2
  have FB1 : ∀ w', S w' → w'.cell? ⟨w.heap.size + 1, 0, none⟩ = some (.int .u8 8) := fun w' h => (CB.out w' (by rw [hS] at h; exact h)).1
  have FB2 : ∀ w', S w' → w'.cell? ⟨w.heap.size + 1, 1, none⟩ = some (.int .i64 8) := fun w' h => (CB.out w' (by rw [hS] at h; exact h)).2
  have S5 : S w5 := HS.out w5 H5.out.base
  clear CA CB hS
  go_upto_region 9 with fail
  go_cut [5] from 27 to 65 (fun c wx => c = .bool true ∧ S wx ∧ Env wA wx [obP p (some nmL)])
  case first =>
    refine hd_start S (by kernel_rfl) ?_
    intro w6 hw'
    have H6 := Lib.hid (H5.out.draw 1)
    rw [← hw'] at H6
    clear hw' H5
    have S6 : S w6 := HS.out w6 H6.out.base
    clear S5
    refine hd_take (v := ?_) 0 rfl (by kernel_rfl) (fun _ _ d _ _ h => (by cases d <;> exact h)) (by kernel_rfl) S6 (fun w' hS => ?_) ?_
    rotate_left
    focus (clear hS; go_simp; try rfl; done)
    simp only [List.getElem_toArray, List.getElem_cons_succ, List.getElem_cons_zero, Act.put, List.setIfInBounds_toArray, List.set_cons_zero, List.set_cons_succ]
    refine hd_take (v := ?_) 1 rfl (by kernel_rfl) (fun _ _ d _ _ h => (by cases d <;> exact h)) (by kernel_rfl) S6 (fun w' hS => ?_) ?_
    rotate_left
    focus (clear hS; go_simp; try rfl; done)
    simp only [List.getElem_toArray, List.getElem_cons_succ, List.getElem_cons_zero, Act.put, List.setIfInBounds_toArray, List.set_cons_zero, List.set_cons_succ]
    refine hd_take (v := ?_) 2 rfl (by kernel_rfl) (fun _ _ d _ _ h => (by cases d <;> exact h)) (by kernel_rfl) S6 (fun w' hS => ?_) ?_
    rotate_left
    focus (clear hS; go_simp; try rfl; done)
    simp only [List.getElem_toArray, List.getElem_cons_succ, List.getElem_cons_zero, Act.put, List.setIfInBounds_toArray, List.set_cons_zero, List.set_cons_succ]
    refine hd_take (v := ?_) 3 rfl (by kernel_rfl) (fun _ _ d _ _ h => (by cases d <;> exact h)) (by kernel_rfl) S6 (fun w' hS => ?_) ?_
    rotate_left
    focus (clear hS; go_simp; try rfl; done)
    simp only [List.getElem_toArray, List.getElem_cons_succ, List.getElem_cons_zero, Act.put, List.setIfInBounds_toArray, List.set_cons_zero, List.set_cons_succ]
    refine hd_take (v := ?_) 5 rfl (by kernel_rfl) (fun _ _ d _ _ h => (by cases d <;> exact h)) (by kernel_rfl) S6 (fun w' hS => ?_) ?_
    rotate_left
    focus (have q0 := FB1 w' hS; have q1 := FB2 w' hS; clear hS; go_simp; try rfl; done)
    simp only [List.getElem_toArray, List.getElem_cons_succ, List.getElem_cons_zero, Act.put, List.setIfInBounds_toArray, List.set_cons_zero, List.set_cons_succ]
    refine hd_take (v := ?_) 6 rfl (by kernel_rfl) (fun _ _ d _ _ h => (by cases d <;> exact h)) (by kernel_rfl) S6 (fun w' hS => ?_) ?_
    rotate_left
    focus (clear hS; go_simp; try rfl; done)
    simp only [List.getElem_toArray, List.getElem_cons_succ, List.getElem_cons_zero, Act.put, List.setIfInBounds_toArray, List.set_cons_zero, List.set_cons_succ]
    refine hd_two 4 7 (by kernel_rfl) ?_ ?_
    skip
    refine op_call rfl (by kernel_rfl) (by go_simp; first | exact ⟨rfl, rfl⟩ | rfl) ?_
    refine (sinceN_env H6.out 0 rfl 4 (by decide) (by decide) (by decide) (by decide)).mono ?_
    rintro e w7 ⟨v1, rfl, h5, hv0, hb0⟩
    have hS2 : S w7 := HS.out w7 h5.base
    have H7 := Lib.hid h5
    have HV7 := Lib.hid hv0
    have S7 := hS2
    clear h5 hv0 hb0 H6
    refine ⟨_, rfl, hS2, ?_⟩
    simp only [List.getElem_toArray, List.getElem_cons_succ, List.getElem_cons_zero, Act.put, List.setIfInBounds_toArray, List.set_cons_zero, List.set_cons_succ]
    refine hd_one 7 (by kernel_rfl) ?_
    have S80 : S (w7.alloc (.cells #[.int .u8 8, .int .i64 8, .int .i64 1] 61)) := HS.out _ (H7.out.base.alloc H7.out.base.size _)
    refine op_run rfl (by kernel_rfl) (by go_simp; first | done | exact ⟨rfl, rfl⟩ | rfl) ?_
    refine ⟨S80, ?_⟩
    simp only [List.getElem_toArray, List.getElem_cons_succ, List.getElem_cons_zero, Act.put, List.setIfInBounds_toArray, List.set_cons_zero, List.set_cons_succ]
    have hb0 : Below w7.heap.size w7 (w7.alloc (.cells #[.int .u8 8, .int .i64 8, .int .i64 1] 61)) := (Below.refl _ _).alloc (Nat.le_refl _) _
    have hl0 : RunsRd (w7.alloc (.cells #[.int .u8 8, .int .i64 8, .int .i64 1] 61)) (.slice (some ⟨w7.heap.size, 0, none⟩) 1 1) [⟨8, 8, 1⟩] := lit_rd [⟨8, 8, 1⟩] w7 (by decide)
    obtain ⟨w8, hw0⟩ : ∃ w8, w8 = (w7.alloc (.cells #[.int .u8 8, .int .i64 8, .int .i64 1] 61)) := ⟨_, rfl⟩
    obtain ⟨u1, hu0⟩ : ∃ u1, u1 = Value.slice (some ⟨w7.heap.size, 0, none⟩) 1 1 := ⟨_, rfl⟩
    rw [← hw0] at S80 hb0 hl0
    rw [← hu0] at hl0
    rw [← hw0, ← hu0]
    have HL := Lib.hid hl0
    have HE := Lib.hid (H7.out.below hb0)
    have HV := Lib.hid (Sl.grow HV7.out hb0)
    have S8 := S80
    clear hw0 hu0 hb0 hl0 S80 H7 HV7
    rw [nm4] at HV
    rotate_left
    have S70 : S (w6.alloc (.cells #[.int .u8 8, .int .i64 8, .int .i64 1] 61)) := HS.out _ (H6.out.base.alloc H6.out.base.size _)
    refine op_run rfl (by kernel_rfl) (by go_simp; first | done | exact ⟨rfl, rfl⟩ | rfl) ?_
    refine ⟨S70, ?_⟩
    simp only [List.getElem_toArray, List.getElem_cons_succ, List.getElem_cons_zero, Act.put, List.setIfInBounds_toArray, List.set_cons_zero, List.set_cons_succ]
    have hb0 : Below w6.heap.size w6 (w6.alloc (.cells #[.int .u8 8, .int .i64 8, .int .i64 1] 61)) := (Below.refl _ _).alloc (Nat.le_refl _) _
    have hl0 : RunsRd (w6.alloc (.cells #[.int .u8 8, .int .i64 8, .int .i64 1] 61)) (.slice (some ⟨w6.heap.size, 0, none⟩) 1 1) [⟨8, 8, 1⟩] := lit_rd [⟨8, 8, 1⟩] w6 (by decide)
    obtain ⟨w7, hw0⟩ : ∃ w7, w7 = (w6.alloc (.cells #[.int .u8 8, .int .i64 8, .int .i64 1] 61)) := ⟨_, rfl⟩
    obtain ⟨u1, hu0⟩ : ∃ u1, u1 = Value.slice (some ⟨w6.heap.size, 0, none⟩) 1 1 := ⟨_, rfl⟩
    rw [← hw0] at S70 hb0 hl0
    rw [← hu0] at hl0
    rw [← hw0, ← hu0]
    have HL7 := Lib.hid hl0
    have H7 := Lib.hid (H6.out.below hb0)
    have S7 := S70
    clear hw0 hu0 hb0 hl0 S70 H6
    refine hd_one 4 (by kernel_rfl) ?_
    refine op_call rfl (by kernel_rfl) (by go_simp; first | exact ⟨rfl, rfl⟩ | rfl) ?_
    refine (sinceN_env H7.out 0 rfl 4 (by decide) (by decide) (by decide) (by decide)).mono ?_
    rintro e w8 ⟨v1, rfl, h5, hv0, hb0⟩
    have hS2 : S w8 := HS.out w8 h5.base
    have HE := Lib.hid h5
    have HV := Lib.hid hv0
    have HL := Lib.hid (Sl.grow HL7.out hb0)
    have S8 := hS2
    clear h5 hv0 hb0 H7 HL7
    refine ⟨_, rfl, hS2, ?_⟩
    simp only [List.getElem_toArray, List.getElem_cons_succ, List.getElem_cons_zero, Act.put, List.setIfInBounds_toArray, List.set_cons_zero, List.set_cons_succ]
    rw [nm4] at HV
    all_goals
      refine hd_one 8 (by kernel_rfl) ?_
      refine op_call rfl (by kernel_rfl) (by go_simp; first | exact ⟨rfl, rfl⟩ | rfl) ?_
      refine (sameRuns_env' HE.out HV.out HL.out).mono ?_
      rintro e w9 ⟨he, h5⟩
      have hS2 : S w9 := HS.out w9 h5.base
      rw [show (decide (([⟨8, 8, 1⟩] : List Rn) = [⟨8, 8, 1⟩])) = true from by decide] at he
      subst he
      have H9 := Lib.hid h5
      have S9 := hS2
      clear h5 HE HV HL
      refine ⟨_, rfl, hS2, ?_⟩
      simp only [List.getElem_toArray, List.getElem_cons_succ, List.getElem_cons_zero, Act.put, List.setIfInBounds_toArray, List.set_cons_zero, List.set_cons_succ]
      refine hd_take (v := ?_) 9 rfl (by kernel_rfl) (fun _ _ d _ _ h => (by cases d <;> exact h)) (by kernel_rfl) S9 (fun w' hS => ?_) ?_
      rotate_left
      focus (clear hS; go_simp; try rfl; done)
      simp only [List.getElem_toArray, List.getElem_cons_succ, List.getElem_cons_zero, Act.put, List.setIfInBounds_toArray, List.set_cons_zero, List.set_cons_succ]
      refine hd_take (v := ?_) 10 rfl (by kernel_rfl) (fun _ _ d _ _ h => (by cases d <;> exact h)) (by kernel_rfl) S9 (fun w' hS => ?_) ?_
      rotate_left
      focus (clear hS; go_simp; try rfl; done)
      simp only [List.getElem_toArray, List.getElem_cons_succ, List.getElem_cons_zero, Act.put, List.setIfInBounds_toArray, List.set_cons_zero, List.set_cons_succ]
      refine hd_take (v := ?_) 11 rfl (by kernel_rfl) (fun _ _ d _ _ h => (by cases d <;> exact h)) (by kernel_rfl) S9 (fun w' hS => ?_) ?_
      rotate_left
      focus (clear hS; go_simp; try rfl; done)
      simp only [List.getElem_toArray, List.getElem_cons_succ, List.getElem_cons_zero, Act.put, List.setIfInBounds_toArray, List.set_cons_zero, List.set_cons_succ]
      refine hd_take (v := ?_) 13 rfl (by kernel_rfl) (fun _ _ d _ _ h => (by cases d <;> exact h)) (by kernel_rfl) S9 (fun w' hS => ?_) ?_
      rotate_left
      focus (have q0 := FA1 w' hS; have q1 := FA2 w' hS; clear hS; go_simp; try rfl; done)
      simp only [List.getElem_toArray, List.getElem_cons_succ, List.getElem_cons_zero, Act.put, List.setIfInBounds_toArray, List.set_cons_zero, List.set_cons_succ]
      refine hd_take (v := ?_) 14 rfl (by kernel_rfl) (fun _ _ d _ _ h => (by cases d <;> exact h)) (by kernel_rfl) S9 (fun w' hS => ?_) ?_
      rotate_left
      focus (clear hS; go_simp; try rfl; done)
      simp only [List.getElem_toArray, List.getElem_cons_succ, List.getElem_cons_zero, Act.put, List.setIfInBounds_toArray, List.set_cons_zero, List.set_cons_succ]
      refine hd_take (v := ?_) 15 rfl (by kernel_rfl) (fun _ _ d _ _ h => (by cases d <;> exact h)) (by kernel_rfl) S9 (fun w' hS => ?_) ?_
      rotate_left
      focus (have q0 := FB1 w' hS; have q1 := FB2 w' hS; clear hS; go_simp; try rfl; done)
      simp only [List.getElem_toArray, List.getElem_cons_succ, List.getElem_cons_zero, Act.put, List.setIfInBounds_toArray, List.set_cons_zero, List.set_cons_succ]
      refine hd_take (v := ?_) 16 rfl (by kernel_rfl) (fun _ _ d _ _ h => (by cases d <;> exact h)) (by kernel_rfl) S9 (fun w' hS => ?_) ?_
      rotate_left
      focus (clear hS; go_simp; try rfl; done)
      simp only [List.getElem_toArray, List.getElem_cons_succ, List.getElem_cons_zero, Act.put, List.setIfInBounds_toArray, List.set_cons_zero, List.set_cons_succ]
      refine hd_two 12 17 (by kernel_rfl) ?_ ?_
      skip
      refine op_call rfl (by kernel_rfl) (by go_simp; first | exact ⟨rfl, rfl⟩ | rfl) ?_
      refine (sinceN_env H9.out 0 rfl 2 (by decide) (by decide) (by decide) (by decide)).mono ?_
      rintro e w10 ⟨v2, rfl, h5, hv0, hb0⟩
      have hS2 : S w10 := HS.out w10 h5.base
      have H10 := Lib.hid h5
      have HV10 := Lib.hid hv0
      have S10 := hS2
      clear h5 hv0 hb0 H9
      refine ⟨_, rfl, hS2, ?_⟩
      simp only [List.getElem_toArray, List.getElem_cons_succ, List.getElem_cons_zero, Act.put, List.setIfInBounds_toArray, List.set_cons_zero, List.set_cons_succ]
      refine hd_one 17 (by kernel_rfl) ?_
      have S110 : S (w10.alloc (.cells #[.int .u8 5, .int .i64 16, .int .i64 1, .int .u8 8, .int .i64 8, .int .i64 2] 61)) := HS.out _ (H10.out.base.alloc H10.out.base.size _)
      refine op_run rfl (by kernel_rfl) (by go_simp; first | done | exact ⟨rfl, rfl⟩ | rfl) ?_
      refine ⟨S110, ?_⟩
      simp only [List.getElem_toArray, List.getElem_cons_succ, List.getElem_cons_zero, Act.put, List.setIfInBounds_toArray, List.set_cons_zero, List.set_cons_succ]
      have hb0 : Below w10.heap.size w10 (w10.alloc (.cells #[.int .u8 5, .int .i64 16, .int .i64 1, .int .u8 8, .int .i64 8, .int .i64 2] 61)) := (Below.refl _ _).alloc (Nat.le_refl _) _
      have hl0 : RunsRd (w10.alloc (.cells #[.int .u8 5, .int .i64 16, .int .i64 1, .int .u8 8, .int .i64 8, .int .i64 2] 61)) (.slice (some ⟨w10.heap.size, 0, none⟩) 2 2) [⟨5, 16, 1⟩, ⟨8, 8, 2⟩] := lit_rd [⟨5, 16, 1⟩, ⟨8, 8, 2⟩] w10 (by decide)
      obtain ⟨w11, hw0⟩ : ∃ w11, w11 = (w10.alloc (.cells #[.int .u8 5, .int .i64 16, .int .i64 1, .int .u8 8, .int .i64 8, .int .i64 2] 61)) := ⟨_, rfl⟩
      obtain ⟨u2, hu0⟩ : ∃ u2, u2 = Value.slice (some ⟨w10.heap.size, 0, none⟩) 2 2 := ⟨_, rfl⟩
      rw [← hw0] at S110 hb0 hl0
      rw [← hu0] at hl0
      rw [← hw0, ← hu0]
      have HL := Lib.hid hl0
      have HE := Lib.hid (H10.out.below hb0)
      have HV := Lib.hid (Sl.grow HV10.out hb0)
      have S11 := S110
      clear hw0 hu0 hb0 hl0 S110 H10 HV10
      rw [nm2] at HV
      rotate_left
      have S100 : S (w9.alloc (.cells #[.int .u8 5, .int .i64 16, .int .i64 1, .int .u8 8, .int .i64 8, .int .i64 2] 61)) := HS.out _ (H9.out.base.alloc H9.out.base.size _)
      refine op_run rfl (by kernel_rfl) (by go_simp; first | done | exact ⟨rfl, rfl⟩ | rfl) ?_
      refine ⟨S100, ?_⟩
      simp only [List.getElem_toArray, List.getElem_cons_succ, List.getElem_cons_zero, Act.put, List.setIfInBounds_toArray, List.set_cons_zero, List.set_cons_succ]
      have hb0 : Below w9.heap.size w9 (w9.alloc (.cells #[.int .u8 5, .int .i64 16, .int .i64 1, .int .u8 8, .int .i64 8, .int .i64 2] 61)) := (Below.refl _ _).alloc (Nat.le_refl _) _
      have hl0 : RunsRd (w9.alloc (.cells #[.int .u8 5, .int .i64 16, .int .i64 1, .int .u8 8, .int .i64 8, .int .i64 2] 61)) (.slice (some ⟨w9.heap.size, 0, none⟩) 2 2) [⟨5, 16, 1⟩, ⟨8, 8, 2⟩] := lit_rd [⟨5, 16, 1⟩, ⟨8, 8, 2⟩] w9 (by decide)
      obtain ⟨w10, hw0⟩ : ∃ w10, w10 = (w9.alloc (.cells #[.int .u8 5, .int .i64 16, .int .i64 1, .int .u8 8, .int .i64 8, .int .i64 2] 61)) := ⟨_, rfl⟩
      obtain ⟨u2, hu0⟩ : ∃ u2, u2 = Value.slice (some ⟨w9.heap.size, 0, none⟩) 2 2 := ⟨_, rfl⟩
      rw [← hw0] at S100 hb0 hl0
      rw [← hu0] at hl0
      rw [← hw0, ← hu0]
      have HL10 := Lib.hid hl0
      have H10 := Lib.hid (H9.out.below hb0)
      have S10 := S100
      clear hw0 hu0 hb0 hl0 S100 H9
      refine hd_one 12 (by kernel_rfl) ?_
      refine op_call rfl (by kernel_rfl) (by go_simp; first | exact ⟨rfl, rfl⟩ | rfl) ?_
      refine (sinceN_env H10.out 0 rfl 2 (by decide) (by decide) (by decide) (by decide)).mono ?_
      rintro e w11 ⟨v2, rfl, h5, hv0, hb0⟩
      have hS2 : S w11 := HS.out w11 h5.base
      have HE := Lib.hid h5
      have HV := Lib.hid hv0
      have HL := Lib.hid (Sl.grow HL10.out hb0)
      have S11 := hS2
      clear h5 hv0 hb0 H10 HL10
      refine ⟨_, rfl, hS2, ?_⟩
      simp only [List.getElem_toArray, List.getElem_cons_succ, List.getElem_cons_zero, Act.put, List.setIfInBounds_toArray, List.set_cons_zero, List.set_cons_succ]
      rw [nm2] at HV
      all_goals
        refine hd_one 18 (by kernel_rfl) ?_
        refine op_call rfl (by kernel_rfl) (by go_simp; first | exact ⟨rfl, rfl⟩ | rfl) ?_
        refine (sameRuns_env' HE.out HV.out HL.out).mono ?_
        rintro e w12 ⟨he, h5⟩
        have hS2 : S w12 := HS.out w12 h5.base
        rw [show (decide (([⟨5, 16, 1⟩, ⟨8, 8, 2⟩] : List Rn) = [⟨5, 16, 1⟩, ⟨8, 8, 2⟩])) = true from by decide] at he
        subst he
        have H12 := Lib.hid h5
        have S12 := hS2
        clear h5 HE HV HL
        refine ⟨_, rfl, hS2, ?_⟩
        simp only [List.getElem_toArray, List.getElem_cons_succ, List.getElem_cons_zero, Act.put, List.setIfInBounds_toArray, List.set_cons_zero, List.set_cons_succ]
        refine hd_take (v := ?_) 19 rfl (by kernel_rfl) (fun _ _ d _ _ h => (by cases d <;> exact h)) (by kernel_rfl) S12 (fun w' hS => ?_) ?_
        rotate_left
        focus (clear hS; go_simp; try rfl; done)
        simp only [List.getElem_toArray, List.getElem_cons_succ, List.getElem_cons_zero, Act.put, List.setIfInBounds_toArray, List.set_cons_zero, List.set_cons_succ]
        refine hd_take (v := ?_) 20 rfl (by kernel_rfl) (fun _ _ d _ _ h => (by cases d <;> exact h)) (by kernel_rfl) S12 (fun w' hS => ?_) ?_
        rotate_left
        focus (clear hS; go_simp; try rfl; done)
        simp only [List.getElem_toArray, List.getElem_cons_succ, List.getElem_cons_zero, Act.put, List.setIfInBounds_toArray, List.set_cons_zero, List.set_cons_succ]
        refine hd_take (v := ?_) 21 rfl (by kernel_rfl) (fun _ _ d _ _ h => (by cases d <;> exact h)) (by kernel_rfl) S12 (fun w' hS => ?_) ?_
        rotate_left
        focus (clear hS; go_simp; try rfl; done)
        simp only [List.getElem_toArray, List.getElem_cons_succ, List.getElem_cons_zero, Act.put, List.setIfInBounds_toArray, List.set_cons_zero, List.set_cons_succ]
        refine hd_one 22 (by kernel_rfl) ?_
        refine op_call rfl (by kernel_rfl) (by go_simp; first | exact ⟨rfl, rfl⟩ | rfl) ?_
        refine (sinceE_env H12.out 0 rfl 5 (by decide) (by decide) (by decide) (by decide) (by decide)).mono ?_
        rintro e w13 ⟨ao, cap, rfl, h5⟩
        have hS2 : S w13 := HS.out w13 h5.base
        have H13 := Lib.hid h5
        have S13 := hS2
        clear h5 H12
        refine ⟨_, rfl, hS2, ?_⟩
        simp only [List.getElem_toArray, List.getElem_cons_succ, List.getElem_cons_zero, Act.put, List.setIfInBounds_toArray, List.set_cons_zero, List.set_cons_succ]
        refine hd_take (v := ?_) 23 rfl (by kernel_rfl) (fun _ _ d _ _ h => (by cases d <;> exact h)) (by kernel_rfl) S13 (fun w' hS => ?_) ?_
        rotate_left
        focus (clear hS; go_simp; try rfl; done)
        simp only [List.getElem_toArray, List.getElem_cons_succ, List.getElem_cons_zero, Act.put, List.setIfInBounds_toArray, List.set_cons_zero, List.set_cons_succ]
        refine hd_take (v := ?_) 24 rfl (by kernel_rfl) (fun _ _ d _ _ h => (by cases d <;> exact h)) (by kernel_rfl) S13 (fun w' hS => ?_) ?_
        rotate_left
        focus (clear hS; go_simp; try rfl; done)
        simp only [List.getElem_toArray, List.getElem_cons_succ, List.getElem_cons_zero, Act.put, List.setIfInBounds_toArray, List.set_cons_zero, List.set_cons_succ]
        refine hd_take (v := ?_) 25 rfl (by kernel_rfl) (fun _ _ d _ _ h => (by cases d <;> exact h)) (by kernel_rfl) S13 (fun w' hS => ?_) ?_
        rotate_left
        focus (clear hS; go_simp; try rfl; done)
        simp only [List.getElem_toArray, List.getElem_cons_succ, List.getElem_cons_zero, Act.put, List.setIfInBounds_toArray, List.set_cons_zero, List.set_cons_succ]
        refine hd_take (v := ?_) 26 rfl (by kernel_rfl) (fun _ _ d _ _ h => (by cases d <;> exact h)) (by kernel_rfl) S13 (fun w' hS => ?_) ?_
        rotate_left
        focus (clear hS; go_simp; try rfl; done)
        simp only [List.getElem_toArray, List.getElem_cons_succ, List.getElem_cons_zero, Act.put, List.setIfInBounds_toArray, List.set_cons_zero, List.set_cons_succ]
        refine hd_take (v := ?_) 27 rfl (by kernel_rfl) (fun _ _ d _ _ h => (by cases d <;> exact h)) (by kernel_rfl) S13 (fun w' hS => ?_) ?_
        rotate_left
        focus (clear hS; go_simp; try rfl; done)
        simp only [List.getElem_toArray, List.getElem_cons_succ, List.getElem_cons_zero, Act.put, List.setIfInBounds_toArray, List.set_cons_zero, List.set_cons_succ]
        refine hd_one 28 (by kernel_rfl) ?_
        refine op_call rfl (by kernel_rfl) (by go_simp; first | exact ⟨rfl, rfl⟩ | rfl) ?_
        refine (sinceE_env H13.out 0 rfl 6 (by decide) (by decide) (by decide) (by decide) (by decide)).mono ?_
        rintro e w14 ⟨ao, cap, rfl, h5⟩
        have hS2 : S w14 := HS.out w14 h5.base
        have H14 := Lib.hid h5
        have S14 := hS2
        clear h5 H13
        refine ⟨_, rfl, hS2, ?_⟩
        simp only [List.getElem_toArray, List.getElem_cons_succ, List.getElem_cons_zero, Act.put, List.setIfInBounds_toArray, List.set_cons_zero, List.set_cons_succ]
        refine hd_take (v := ?_) 29 rfl (by kernel_rfl) (fun _ _ d _ _ h => (by cases d <;> exact h)) (by kernel_rfl) S14 (fun w' hS => ?_) ?_
        rotate_left
        focus (clear hS; go_simp; try rfl; done)
        simp only [List.getElem_toArray, List.getElem_cons_succ, List.getElem_cons_zero, Act.put, List.setIfInBounds_toArray, List.set_cons_zero, List.set_cons_succ]
        refine hd_take (v := ?_) 30 rfl (by kernel_rfl) (fun _ _ d _ _ h => (by cases d <;> exact h)) (by kernel_rfl) S14 (fun w' hS => ?_) ?_
        rotate_left
        focus (clear hS; go_simp; try rfl; done)
        simp only [List.getElem_toArray, List.getElem_cons_succ, List.getElem_cons_zero, Act.put, List.setIfInBounds_toArray, List.set_cons_zero, List.set_cons_succ]
        refine hd_take (v := ?_) 31 rfl (by kernel_rfl) (fun _ _ d _ _ h => (by cases d <;> exact h)) (by kernel_rfl) S14 (fun w' hS => ?_) ?_
        rotate_left
        focus (clear hS; go_simp; try rfl; done)
        simp only [List.getElem_toArray, List.getElem_cons_succ, List.getElem_cons_zero, Act.put, List.setIfInBounds_toArray, List.set_cons_zero, List.set_cons_succ]
        refine hd_take (v := ?_) 32 rfl (by kernel_rfl) (fun _ _ d _ _ h => (by cases d <;> exact h)) (by kernel_rfl) S14 (fun w' hS => ?_) ?_
        rotate_left
        focus (clear hS; go_simp; try rfl; done)
        simp only [List.getElem_toArray, List.getElem_cons_succ, List.getElem_cons_zero, Act.put, List.setIfInBounds_toArray, List.set_cons_zero, List.set_cons_succ]
        refine hd_take (v := ?_) 33 rfl (by kernel_rfl) (fun _ _ d _ _ h => (by cases d <;> exact h)) (by kernel_rfl) S14 (fun w' hS => ?_) ?_
        rotate_left
        focus (clear hS; go_simp; try rfl; done)
        simp only [List.getElem_toArray, List.getElem_cons_succ, List.getElem_cons_zero, Act.put, List.setIfInBounds_toArray, List.set_cons_zero, List.set_cons_succ]
        refine hd_take (v := ?_) 35 rfl (by kernel_rfl) (fun _ _ d _ _ h => (by cases d <;> exact h)) (by kernel_rfl) S14 (fun w' hS => ?_) ?_
        rotate_left
        focus (clear hS; go_simp; try rfl; done)
        simp only [List.getElem_toArray, List.getElem_cons_succ, List.getElem_cons_zero, Act.put, List.setIfInBounds_toArray, List.set_cons_zero, List.set_cons_succ]
        refine hd_one 34 (by kernel_rfl) ?_
        refine op_call rfl (by kernel_rfl) (by go_simp; first | exact ⟨rfl, rfl⟩ | rfl) ?_
        refine (sinceN_env H14.out 0 rfl (-1) (by decide) (by decide) (by decide) (by decide)).mono ?_
        rintro e w15 ⟨v3, rfl, h5, hv0, hb0⟩
        have hS2 : S w15 := HS.out w15 h5.base
        rw [nmM] at hv0
        have H15 := Lib.hid h5
        have HV15 := Lib.hid hv0
        have S15 := hS2
        clear h5 hv0 hb0 H14
        refine ⟨_, rfl, hS2, ?_⟩
        simp only [List.getElem_toArray, List.getElem_cons_succ, List.getElem_cons_zero, Act.put, List.setIfInBounds_toArray, List.set_cons_zero, List.set_cons_succ]
        refine hd_one 36 (by kernel_rfl) ?_
        refine op_call rfl (by kernel_rfl) (by go_simp; first | exact ⟨rfl, rfl⟩ | rfl) ?_
        refine (runsN_env H15.out 0 rfl (by decide)).mono ?_
        rintro e w16 ⟨v4, rfl, h5, hv0, hb0⟩
        have hS2 : S w16 := HS.out w16 h5.base
        have H16 := Lib.hid h5
        have HL := Lib.hid hv0
        have HV := Lib.hid (Sl.grow HV15.out hb0)
        have S16 := hS2
        clear h5 hv0 hb0 H15 HV15
        refine ⟨_, rfl, hS2, ?_⟩
        simp only [List.getElem_toArray, List.getElem_cons_succ, List.getElem_cons_zero, Act.put, List.setIfInBounds_toArray, List.set_cons_zero, List.set_cons_succ]
        refine hd_one 37 (by kernel_rfl) ?_
        refine op_call rfl (by kernel_rfl) (by go_simp; first | exact ⟨rfl, rfl⟩ | rfl) ?_
        refine (sameRuns_env' H16.out HV.out HL.out).mono ?_
        rintro e w17 ⟨he, h5⟩
        have hS2 : S w17 := HS.out w17 h5.base
        rw [show (decide ((nmL : List Rn) = nmL)) = true from by decide] at he
        subst he
        have H17 := Lib.hid h5
        have S17 := hS2
        clear h5 H16 HV HL
        refine ⟨_, rfl, hS2, ?_⟩
        simp only [List.getElem_toArray, List.getElem_cons_succ, List.getElem_cons_zero, Act.put, List.setIfInBounds_toArray, List.set_cons_zero, List.set_cons_succ]
        refine hd_take (v := ?_) 38 rfl (by kernel_rfl) (fun _ _ d _ _ h => (by cases d <;> exact h)) (by kernel_rfl) S17 (fun w' hS => ?_) ?_
        rotate_left
        focus (clear hS; go_simp; try rfl; done)
        simp only [List.getElem_toArray, List.getElem_cons_succ, List.getElem_cons_zero, Act.put, List.setIfInBounds_toArray, List.set_cons_zero, List.set_cons_succ]
        refine hd_one 39 (by kernel_rfl) ?_
        refine op_run rfl (by kernel_rfl) (by go_simp; first | done | exact ⟨rfl, rfl⟩ | rfl) ?_
        refine ⟨S17, ?_⟩
        simp only [List.getElem_toArray, List.getElem_cons_succ, List.getElem_cons_zero, Act.put, List.setIfInBounds_toArray, List.set_cons_zero, List.set_cons_succ]
        refine hd_done (by kernel_rfl) ?_
        go_wp2_with fail
        go_meet
        exact ⟨rfl, S17, H17.out⟩
  case rest =>
    obtain ⟨rfl, SC, HC0⟩ := hcut
    have HC := Lib.hid HC0
    clear HC0 SC H5 S5
    go_wp2_with fail
    refine (resetN_env HC.out 0 rfl).mono ?_
    rintro e w7 ⟨rfl, h5⟩
    replace h5 : Env wA w7 [obP p (some [])] := h5
    have H7 := Lib.hid h5
    clear h5 HC
    go_wp2_with fail
    refine (lenP_env' H7.out 0 rfl).mono ?_
    rintro e w8 ⟨he, hw⟩
    subst hw
    rw [show tot [] = 0 from rfl] at he
    subst he
    go_wp2_with fail
    refine (sinceE_env H7.out 0 rfl 0 (by decide) (by decide) (by decide) (by decide) (by decide)).mono ?_
    rintro e w8 ⟨ao, cap, rfl, h5⟩
    have H8 := Lib.hid h5
    clear h5 H7
    go_upto_region 12 with fail
    go_cut [7] from 77 to 93 (fun c wx => c = .bool true ∧ S wx ∧ Env wA wx [obP p (some [])])
    case first =>
      refine hd_start S (by kernel_rfl) ?_
      intro x0 hw'
      have X0 := Lib.hid (H8.out.draw 1)
      rw [← hw'] at X0
      clear hw' H8
      have T0 : S x0 := HS.out x0 X0.out.base
      refine hd_take (v := ?_) 0 rfl (by kernel_rfl) (fun _ _ d _ _ h => (by cases d <;> exact h)) (by kernel_rfl) T0 (fun w' hS => ?_) ?_
      rotate_left
      focus (have q0 := FA1 w' hS; have q1 := FA2 w' hS; clear hS; go_simp; try rfl; done)
      simp only [List.getElem_toArray, List.getElem_cons_succ, List.getElem_cons_zero, Act.put, List.setIfInBounds_toArray, List.set_cons_zero, List.set_cons_succ]
      refine hd_take (v := ?_) 1 rfl (by kernel_rfl) (fun _ _ d _ _ h => (by cases d <;> exact h)) (by kernel_rfl) T0 (fun w' hS => ?_) ?_
      rotate_left
      focus (clear hS; go_simp; try rfl; done)
      simp only [List.getElem_toArray, List.getElem_cons_succ, List.getElem_cons_zero, Act.put, List.setIfInBounds_toArray, List.set_cons_zero, List.set_cons_succ]
      refine hd_take (v := ?_) 2 rfl (by kernel_rfl) (fun _ _ d _ _ h => (by cases d <;> exact h)) (by kernel_rfl) T0 (fun w' hS => ?_) ?_
      rotate_left
      focus (have q0 := FB1 w' hS; have q1 := FB2 w' hS; clear hS; go_simp; try rfl; done)
      simp only [List.getElem_toArray, List.getElem_cons_succ, List.getElem_cons_zero, Act.put, List.setIfInBounds_toArray, List.set_cons_zero, List.set_cons_succ]
      refine hd_take (v := ?_) 3 rfl (by kernel_rfl) (fun _ _ d _ _ h => (by cases d <;> exact h)) (by kernel_rfl) T0 (fun w' hS => ?_) ?_
      rotate_left
      focus (clear hS; go_simp; try rfl; done)
      simp only [List.getElem_toArray, List.getElem_cons_succ, List.getElem_cons_zero, Act.put, List.setIfInBounds_toArray, List.set_cons_zero, List.set_cons_succ]
      refine hd_take (v := ?_) 5 rfl (by kernel_rfl) (fun _ _ d _ _ h => (by cases d <;> exact h)) (by kernel_rfl) T0 (fun w' hS => ?_) ?_
      rotate_left
      focus (have q0 := FA1 w' hS; have q1 := FA2 w' hS; clear hS; go_simp; try rfl; done)
      simp only [List.getElem_toArray, List.getElem_cons_succ, List.getElem_cons_zero, Act.put, List.setIfInBounds_toArray, List.set_cons_zero, List.set_cons_succ]
      refine hd_take (v := ?_) 6 rfl (by kernel_rfl) (fun _ _ d _ _ h => (by cases d <;> exact h)) (by kernel_rfl) T0 (fun w' hS => ?_) ?_
      rotate_left
      focus (clear hS; go_simp; try rfl; done)
      simp only [List.getElem_toArray, List.getElem_cons_succ, List.getElem_cons_zero, Act.put, List.setIfInBounds_toArray, List.set_cons_zero, List.set_cons_succ]
      refine hd_take (v := ?_) 7 rfl (by kernel_rfl) (fun _ _ d _ _ h => (by cases d <;> exact h)) (by kernel_rfl) T0 (fun w' hS => ?_) ?_
      rotate_left
      focus (have q0 := FB1 w' hS; have q1 := FB2 w' hS; clear hS; go_simp; try rfl; done)
      simp only [List.getElem_toArray, List.getElem_cons_succ, List.getElem_cons_zero, Act.put, List.setIfInBounds_toArray, List.set_cons_zero, List.set_cons_succ]
      refine hd_take (v := ?_) 8 rfl (by kernel_rfl) (fun _ _ d _ _ h => (by cases d <;> exact h)) (by kernel_rfl) T0 (fun w' hS => ?_) ?_
      rotate_left
      focus (clear hS; go_simp; try rfl; done)
      simp only [List.getElem_toArray, List.getElem_cons_succ, List.getElem_cons_zero, Act.put, List.setIfInBounds_toArray, List.set_cons_zero, List.set_cons_succ]
      refine hd_take (v := ?_) 11 rfl (by kernel_rfl) (fun _ _ d _ _ h => (by cases d <;> exact h)) (by kernel_rfl) T0 (fun w' hS => ?_) ?_
      rotate_left
      focus (have q0 := FA1 w' hS; have q1 := FA2 w' hS; clear hS; go_simp; try rfl; done)
      simp only [List.getElem_toArray, List.getElem_cons_succ, List.getElem_cons_zero, Act.put, List.setIfInBounds_toArray, List.set_cons_zero, List.set_cons_succ]
      refine hd_take (v := ?_) 12 rfl (by kernel_rfl) (fun _ _ d _ _ h => (by cases d <;> exact h)) (by kernel_rfl) T0 (fun w' hS => ?_) ?_
      rotate_left
      focus (clear hS; go_simp; try rfl; done)
      simp only [List.getElem_toArray, List.getElem_cons_succ, List.getElem_cons_zero, Act.put, List.setIfInBounds_toArray, List.set_cons_zero, List.set_cons_succ]
      refine hd_take (v := ?_) 13 rfl (by kernel_rfl) (fun _ _ d _ _ h => (by cases d <;> exact h)) (by kernel_rfl) T0 (fun w' hS => ?_) ?_
      rotate_left
      focus (have q0 := FB1 w' hS; have q1 := FB2 w' hS; clear hS; go_simp; try rfl; done)
      simp only [List.getElem_toArray, List.getElem_cons_succ, List.getElem_cons_zero, Act.put, List.setIfInBounds_toArray, List.set_cons_zero, List.set_cons_succ]
      refine hd_take (v := ?_) 14 rfl (by kernel_rfl) (fun _ _ d _ _ h => (by cases d <;> exact h)) (by kernel_rfl) T0 (fun w' hS => ?_) ?_
      rotate_left
      focus (clear hS; go_simp; try rfl; done)
      simp only [List.getElem_toArray, List.getElem_cons_succ, List.getElem_cons_zero, Act.put, List.setIfInBounds_toArray, List.set_cons_zero, List.set_cons_succ]
      refine hd_three 4 9 15 (by kernel_rfl) ?_ ?_ ?_
      · skip
        have T10 : S (x0.alloc (.cells #[.int .u8 5, .int .i64 16, .int .i64 2, .int .u8 8, .int .i64 8, .int .i64 0] 61)) := HS.out _ (X0.out.base.alloc X0.out.base.size _)
        refine op_run rfl (by kernel_rfl) (by go_simp; first | done | exact ⟨rfl, rfl⟩ | rfl) ?_
        refine ⟨T10, ?_⟩
        simp only [List.getElem_toArray, List.getElem_cons_succ, List.getElem_cons_zero, Act.put, List.setIfInBounds_toArray, List.set_cons_zero, List.set_cons_succ]
        have hb0 : Below x0.heap.size x0 (x0.alloc (.cells #[.int .u8 5, .int .i64 16, .int .i64 2, .int .u8 8, .int .i64 8, .int .i64 0] 61)) := (Below.refl _ _).alloc (Nat.le_refl _) _
        have hl0 : RunsRd (x0.alloc (.cells #[.int .u8 5, .int .i64 16, .int .i64 2, .int .u8 8, .int .i64 8, .int .i64 0] 61)) (.slice (some ⟨x0.heap.size, 0, none⟩) 2 2) [⟨5, 16, 2⟩, ⟨8, 8, 0⟩] := lit_rd [⟨5, 16, 2⟩, ⟨8, 8, 0⟩] x0 (by decide)
        obtain ⟨x1, hw0⟩ : ∃ x1, x1 = (x0.alloc (.cells #[.int .u8 5, .int .i64 16, .int .i64 2, .int .u8 8, .int .i64 8, .int .i64 0] 61)) := ⟨_, rfl⟩
        obtain ⟨y4, hu0⟩ : ∃ y4, y4 = Value.slice (some ⟨x0.heap.size, 0, none⟩) 2 2 := ⟨_, rfl⟩
        rw [← hw0] at T10 hb0 hl0
        rw [← hu0] at hl0
        rw [← hw0, ← hu0]
        have FA1 := Lib.hid hl0
        have X1 := Lib.hid (X0.out.below hb0)
        have T1 := T10
        clear hw0 hu0 hb0 hl0 T10 X0
        refine hd_two 9 15 (by kernel_rfl) ?_ ?_
        · skip
          have T20 : S (x1.alloc (.cells #[.int .u8 5, .int .i64 16, .int .i64 1, .int .u8 8, .int .i64 8, .int .i64 3] 61)) := HS.out _ (X1.out.base.alloc X1.out.base.size _)
          refine op_run rfl (by kernel_rfl) (by go_simp; first | done | exact ⟨rfl, rfl⟩ | rfl) ?_
          refine ⟨T20, ?_⟩
          simp only [List.getElem_toArray, List.getElem_cons_succ, List.getElem_cons_zero, Act.put, List.setIfInBounds_toArray, List.set_cons_zero, List.set_cons_succ]
          have hb0 : Below x1.heap.size x1 (x1.alloc (.cells #[.int .u8 5, .int .i64 16, .int .i64 1, .int .u8 8, .int .i64 8, .int .i64 3] 61)) := (Below.refl _ _).alloc (Nat.le_refl _) _
          have hl0 : RunsRd (x1.alloc (.cells #[.int .u8 5, .int .i64 16, .int .i64 1, .int .u8 8, .int .i64 8, .int .i64 3] 61)) (.slice (some ⟨x1.heap.size, 0, none⟩) 2 2) [⟨5, 16, 1⟩, ⟨8, 8, 3⟩] := lit_rd [⟨5, 16, 1⟩, ⟨8, 8, 3⟩] x1 (by decide)
          obtain ⟨x2, hw0⟩ : ∃ x2, x2 = (x1.alloc (.cells #[.int .u8 5, .int .i64 16, .int .i64 1, .int .u8 8, .int .i64 8, .int .i64 3] 61)) := ⟨_, rfl⟩
          obtain ⟨y9, hu0⟩ : ∃ y9, y9 = Value.slice (some ⟨x1.heap.size, 0, none⟩) 2 2 := ⟨_, rfl⟩
          rw [← hw0] at T20 hb0 hl0
          rw [← hu0] at hl0
          rw [← hw0, ← hu0]
          have FB2 := Lib.hid hl0
          have X2 := Lib.hid (X1.out.below hb0)
          have FA2 := Lib.hid (Sl.grow FA1.out hb0)
          have T2 := T20
          clear hw0 hu0 hb0 hl0 T20 X1 FA1
          refine hd_two 10 15 (by kernel_rfl) ?_ ?_
          · skip
            refine op_call rfl (by kernel_rfl) (by go_simp; first | exact ⟨rfl, rfl⟩ | rfl) ?_
            refine (join_any _ _ [⟨5, 16, 2⟩, ⟨8, 8, 0⟩] [⟨5, 16, 1⟩, ⟨8, 8, 3⟩] x2 FA2.out FB2.out (by unfold okC; decide) (by unfold okC; decide) (by decide)).mono ?_
            rintro e x3 ⟨vj, rfl, q1, hb0, _⟩
            have h5 := Env.below X2.out hb0
            have hS2 : S x3 := HS.out x3 h5.base
            have q2 := Knd.O.rd q1
            rw [ledgerNames.joined] at q2
            have FJ3 := Lib.hid q2
            have X3 := Lib.hid h5
            have T3 := hS2
            clear h5 q1 q2 hb0
            refine ⟨_, rfl, hS2, ?_⟩
            simp only [List.getElem_toArray, List.getElem_cons_succ, List.getElem_cons_zero, Act.put, List.setIfInBounds_toArray, List.set_cons_zero, List.set_cons_succ]
            refine hd_one 15 (by kernel_rfl) ?_
            have T40 : S (x3.alloc (.cells #[.int .u8 5, .int .i64 16, .int .i64 3, .int .u8 8, .int .i64 8, .int .i64 3] 61)) := HS.out _ (X3.out.base.alloc X3.out.base.size _)
            refine op_run rfl (by kernel_rfl) (by go_simp; first | done | exact ⟨rfl, rfl⟩ | rfl) ?_
            refine ⟨T40, ?_⟩
            simp only [List.getElem_toArray, List.getElem_cons_succ, List.getElem_cons_zero, Act.put, List.setIfInBounds_toArray, List.set_cons_zero, List.set_cons_succ]
            have hb0 : Below x3.heap.size x3 (x3.alloc (.cells #[.int .u8 5, .int .i64 16, .int .i64 3, .int .u8 8, .int .i64 8, .int .i64 3] 61)) := (Below.refl _ _).alloc (Nat.le_refl _) _
            have hl0 : RunsRd (x3.alloc (.cells #[.int .u8 5, .int .i64 16, .int .i64 3, .int .u8 8, .int .i64 8, .int .i64 3] 61)) (.slice (some ⟨x3.heap.size, 0, none⟩) 2 2) [⟨5, 16, 3⟩, ⟨8, 8, 3⟩] := lit_rd [⟨5, 16, 3⟩, ⟨8, 8, 3⟩] x3 (by decide)
            obtain ⟨x4, hw0⟩ : ∃ x4, x4 = (x3.alloc (.cells #[.int .u8 5, .int .i64 16, .int .i64 3, .int .u8 8, .int .i64 8, .int .i64 3] 61)) := ⟨_, rfl⟩
            obtain ⟨y15, hu0⟩ : ∃ y15, y15 = Value.slice (some ⟨x3.heap.size, 0, none⟩) 2 2 := ⟨_, rfl⟩
            rw [← hw0] at T40 hb0 hl0
            rw [← hu0] at hl0
            rw [← hw0, ← hu0]
            have FC4 := Lib.hid hl0
            have X4 := Lib.hid (X3.out.below hb0)
            have FJ4 := Lib.hid (Sl.grow FJ3.out hb0)
            have T4 := T40
            clear hw0 hu0 hb0 hl0 T40 X3 FJ3
            refine hd_one 16 (by kernel_rfl) ?_
            refine op_call rfl (by kernel_rfl) (by go_simp; first | exact ⟨rfl, rfl⟩ | rfl) ?_
            refine (sameRuns_env' X4.out FJ4.out FC4.out).mono ?_
            rintro e xz ⟨he, h5⟩
            have hS2 : S xz := HS.out xz h5.base
            rw [show (decide (([⟨5, 16, 3⟩, ⟨8, 8, 3⟩] : List Rn) = [⟨5, 16, 3⟩, ⟨8, 8, 3⟩])) = true from by decide] at he
            subst he
            have XZ := Lib.hid h5
            have TZ := hS2
            clear h5
            refine ⟨_, rfl, hS2, ?_⟩
            simp only [List.getElem_toArray, List.getElem_cons_succ, List.getElem_cons_zero, Act.put, List.setIfInBounds_toArray, List.set_cons_zero, List.set_cons_succ]
            refine hd_one 17 (by kernel_rfl) ?_
            refine op_run rfl (by kernel_rfl) (by go_simp; first | done | exact ⟨rfl, rfl⟩ | rfl) ?_
            refine ⟨TZ, ?_⟩
            simp only [List.getElem_toArray, List.getElem_cons_succ, List.getElem_cons_zero, Act.put, List.setIfInBounds_toArray, List.set_cons_zero, List.set_cons_succ]
            refine hd_done (by kernel_rfl) ?_
            go_wp2_with fail
            go_meet
            exact ⟨rfl, TZ, XZ.out⟩
          · skip
            have T30 : S (x2.alloc (.cells #[.int .u8 5, .int .i64 16, .int .i64 3, .int .u8 8, .int .i64 8, .int .i64 3] 61)) := HS.out _ (X2.out.base.alloc X2.out.base.size _)
            refine op_run rfl (by kernel_rfl) (by go_simp; first | done | exact ⟨rfl, rfl⟩ | rfl) ?_
            refine ⟨T30, ?_⟩
            simp only [List.getElem_toArray, List.getElem_cons_succ, List.getElem_cons_zero, Act.put, List.setIfInBounds_toArray, List.set_cons_zero, List.set_cons_succ]
            have hb0 : Below x2.heap.size x2 (x2.alloc (.cells #[.int .u8 5, .int .i64 16, .int .i64 3, .int .u8 8, .int .i64 8, .int .i64 3] 61)) := (Below.refl _ _).alloc (Nat.le_refl _) _
            have hl0 : RunsRd (x2.alloc (.cells #[.int .u8 5, .int .i64 16, .int .i64 3, .int .u8 8, .int .i64 8, .int .i64 3] 61)) (.slice (some ⟨x2.heap.size, 0, none⟩) 2 2) [⟨5, 16, 3⟩, ⟨8, 8, 3⟩] := lit_rd [⟨5, 16, 3⟩, ⟨8, 8, 3⟩] x2 (by decide)
            obtain ⟨x3, hw0⟩ : ∃ x3, x3 = (x2.alloc (.cells #[.int .u8 5, .int .i64 16, .int .i64 3, .int .u8 8, .int .i64 8, .int .i64 3] 61)) := ⟨_, rfl⟩
            obtain ⟨y15, hu0⟩ : ∃ y15, y15 = Value.slice (some ⟨x2.heap.size, 0, none⟩) 2 2 := ⟨_, rfl⟩
            rw [← hw0] at T30 hb0 hl0
            rw [← hu0] at hl0
            rw [← hw0, ← hu0]
            have FC3 := Lib.hid hl0
            have X3 := Lib.hid (X2.out.below hb0)
            have FA3 := Lib.hid (Sl.grow FA2.out hb0)
            have FB3 := Lib.hid (Sl.grow FB2.out hb0)
            have T3 := T30
            clear hw0 hu0 hb0 hl0 T30 X2 FA2 FB2
            refine hd_one 10 (by kernel_rfl) ?_
            refine op_call rfl (by kernel_rfl) (by go_simp; first | exact ⟨rfl, rfl⟩ | rfl) ?_
            refine (join_any _ _ [⟨5, 16, 2⟩, ⟨8, 8, 0⟩] [⟨5, 16, 1⟩, ⟨8, 8, 3⟩] x3 FA3.out FB3.out (by unfold okC; decide) (by unfold okC; decide) (by decide)).mono ?_
            rintro e x4 ⟨vj, rfl, q1, hb0, _⟩
            have h5 := Env.below X3.out hb0
            have hS2 : S x4 := HS.out x4 h5.base
            have q2 := Knd.O.rd q1
            rw [ledgerNames.joined] at q2
            have FJ4 := Lib.hid q2
            have FC4 := Lib.hid (Sl.grow FC3.out hb0)
            have X4 := Lib.hid h5
            have T4 := hS2
            clear h5 q1 q2 hb0
            refine ⟨_, rfl, hS2, ?_⟩
            simp only [List.getElem_toArray, List.getElem_cons_succ, List.getElem_cons_zero, Act.put, List.setIfInBounds_toArray, List.set_cons_zero, List.set_cons_succ]
            refine hd_one 16 (by kernel_rfl) ?_
            refine op_call rfl (by kernel_rfl) (by go_simp; first | exact ⟨rfl, rfl⟩ | rfl) ?_
            refine (sameRuns_env' X4.out FJ4.out FC4.out).mono ?_
            rintro e xz ⟨he, h5⟩
            have hS2 : S xz := HS.out xz h5.base
            rw [show (decide (([⟨5, 16, 3⟩, ⟨8, 8, 3⟩] : List Rn) = [⟨5, 16, 3⟩, ⟨8, 8, 3⟩])) = true from by decide] at he
            subst he
            have XZ := Lib.hid h5
            have TZ := hS2
            clear h5
            refine ⟨_, rfl, hS2, ?_⟩
            simp only [List.getElem_toArray, List.getElem_cons_succ, List.getElem_cons_zero, Act.put, List.setIfInBounds_toArray, List.set_cons_zero, List.set_cons_succ]
            refine hd_one 17 (by kernel_rfl) ?_
            refine op_run rfl (by kernel_rfl) (by go_simp; first | done | exact ⟨rfl, rfl⟩ | rfl) ?_
            refine ⟨TZ, ?_⟩
            simp only [List.getElem_toArray, List.getElem_cons_succ, List.getElem_cons_zero, Act.put, List.setIfInBounds_toArray, List.set_cons_zero, List.set_cons_succ]
            refine hd_done (by kernel_rfl) ?_
            go_wp2_with fail
            go_meet
            exact ⟨rfl, TZ, XZ.out⟩
        · skip
          have T20 : S (x1.alloc (.cells #[.int .u8 5, .int .i64 16, .int .i64 3, .int .u8 8, .int .i64 8, .int .i64 3] 61)) := HS.out _ (X1.out.base.alloc X1.out.base.size _)
          refine op_run rfl (by kernel_rfl) (by go_simp; first | done | exact ⟨rfl, rfl⟩ | rfl) ?_
          refine ⟨T20, ?_⟩
          simp only [List.getElem_toArray, List.getElem_cons_succ, List.getElem_cons_zero, Act.put, List.setIfInBounds_toArray, List.set_cons_zero, List.set_cons_succ]
          have hb0 : Below x1.heap.size x1 (x1.alloc (.cells #[.int .u8 5, .int .i64 16, .int .i64 3, .int .u8 8, .int .i64 8, .int .i64 3] 61)) := (Below.refl _ _).alloc (Nat.le_refl _) _
          have hl0 : RunsRd (x1.alloc (.cells #[.int .u8 5, .int .i64 16, .int .i64 3, .int .u8 8, .int .i64 8, .int .i64 3] 61)) (.slice (some ⟨x1.heap.size, 0, none⟩) 2 2) [⟨5, 16, 3⟩, ⟨8, 8, 3⟩] := lit_rd [⟨5, 16, 3⟩, ⟨8, 8, 3⟩] x1 (by decide)
          obtain ⟨x2, hw0⟩ : ∃ x2, x2 = (x1.alloc (.cells #[.int .u8 5, .int .i64 16, .int .i64 3, .int .u8 8, .int .i64 8, .int .i64 3] 61)) := ⟨_, rfl⟩
          obtain ⟨y15, hu0⟩ : ∃ y15, y15 = Value.slice (some ⟨x1.heap.size, 0, none⟩) 2 2 := ⟨_, rfl⟩
          rw [← hw0] at T20 hb0 hl0
          rw [← hu0] at hl0
          rw [← hw0, ← hu0]
          have FC2 := Lib.hid hl0
          have X2 := Lib.hid (X1.out.below hb0)
          have FA2 := Lib.hid (Sl.grow FA1.out hb0)
          have T2 := T20
          clear hw0 hu0 hb0 hl0 T20 X1 FA1
          refine hd_one 9 (by kernel_rfl) ?_
          have T30 : S (x2.alloc (.cells #[.int .u8 5, .int .i64 16, .int .i64 1, .int .u8 8, .int .i64 8, .int .i64 3] 61)) := HS.out _ (X2.out.base.alloc X2.out.base.size _)
          refine op_run rfl (by kernel_rfl) (by go_simp; first | done | exact ⟨rfl, rfl⟩ | rfl) ?_
          refine ⟨T30, ?_⟩
          simp only [List.getElem_toArray, List.getElem_cons_succ, List.getElem_cons_zero, Act.put, List.setIfInBounds_toArray, List.set_cons_zero, List.set_cons_succ]
          have hb0 : Below x2.heap.size x2 (x2.alloc (.cells #[.int .u8 5, .int .i64 16, .int .i64 1, .int .u8 8, .int .i64 8, .int .i64 3] 61)) := (Below.refl _ _).alloc (Nat.le_refl _) _
          have hl0 : RunsRd (x2.alloc (.cells #[.int .u8 5, .int .i64 16, .int .i64 1, .int .u8 8, .int .i64 8, .int .i64 3] 61)) (.slice (some ⟨x2.heap.size, 0, none⟩) 2 2) [⟨5, 16, 1⟩, ⟨8, 8, 3⟩] := lit_rd [⟨5, 16, 1⟩, ⟨8, 8, 3⟩] x2 (by decide)
          obtain ⟨x3, hw0⟩ : ∃ x3, x3 = (x2.alloc (.cells #[.int .u8 5, .int .i64 16, .int .i64 1, .int .u8 8, .int .i64 8, .int .i64 3] 61)) := ⟨_, rfl⟩
          obtain ⟨y9, hu0⟩ : ∃ y9, y9 = Value.slice (some ⟨x2.heap.size, 0, none⟩) 2 2 := ⟨_, rfl⟩
          rw [← hw0] at T30 hb0 hl0
          rw [← hu0] at hl0
          rw [← hw0, ← hu0]
          have FB3 := Lib.hid hl0
          have X3 := Lib.hid (X2.out.below hb0)
          have FA3 := Lib.hid (Sl.grow FA2.out hb0)
          have FC3 := Lib.hid (Sl.grow FC2.out hb0)
          have T3 := T30
          clear hw0 hu0 hb0 hl0 T30 X2 FA2 FC2
          refine hd_one 10 (by kernel_rfl) ?_
          refine op_call rfl (by kernel_rfl) (by go_simp; first | exact ⟨rfl, rfl⟩ | rfl) ?_
          refine (join_any _ _ [⟨5, 16, 2⟩, ⟨8, 8, 0⟩] [⟨5, 16, 1⟩, ⟨8, 8, 3⟩] x3 FA3.out FB3.out (by unfold okC; decide) (by unfold okC; decide) (by decide)).mono ?_
          rintro e x4 ⟨vj, rfl, q1, hb0, _⟩
          have h5 := Env.below X3.out hb0
          have hS2 : S x4 := HS.out x4 h5.base
          have q2 := Knd.O.rd q1
          rw [ledgerNames.joined] at q2
          have FJ4 := Lib.hid q2
          have FC4 := Lib.hid (Sl.grow FC3.out hb0)
          have X4 := Lib.hid h5
          have T4 := hS2
          clear h5 q1 q2 hb0
          refine ⟨_, rfl, hS2, ?_⟩
          simp only [List.getElem_toArray, List.getElem_cons_succ, List.getElem_cons_zero, Act.put, List.setIfInBounds_toArray, List.set_cons_zero, List.set_cons_succ]
          refine hd_one 16 (by kernel_rfl) ?_
          refine op_call rfl (by kernel_rfl) (by go_simp; first | exact ⟨rfl, rfl⟩ | rfl) ?_
          refine (sameRuns_env' X4.out FJ4.out FC4.out).mono ?_
          rintro e xz ⟨he, h5⟩
          have hS2 : S xz := HS.out xz h5.base
          rw [show (decide (([⟨5, 16, 3⟩, ⟨8, 8, 3⟩] : List Rn) = [⟨5, 16, 3⟩, ⟨8, 8, 3⟩])) = true from by decide] at he
          subst he
          have XZ := Lib.hid h5
          have TZ := hS2
          clear h5
          refine ⟨_, rfl, hS2, ?_⟩
          simp only [List.getElem_toArray, List.getElem_cons_succ, List.getElem_cons_zero, Act.put, List.setIfInBounds_toArray, List.set_cons_zero, List.set_cons_succ]
          refine hd_one 17 (by kernel_rfl) ?_
          refine op_run rfl (by kernel_rfl) (by go_simp; first | done | exact ⟨rfl, rfl⟩ | rfl) ?_
          refine ⟨TZ, ?_⟩
          simp only [List.getElem_toArray, List.getElem_cons_succ, List.getElem_cons_zero, Act.put, List.setIfInBounds_toArray, List.set_cons_zero, List.set_cons_succ]
          refine hd_done (by kernel_rfl) ?_
          go_wp2_with fail
          go_meet
          exact ⟨rfl, TZ, XZ.out⟩
      · skip
        have T10 : S (x0.alloc (.cells #[.int .u8 5, .int .i64 16, .int .i64 1, .int .u8 8, .int .i64 8, .int .i64 3] 61)) := HS.out _ (X0.out.base.alloc X0.out.base.size _)
        refine op_run rfl (by kernel_rfl) (by go_simp; first | done | exact ⟨rfl, rfl⟩ | rfl) ?_
        refine ⟨T10, ?_⟩
        simp only [List.getElem_toArray, List.getElem_cons_succ, List.getElem_cons_zero, Act.put, List.setIfInBounds_toArray, List.set_cons_zero, List.set_cons_succ]
        have hb0 : Below x0.heap.size x0 (x0.alloc (.cells #[.int .u8 5, .int .i64 16, .int .i64 1, .int .u8 8, .int .i64 8, .int .i64 3] 61)) := (Below.refl _ _).alloc (Nat.le_refl _) _
        have hl0 : RunsRd (x0.alloc (.cells #[.int .u8 5, .int .i64 16, .int .i64 1, .int .u8 8, .int .i64 8, .int .i64 3] 61)) (.slice (some ⟨x0.heap.size, 0, none⟩) 2 2) [⟨5, 16, 1⟩, ⟨8, 8, 3⟩] := lit_rd [⟨5, 16, 1⟩, ⟨8, 8, 3⟩] x0 (by decide)
        obtain ⟨x1, hw0⟩ : ∃ x1, x1 = (x0.alloc (.cells #[.int .u8 5, .int .i64 16, .int .i64 1, .int .u8 8, .int .i64 8, .int .i64 3] 61)) := ⟨_, rfl⟩
        obtain ⟨y9, hu0⟩ : ∃ y9, y9 = Value.slice (some ⟨x0.heap.size, 0, none⟩) 2 2 := ⟨_, rfl⟩
        rw [← hw0] at T10 hb0 hl0
        rw [← hu0] at hl0
        rw [← hw0, ← hu0]
        have FB1 := Lib.hid hl0
        have X1 := Lib.hid (X0.out.below hb0)
        have T1 := T10
        clear hw0 hu0 hb0 hl0 T10 X0
        refine hd_two 4 15 (by kernel_rfl) ?_ ?_
        · skip
          have T20 : S (x1.alloc (.cells #[.int .u8 5, .int .i64 16, .int .i64 2, .int .u8 8, .int .i64 8, .int .i64 0] 61)) := HS.out _ (X1.out.base.alloc X1.out.base.size _)
          refine op_run rfl (by kernel_rfl) (by go_simp; first | done | exact ⟨rfl, rfl⟩ | rfl) ?_
          refine ⟨T20, ?_⟩
          simp only [List.getElem_toArray, List.getElem_cons_succ, List.getElem_cons_zero, Act.put, List.setIfInBounds_toArray, List.set_cons_zero, List.set_cons_succ]
          have hb0 : Below x1.heap.size x1 (x1.alloc (.cells #[.int .u8 5, .int .i64 16, .int .i64 2, .int .u8 8, .int .i64 8, .int .i64 0] 61)) := (Below.refl _ _).alloc (Nat.le_refl _) _
          have hl0 : RunsRd (x1.alloc (.cells #[.int .u8 5, .int .i64 16, .int .i64 2, .int .u8 8, .int .i64 8, .int .i64 0] 61)) (.slice (some ⟨x1.heap.size, 0, none⟩) 2 2) [⟨5, 16, 2⟩, ⟨8, 8, 0⟩] := lit_rd [⟨5, 16, 2⟩, ⟨8, 8, 0⟩] x1 (by decide)
          obtain ⟨x2, hw0⟩ : ∃ x2, x2 = (x1.alloc (.cells #[.int .u8 5, .int .i64 16, .int .i64 2, .int .u8 8, .int .i64 8, .int .i64 0] 61)) := ⟨_, rfl⟩
          obtain ⟨y4, hu0⟩ : ∃ y4, y4 = Value.slice (some ⟨x1.heap.size, 0, none⟩) 2 2 := ⟨_, rfl⟩
          rw [← hw0] at T20 hb0 hl0
          rw [← hu0] at hl0
          rw [← hw0, ← hu0]
          have FA2 := Lib.hid hl0
          have X2 := Lib.hid (X1.out.below hb0)
          have FB2 := Lib.hid (Sl.grow FB1.out hb0)
          have T2 := T20
          clear hw0 hu0 hb0 hl0 T20 X1 FB1
          refine hd_two 10 15 (by kernel_rfl) ?_ ?_
          · skip
            refine op_call rfl (by kernel_rfl) (by go_simp; first | exact ⟨rfl, rfl⟩ | rfl) ?_
            refine (join_any _ _ [⟨5, 16, 2⟩, ⟨8, 8, 0⟩] [⟨5, 16, 1⟩, ⟨8, 8, 3⟩] x2 FA2.out FB2.out (by unfold okC; decide) (by unfold okC; decide) (by decide)).mono ?_
            rintro e x3 ⟨vj, rfl, q1, hb0, _⟩
            have h5 := Env.below X2.out hb0
            have hS2 : S x3 := HS.out x3 h5.base
            have q2 := Knd.O.rd q1
            rw [ledgerNames.joined] at q2
            have FJ3 := Lib.hid q2
            have X3 := Lib.hid h5
            have T3 := hS2
            clear h5 q1 q2 hb0
            refine ⟨_, rfl, hS2, ?_⟩
            simp only [List.getElem_toArray, List.getElem_cons_succ, List.getElem_cons_zero, Act.put, List.setIfInBounds_toArray, List.set_cons_zero, List.set_cons_succ]
            refine hd_one 15 (by kernel_rfl) ?_
            have T40 : S (x3.alloc (.cells #[.int .u8 5, .int .i64 16, .int .i64 3, .int .u8 8, .int .i64 8, .int .i64 3] 61)) := HS.out _ (X3.out.base.alloc X3.out.base.size _)
            refine op_run rfl (by kernel_rfl) (by go_simp; first | done | exact ⟨rfl, rfl⟩ | rfl) ?_
            refine ⟨T40, ?_⟩
            simp only [List.getElem_toArray, List.getElem_cons_succ, List.getElem_cons_zero, Act.put, List.setIfInBounds_toArray, List.set_cons_zero, List.set_cons_succ]
            have hb0 : Below x3.heap.size x3 (x3.alloc (.cells #[.int .u8 5, .int .i64 16, .int .i64 3, .int .u8 8, .int .i64 8, .int .i64 3] 61)) := (Below.refl _ _).alloc (Nat.le_refl _) _
            have hl0 : RunsRd (x3.alloc (.cells #[.int .u8 5, .int .i64 16, .int .i64 3, .int .u8 8, .int .i64 8, .int .i64 3] 61)) (.slice (some ⟨x3.heap.size, 0, none⟩) 2 2) [⟨5, 16, 3⟩, ⟨8, 8, 3⟩] := lit_rd [⟨5, 16, 3⟩, ⟨8, 8, 3⟩] x3 (by decide)
            obtain ⟨x4, hw0⟩ : ∃ x4, x4 = (x3.alloc (.cells #[.int .u8 5, .int .i64 16, .int .i64 3, .int .u8 8, .int .i64 8, .int .i64 3] 61)) := ⟨_, rfl⟩
            obtain ⟨y15, hu0⟩ : ∃ y15, y15 = Value.slice (some ⟨x3.heap.size, 0, none⟩) 2 2 := ⟨_, rfl⟩
            rw [← hw0] at T40 hb0 hl0
            rw [← hu0] at hl0
            rw [← hw0, ← hu0]
            have FC4 := Lib.hid hl0
            have X4 := Lib.hid (X3.out.below hb0)
            have FJ4 := Lib.hid (Sl.grow FJ3.out hb0)
            have T4 := T40
            clear hw0 hu0 hb0 hl0 T40 X3 FJ3
            refine hd_one 16 (by kernel_rfl) ?_
            refine op_call rfl (by kernel_rfl) (by go_simp; first | exact ⟨rfl, rfl⟩ | rfl) ?_
            refine (sameRuns_env' X4.out FJ4.out FC4.out).mono ?_
            rintro e xz ⟨he, h5⟩
            have hS2 : S xz := HS.out xz h5.base
            rw [show (decide (([⟨5, 16, 3⟩, ⟨8, 8, 3⟩] : List Rn) = [⟨5, 16, 3⟩, ⟨8, 8, 3⟩])) = true from by decide] at he
            subst he
            have XZ := Lib.hid h5
            have TZ := hS2
            clear h5
            refine ⟨_, rfl, hS2, ?_⟩
            simp only [List.getElem_toArray, List.getElem_cons_succ, List.getElem_cons_zero, Act.put, List.setIfInBounds_toArray, List.set_cons_zero, List.set_cons_succ]
            refine hd_one 17 (by kernel_rfl) ?_
            refine op_run rfl (by kernel_rfl) (by go_simp; first | done | exact ⟨rfl, rfl⟩ | rfl) ?_
            refine ⟨TZ, ?_⟩
            simp only [List.getElem_toArray, List.getElem_cons_succ, List.getElem_cons_zero, Act.put, List.setIfInBounds_toArray, List.set_cons_zero, List.set_cons_succ]
            refine hd_done (by kernel_rfl) ?_
            go_wp2_with fail
            go_meet
            exact ⟨rfl, TZ, XZ.out⟩
          · skip
            have T30 : S (x2.alloc (.cells #[.int .u8 5, .int .i64 16, .int .i64 3, .int .u8 8, .int .i64 8, .int .i64 3] 61)) := HS.out _ (X2.out.base.alloc X2.out.base.size _)
            refine op_run rfl (by kernel_rfl) (by go_simp; first | done | exact ⟨rfl, rfl⟩ | rfl) ?_
            refine ⟨T30, ?_⟩
            simp only [List.getElem_toArray, List.getElem_cons_succ, List.getElem_cons_zero, Act.put, List.setIfInBounds_toArray, List.set_cons_zero, List.set_cons_succ]
            have hb0 : Below x2.heap.size x2 (x2.alloc (.cells #[.int .u8 5, .int .i64 16, .int .i64 3, .int .u8 8, .int .i64 8, .int .i64 3] 61)) := (Below.refl _ _).alloc (Nat.le_refl _) _
            have hl0 : RunsRd (x2.alloc (.cells #[.int .u8 5, .int .i64 16, .int .i64 3, .int .u8 8, .int .i64 8, .int .i64 3] 61)) (.slice (some ⟨x2.heap.size, 0, none⟩) 2 2) [⟨5, 16, 3⟩, ⟨8, 8, 3⟩] := lit_rd [⟨5, 16, 3⟩, ⟨8, 8, 3⟩] x2 (by decide)
            obtain ⟨x3, hw0⟩ : ∃ x3, x3 = (x2.alloc (.cells #[.int .u8 5, .int .i64 16, .int .i64 3, .int .u8 8, .int .i64 8, .int .i64 3] 61)) := ⟨_, rfl⟩
            obtain ⟨y15, hu0⟩ : ∃ y15, y15 = Value.slice (some ⟨x2.heap.size, 0, none⟩) 2 2 := ⟨_, rfl⟩
            rw [← hw0] at T30 hb0 hl0
            rw [← hu0] at hl0
            rw [← hw0, ← hu0]
            have FC3 := Lib.hid hl0
            have X3 := Lib.hid (X2.out.below hb0)
            have FB3 := Lib.hid (Sl.grow FB2.out hb0)
            have FA3 := Lib.hid (Sl.grow FA2.out hb0)
            have T3 := T30
            clear hw0 hu0 hb0 hl0 T30 X2 FB2 FA2
            refine hd_one 10 (by kernel_rfl) ?_
            refine op_call rfl (by kernel_rfl) (by go_simp; first | exact ⟨rfl, rfl⟩ | rfl) ?_
            refine (join_any _ _ [⟨5, 16, 2⟩, ⟨8, 8, 0⟩] [⟨5, 16, 1⟩, ⟨8, 8, 3⟩] x3 FA3.out FB3.out (by unfold okC; decide) (by unfold okC; decide) (by decide)).mono ?_
            rintro e x4 ⟨vj, rfl, q1, hb0, _⟩
            have h5 := Env.below X3.out hb0
            have hS2 : S x4 := HS.out x4 h5.base
            have q2 := Knd.O.rd q1
            rw [ledgerNames.joined] at q2
            have FJ4 := Lib.hid q2
            have FC4 := Lib.hid (Sl.grow FC3.out hb0)
            have X4 := Lib.hid h5
            have T4 := hS2
            clear h5 q1 q2 hb0
            refine ⟨_, rfl, hS2, ?_⟩
            simp only [List.getElem_toArray, List.getElem_cons_succ, List.getElem_cons_zero, Act.put, List.setIfInBounds_toArray, List.set_cons_zero, List.set_cons_succ]
            refine hd_one 16 (by kernel_rfl) ?_
            refine op_call rfl (by kernel_rfl) (by go_simp; first | exact ⟨rfl, rfl⟩ | rfl) ?_
            refine (sameRuns_env' X4.out FJ4.out FC4.out).mono ?_
            rintro e xz ⟨he, h5⟩
            have hS2 : S xz := HS.out xz h5.base
            rw [show (decide (([⟨5, 16, 3⟩, ⟨8, 8, 3⟩] : List Rn) = [⟨5, 16, 3⟩, ⟨8, 8, 3⟩])) = true from by decide] at he
            subst he
            have XZ := Lib.hid h5
            have TZ := hS2
            clear h5
            refine ⟨_, rfl, hS2, ?_⟩
            simp only [List.getElem_toArray, List.getElem_cons_succ, List.getElem_cons_zero, Act.put, List.setIfInBounds_toArray, List.set_cons_zero, List.set_cons_succ]
            refine hd_one 17 (by kernel_rfl) ?_
            refine op_run rfl (by kernel_rfl) (by go_simp; first | done | exact ⟨rfl, rfl⟩ | rfl) ?_
            refine ⟨TZ, ?_⟩
            simp only [List.getElem_toArray, List.getElem_cons_succ, List.getElem_cons_zero, Act.put, List.setIfInBounds_toArray, List.set_cons_zero, List.set_cons_succ]
            refine hd_done (by kernel_rfl) ?_
            go_wp2_with fail
            go_meet
            exact ⟨rfl, TZ, XZ.out⟩
        · skip
          have T20 : S (x1.alloc (.cells #[.int .u8 5, .int .i64 16, .int .i64 3, .int .u8 8, .int .i64 8, .int .i64 3] 61)) := HS.out _ (X1.out.base.alloc X1.out.base.size _)
          refine op_run rfl (by kernel_rfl) (by go_simp; first | done | exact ⟨rfl, rfl⟩ | rfl) ?_
          refine ⟨T20, ?_⟩
          simp only [List.getElem_toArray, List.getElem_cons_succ, List.getElem_cons_zero, Act.put, List.setIfInBounds_toArray, List.set_cons_zero, List.set_cons_succ]
          have hb0 : Below x1.heap.size x1 (x1.alloc (.cells #[.int .u8 5, .int .i64 16, .int .i64 3, .int .u8 8, .int .i64 8, .int .i64 3] 61)) := (Below.refl _ _).alloc (Nat.le_refl _) _
          have hl0 : RunsRd (x1.alloc (.cells #[.int .u8 5, .int .i64 16, .int .i64 3, .int .u8 8, .int .i64 8, .int .i64 3] 61)) (.slice (some ⟨x1.heap.size, 0, none⟩) 2 2) [⟨5, 16, 3⟩, ⟨8, 8, 3⟩] := lit_rd [⟨5, 16, 3⟩, ⟨8, 8, 3⟩] x1 (by decide)
          obtain ⟨x2, hw0⟩ : ∃ x2, x2 = (x1.alloc (.cells #[.int .u8 5, .int .i64 16, .int .i64 3, .int .u8 8, .int .i64 8, .int .i64 3] 61)) := ⟨_, rfl⟩
          obtain ⟨y15, hu0⟩ : ∃ y15, y15 = Value.slice (some ⟨x1.heap.size, 0, none⟩) 2 2 := ⟨_, rfl⟩
          rw [← hw0] at T20 hb0 hl0
          rw [← hu0] at hl0
          rw [← hw0, ← hu0]
          have FC2 := Lib.hid hl0
          have X2 := Lib.hid (X1.out.below hb0)
          have FB2 := Lib.hid (Sl.grow FB1.out hb0)
          have T2 := T20
          clear hw0 hu0 hb0 hl0 T20 X1 FB1
          refine hd_one 4 (by kernel_rfl) ?_
          have T30 : S (x2.alloc (.cells #[.int .u8 5, .int .i64 16, .int .i64 2, .int .u8 8, .int .i64 8, .int .i64 0] 61)) := HS.out _ (X2.out.base.alloc X2.out.base.size _)
          refine op_run rfl (by kernel_rfl) (by go_simp; first | done | exact ⟨rfl, rfl⟩ | rfl) ?_
          refine ⟨T30, ?_⟩
          simp only [List.getElem_toArray, List.getElem_cons_succ, List.getElem_cons_zero, Act.put, List.setIfInBounds_toArray, List.set_cons_zero, List.set_cons_succ]
          have hb0 : Below x2.heap.size x2 (x2.alloc (.cells #[.int .u8 5, .int .i64 16, .int .i64 2, .int .u8 8, .int .i64 8, .int .i64 0] 61)) := (Below.refl _ _).alloc (Nat.le_refl _) _
          have hl0 : RunsRd (x2.alloc (.cells #[.int .u8 5, .int .i64 16, .int .i64 2, .int .u8 8, .int .i64 8, .int .i64 0] 61)) (.slice (some ⟨x2.heap.size, 0, none⟩) 2 2) [⟨5, 16, 2⟩, ⟨8, 8, 0⟩] := lit_rd [⟨5, 16, 2⟩, ⟨8, 8, 0⟩] x2 (by decide)
          obtain ⟨x3, hw0⟩ : ∃ x3, x3 = (x2.alloc (.cells #[.int .u8 5, .int .i64 16, .int .i64 2, .int .u8 8, .int .i64 8, .int .i64 0] 61)) := ⟨_, rfl⟩
          obtain ⟨y4, hu0⟩ : ∃ y4, y4 = Value.slice (some ⟨x2.heap.size, 0, none⟩) 2 2 := ⟨_, rfl⟩
          rw [← hw0] at T30 hb0 hl0
          rw [← hu0] at hl0
          rw [← hw0, ← hu0]
          have FA3 := Lib.hid hl0
          have X3 := Lib.hid (X2.out.below hb0)
          have FB3 := Lib.hid (Sl.grow FB2.out hb0)
          have FC3 := Lib.hid (Sl.grow FC2.out hb0)
          have T3 := T30
          clear hw0 hu0 hb0 hl0 T30 X2 FB2 FC2
          refine hd_one 10 (by kernel_rfl) ?_
          refine op_call rfl (by kernel_rfl) (by go_simp; first | exact ⟨rfl, rfl⟩ | rfl) ?_
          refine (join_any _ _ [⟨5, 16, 2⟩, ⟨8, 8, 0⟩] [⟨5, 16, 1⟩, ⟨8, 8, 3⟩] x3 FA3.out FB3.out (by unfold okC; decide) (by unfold okC; decide) (by decide)).mono ?_
          rintro e x4 ⟨vj, rfl, q1, hb0, _⟩
          have h5 := Env.below X3.out hb0
          have hS2 : S x4 := HS.out x4 h5.base
          have q2 := Knd.O.rd q1
          rw [ledgerNames.joined] at q2
          have FJ4 := Lib.hid q2
          have FC4 := Lib.hid (Sl.grow FC3.out hb0)
          have X4 := Lib.hid h5
          have T4 := hS2
          clear h5 q1 q2 hb0
          refine ⟨_, rfl, hS2, ?_⟩
          simp only [List.getElem_toArray, List.getElem_cons_succ, List.getElem_cons_zero, Act.put, List.setIfInBounds_toArray, List.set_cons_zero, List.set_cons_succ]
          refine hd_one 16 (by kernel_rfl) ?_
          refine op_call rfl (by kernel_rfl) (by go_simp; first | exact ⟨rfl, rfl⟩ | rfl) ?_
          refine (sameRuns_env' X4.out FJ4.out FC4.out).mono ?_
          rintro e xz ⟨he, h5⟩
          have hS2 : S xz := HS.out xz h5.base
          rw [show (decide (([⟨5, 16, 3⟩, ⟨8, 8, 3⟩] : List Rn) = [⟨5, 16, 3⟩, ⟨8, 8, 3⟩])) = true from by decide] at he
          subst he
          have XZ := Lib.hid h5
          have TZ := hS2
          clear h5
          refine ⟨_, rfl, hS2, ?_⟩
          simp only [List.getElem_toArray, List.getElem_cons_succ, List.getElem_cons_zero, Act.put, List.setIfInBounds_toArray, List.set_cons_zero, List.set_cons_succ]
          refine hd_one 17 (by kernel_rfl) ?_
          refine op_run rfl (by kernel_rfl) (by go_simp; first | done | exact ⟨rfl, rfl⟩ | rfl) ?_
          refine ⟨TZ, ?_⟩
          simp only [List.getElem_toArray, List.getElem_cons_succ, List.getElem_cons_zero, Act.put, List.setIfInBounds_toArray, List.set_cons_zero, List.set_cons_succ]
          refine hd_done (by kernel_rfl) ?_
          go_wp2_with fail
          go_meet
          exact ⟨rfl, TZ, XZ.out⟩
      · skip
        have T10 : S (x0.alloc (.cells #[.int .u8 5, .int .i64 16, .int .i64 3, .int .u8 8, .int .i64 8, .int .i64 3] 61)) := HS.out _ (X0.out.base.alloc X0.out.base.size _)
        refine op_run rfl (by kernel_rfl) (by go_simp; first | done | exact ⟨rfl, rfl⟩ | rfl) ?_
        refine ⟨T10, ?_⟩
        simp only [List.getElem_toArray, List.getElem_cons_succ, List.getElem_cons_zero, Act.put, List.setIfInBounds_toArray, List.set_cons_zero, List.set_cons_succ]
        have hb0 : Below x0.heap.size x0 (x0.alloc (.cells #[.int .u8 5, .int .i64 16, .int .i64 3, .int .u8 8, .int .i64 8, .int .i64 3] 61)) := (Below.refl _ _).alloc (Nat.le_refl _) _
        have hl0 : RunsRd (x0.alloc (.cells #[.int .u8 5, .int .i64 16, .int .i64 3, .int .u8 8, .int .i64 8, .int .i64 3] 61)) (.slice (some ⟨x0.heap.size, 0, none⟩) 2 2) [⟨5, 16, 3⟩, ⟨8, 8, 3⟩] := lit_rd [⟨5, 16, 3⟩, ⟨8, 8, 3⟩] x0 (by decide)
        obtain ⟨x1, hw0⟩ : ∃ x1, x1 = (x0.alloc (.cells #[.int .u8 5, .int .i64 16, .int .i64 3, .int .u8 8, .int .i64 8, .int .i64 3] 61)) := ⟨_, rfl⟩
        obtain ⟨y15, hu0⟩ : ∃ y15, y15 = Value.slice (some ⟨x0.heap.size, 0, none⟩) 2 2 := ⟨_, rfl⟩
        rw [← hw0] at T10 hb0 hl0
        rw [← hu0] at hl0
        rw [← hw0, ← hu0]
        have FC1 := Lib.hid hl0
        have X1 := Lib.hid (X0.out.below hb0)
        have T1 := T10
        clear hw0 hu0 hb0 hl0 T10 X0
        refine hd_two 4 9 (by kernel_rfl) ?_ ?_
        · skip
          have T20 : S (x1.alloc (.cells #[.int .u8 5, .int .i64 16, .int .i64 2, .int .u8 8, .int .i64 8, .int .i64 0] 61)) := HS.out _ (X1.out.base.alloc X1.out.base.size _)
          refine op_run rfl (by kernel_rfl) (by go_simp; first | done | exact ⟨rfl, rfl⟩ | rfl) ?_
          refine ⟨T20, ?_⟩
          simp only [List.getElem_toArray, List.getElem_cons_succ, List.getElem_cons_zero, Act.put, List.setIfInBounds_toArray, List.set_cons_zero, List.set_cons_succ]
          have hb0 : Below x1.heap.size x1 (x1.alloc (.cells #[.int .u8 5, .int .i64 16, .int .i64 2, .int .u8 8, .int .i64 8, .int .i64 0] 61)) := (Below.refl _ _).alloc (Nat.le_refl _) _
          have hl0 : RunsRd (x1.alloc (.cells #[.int .u8 5, .int .i64 16, .int .i64 2, .int .u8 8, .int .i64 8, .int .i64 0] 61)) (.slice (some ⟨x1.heap.size, 0, none⟩) 2 2) [⟨5, 16, 2⟩, ⟨8, 8, 0⟩] := lit_rd [⟨5, 16, 2⟩, ⟨8, 8, 0⟩] x1 (by decide)
          obtain ⟨x2, hw0⟩ : ∃ x2, x2 = (x1.alloc (.cells #[.int .u8 5, .int .i64 16, .int .i64 2, .int .u8 8, .int .i64 8, .int .i64 0] 61)) := ⟨_, rfl⟩
          obtain ⟨y4, hu0⟩ : ∃ y4, y4 = Value.slice (some ⟨x1.heap.size, 0, none⟩) 2 2 := ⟨_, rfl⟩
          rw [← hw0] at T20 hb0 hl0
          rw [← hu0] at hl0
          rw [← hw0, ← hu0]
          have FA2 := Lib.hid hl0
          have X2 := Lib.hid (X1.out.below hb0)
          have FC2 := Lib.hid (Sl.grow FC1.out hb0)
          have T2 := T20
          clear hw0 hu0 hb0 hl0 T20 X1 FC1
          refine hd_one 9 (by kernel_rfl) ?_
          have T30 : S (x2.alloc (.cells #[.int .u8 5, .int .i64 16, .int .i64 1, .int .u8 8, .int .i64 8, .int .i64 3] 61)) := HS.out _ (X2.out.base.alloc X2.out.base.size _)
          refine op_run rfl (by kernel_rfl) (by go_simp; first | done | exact ⟨rfl, rfl⟩ | rfl) ?_
          refine ⟨T30, ?_⟩
          simp only [List.getElem_toArray, List.getElem_cons_succ, List.getElem_cons_zero, Act.put, List.setIfInBounds_toArray, List.set_cons_zero, List.set_cons_succ]
          have hb0 : Below x2.heap.size x2 (x2.alloc (.cells #[.int .u8 5, .int .i64 16, .int .i64 1, .int .u8 8, .int .i64 8, .int .i64 3] 61)) := (Below.refl _ _).alloc (Nat.le_refl _) _
          have hl0 : RunsRd (x2.alloc (.cells #[.int .u8 5, .int .i64 16, .int .i64 1, .int .u8 8, .int .i64 8, .int .i64 3] 61)) (.slice (some ⟨x2.heap.size, 0, none⟩) 2 2) [⟨5, 16, 1⟩, ⟨8, 8, 3⟩] := lit_rd [⟨5, 16, 1⟩, ⟨8, 8, 3⟩] x2 (by decide)
          obtain ⟨x3, hw0⟩ : ∃ x3, x3 = (x2.alloc (.cells #[.int .u8 5, .int .i64 16, .int .i64 1, .int .u8 8, .int .i64 8, .int .i64 3] 61)) := ⟨_, rfl⟩
          obtain ⟨y9, hu0⟩ : ∃ y9, y9 = Value.slice (some ⟨x2.heap.size, 0, none⟩) 2 2 := ⟨_, rfl⟩
          rw [← hw0] at T30 hb0 hl0
          rw [← hu0] at hl0
          rw [← hw0, ← hu0]
          have FB3 := Lib.hid hl0
          have X3 := Lib.hid (X2.out.below hb0)
          have FC3 := Lib.hid (Sl.grow FC2.out hb0)
          have FA3 := Lib.hid (Sl.grow FA2.out hb0)
          have T3 := T30
          clear hw0 hu0 hb0 hl0 T30 X2 FC2 FA2
          refine hd_one 10 (by kernel_rfl) ?_
          refine op_call rfl (by kernel_rfl) (by go_simp; first | exact ⟨rfl, rfl⟩ | rfl) ?_
          refine (join_any _ _ [⟨5, 16, 2⟩, ⟨8, 8, 0⟩] [⟨5, 16, 1⟩, ⟨8, 8, 3⟩] x3 FA3.out FB3.out (by unfold okC; decide) (by unfold okC; decide) (by decide)).mono ?_
          rintro e x4 ⟨vj, rfl, q1, hb0, _⟩
          have h5 := Env.below X3.out hb0
          have hS2 : S x4 := HS.out x4 h5.base
          have q2 := Knd.O.rd q1
          rw [ledgerNames.joined] at q2
          have FJ4 := Lib.hid q2
          have FC4 := Lib.hid (Sl.grow FC3.out hb0)
          have X4 := Lib.hid h5
          have T4 := hS2
          clear h5 q1 q2 hb0
          refine ⟨_, rfl, hS2, ?_⟩
          simp only [List.getElem_toArray, List.getElem_cons_succ, List.getElem_cons_zero, Act.put, List.setIfInBounds_toArray, List.set_cons_zero, List.set_cons_succ]
          refine hd_one 16 (by kernel_rfl) ?_
          refine op_call rfl (by kernel_rfl) (by go_simp; first | exact ⟨rfl, rfl⟩ | rfl) ?_
          refine (sameRuns_env' X4.out FJ4.out FC4.out).mono ?_
          rintro e xz ⟨he, h5⟩
          have hS2 : S xz := HS.out xz h5.base
          rw [show (decide (([⟨5, 16, 3⟩, ⟨8, 8, 3⟩] : List Rn) = [⟨5, 16, 3⟩, ⟨8, 8, 3⟩])) = true from by decide] at he
          subst he
          have XZ := Lib.hid h5
          have TZ := hS2
          clear h5
          refine ⟨_, rfl, hS2, ?_⟩
          simp only [List.getElem_toArray, List.getElem_cons_succ, List.getElem_cons_zero, Act.put, List.setIfInBounds_toArray, List.set_cons_zero, List.set_cons_succ]
          refine hd_one 17 (by kernel_rfl) ?_
          refine op_run rfl (by kernel_rfl) (by go_simp; first | done | exact ⟨rfl, rfl⟩ | rfl) ?_
          refine ⟨TZ, ?_⟩
          simp only [List.getElem_toArray, List.getElem_cons_succ, List.getElem_cons_zero, Act.put, List.setIfInBounds_toArray, List.set_cons_zero, List.set_cons_succ]
          refine hd_done (by kernel_rfl) ?_
          go_wp2_with fail
          go_meet
          exact ⟨rfl, TZ, XZ.out⟩
        · skip
          have T20 : S (x1.alloc (.cells #[.int .u8 5, .int .i64 16, .int .i64 1, .int .u8 8, .int .i64 8, .int .i64 3] 61)) := HS.out _ (X1.out.base.alloc X1.out.base.size _)
          refine op_run rfl (by kernel_rfl) (by go_simp; first | done | exact ⟨rfl, rfl⟩ | rfl) ?_
          refine ⟨T20, ?_⟩
          simp only [List.getElem_toArray, List.getElem_cons_succ, List.getElem_cons_zero, Act.put, List.setIfInBounds_toArray, List.set_cons_zero, List.set_cons_succ]
          have hb0 : Below x1.heap.size x1 (x1.alloc (.cells #[.int .u8 5, .int .i64 16, .int .i64 1, .int .u8 8, .int .i64 8, .int .i64 3] 61)) := (Below.refl _ _).alloc (Nat.le_refl _) _
          have hl0 : RunsRd (x1.alloc (.cells #[.int .u8 5, .int .i64 16, .int .i64 1, .int .u8 8, .int .i64 8, .int .i64 3] 61)) (.slice (some ⟨x1.heap.size, 0, none⟩) 2 2) [⟨5, 16, 1⟩, ⟨8, 8, 3⟩] := lit_rd [⟨5, 16, 1⟩, ⟨8, 8, 3⟩] x1 (by decide)
          obtain ⟨x2, hw0⟩ : ∃ x2, x2 = (x1.alloc (.cells #[.int .u8 5, .int .i64 16, .int .i64 1, .int .u8 8, .int .i64 8, .int .i64 3] 61)) := ⟨_, rfl⟩
          obtain ⟨y9, hu0⟩ : ∃ y9, y9 = Value.slice (some ⟨x1.heap.size, 0, none⟩) 2 2 := ⟨_, rfl⟩
          rw [← hw0] at T20 hb0 hl0
          rw [← hu0] at hl0
          rw [← hw0, ← hu0]
          have FB2 := Lib.hid hl0
          have X2 := Lib.hid (X1.out.below hb0)
          have FC2 := Lib.hid (Sl.grow FC1.out hb0)
          have T2 := T20
          clear hw0 hu0 hb0 hl0 T20 X1 FC1
          refine hd_one 4 (by kernel_rfl) ?_
          have T30 : S (x2.alloc (.cells #[.int .u8 5, .int .i64 16, .int .i64 2, .int .u8 8, .int .i64 8, .int .i64 0] 61)) := HS.out _ (X2.out.base.alloc X2.out.base.size _)
          refine op_run rfl (by kernel_rfl) (by go_simp; first | done | exact ⟨rfl, rfl⟩ | rfl) ?_
          refine ⟨T30, ?_⟩
          simp only [List.getElem_toArray, List.getElem_cons_succ, List.getElem_cons_zero, Act.put, List.setIfInBounds_toArray, List.set_cons_zero, List.set_cons_succ]
          have hb0 : Below x2.heap.size x2 (x2.alloc (.cells #[.int .u8 5, .int .i64 16, .int .i64 2, .int .u8 8, .int .i64 8, .int .i64 0] 61)) := (Below.refl _ _).alloc (Nat.le_refl _) _
          have hl0 : RunsRd (x2.alloc (.cells #[.int .u8 5, .int .i64 16, .int .i64 2, .int .u8 8, .int .i64 8, .int .i64 0] 61)) (.slice (some ⟨x2.heap.size, 0, none⟩) 2 2) [⟨5, 16, 2⟩, ⟨8, 8, 0⟩] := lit_rd [⟨5, 16, 2⟩, ⟨8, 8, 0⟩] x2 (by decide)
          obtain ⟨x3, hw0⟩ : ∃ x3, x3 = (x2.alloc (.cells #[.int .u8 5, .int .i64 16, .int .i64 2, .int .u8 8, .int .i64 8, .int .i64 0] 61)) := ⟨_, rfl⟩
          obtain ⟨y4, hu0⟩ : ∃ y4, y4 = Value.slice (some ⟨x2.heap.size, 0, none⟩) 2 2 := ⟨_, rfl⟩
          rw [← hw0] at T30 hb0 hl0
          rw [← hu0] at hl0
          rw [← hw0, ← hu0]
          have FA3 := Lib.hid hl0
          have X3 := Lib.hid (X2.out.below hb0)
          have FC3 := Lib.hid (Sl.grow FC2.out hb0)
          have FB3 := Lib.hid (Sl.grow FB2.out hb0)
          have T3 := T30
          clear hw0 hu0 hb0 hl0 T30 X2 FC2 FB2
          refine hd_one 10 (by kernel_rfl) ?_
          refine op_call rfl (by kernel_rfl) (by go_simp; first | exact ⟨rfl, rfl⟩ | rfl) ?_
          refine (join_any _ _ [⟨5, 16, 2⟩, ⟨8, 8, 0⟩] [⟨5, 16, 1⟩, ⟨8, 8, 3⟩] x3 FA3.out FB3.out (by unfold okC; decide) (by unfold okC; decide) (by decide)).mono ?_
          rintro e x4 ⟨vj, rfl, q1, hb0, _⟩
          have h5 := Env.below X3.out hb0
          have hS2 : S x4 := HS.out x4 h5.base
          have q2 := Knd.O.rd q1
          rw [ledgerNames.joined] at q2
          have FJ4 := Lib.hid q2
          have FC4 := Lib.hid (Sl.grow FC3.out hb0)
          have X4 := Lib.hid h5
          have T4 := hS2
          clear h5 q1 q2 hb0
          refine ⟨_, rfl, hS2, ?_⟩
          simp only [List.getElem_toArray, List.getElem_cons_succ, List.getElem_cons_zero, Act.put, List.setIfInBounds_toArray, List.set_cons_zero, List.set_cons_succ]
          refine hd_one 16 (by kernel_rfl) ?_
          refine op_call rfl (by kernel_rfl) (by go_simp; first | exact ⟨rfl, rfl⟩ | rfl) ?_
          refine (sameRuns_env' X4.out FJ4.out FC4.out).mono ?_
          rintro e xz ⟨he, h5⟩
          have hS2 : S xz := HS.out xz h5.base
          rw [show (decide (([⟨5, 16, 3⟩, ⟨8, 8, 3⟩] : List Rn) = [⟨5, 16, 3⟩, ⟨8, 8, 3⟩])) = true from by decide] at he
          subst he
          have XZ := Lib.hid h5
          have TZ := hS2
          clear h5
          refine ⟨_, rfl, hS2, ?_⟩
          simp only [List.getElem_toArray, List.getElem_cons_succ, List.getElem_cons_zero, Act.put, List.setIfInBounds_toArray, List.set_cons_zero, List.set_cons_succ]
          refine hd_one 17 (by kernel_rfl) ?_
          refine op_run rfl (by kernel_rfl) (by go_simp; first | done | exact ⟨rfl, rfl⟩ | rfl) ?_
          refine ⟨TZ, ?_⟩
          simp only [List.getElem_toArray, List.getElem_cons_succ, List.getElem_cons_zero, Act.put, List.setIfInBounds_toArray, List.set_cons_zero, List.set_cons_succ]
          refine hd_done (by kernel_rfl) ?_
          go_wp2_with fail
          go_meet
          exact ⟨rfl, TZ, XZ.out⟩
    case rest =>
      obtain ⟨rfl, SC, HC0⟩ := hcut
      have HC := Lib.hid HC0
      clear HC0 H8
      have a1 := FA1 wc (HS.out wc HC.out.base)
      have a2 := FA2 wc (HS.out wc HC.out.base)
      have b1 := FB1 wc (HS.out wc HC.out.base)
      have b2 := FB2 wc (HS.out wc HC.out.base)
      go_wp2_with fail
      refine (check_any _ [⟨5, 16, 2⟩, ⟨5, 16, 1⟩] _ (lit_rd [⟨5, 16, 2⟩, ⟨5, 16, 1⟩] wc (by decide))).mono ?_
      rintro e w9 ⟨he, hb⟩
      rw [show chkL [⟨5, 16, 2⟩, ⟨5, 16, 1⟩] = 120 from by decide] at he
      subst he
      have H9 := Lib.hid (Env.below (HC.out.below ((Below.refl _ _).alloc (Nat.le_refl _) (.cells #[.int .u8 5, .int .i64 16, .int .i64 2, .int .u8 5, .int .i64 16, .int .i64 1] 61))) hb)
      clear hb HC a1 a2 b1 b2
      have a1 := FA1 w9 (HS.out w9 H9.out.base)
      have a2 := FA2 w9 (HS.out w9 H9.out.base)
      have b1 := FB1 w9 (HS.out w9 H9.out.base)
      have b2 := FB2 w9 (HS.out w9 H9.out.base)
      go_wp2_with fail
      refine (check_any _ [⟨5, 16, 0⟩] _ (lit_rd [⟨5, 16, 0⟩] w9 (by decide))).mono ?_
      rintro e w10 ⟨he, hb⟩
      rw [show chkL [⟨5, 16, 0⟩] = 120 from by decide] at he
      subst he
      have H10 := Lib.hid (Env.below (H9.out.below ((Below.refl _ _).alloc (Nat.le_refl _) (.cells #[.int .u8 5, .int .i64 16, .int .i64 0] 61))) hb)
      clear hb H9 a1 a2 b1 b2
      have a1 := FA1 w10 (HS.out w10 H10.out.base)
      have a2 := FA2 w10 (HS.out w10 H10.out.base)
      have b1 := FB1 w10 (HS.out w10 H10.out.base)
      have b2 := FB2 w10 (HS.out w10 H10.out.base)
      go_wp2_with fail
      refine (check_any _ [] _ (Sl.nil _ _)).mono ?_
      rintro e w11 ⟨he, hb⟩
      rw [show chkL [] = 0 from by decide] at he
      subst he
      have H11 := Lib.hid (Env.below H10.out hb)
      clear hb H10 a1 a2 b1 b2
      have a1 := FA1 w11 (HS.out w11 H11.out.base)
      have a2 := FA2 w11 (HS.out w11 H11.out.base)
      have b1 := FB1 w11 (HS.out w11 H11.out.base)
      have b2 := FB2 w11 (HS.out w11 H11.out.base)
      go_wp2_with fail
      refine (total_any _ [⟨5, 16, 2⟩, ⟨8, 8, (-3)⟩, ⟨8, 8, 1⟩] _ (lit_rd [⟨5, 16, 2⟩, ⟨8, 8, (-3)⟩, ⟨8, 8, 1⟩] w11 (by decide)) (by unfold okC; decide)).mono ?_
      rintro e w12 ⟨he, hb⟩
      rw [show totL [⟨5, 16, 2⟩, ⟨8, 8, (-3)⟩, ⟨8, 8, 1⟩] = 3 from by decide] at he
      subst he
      have H12 := Lib.hid (Env.below (H11.out.below ((Below.refl _ _).alloc (Nat.le_refl _) (.cells #[.int .u8 5, .int .i64 16, .int .i64 2, .int .u8 8, .int .i64 8, .int .i64 (-3), .int .u8 8, .int .i64 8, .int .i64 1] 61))) hb)
      clear hb H11 a1 a2 b1 b2
      have a1 := FA1 w12 (HS.out w12 H12.out.base)
      have a2 := FA2 w12 (HS.out w12 H12.out.base)
      have b1 := FB1 w12 (HS.out w12 H12.out.base)
      have b2 := FB2 w12 (HS.out w12 H12.out.base)
      go_wp2_with fail
      refine (total_any _ [⟨5, 16, 9223372036854775807⟩, ⟨8, 8, 1⟩] _ (lit_rd [⟨5, 16, 9223372036854775807⟩, ⟨8, 8, 1⟩] w12 (by decide)) (by unfold okC; decide)).mono ?_
      rintro e w13 ⟨he, hb⟩
      rw [show totL [⟨5, 16, 9223372036854775807⟩, ⟨8, 8, 1⟩] = 9223372036854775807 from by decide] at he
      subst he
      have H13 := Lib.hid (Env.below (H12.out.below ((Below.refl _ _).alloc (Nat.le_refl _) (.cells #[.int .u8 5, .int .i64 16, .int .i64 9223372036854775807, .int .u8 8, .int .i64 8, .int .i64 1] 61))) hb)
      clear hb H12 a1 a2 b1 b2
      go_wp2_with fail
      refine (lives_any w13).mono ?_
      rintro e w14 ⟨rfl, hb⟩
      have H := Lib.hid (BA.out.trans ((Env.below H13.out hb).base.mono BA.out.size))
      clear HS H13 hb
      go_wp2
      go_ret
      exact ⟨rfl, H.out⟩
end Go.Proofs.Ytmdfmkdhfhbkjaa
