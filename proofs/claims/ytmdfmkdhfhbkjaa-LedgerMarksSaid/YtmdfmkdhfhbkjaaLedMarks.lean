/- The walk of LedgerMarks. -/
import Derived.Test.YtmdfmkdhfhbkjaaRows
import Derived.Test.YtmdfmkdhfhbkjaaMarksPlain
import Derived.Test.YtmdfmkdhfhbkjaaOpenNote
import Derived.Test.YtmdfmkdhfhbkjaaGone
import Derived.Test.YtmdfmkdhfhbkjaaLives
import Derived.Test.YtmdfmkdhfhbkjaaSinceEnv
namespace Go.Proofs.Ytmdfmkdhfhbkjaa
open Go.RowKit
set_option maxRecDepth 100000
set_option linter.unusedVariables false
set_option linter.unusedSimpArgs false

theorem timesO_T (a : List Rn) (x : Rn) : timesO (some a) x.k x.s x.c = some (noteT a x) := by
  unfold timesO noteT
  split
  · rfl
  · rfl
theorem noteAll_succ (a l : List Rn) (i : Nat) (x : Rn) (h : l[i]? = some x) : noteAll a (l.take (i + 1)) = noteT (noteAll a (l.take i)) x := by
  have hl : i < l.length := (List.getElem?_eq_some_iff.1 h).1
  have he : l[i] = x := (List.getElem?_eq_some_iff.1 h).2
  unfold noteAll
  rw [List.take_succ_eq_append_getElem hl, he, List.foldl_append]
  rfl
theorem noteT_bound (a : List Rn) (x : Rn) (hx : okNt x) : tot (noteT a x) ≤ tot a + 65535 ∧ (noteT a x).length ≤ a.length + 1 := by
  unfold noteT
  have h3 := hx.2.2
  split
  · exact ⟨by omega, by omega⟩
  · rw [tot_note]
    refine ⟨by omega, ?_⟩
    rcases List.eq_nil_or_concat a with rfl | ⟨r0, r, rfl⟩
    · simp [noteL]
    · rw [List.concat_eq_append]
      by_cases h : r.k = x.k ∧ r.s = x.s
      · rw [← h.1, ← h.2, noteL_same]; simp
      · rw [noteL_other _ _ _ _ _ h]; simp
theorem noteAll_bound : ∀ (l a : List Rn), (∀ x ∈ l, okNt x) → tot (noteAll a l) ≤ tot a + 65535 * l.length ∧ (noteAll a l).length ≤ a.length + l.length
  | [], a, _ => by simp [noteAll]
  | x :: l, a, h => by
    have h1 := noteT_bound a x (h x (by simp))
    have h2 := noteAll_bound l (noteT a x) (fun y hy => h y (by simp [hy]))
    show tot (noteAll (noteT a x) l) ≤ _ ∧ (noteAll (noteT a x) l).length ≤ _
    simp only [List.length_cons]
    omega
theorem noteAll_kinds : ∀ (l a : List Rn), (∀ x ∈ l, okNt x) → (∀ r ∈ a, 0 ≤ r.k ∧ r.k ≤ 255) → ∀ r ∈ noteAll a l, 0 ≤ r.k ∧ r.k ≤ 255
  | [], a, _, h => h
  | x :: l, a, h, ha => by
    show ∀ r ∈ noteAll (noteT a x) l, _
    refine noteAll_kinds l _ (fun y hy => h y (by simp [hy])) ?_
    unfold noteT
    split
    · exact ha
    · exact noteL_kinds ha _ _ _ (h x (by simp)).1
theorem okC_of {l : List Rn} (hp : Posi l) (ht : tot l ≤ 9223372036854775807) : okC l := fun r hr => by
  have h1 := hp r hr
  obtain ⟨a, b, rfl⟩ := List.append_of_mem hr
  have h2 := tot_nonneg a (fun x hx => hp x (by simp [hx]))
  have h3 := tot_nonneg b (fun x hx => hp x (by simp [hx]))
  rw [tot_append, tot_cons] at ht
  omega
/-- a note, cell by cell -/
def Nt3 (b off i : Nat) (x : Rn) (w : World) : Prop := w.cell? ⟨b, off + i * 3, none⟩ = some (.int .u8 x.k) ∧ w.cell? ⟨b, off + i * 3 + 1, none⟩ = some (.int .i64 x.s) ∧ w.cell? ⟨b, off + i * 3 + 2, none⟩ = some (.int .u16 x.c)
theorem nt3 {w : World} {ao : Option Addr} {n cap : Nat} {l : List Rn} (h : KNt.R w (.slice ao n cap) l) {i : Nat} {x : Rn} (hx : l[i]? = some x) : ∃ b off, ao = some ⟨b, off, none⟩ ∧ b < w.heap.size ∧ Nt3 b off i x w := by
  obtain ⟨b, off, h1, h2, h3⟩ := Knd.R.get h hx
  exact ⟨b, off, h1, h2, h3 0 _ rfl, by rw [Nat.add_assoc]; exact h3 1 _ rfl, by rw [Nat.add_assoc]; exact h3 2 _ rfl⟩
theorem nt3at {w : World} {b off n cap : Nat} {l : List Rn} (h : KNt.R w (.slice (some ⟨b, off, none⟩) n cap) l) {i : Nat} {x : Rn} (hx : l[i]? = some x) : Nt3 b off i x w := by
  obtain ⟨b', off', h1, _, h3⟩ := nt3 h hx
  injection h1 with h1
  injection h1 with e1 e2 _
  subst e1; subst e2
  exact h3
theorem nt_id {b off i : Nat} {x : Rn} (w : World) (h : Nt3 b off i x w) : w.cell? ⟨b, off + i * 3, none⟩ = some (.int .u8 x.k) ∧ w.cell? ⟨b, off + i * 3 + 1, none⟩ = some (.int .i64 x.s) ∧ w.cell? ⟨b, off + i * 3 + 2, none⟩ = some (.int .u16 x.c) := h
set_option maxHeartbeats 8000000 in
theorem ledgerMarks.walk {w : World} (v0 : Value) (first : List Rn) (h0 : InNt w v0 first) (v1 : Value) (more : List Rn) (h1 : InNt w v1 more) :
    Calls Try.prog 7 #[v0, v1] w fun e w' => e = .returned (.bool true) ∧ Below w.heap.size w w' := by
  obtain ⟨hr0, hk0, hl0⟩ := h0
  obtain ⟨hr1, hk1, hl1⟩ := h1
  obtain ⟨ao, cap, rfl, hac, hcm, hao⟩ := hr0.any
  obtain ⟨bo, dap, rfl, hbc, hdm, hbo⟩ := hr1.any
  have HR0 := Lib.hid hr0
  have HR1 := Lib.hid hr1
  have HK0 := Lib.hid hk0
  have HK1 := Lib.hid hk1
  clear hr0 hr1 hk0 hk1 hao hbo
  go_enter Try.func7, Try.ntmps7
  go_wp2_with fail
  refine (lives_any w).mono ?_
  rintro e w1 ⟨rfl, hb⟩
  have h5 := (Env.start w).below hb
  clear hb
  have H1 := Lib.hid h5
  clear h5
  have bl0 : first.length ≤ 9223372036854775807 := by omega
  have bl1 : more.length ≤ 9223372036854775807 := by omega
  have hsum : IntKind.i64.wrap ((first.length : Int) + (more.length : Int)) = (first.length : Int) + (more.length : Int) := IntWalk.i64_in _ (by omega)
  by_cases hlen : first.length + more.length ≤ 300
  · have t1 : decide ((300 : Int) < (first.length : Int) + (more.length : Int)) = false := by rw [decide_eq_false_iff_not]; omega
    go_wp2_with fail
    refine (newP_env' H1.out).mono ?_
    rintro e w2 ⟨l, rfl, h5⟩
    have H2 := Lib.hid h5
    clear h5 H1
    go_wp2_with fail
    refine (newP_env' H2.out).mono ?_
    rintro e w3 ⟨k, rfl, h5⟩
    have H3 := Lib.hid h5
    clear h5 H2
    have HN : Hid (first.length ≤ 300 ∧ more.length ≤ 300 ∧ first.length + more.length ≤ 300) := Lib.hid (by omega)
    go_wp2_with fail
    go_loopw [7] (fun iv wx => ∃ i : Nat, i ≤ first.length ∧ iv = .int .i64 (i : Int) ∧ Hid (Env w wx [obP l (some (noteAll [] (first.take i))), obP k (some [])])) (fun iv _ => first.length - (intOf iv).toNat)
    case atStart => exact ⟨0, Nat.zero_le _, rfl, H3⟩
    case round =>
      obtain ⟨i, hi, rfl, H⟩ := hrel
      clear H3
      by_cases hlt : i < first.length
      · obtain ⟨x, hx⟩ : ∃ x, first[i]? = some x := ⟨_, List.getElem?_eq_getElem hlt⟩
        have hxk := HK0.out x (List.mem_of_getElem? hx)
        have t2 : decide ((i : Int) < (first.length : Int)) = true := by rw [decide_eq_true_eq]; omega
        have bi : 0 ≤ (i : Int) ∧ (i : Int) < (first.length : Int) := by omega
        have hxc : IntKind.i64.wrap x.c = x.c := IntWalk.i64_in _ (by have := hxk.2.2; omega)
        have hrm : Room (some (noteAll [] (first.take i))) x.c := by
          have := noteAll_bound (first.take i) [] (fun y hy => HK0.out y (List.mem_of_mem_take hy))
          have h0 : tot [] = 0 := rfl
          have := HN.out
          have := hxk.2.2
          refine Room.some ?_ ?_ <;> simp at * <;> omega
        have HRM := Lib.hid hrm
        have HX := Lib.hid hx
        obtain ⟨b1, o1, hb1, _, _⟩ := nt3 (H.out.oldK HR0.out) hx
        subst hb1
        clear hrm hxk hx
        go_upto_region 10 with fail
        refine hd_start (Nt3 b1 o1 i x) (by kernel_rfl) ?_
        intro w4 hw'
        have H4 := Lib.hid (H.out.draw 1)
        rw [← hw'] at H4
        clear hw' H
        have S4 : Nt3 b1 o1 i x w4 := nt3at (H4.out.oldK HR0.out) HX.out
        refine hd_take (v := ?_) 0 rfl (by kernel_rfl) (fun _ _ d _ _ h => (by cases d <;> exact h)) (by kernel_rfl) S4 (fun w' hS => ?_) ?_
        rotate_left
        focus (have q0 := nt_id w' hS; clear hS; go_simp; try rfl; done)
        simp only [List.getElem_toArray, List.getElem_cons_succ, List.getElem_cons_zero, Act.put, List.setIfInBounds_toArray, List.set_cons_zero, List.set_cons_succ]
        refine hd_take (v := ?_) 1 rfl (by kernel_rfl) (fun _ _ d _ _ h => (by cases d <;> exact h)) (by kernel_rfl) S4 (fun w' hS => ?_) ?_
        rotate_left
        focus (have q0 := nt_id w' hS; clear hS; go_simp; try rfl; done)
        simp only [List.getElem_toArray, List.getElem_cons_succ, List.getElem_cons_zero, Act.put, List.setIfInBounds_toArray, List.set_cons_zero, List.set_cons_succ]
        refine hd_take (v := ?_) 2 rfl (by kernel_rfl) (fun _ _ d _ _ h => (by cases d <;> exact h)) (by kernel_rfl) S4 (fun w' hS => ?_) ?_
        rotate_left
        focus (have q0 := nt_id w' hS; clear hS; go_simp; try rfl; done)
        simp only [List.getElem_toArray, List.getElem_cons_succ, List.getElem_cons_zero, Act.put, List.setIfInBounds_toArray, List.set_cons_zero, List.set_cons_succ]
        refine hd_take (v := ?_) 3 rfl (by kernel_rfl) (fun _ _ d _ _ h => (by cases d <;> exact h)) (by kernel_rfl) S4 (fun w' hS => ?_) ?_
        rotate_left
        focus (have q0 := nt_id w' hS; clear hS; go_simp; try rfl; done)
        simp only [List.getElem_toArray, List.getElem_cons_succ, List.getElem_cons_zero, Act.put, List.setIfInBounds_toArray, List.set_cons_zero, List.set_cons_succ]
        refine hd_take (v := ?_) 4 rfl (by kernel_rfl) (fun _ _ d _ _ h => (by cases d <;> exact h)) (by kernel_rfl) S4 (fun w' hS => ?_) ?_
        rotate_left
        focus (have q0 := nt_id w' hS; clear hS; go_simp; try rfl; done)
        simp only [List.getElem_toArray, List.getElem_cons_succ, List.getElem_cons_zero, Act.put, List.setIfInBounds_toArray, List.set_cons_zero, List.set_cons_succ]
        refine hd_take (v := ?_) 5 rfl (by kernel_rfl) (fun _ _ d _ _ h => (by cases d <;> exact h)) (by kernel_rfl) S4 (fun w' hS => ?_) ?_
        rotate_left
        focus (have q0 := nt_id w' hS; clear hS; go_simp; try rfl; done)
        simp only [List.getElem_toArray, List.getElem_cons_succ, List.getElem_cons_zero, Act.put, List.setIfInBounds_toArray, List.set_cons_zero, List.set_cons_succ]
        refine hd_take (v := ?_) 6 rfl (by kernel_rfl) (fun _ _ d _ _ h => (by cases d <;> exact h)) (by kernel_rfl) S4 (fun w' hS => ?_) ?_
        rotate_left
        focus (have q0 := nt_id w' hS; clear hS; go_simp; try rfl; done)
        simp only [List.getElem_toArray, List.getElem_cons_succ, List.getElem_cons_zero, Act.put, List.setIfInBounds_toArray, List.set_cons_zero, List.set_cons_succ]
        refine hd_take (v := ?_) 7 rfl (by kernel_rfl) (fun _ _ d _ _ h => (by cases d <;> exact h)) (by kernel_rfl) S4 (fun w' hS => ?_) ?_
        rotate_left
        focus (have q0 := nt_id w' hS; clear hS; go_simp; try rfl; done)
        simp only [List.getElem_toArray, List.getElem_cons_succ, List.getElem_cons_zero, Act.put, List.setIfInBounds_toArray, List.set_cons_zero, List.set_cons_succ]
        refine hd_take (v := ?_) 8 rfl (by kernel_rfl) (fun _ _ d _ _ h => (by cases d <;> exact h)) (by kernel_rfl) S4 (fun w' hS => ?_) ?_
        rotate_left
        focus (have q0 := nt_id w' hS; clear hS; go_simp; try rfl; done)
        simp only [List.getElem_toArray, List.getElem_cons_succ, List.getElem_cons_zero, Act.put, List.setIfInBounds_toArray, List.set_cons_zero, List.set_cons_succ]
        refine hd_take (v := ?_) 9 rfl (by kernel_rfl) (fun _ _ d _ _ h => (by cases d <;> exact h)) (by kernel_rfl) S4 (fun w' hS => ?_) ?_
        rotate_left
        focus (have q0 := nt_id w' hS; clear hS; go_simp; try rfl; done)
        simp only [List.getElem_toArray, List.getElem_cons_succ, List.getElem_cons_zero, Act.put, List.setIfInBounds_toArray, List.set_cons_zero, List.set_cons_succ]
        refine hd_take (v := ?_) 10 rfl (by kernel_rfl) (fun _ _ d _ _ h => (by cases d <;> exact h)) (by kernel_rfl) S4 (fun w' hS => ?_) ?_
        rotate_left
        focus (have q0 := nt_id w' hS; clear hS; go_simp; try rfl; done)
        simp only [List.getElem_toArray, List.getElem_cons_succ, List.getElem_cons_zero, Act.put, List.setIfInBounds_toArray, List.set_cons_zero, List.set_cons_succ]
        refine hd_take (v := ?_) 11 rfl (by kernel_rfl) (fun _ _ d _ _ h => (by cases d <;> exact h)) (by kernel_rfl) S4 (fun w' hS => ?_) ?_
        rotate_left
        focus (have q0 := nt_id w' hS; clear hS; go_simp; try rfl; done)
        simp only [List.getElem_toArray, List.getElem_cons_succ, List.getElem_cons_zero, Act.put, List.setIfInBounds_toArray, List.set_cons_zero, List.set_cons_succ]
        refine hd_one 12 (by kernel_rfl) ?_
        refine op_call rfl (by kernel_rfl) (by go_simp; first | exact ⟨rfl, rfl⟩ | rfl) ?_
        refine (timesP_env H4.out 0 rfl x.k x.s x.c HRM.out).mono ?_
        rintro e w5 ⟨rfl, h5⟩
        rw [timesO_T] at h5
        have hS2 := nt3at (h5.oldK HR0.out) HX.out
        have H5 := Lib.hid h5
        clear h5 H4
        refine ⟨_, rfl, hS2, ?_⟩
        simp only [List.getElem_toArray, List.getElem_cons_succ, List.getElem_cons_zero, Act.put, List.setIfInBounds_toArray, List.set_cons_zero, List.set_cons_succ]
        clear hS2
        refine hd_done (by kernel_rfl) ?_
        have H6 : Hid (Env w w5 [obP l (some (noteAll [] (first.take (i + 1)))), obP k (some [])]) := by
          rw [noteAll_succ [] first i x HX.out]
          exact H5
        clear H5 S4
        go_wp2_with fail
        go_roundw
        case rel => exact ⟨i + 1, by omega, by go_num, H6⟩
        case measure => simp [intOf]; omega
      · obtain rfl : i = first.length := by omega
        obtain ⟨A, hA⟩ : ∃ A, noteAll [] first = A := ⟨_, rfl⟩
        have H4 : Hid (Env w wr [obP l (some A), obP k (some [])]) := by
          have := H.out
          rw [List.take_length, hA] at this
          exact Lib.hid this
        have hbA := noteAll_bound first [] HK0.out
        rw [hA] at hbA
        have h00 : tot [] = 0 := rfl
        have hnA : Nrm A := by rw [← hA]; exact Nrm.all first trivial
        have hkA : ∀ r ∈ A, 0 ≤ r.k ∧ r.k ≤ 255 := by rw [← hA]; exact noteAll_kinds first [] HK0.out (fun r hr => by cases hr)
        have hbA1 : 0 ≤ tot A ∧ tot A ≤ 65535 * 300 ∧ A.length ≤ 300 := by
          have := tot_nonneg A hnA.posi
          have := HN.out
          simp at hbA
          omega
        have HA := Lib.hid (And.intro hnA (And.intro hkA hbA1))
        clear H hA hbA h00 hnA hkA hbA1
        go_wp2_with fail
        refine (runsP_env' H4.out 0 rfl (by have := HA.out.2.2; omega)).mono ?_
        rintro e w5 ⟨wv, rfl, h5⟩
        have H5 := Lib.hid h5
        clear h5 H4
        go_wp2_with fail
        refine (markN_env H5.out 0 rfl).mono ?_
        rintro e w6 ⟨rfl, hw⟩
        subst hw
        obtain ⟨M, hM⟩ : ∃ M, tot A = M := ⟨_, rfl⟩
        rw [hM]
        have HM := Lib.hid hM
        clear hM
        have HKN0 : Hid (Env w w5 [obP l (some (noteAll A (more.take 0))), obP k (some (noteAll [] (more.take 0))), obRuns wv A]) := H5
        clear H5
        go_wp2_with fail
        go_loopw [10] (fun iv wx => ∃ i : Nat, i ≤ more.length ∧ iv = .int .i64 (i : Int) ∧ Hid (Env w wx [obP l (some (noteAll A (more.take i))), obP k (some (noteAll [] (more.take i))), obRuns wv A])) (fun iv _ => more.length - (intOf iv).toNat)
        case atStart => exact ⟨0, Nat.zero_le _, rfl, HKN0⟩
        case round =>
          obtain ⟨i, hi, rfl, H⟩ := hrel
          clear HKN0
          by_cases hlt : i < more.length
          · obtain ⟨x, hx⟩ : ∃ x, more[i]? = some x := ⟨_, List.getElem?_eq_getElem hlt⟩
            have hxk := HK1.out x (List.mem_of_getElem? hx)
            have t2 : decide ((i : Int) < (more.length : Int)) = true := by rw [decide_eq_true_eq]; omega
            have bi : 0 ≤ (i : Int) ∧ (i : Int) < (more.length : Int) := by omega
            have hxc : IntKind.i64.wrap x.c = x.c := IntWalk.i64_in _ (by have := hxk.2.2; omega)
            have hrm : Room (some (noteAll A (more.take i))) x.c := by
              have := noteAll_bound (more.take i) A (fun y hy => HK1.out y (List.mem_of_mem_take hy))
              have := HA.out.2.2
              have := HN.out
              have := hxk.2.2
              refine Room.some ?_ ?_ <;> simp at * <;> omega
            have hrk : Room (some (noteAll [] (more.take i))) x.c := by
              have := noteAll_bound (more.take i) [] (fun y hy => HK1.out y (List.mem_of_mem_take hy))
              have h0 : tot [] = 0 := rfl
              have := HN.out
              have := hxk.2.2
              refine Room.some ?_ ?_ <;> simp at * <;> omega
            have HRM := Lib.hid (And.intro hrm hrk)
            have HX := Lib.hid hx
            obtain ⟨b1, o1, hb1, _, _⟩ := nt3 (H.out.oldK HR1.out) hx
            subst hb1
            clear hrm hrk hxk hx
            --[two
            go_upto_region 16 with fail
            refine hd_start (Nt3 b1 o1 i x) (by kernel_rfl) ?_
            intro w4 hw'
            have H4 := Lib.hid (H.out.draw 1)
            rw [← hw'] at H4
            clear hw' H
            have S4 : Nt3 b1 o1 i x w4 := nt3at (H4.out.oldK HR1.out) HX.out
            refine hd_take (v := ?_) 0 rfl (by kernel_rfl) (fun _ _ d _ _ h => (by cases d <;> exact h)) (by kernel_rfl) S4 (fun w' hS => ?_) ?_
            rotate_left
            focus (have q0 := nt_id w' hS; clear hS; go_simp; try rfl; done)
            simp only [List.getElem_toArray, List.getElem_cons_succ, List.getElem_cons_zero, Act.put, List.setIfInBounds_toArray, List.set_cons_zero, List.set_cons_succ]
            refine hd_take (v := ?_) 1 rfl (by kernel_rfl) (fun _ _ d _ _ h => (by cases d <;> exact h)) (by kernel_rfl) S4 (fun w' hS => ?_) ?_
            rotate_left
            focus (have q0 := nt_id w' hS; clear hS; go_simp; try rfl; done)
            simp only [List.getElem_toArray, List.getElem_cons_succ, List.getElem_cons_zero, Act.put, List.setIfInBounds_toArray, List.set_cons_zero, List.set_cons_succ]
            refine hd_take (v := ?_) 2 rfl (by kernel_rfl) (fun _ _ d _ _ h => (by cases d <;> exact h)) (by kernel_rfl) S4 (fun w' hS => ?_) ?_
            rotate_left
            focus (have q0 := nt_id w' hS; clear hS; go_simp; try rfl; done)
            simp only [List.getElem_toArray, List.getElem_cons_succ, List.getElem_cons_zero, Act.put, List.setIfInBounds_toArray, List.set_cons_zero, List.set_cons_succ]
            refine hd_take (v := ?_) 3 rfl (by kernel_rfl) (fun _ _ d _ _ h => (by cases d <;> exact h)) (by kernel_rfl) S4 (fun w' hS => ?_) ?_
            rotate_left
            focus (have q0 := nt_id w' hS; clear hS; go_simp; try rfl; done)
            simp only [List.getElem_toArray, List.getElem_cons_succ, List.getElem_cons_zero, Act.put, List.setIfInBounds_toArray, List.set_cons_zero, List.set_cons_succ]
            refine hd_take (v := ?_) 4 rfl (by kernel_rfl) (fun _ _ d _ _ h => (by cases d <;> exact h)) (by kernel_rfl) S4 (fun w' hS => ?_) ?_
            rotate_left
            focus (have q0 := nt_id w' hS; clear hS; go_simp; try rfl; done)
            simp only [List.getElem_toArray, List.getElem_cons_succ, List.getElem_cons_zero, Act.put, List.setIfInBounds_toArray, List.set_cons_zero, List.set_cons_succ]
            refine hd_take (v := ?_) 5 rfl (by kernel_rfl) (fun _ _ d _ _ h => (by cases d <;> exact h)) (by kernel_rfl) S4 (fun w' hS => ?_) ?_
            rotate_left
            focus (have q0 := nt_id w' hS; clear hS; go_simp; try rfl; done)
            simp only [List.getElem_toArray, List.getElem_cons_succ, List.getElem_cons_zero, Act.put, List.setIfInBounds_toArray, List.set_cons_zero, List.set_cons_succ]
            refine hd_take (v := ?_) 6 rfl (by kernel_rfl) (fun _ _ d _ _ h => (by cases d <;> exact h)) (by kernel_rfl) S4 (fun w' hS => ?_) ?_
            rotate_left
            focus (have q0 := nt_id w' hS; clear hS; go_simp; try rfl; done)
            simp only [List.getElem_toArray, List.getElem_cons_succ, List.getElem_cons_zero, Act.put, List.setIfInBounds_toArray, List.set_cons_zero, List.set_cons_succ]
            refine hd_take (v := ?_) 7 rfl (by kernel_rfl) (fun _ _ d _ _ h => (by cases d <;> exact h)) (by kernel_rfl) S4 (fun w' hS => ?_) ?_
            rotate_left
            focus (have q0 := nt_id w' hS; clear hS; go_simp; try rfl; done)
            simp only [List.getElem_toArray, List.getElem_cons_succ, List.getElem_cons_zero, Act.put, List.setIfInBounds_toArray, List.set_cons_zero, List.set_cons_succ]
            refine hd_take (v := ?_) 8 rfl (by kernel_rfl) (fun _ _ d _ _ h => (by cases d <;> exact h)) (by kernel_rfl) S4 (fun w' hS => ?_) ?_
            rotate_left
            focus (have q0 := nt_id w' hS; clear hS; go_simp; try rfl; done)
            simp only [List.getElem_toArray, List.getElem_cons_succ, List.getElem_cons_zero, Act.put, List.setIfInBounds_toArray, List.set_cons_zero, List.set_cons_succ]
            refine hd_take (v := ?_) 9 rfl (by kernel_rfl) (fun _ _ d _ _ h => (by cases d <;> exact h)) (by kernel_rfl) S4 (fun w' hS => ?_) ?_
            rotate_left
            focus (have q0 := nt_id w' hS; clear hS; go_simp; try rfl; done)
            simp only [List.getElem_toArray, List.getElem_cons_succ, List.getElem_cons_zero, Act.put, List.setIfInBounds_toArray, List.set_cons_zero, List.set_cons_succ]
            refine hd_take (v := ?_) 10 rfl (by kernel_rfl) (fun _ _ d _ _ h => (by cases d <;> exact h)) (by kernel_rfl) S4 (fun w' hS => ?_) ?_
            rotate_left
            focus (have q0 := nt_id w' hS; clear hS; go_simp; try rfl; done)
            simp only [List.getElem_toArray, List.getElem_cons_succ, List.getElem_cons_zero, Act.put, List.setIfInBounds_toArray, List.set_cons_zero, List.set_cons_succ]
            refine hd_take (v := ?_) 11 rfl (by kernel_rfl) (fun _ _ d _ _ h => (by cases d <;> exact h)) (by kernel_rfl) S4 (fun w' hS => ?_) ?_
            rotate_left
            focus (have q0 := nt_id w' hS; clear hS; go_simp; try rfl; done)
            simp only [List.getElem_toArray, List.getElem_cons_succ, List.getElem_cons_zero, Act.put, List.setIfInBounds_toArray, List.set_cons_zero, List.set_cons_succ]
            refine hd_one 12 (by kernel_rfl) ?_
            refine op_call rfl (by kernel_rfl) (by go_simp; first | exact ⟨rfl, rfl⟩ | rfl) ?_
            refine (timesP_env H4.out 0 rfl x.k x.s x.c HRM.out.1).mono ?_
            rintro e w6 ⟨rfl, h5⟩
            rw [timesO_T] at h5
            have hS2 := nt3at (h5.oldK HR1.out) HX.out
            have H5 := Lib.hid h5
            clear h5 H4
            refine ⟨_, rfl, hS2, ?_⟩
            simp only [List.getElem_toArray, List.getElem_cons_succ, List.getElem_cons_zero, Act.put, List.setIfInBounds_toArray, List.set_cons_zero, List.set_cons_succ]
            clear hS2
            refine hd_done (by kernel_rfl) ?_
            clear S4
            go_upto_region 17 with fail
            refine hd_start (Nt3 b1 o1 i x) (by kernel_rfl) ?_
            intro w7 hw'
            have H6 := Lib.hid (H5.out.draw 1)
            rw [← hw'] at H6
            clear hw' H5
            have S6 : Nt3 b1 o1 i x w7 := nt3at (H6.out.oldK HR1.out) HX.out
            refine hd_take (v := ?_) 0 rfl (by kernel_rfl) (fun _ _ d _ _ h => (by cases d <;> exact h)) (by kernel_rfl) S6 (fun w' hS => ?_) ?_
            rotate_left
            focus (have q0 := nt_id w' hS; clear hS; go_simp; try rfl; done)
            simp only [List.getElem_toArray, List.getElem_cons_succ, List.getElem_cons_zero, Act.put, List.setIfInBounds_toArray, List.set_cons_zero, List.set_cons_succ]
            refine hd_take (v := ?_) 1 rfl (by kernel_rfl) (fun _ _ d _ _ h => (by cases d <;> exact h)) (by kernel_rfl) S6 (fun w' hS => ?_) ?_
            rotate_left
            focus (have q0 := nt_id w' hS; clear hS; go_simp; try rfl; done)
            simp only [List.getElem_toArray, List.getElem_cons_succ, List.getElem_cons_zero, Act.put, List.setIfInBounds_toArray, List.set_cons_zero, List.set_cons_succ]
            refine hd_take (v := ?_) 2 rfl (by kernel_rfl) (fun _ _ d _ _ h => (by cases d <;> exact h)) (by kernel_rfl) S6 (fun w' hS => ?_) ?_
            rotate_left
            focus (have q0 := nt_id w' hS; clear hS; go_simp; try rfl; done)
            simp only [List.getElem_toArray, List.getElem_cons_succ, List.getElem_cons_zero, Act.put, List.setIfInBounds_toArray, List.set_cons_zero, List.set_cons_succ]
            refine hd_take (v := ?_) 3 rfl (by kernel_rfl) (fun _ _ d _ _ h => (by cases d <;> exact h)) (by kernel_rfl) S6 (fun w' hS => ?_) ?_
            rotate_left
            focus (have q0 := nt_id w' hS; clear hS; go_simp; try rfl; done)
            simp only [List.getElem_toArray, List.getElem_cons_succ, List.getElem_cons_zero, Act.put, List.setIfInBounds_toArray, List.set_cons_zero, List.set_cons_succ]
            refine hd_take (v := ?_) 4 rfl (by kernel_rfl) (fun _ _ d _ _ h => (by cases d <;> exact h)) (by kernel_rfl) S6 (fun w' hS => ?_) ?_
            rotate_left
            focus (have q0 := nt_id w' hS; clear hS; go_simp; try rfl; done)
            simp only [List.getElem_toArray, List.getElem_cons_succ, List.getElem_cons_zero, Act.put, List.setIfInBounds_toArray, List.set_cons_zero, List.set_cons_succ]
            refine hd_take (v := ?_) 5 rfl (by kernel_rfl) (fun _ _ d _ _ h => (by cases d <;> exact h)) (by kernel_rfl) S6 (fun w' hS => ?_) ?_
            rotate_left
            focus (have q0 := nt_id w' hS; clear hS; go_simp; try rfl; done)
            simp only [List.getElem_toArray, List.getElem_cons_succ, List.getElem_cons_zero, Act.put, List.setIfInBounds_toArray, List.set_cons_zero, List.set_cons_succ]
            refine hd_take (v := ?_) 6 rfl (by kernel_rfl) (fun _ _ d _ _ h => (by cases d <;> exact h)) (by kernel_rfl) S6 (fun w' hS => ?_) ?_
            rotate_left
            focus (have q0 := nt_id w' hS; clear hS; go_simp; try rfl; done)
            simp only [List.getElem_toArray, List.getElem_cons_succ, List.getElem_cons_zero, Act.put, List.setIfInBounds_toArray, List.set_cons_zero, List.set_cons_succ]
            refine hd_take (v := ?_) 7 rfl (by kernel_rfl) (fun _ _ d _ _ h => (by cases d <;> exact h)) (by kernel_rfl) S6 (fun w' hS => ?_) ?_
            rotate_left
            focus (have q0 := nt_id w' hS; clear hS; go_simp; try rfl; done)
            simp only [List.getElem_toArray, List.getElem_cons_succ, List.getElem_cons_zero, Act.put, List.setIfInBounds_toArray, List.set_cons_zero, List.set_cons_succ]
            refine hd_take (v := ?_) 8 rfl (by kernel_rfl) (fun _ _ d _ _ h => (by cases d <;> exact h)) (by kernel_rfl) S6 (fun w' hS => ?_) ?_
            rotate_left
            focus (have q0 := nt_id w' hS; clear hS; go_simp; try rfl; done)
            simp only [List.getElem_toArray, List.getElem_cons_succ, List.getElem_cons_zero, Act.put, List.setIfInBounds_toArray, List.set_cons_zero, List.set_cons_succ]
            refine hd_take (v := ?_) 9 rfl (by kernel_rfl) (fun _ _ d _ _ h => (by cases d <;> exact h)) (by kernel_rfl) S6 (fun w' hS => ?_) ?_
            rotate_left
            focus (have q0 := nt_id w' hS; clear hS; go_simp; try rfl; done)
            simp only [List.getElem_toArray, List.getElem_cons_succ, List.getElem_cons_zero, Act.put, List.setIfInBounds_toArray, List.set_cons_zero, List.set_cons_succ]
            refine hd_take (v := ?_) 10 rfl (by kernel_rfl) (fun _ _ d _ _ h => (by cases d <;> exact h)) (by kernel_rfl) S6 (fun w' hS => ?_) ?_
            rotate_left
            focus (have q0 := nt_id w' hS; clear hS; go_simp; try rfl; done)
            simp only [List.getElem_toArray, List.getElem_cons_succ, List.getElem_cons_zero, Act.put, List.setIfInBounds_toArray, List.set_cons_zero, List.set_cons_succ]
            refine hd_take (v := ?_) 11 rfl (by kernel_rfl) (fun _ _ d _ _ h => (by cases d <;> exact h)) (by kernel_rfl) S6 (fun w' hS => ?_) ?_
            rotate_left
            focus (have q0 := nt_id w' hS; clear hS; go_simp; try rfl; done)
            simp only [List.getElem_toArray, List.getElem_cons_succ, List.getElem_cons_zero, Act.put, List.setIfInBounds_toArray, List.set_cons_zero, List.set_cons_succ]
            refine hd_one 12 (by kernel_rfl) ?_
            refine op_call rfl (by kernel_rfl) (by go_simp; first | exact ⟨rfl, rfl⟩ | rfl) ?_
            refine (timesP_env H6.out 1 rfl x.k x.s x.c HRM.out.2).mono ?_
            rintro e w8 ⟨rfl, h5⟩
            rw [timesO_T] at h5
            have hS2 := nt3at (h5.oldK HR1.out) HX.out
            have H7 := Lib.hid h5
            clear h5 H6
            refine ⟨_, rfl, hS2, ?_⟩
            simp only [List.getElem_toArray, List.getElem_cons_succ, List.getElem_cons_zero, Act.put, List.setIfInBounds_toArray, List.set_cons_zero, List.set_cons_succ]
            clear hS2
            refine hd_done (by kernel_rfl) ?_
            have H8 : Hid (Env w w8 [obP l (some (noteAll A (more.take (i + 1)))), obP k (some (noteAll [] (more.take (i + 1)))), obRuns wv A]) := by
              rw [noteAll_succ A more i x HX.out, noteAll_succ [] more i x HX.out]
              exact H7
            clear H7 S6
            go_wp2_with fail
            go_roundw
            case rel => exact ⟨i + 1, by omega, by go_num, H8⟩
            case measure => simp [intOf]; omega
            --]two
          · obtain rfl : i = more.length := by omega
            obtain ⟨K, hK⟩ : ∃ K, noteAll [] more = K := ⟨_, rfl⟩
            obtain ⟨N, hN⟩ : ∃ N, noteAll A more = N := ⟨_, rfl⟩
            have H4 : Hid (Env w wr [obP l (some N), obP k (some K), obRuns wv A]) := by
              have := H.out
              rw [List.take_length, hK, hN] at this
              exact Lib.hid this
            have hnA := HA.out.1
            have hbK := noteAll_bound more [] HK1.out
            have hbN := noteAll_bound more A HK1.out
            rw [hK] at hbK
            rw [hN] at hbN
            have h00 : tot [] = 0 := rfl
            have hnK : Nrm K := by rw [← hK]; exact Nrm.all more trivial
            have hnN : Nrm N := by rw [← hN]; exact Nrm.all more hnA
            have hkN : ∀ r ∈ N, 0 ≤ r.k ∧ r.k ≤ 255 := by rw [← hN]; exact noteAll_kinds more A HK1.out HA.out.2.1
            have hglue : N = glue A K := by
              rw [← hN, ← hK]
              exact glue_all more A []
            have hrng : 0 ≤ tot N ∧ tot N ≤ 65535 * 600 ∧ N.length ≤ 600 ∧ 0 ≤ tot K ∧ tot K ≤ 65535 * 300 ∧ K.length ≤ 300 := by
              have := tot_nonneg N hnN.posi
              have := tot_nonneg K hnK.posi
              have := HN.out
              have := HA.out.2.2
              simp at hbK
              omega
            have hs1 : sinceL N M = K := by rw [hglue, ← HM.out]; exact since_glue A K hnA hnK
            have hj1 : joinL A K = N := by rw [hglue]; exact join_glue A K hnA hnK (by have := HA.out.2.2; omega)
            have hc1 : chkL N = 0 := chkL_zero N hnN
            have ht1 : totL N = tot N := totL_is N hnN.posi (by omega)
            have ht2 : totL A = M := by rw [← HM.out]; exact totL_is A hnA.posi (by have := HA.out.2.2; omega)
            have hs0 : sinceL N 0 = N := since_low N 0 (Int.le_refl _)
            have hsc : sumC N 256 = tot N := sumC_all N hkN
            have P1 := Lib.hid (And.intro hs1 (And.intro hj1 (And.intro hc1 (And.intro ht1 (And.intro ht2 (And.intro hs0 hsc))))))
            have P2 := Lib.hid (And.intro hnN (And.intro hrng hnK))
            clear H hK hN hnA hbK hbN h00 hnK hnN hkN hglue hrng hs1 hj1 hc1 ht1 ht2 hs0 hsc
            go_wp2_with fail
            refine (runsP_env' H4.out 0 rfl (by have := P2.out.2.1; omega)).mono ?_
            rintro e w5 ⟨nv, rfl, h5⟩
            have H5 := Lib.hid h5
            clear h5 H4
            go_wp2_with fail
            refine (sinceN_env H5.out 0 rfl M (by have := P2.out.2.1; omega) (by have := P2.out.2.1; omega) (by have := HA.out.2.2; have := HM.out; omega) (by have := HA.out.2.2; have := HM.out; omega)).mono ?_
            rintro e w6 ⟨tv, rfl, h5, h6, h7⟩
            rw [P1.out.1] at h6
            have H6 : Hid (Env w w6 [obP l (some N), obP k (some K), obRuns wv A, obRuns nv N]) := Lib.hid h5
            have RT := Lib.hid h6
            clear h5 h6 h7 H5
            obtain ⟨T, hT⟩ : ∃ T, tot N = T := ⟨_, rfl⟩
            have HT := Lib.hid hT
            clear hT
            go_wp2_with fail
            refine (check_any nv N w6 (H6.out.runs 3 rfl).rd).mono ?_
            rintro e w7 ⟨he, hb⟩
            rw [P1.out.2.2.1] at he
            subst he
            have B7 : Hid (Below w6.heap.size w6 w7) := Lib.hid hb
            clear hb
            go_wp2_with fail
            refine (total_any nv N w7 ((H6.out.below B7.out).runs 3 rfl).rd (okC_of P2.out.1.posi (by have := P2.out.2.1; omega))).mono ?_
            rintro e w8 ⟨he, hb⟩
            rw [P1.out.2.2.2.1, HT.out] at he
            subst he
            have B8 : Hid (Below w6.heap.size w6 w8) := Lib.hid (B7.out.trans (hb.mono B7.out.size))
            clear hb B7
            go_wp2_with fail
            refine (lenP_env' (H6.out.below B8.out) 0 rfl).mono ?_
            rintro e w9 ⟨he, hw⟩
            rw [HT.out] at he
            subst he
            subst hw
            go_wp2_with fail
            refine (runsN_env (H6.out.below B8.out) 1 rfl (by have := P2.out.2.1; omega)).mono ?_
            rintro e w9 ⟨kv, rfl, _, h6, hb⟩
            have B9 : Hid (Below w6.heap.size w6 w9) := Lib.hid (B8.out.trans (hb.mono B8.out.size))
            have RK := Lib.hid h6
            clear hb B8 h6
            go_wp2_with fail
            refine (sameRuns_any tv kv K K w9 (Sl.grow RT.out B9.out) RK.out).mono ?_
            rintro e w10 ⟨he, m, hw⟩
            rw [decide_eq_true rfl] at he
            subst he
            have B10 : Hid (Below w6.heap.size w6 w10) := by rw [hw]; exact Lib.hid (below_drewN B9.out m)
            clear hw RK B9
            go_wp2_with fail
            refine (join_any wv tv A K w10 ((H6.out.below B10.out).runs 2 rfl).rd (Sl.grow RT.out B10.out) (okC_of HA.out.1.posi (by have := HA.out.2.2; omega)) (okC_of P2.out.2.2.posi (by have := P2.out.2.1; omega)) (by have := HA.out.2.2; have := P2.out.2.1; omega)).mono ?_
            rintro e w11 ⟨jv, rfl, h6, hb, _⟩
            rw [P1.out.2.1] at h6
            have B11 : Hid (Below w6.heap.size w6 w11) := Lib.hid (B10.out.trans (hb.mono B10.out.size))
            have RJ := Lib.hid h6.rd
            clear hb h6 B10
            go_wp2_with fail
            refine (sameRuns_any jv nv N N w11 RJ.out ((H6.out.below B11.out).runs 3 rfl).rd).mono ?_
            rintro e w12 ⟨he, m, hw⟩
            rw [decide_eq_true rfl] at he
            subst he
            have B12 : Hid (Below w6.heap.size w6 w12) := by rw [hw]; exact Lib.hid (below_drewN B11.out m)
            clear hw RJ B11
            go_wp2_with fail
            refine (sinceN_env (H6.out.below B12.out) 0 rfl 0 (by have := P2.out.2.1; omega) (by have := P2.out.2.1; omega) (by omega) (by omega)).mono ?_
            rintro e w13 ⟨sv, rfl, _, h6, hb⟩
            rw [P1.out.2.2.2.2.2.1] at h6
            have B13 : Hid (Below w6.heap.size w6 w13) := Lib.hid (B12.out.trans (hb.mono B12.out.size))
            have RS := Lib.hid h6
            clear hb h6 B12
            go_wp2_with fail
            refine (sameRuns_any sv nv N N w13 RS.out ((H6.out.below B13.out).runs 3 rfl).rd).mono ?_
            rintro e w14 ⟨he, m, hw⟩
            rw [decide_eq_true rfl] at he
            subst he
            have B14 : Hid (Below w6.heap.size w6 w14) := by rw [hw]; exact Lib.hid (below_drewN B13.out m)
            clear hw RS B13
            go_wp2_with fail
            refine (total_any wv A w14 ((H6.out.below B14.out).runs 2 rfl).rd (okC_of HA.out.1.posi (by have := HA.out.2.2; omega))).mono ?_
            rintro e w15 ⟨he, hb⟩
            rw [P1.out.2.2.2.2.1] at he
            subst he
            have H15 : Hid (Env w w15 [obP l (some N), obP k (some K), obRuns wv A, obRuns nv N]) := Lib.hid ((H6.out.below B14.out).below hb)
            clear hb B14 H6 RT
            have HS0 : Hid (Env w w15 [obP l (some N), obP k (some K), obRuns wv A, obRuns nv N] ∧ (0 : Int) = sumC N 0) := Lib.hid ⟨H15.out, rfl⟩
            clear H15
            go_wp2_with fail
            go_loopw [13, 14] (fun sv ev wx => ∃ e : Nat, e ≤ 256 ∧ ev = .int .i64 (e : Int) ∧ ∃ Z : Int, sv = .int .i64 Z ∧ Hid (Env w wx [obP l (some N), obP k (some K), obRuns wv A, obRuns nv N] ∧ Z = sumC N e)) (fun _ ev _ => 256 - (intOf ev).toNat)
            case atStart => exact ⟨0, by omega, rfl, 0, rfl, HS0⟩
            case round =>
              obtain ⟨e, he, rfl, Z, rfl, HS⟩ := hrel
              clear HS0
              by_cases hlt : e < 256
              · have t2 : decide ((e : Int) < 256) = true := by rw [decide_eq_true_eq]; omega
                have hw1 : IntKind.u8.wrap (e : Int) = (e : Int) := IntWalk.u8_in _ (by omega)
                go_wp2_with fail
                refine (countP_env HS.out.1 0 rfl (e : Int) (by have := P2.out.2.1; omega) (by have := P2.out.2.1; omega)).mono ?_
                rintro e1 w16 ⟨rfl, h5, _⟩
                obtain ⟨c, hc⟩ : ∃ c, cnt N (e : Int) = c := ⟨_, rfl⟩
                rw [hc]
                have hz : Z + c = sumC N (e + 1) := by rw [HS.out.2, ← hc]; rfl
                have hzr : 0 ≤ Z + c ∧ Z + c ≤ 9223372036854775807 := by
                  rw [hz]
                  have h1 := sumC_rng N P2.out.1.posi (e + 1)
                  have h2 := sumC_mono N P2.out.1.posi (e + 1) (255 - e)
                  rw [show e + 1 + (255 - e) = 256 by omega, P1.out.2.2.2.2.2.2] at h2
                  have := P2.out.2.1
                  omega
                have hw2 : IntKind.i64.wrap (Z + c) = Z + c := IntWalk.i64_in _ (by omega)
                have HS1 : Hid (Env w w16 [obP l (some N), obP k (some K), obRuns wv A, obRuns nv N] ∧ Z + c = sumC N (e + 1)) := Lib.hid ⟨h5, hz⟩
                clear h5 hz hzr HS hc
                go_wp2_with fail
                go_roundw
                case rel => exact ⟨e + 1, by omega, by go_num, Z + c, rfl, HS1⟩
                case measure => simp [intOf]; omega
              · obtain rfl : e = 256 := by omega
                have hZ : Z = T := by rw [HS.out.2, P1.out.2.2.2.2.2.2, HT.out]
                subst hZ
                have H16 := Lib.hid HS.out.1
                clear HS
                go_wp2_with fail
                refine (lenP_env' H16.out 0 rfl).mono ?_
                rintro e w17 ⟨he, hw⟩
                rw [HT.out] at he
                subst he
                subst hw
                go_wp2_with fail
                refine (gone_env H16.out 0 3 rfl rfl (by have := P2.out.2.1; omega) (fun r hr => ⟨P2.out.1.posi r hr, (okC_of P2.out.1.posi (by have := P2.out.2.1; omega) r hr).2⟩)).mono ?_
                rintro e w18 ⟨rfl, h5⟩
                have H18 := Lib.hid h5
                clear h5 H16
                go_wp2_with fail
                go_ret
                exact ⟨rfl, H18.out.base⟩
  · have t1 : decide ((300 : Int) < (first.length : Int) + (more.length : Int)) = true := by rw [decide_eq_true_eq]; omega
    go_wp2
    go_ret
    exact ⟨rfl, H1.out.base⟩
end Go.Proofs.Ytmdfmkdhfhbkjaa
