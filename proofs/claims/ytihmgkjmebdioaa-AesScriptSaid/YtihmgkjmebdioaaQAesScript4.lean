/- The contract of package aes: Decrypt. Conditions: a block has sixteen bytes; room for one event more. -/
import Derived.Test.YtihmgkjmebdioaaRows
import Derived.Deep.AppendLies
import Derived.Test.YtihmgkjmebdioaaQAesScript1
import Derived.Test.YtihmgkjmebdioaaQAesScript2
import Derived.Test.YtihmgkjmebdioaaQAesScript3
/- The document's answer for AES: Form. -/
namespace Go.Proofs.Ytihmgkjmebdioaa
open Go.RowKit
set_option maxRecDepth 100000
set_option linter.unusedVariables false
set_option linter.unusedSimpArgs false
theorem op_wp {P : Program} {ops : Array Oper} {o : Oper} {i : Nat} {a : Act} {w : World} {K : Act → World → Prop} {Q : Exit → Act → World → Prop} (ho : ops[i]? = some o) (hw : Region.wanted o (yielded ops a.tmps) = true) (h : o.wp P a w K Q) : wpOp P ops Q i K a w := by
  unfold Go.wpOp
  simp only [ho, hw, if_true]
  exact .inl h
theorem take_four (K : List UInt8) (j : Nat) (h : 4 * j + 4 ≤ K.length) : K.take (4 * (j + 1)) = K.take (4 * j) ++ [K.getD (4 * j) 0, K.getD (4 * j + 1) 0, K.getD (4 * j + 2) 0, K.getD (4 * j + 3) 0] := by
  have e : ∀ i, i < K.length → K[i]? = some (K.getD i 0) := fun i hi => by rw [List.getElem?_eq_getElem hi, List.getD_eq_getElem?_getD, List.getElem?_eq_getElem hi]; rfl
  rw [show 4 * (j + 1) = 4 * j + 1 + 1 + 1 + 1 from by omega, List.take_add_one, List.take_add_one, List.take_add_one, List.take_add_one, e _ (by omega), e _ (by omega), e _ (by omega), e _ (by omega)]
  simp
set_option maxHeartbeats 2000000 in
theorem rform_any (a g n cap : Nat) (K : List UInt8) (w : World) (h : RA w a g n cap K) (hn : n ≤ 60) :
    Calls Try.prog 61 #[.pointer (some ⟨a, 0, none⟩)] w (NewBytes (K.take (4 * n)) w) := by
  obtain ⟨i0, hi, hz0, hz1, hz2⟩ := info_parts info8
  have HI := Lib.hid (And.intro hi (And.intro hz0 (And.intro hz1 hz2)))
  have HR := Lib.hid h
  have hra := h.lt
  have hrg := h.glt
  have hcap := h.capB.1
  have hcap2 := h.capB.2
  have hle := h.le
  clear hi hz0 hz1 hz2 h
  go_enter Try.func61, Try.ntmps61
  go_wp2_with fail
  go_loopw [3, 4] (fun v i w1 => ∃ j : Nat, j ≤ n ∧ i = .int .i64 (j : Int) ∧ Hid (OB w1 v (K.take (4 * j)) ∧ Below w.heap.size w w1 ∧ (∀ x, fpv v x → w.heap.size ≤ x))) (fun _ i _ => n - (intOf i).toNat)
  case atStart => exact ⟨0, by omega, rfl, Lib.hid ⟨by rw [show 4 * 0 = 0 from rfl, List.take_zero]; exact OB.nil w, Below.refl _ _, fun x hx => by simp [fpv, Value.ownBlock] at hx⟩⟩
  case round =>
    obtain ⟨j, hj, rfl, HV⟩ := hrel
    have c0 := (HR.out.below HV.out.2.1).head
    by_cases hlt : j < n
    · have ht := take_four K j (by omega)
      have y0 : ∀ W, RA W a g n cap K → W.cell? ⟨g, j * 4, none⟩ = some (.int .u8 ((K.getD (4 * j) 0).toNat : Int)) := fun W h => by rw [Nat.mul_comm 4 j]; exact h.word _ (by omega)
      have y1 : ∀ W, RA W a g n cap K → W.cell? ⟨g, j * 4 + 1, none⟩ = some (.int .u8 ((K.getD (4 * j + 1) 0).toNat : Int)) := fun W h => by rw [Nat.mul_comm 4 j]; exact h.word _ (by omega)
      have y2 : ∀ W, RA W a g n cap K → W.cell? ⟨g, j * 4 + 2, none⟩ = some (.int .u8 ((K.getD (4 * j + 2) 0).toNat : Int)) := fun W h => by rw [Nat.mul_comm 4 j]; exact h.word _ (by omega)
      have y3 : ∀ W, RA W a g n cap K → W.cell? ⟨g, j * 4 + 3, none⟩ = some (.int .u8 ((K.getD (4 * j + 3) 0).toNat : Int)) := fun W h => by rw [Nat.mul_comm 4 j]; exact h.word _ (by omega)
      have f0 : ∀ W, RA W a g n cap K → W.cell? ⟨a, 0, none⟩ = some (.slice (some ⟨g, 0, none⟩) n cap) := fun _ h => h.head
      generalize K.getD (4 * j) 0 = x0 at y0 ht
      generalize K.getD (4 * j + 1) 0 = x1 at y1 ht
      generalize K.getD (4 * j + 2) 0 = x2 at y2 ht
      generalize K.getD (4 * j + 3) 0 = x3 at y3 ht
      have HT := Lib.hid ht
      clear ht
      have hkl : (K.take (4 * j)).length = 4 * j := by rw [List.length_take]; omega
      have hown : ((wr.drewN 1).alloc (.cells #[.int .u8 (x0.toNat : Int), .int .u8 (x1.toNat : Int), .int .u8 (x2.toNat : Int), .int .u8 (x3.toNat : Int)] 5)).ownsRow 0 5 1 u3 (4 * j) ((K.take (4 * j)).map B) := by
        have h1 := (HV.out.1.keep (Only.nothing (drew_below wr 1)) (fun _ _ h => h)).keep ((Only.refl (fun _ => False) (wr.drewN 1)).alloc (.cells #[.int .u8 (x0.toNat : Int), .int .u8 (x1.toNat : Int), .int .u8 (x2.toNat : Int), .int .u8 (x3.toNat : Int)] 5)) (fun _ _ h => h)
        unfold OB at h1
        rw [hkl] at h1
        exact h1
      have bj : 0 ≤ (j : Int) ∧ (j : Int) < (n : Int) := by omega
      go_wp2_with fail
      clear c0
      refine hd_start (fun wx => RA wx a g n cap K) (by kernel_rfl) ?_
      intro w5 hw'
      subst hw'
      have S5 : RA (wr.drewN 1) a g n cap K := (HR.out.below HV.out.2.1).draw 1
      have S6 : RA ((wr.drewN 1).alloc (.cells #[.int .u8 (x0.toNat : Int), .int .u8 (x1.toNat : Int), .int .u8 (x2.toNat : Int), .int .u8 (x3.toNat : Int)] 5)) a g n cap K := S5.below ((Below.refl _ _).alloc (Nat.le_refl _) _)
      refine hd_take (v := ?_) 0 rfl (by kernel_rfl) (fun _ _ d _ _ h => (by cases d <;> exact h)) (by kernel_rfl) S5 (fun w' hS => ?_) ?_
      rotate_left
      focus (have q0 := f0 w' hS; have q1 := y0 w' hS; have q2 := y1 w' hS; have q3 := y2 w' hS; have q4 := y3 w' hS; clear hS; go_simp; try rfl; done)
      simp only [List.getElem_toArray, List.getElem_cons_succ, List.getElem_cons_zero, Act.put, List.setIfInBounds_toArray, List.set_cons_zero, List.set_cons_succ]
      refine hd_take (v := ?_) 1 rfl (by kernel_rfl) (fun _ _ d _ _ h => (by cases d <;> exact h)) (by kernel_rfl) S5 (fun w' hS => ?_) ?_
      rotate_left
      focus (have q0 := f0 w' hS; have q1 := y0 w' hS; have q2 := y1 w' hS; have q3 := y2 w' hS; have q4 := y3 w' hS; clear hS; go_simp; try rfl; done)
      simp only [List.getElem_toArray, List.getElem_cons_succ, List.getElem_cons_zero, Act.put, List.setIfInBounds_toArray, List.set_cons_zero, List.set_cons_succ]
      refine hd_take (v := ?_) 2 rfl (by kernel_rfl) (fun _ _ d _ _ h => (by cases d <;> exact h)) (by kernel_rfl) S5 (fun w' hS => ?_) ?_
      rotate_left
      focus (have q0 := f0 w' hS; have q1 := y0 w' hS; have q2 := y1 w' hS; have q3 := y2 w' hS; have q4 := y3 w' hS; clear hS; go_simp; try rfl; done)
      simp only [List.getElem_toArray, List.getElem_cons_succ, List.getElem_cons_zero, Act.put, List.setIfInBounds_toArray, List.set_cons_zero, List.set_cons_succ]
      refine hd_take (v := ?_) 3 rfl (by kernel_rfl) (fun _ _ d _ _ h => (by cases d <;> exact h)) (by kernel_rfl) S5 (fun w' hS => ?_) ?_
      rotate_left
      focus (have q0 := f0 w' hS; have q1 := y0 w' hS; have q2 := y1 w' hS; have q3 := y2 w' hS; have q4 := y3 w' hS; clear hS; go_simp; try rfl; done)
      simp only [List.getElem_toArray, List.getElem_cons_succ, List.getElem_cons_zero, Act.put, List.setIfInBounds_toArray, List.set_cons_zero, List.set_cons_succ]
      refine hd_take (v := ?_) 4 rfl (by kernel_rfl) (fun _ _ d _ _ h => (by cases d <;> exact h)) (by kernel_rfl) S5 (fun w' hS => ?_) ?_
      rotate_left
      focus (have q0 := f0 w' hS; have q1 := y0 w' hS; have q2 := y1 w' hS; have q3 := y2 w' hS; have q4 := y3 w' hS; clear hS; go_simp; try rfl; done)
      simp only [List.getElem_toArray, List.getElem_cons_succ, List.getElem_cons_zero, Act.put, List.setIfInBounds_toArray, List.set_cons_zero, List.set_cons_succ]
      refine hd_take (v := ?_) 5 rfl (by kernel_rfl) (fun _ _ d _ _ h => (by cases d <;> exact h)) (by kernel_rfl) S5 (fun w' hS => ?_) ?_
      rotate_left
      focus (have q0 := f0 w' hS; have q1 := y0 w' hS; have q2 := y1 w' hS; have q3 := y2 w' hS; have q4 := y3 w' hS; clear hS; go_simp; try rfl; done)
      simp only [List.getElem_toArray, List.getElem_cons_succ, List.getElem_cons_zero, Act.put, List.setIfInBounds_toArray, List.set_cons_zero, List.set_cons_succ]
      refine hd_take (v := ?_) 6 rfl (by kernel_rfl) (fun _ _ d _ _ h => (by cases d <;> exact h)) (by kernel_rfl) S5 (fun w' hS => ?_) ?_
      rotate_left
      focus (have q0 := f0 w' hS; have q1 := y0 w' hS; have q2 := y1 w' hS; have q3 := y2 w' hS; have q4 := y3 w' hS; clear hS; go_simp; try rfl; done)
      simp only [List.getElem_toArray, List.getElem_cons_succ, List.getElem_cons_zero, Act.put, List.setIfInBounds_toArray, List.set_cons_zero, List.set_cons_succ]
      refine hd_take (v := ?_) 7 rfl (by kernel_rfl) (fun _ _ d _ _ h => (by cases d <;> exact h)) (by kernel_rfl) S5 (fun w' hS => ?_) ?_
      rotate_left
      focus (have q0 := f0 w' hS; have q1 := y0 w' hS; have q2 := y1 w' hS; have q3 := y2 w' hS; have q4 := y3 w' hS; clear hS; go_simp; try rfl; done)
      simp only [List.getElem_toArray, List.getElem_cons_succ, List.getElem_cons_zero, Act.put, List.setIfInBounds_toArray, List.set_cons_zero, List.set_cons_succ]
      refine hd_take (v := ?_) 8 rfl (by kernel_rfl) (fun _ _ d _ _ h => (by cases d <;> exact h)) (by kernel_rfl) S5 (fun w' hS => ?_) ?_
      rotate_left
      focus (have q0 := f0 w' hS; have q1 := y0 w' hS; have q2 := y1 w' hS; have q3 := y2 w' hS; have q4 := y3 w' hS; clear hS; go_simp; try rfl; done)
      simp only [List.getElem_toArray, List.getElem_cons_succ, List.getElem_cons_zero, Act.put, List.setIfInBounds_toArray, List.set_cons_zero, List.set_cons_succ]
      refine hd_take (v := ?_) 9 rfl (by kernel_rfl) (fun _ _ d _ _ h => (by cases d <;> exact h)) (by kernel_rfl) S5 (fun w' hS => ?_) ?_
      rotate_left
      focus (have q0 := f0 w' hS; have q1 := y0 w' hS; have q2 := y1 w' hS; have q3 := y2 w' hS; have q4 := y3 w' hS; clear hS; go_simp; try rfl; done)
      simp only [List.getElem_toArray, List.getElem_cons_succ, List.getElem_cons_zero, Act.put, List.setIfInBounds_toArray, List.set_cons_zero, List.set_cons_succ]
      refine hd_take (v := ?_) 10 rfl (by kernel_rfl) (fun _ _ d _ _ h => (by cases d <;> exact h)) (by kernel_rfl) S5 (fun w' hS => ?_) ?_
      rotate_left
      focus (have q0 := f0 w' hS; have q1 := y0 w' hS; have q2 := y1 w' hS; have q3 := y2 w' hS; have q4 := y3 w' hS; clear hS; go_simp; try rfl; done)
      simp only [List.getElem_toArray, List.getElem_cons_succ, List.getElem_cons_zero, Act.put, List.setIfInBounds_toArray, List.set_cons_zero, List.set_cons_succ]
      refine hd_take (v := ?_) 11 rfl (by kernel_rfl) (fun _ _ d _ _ h => (by cases d <;> exact h)) (by kernel_rfl) S5 (fun w' hS => ?_) ?_
      rotate_left
      focus (have q0 := f0 w' hS; have q1 := y0 w' hS; have q2 := y1 w' hS; have q3 := y2 w' hS; have q4 := y3 w' hS; clear hS; go_simp; try rfl; done)
      simp only [List.getElem_toArray, List.getElem_cons_succ, List.getElem_cons_zero, Act.put, List.setIfInBounds_toArray, List.set_cons_zero, List.set_cons_succ]
      refine hd_take (v := ?_) 12 rfl (by kernel_rfl) (fun _ _ d _ _ h => (by cases d <;> exact h)) (by kernel_rfl) S5 (fun w' hS => ?_) ?_
      rotate_left
      focus (have q0 := f0 w' hS; have q1 := y0 w' hS; have q2 := y1 w' hS; have q3 := y2 w' hS; have q4 := y3 w' hS; clear hS; go_simp; try rfl; done)
      simp only [List.getElem_toArray, List.getElem_cons_succ, List.getElem_cons_zero, Act.put, List.setIfInBounds_toArray, List.set_cons_zero, List.set_cons_succ]
      refine hd_take (v := ?_) 13 rfl (by kernel_rfl) (fun _ _ d _ _ h => (by cases d <;> exact h)) (by kernel_rfl) S5 (fun w' hS => ?_) ?_
      rotate_left
      focus (have q0 := f0 w' hS; have q1 := y0 w' hS; have q2 := y1 w' hS; have q3 := y2 w' hS; have q4 := y3 w' hS; clear hS; go_simp; try rfl; done)
      simp only [List.getElem_toArray, List.getElem_cons_succ, List.getElem_cons_zero, Act.put, List.setIfInBounds_toArray, List.set_cons_zero, List.set_cons_succ]
      refine hd_take (v := ?_) 14 rfl (by kernel_rfl) (fun _ _ d _ _ h => (by cases d <;> exact h)) (by kernel_rfl) S5 (fun w' hS => ?_) ?_
      rotate_left
      focus (have q0 := f0 w' hS; have q1 := y0 w' hS; have q2 := y1 w' hS; have q3 := y2 w' hS; have q4 := y3 w' hS; clear hS; go_simp; try rfl; done)
      simp only [List.getElem_toArray, List.getElem_cons_succ, List.getElem_cons_zero, Act.put, List.setIfInBounds_toArray, List.set_cons_zero, List.set_cons_succ]
      refine hd_take (v := ?_) 15 rfl (by kernel_rfl) (fun _ _ d _ _ h => (by cases d <;> exact h)) (by kernel_rfl) S5 (fun w' hS => ?_) ?_
      rotate_left
      focus (have q0 := f0 w' hS; have q1 := y0 w' hS; have q2 := y1 w' hS; have q3 := y2 w' hS; have q4 := y3 w' hS; clear hS; go_simp; try rfl; done)
      simp only [List.getElem_toArray, List.getElem_cons_succ, List.getElem_cons_zero, Act.put, List.setIfInBounds_toArray, List.set_cons_zero, List.set_cons_succ]
      refine hd_take (v := ?_) 16 rfl (by kernel_rfl) (fun _ _ d _ _ h => (by cases d <;> exact h)) (by kernel_rfl) S5 (fun w' hS => ?_) ?_
      rotate_left
      focus (have q0 := f0 w' hS; have q1 := y0 w' hS; have q2 := y1 w' hS; have q3 := y2 w' hS; have q4 := y3 w' hS; clear hS; go_simp; try rfl; done)
      simp only [List.getElem_toArray, List.getElem_cons_succ, List.getElem_cons_zero, Act.put, List.setIfInBounds_toArray, List.set_cons_zero, List.set_cons_succ]
      refine hd_take (v := ?_) 17 rfl (by kernel_rfl) (fun _ _ d _ _ h => (by cases d <;> exact h)) (by kernel_rfl) S5 (fun w' hS => ?_) ?_
      rotate_left
      focus (have q0 := f0 w' hS; have q1 := y0 w' hS; have q2 := y1 w' hS; have q3 := y2 w' hS; have q4 := y3 w' hS; clear hS; go_simp; try rfl; done)
      simp only [List.getElem_toArray, List.getElem_cons_succ, List.getElem_cons_zero, Act.put, List.setIfInBounds_toArray, List.set_cons_zero, List.set_cons_succ]
      refine hd_take (v := ?_) 18 rfl (by kernel_rfl) (fun _ _ d _ _ h => (by cases d <;> exact h)) (by kernel_rfl) S5 (fun w' hS => ?_) ?_
      rotate_left
      focus (have q0 := f0 w' hS; have q1 := y0 w' hS; have q2 := y1 w' hS; have q3 := y2 w' hS; have q4 := y3 w' hS; clear hS; go_simp; try rfl; done)
      simp only [List.getElem_toArray, List.getElem_cons_succ, List.getElem_cons_zero, Act.put, List.setIfInBounds_toArray, List.set_cons_zero, List.set_cons_succ]
      refine hd_take (v := ?_) 19 rfl (by kernel_rfl) (fun _ _ d _ _ h => (by cases d <;> exact h)) (by kernel_rfl) S5 (fun w' hS => ?_) ?_
      rotate_left
      focus (have q0 := f0 w' hS; have q1 := y0 w' hS; have q2 := y1 w' hS; have q3 := y2 w' hS; have q4 := y3 w' hS; clear hS; go_simp; try rfl; done)
      simp only [List.getElem_toArray, List.getElem_cons_succ, List.getElem_cons_zero, Act.put, List.setIfInBounds_toArray, List.set_cons_zero, List.set_cons_succ]
      refine hd_take (v := ?_) 20 rfl (by kernel_rfl) (fun _ _ d _ _ h => (by cases d <;> exact h)) (by kernel_rfl) S5 (fun w' hS => ?_) ?_
      rotate_left
      focus (have q0 := f0 w' hS; have q1 := y0 w' hS; have q2 := y1 w' hS; have q3 := y2 w' hS; have q4 := y3 w' hS; clear hS; go_simp; try rfl; done)
      simp only [List.getElem_toArray, List.getElem_cons_succ, List.getElem_cons_zero, Act.put, List.setIfInBounds_toArray, List.set_cons_zero, List.set_cons_succ]
      refine hd_take (v := ?_) 21 rfl (by kernel_rfl) (fun _ _ d _ _ h => (by cases d <;> exact h)) (by kernel_rfl) S5 (fun w' hS => ?_) ?_
      rotate_left
      focus (have q0 := f0 w' hS; have q1 := y0 w' hS; have q2 := y1 w' hS; have q3 := y2 w' hS; have q4 := y3 w' hS; clear hS; go_simp; try rfl; done)
      simp only [List.getElem_toArray, List.getElem_cons_succ, List.getElem_cons_zero, Act.put, List.setIfInBounds_toArray, List.set_cons_zero, List.set_cons_succ]
      refine hd_take (v := ?_) 22 rfl (by kernel_rfl) (fun _ _ d _ _ h => (by cases d <;> exact h)) (by kernel_rfl) S5 (fun w' hS => ?_) ?_
      rotate_left
      focus (have q0 := f0 w' hS; have q1 := y0 w' hS; have q2 := y1 w' hS; have q3 := y2 w' hS; have q4 := y3 w' hS; clear hS; go_simp; try rfl; done)
      simp only [List.getElem_toArray, List.getElem_cons_succ, List.getElem_cons_zero, Act.put, List.setIfInBounds_toArray, List.set_cons_zero, List.set_cons_succ]
      refine hd_take (v := ?_) 23 rfl (by kernel_rfl) (fun _ _ d _ _ h => (by cases d <;> exact h)) (by kernel_rfl) S5 (fun w' hS => ?_) ?_
      rotate_left
      focus (have q0 := f0 w' hS; have q1 := y0 w' hS; have q2 := y1 w' hS; have q3 := y2 w' hS; have q4 := y3 w' hS; clear hS; go_simp; try rfl; done)
      simp only [List.getElem_toArray, List.getElem_cons_succ, List.getElem_cons_zero, Act.put, List.setIfInBounds_toArray, List.set_cons_zero, List.set_cons_succ]
      refine hd_take (v := ?_) 24 rfl (by kernel_rfl) (fun _ _ d _ _ h => (by cases d <;> exact h)) (by kernel_rfl) S5 (fun w' hS => ?_) ?_
      rotate_left
      focus (have q0 := f0 w' hS; have q1 := y0 w' hS; have q2 := y1 w' hS; have q3 := y2 w' hS; have q4 := y3 w' hS; clear hS; go_simp; try rfl; done)
      simp only [List.getElem_toArray, List.getElem_cons_succ, List.getElem_cons_zero, Act.put, List.setIfInBounds_toArray, List.set_cons_zero, List.set_cons_succ]
      refine hd_take (v := ?_) 25 rfl (by kernel_rfl) (fun _ _ d _ _ h => (by cases d <;> exact h)) (by kernel_rfl) S5 (fun w' hS => ?_) ?_
      rotate_left
      focus (have q0 := f0 w' hS; have q1 := y0 w' hS; have q2 := y1 w' hS; have q3 := y2 w' hS; have q4 := y3 w' hS; clear hS; go_simp; try rfl; done)
      simp only [List.getElem_toArray, List.getElem_cons_succ, List.getElem_cons_zero, Act.put, List.setIfInBounds_toArray, List.set_cons_zero, List.set_cons_succ]
      refine hd_take (v := ?_) 26 rfl (by kernel_rfl) (fun _ _ d _ _ h => (by cases d <;> exact h)) (by kernel_rfl) S5 (fun w' hS => ?_) ?_
      rotate_left
      focus (have q0 := f0 w' hS; have q1 := y0 w' hS; have q2 := y1 w' hS; have q3 := y2 w' hS; have q4 := y3 w' hS; clear hS; go_simp; try rfl; done)
      simp only [List.getElem_toArray, List.getElem_cons_succ, List.getElem_cons_zero, Act.put, List.setIfInBounds_toArray, List.set_cons_zero, List.set_cons_succ]
      refine hd_take (v := ?_) 27 rfl (by kernel_rfl) (fun _ _ d _ _ h => (by cases d <;> exact h)) (by kernel_rfl) S5 (fun w' hS => ?_) ?_
      rotate_left
      focus (have q0 := f0 w' hS; have q1 := y0 w' hS; have q2 := y1 w' hS; have q3 := y2 w' hS; have q4 := y3 w' hS; clear hS; go_simp; try rfl; done)
      simp only [List.getElem_toArray, List.getElem_cons_succ, List.getElem_cons_zero, Act.put, List.setIfInBounds_toArray, List.set_cons_zero, List.set_cons_succ]
      refine hd_take (v := ?_) 28 rfl (by kernel_rfl) (fun _ _ d _ _ h => (by cases d <;> exact h)) (by kernel_rfl) S5 (fun w' hS => ?_) ?_
      rotate_left
      focus (have q0 := f0 w' hS; have q1 := y0 w' hS; have q2 := y1 w' hS; have q3 := y2 w' hS; have q4 := y3 w' hS; clear hS; go_simp; try rfl; done)
      simp only [List.getElem_toArray, List.getElem_cons_succ, List.getElem_cons_zero, Act.put, List.setIfInBounds_toArray, List.set_cons_zero, List.set_cons_succ]
      refine hd_take (v := ?_) 29 rfl (by kernel_rfl) (fun _ _ d _ _ h => (by cases d <;> exact h)) (by kernel_rfl) S5 (fun w' hS => ?_) ?_
      rotate_left
      focus (have q0 := f0 w' hS; have q1 := y0 w' hS; have q2 := y1 w' hS; have q3 := y2 w' hS; have q4 := y3 w' hS; clear hS; go_simp; try rfl; done)
      simp only [List.getElem_toArray, List.getElem_cons_succ, List.getElem_cons_zero, Act.put, List.setIfInBounds_toArray, List.set_cons_zero, List.set_cons_succ]
      refine hd_take (v := ?_) 30 rfl (by kernel_rfl) (fun _ _ d _ _ h => (by cases d <;> exact h)) (by kernel_rfl) S5 (fun w' hS => ?_) ?_
      rotate_left
      focus (have q0 := f0 w' hS; have q1 := y0 w' hS; have q2 := y1 w' hS; have q3 := y2 w' hS; have q4 := y3 w' hS; clear hS; go_simp; try rfl; done)
      simp only [List.getElem_toArray, List.getElem_cons_succ, List.getElem_cons_zero, Act.put, List.setIfInBounds_toArray, List.set_cons_zero, List.set_cons_succ]
      refine hd_take (v := ?_) 31 rfl (by kernel_rfl) (fun _ _ d _ _ h => (by cases d <;> exact h)) (by kernel_rfl) S5 (fun w' hS => ?_) ?_
      rotate_left
      focus (have q0 := f0 w' hS; have q1 := y0 w' hS; have q2 := y1 w' hS; have q3 := y2 w' hS; have q4 := y3 w' hS; clear hS; go_simp; try rfl; done)
      simp only [List.getElem_toArray, List.getElem_cons_succ, List.getElem_cons_zero, Act.put, List.setIfInBounds_toArray, List.set_cons_zero, List.set_cons_succ]
      refine hd_take (v := ?_) 32 rfl (by kernel_rfl) (fun _ _ d _ _ h => (by cases d <;> exact h)) (by kernel_rfl) S5 (fun w' hS => ?_) ?_
      rotate_left
      focus (have q0 := f0 w' hS; have q1 := y0 w' hS; have q2 := y1 w' hS; have q3 := y2 w' hS; have q4 := y3 w' hS; clear hS; go_simp; try rfl; done)
      simp only [List.getElem_toArray, List.getElem_cons_succ, List.getElem_cons_zero, Act.put, List.setIfInBounds_toArray, List.set_cons_zero, List.set_cons_succ]
      clear f0 y0 y1 y2 y3
      refine hd_one 33 (by kernel_rfl) ?_
      refine op_run rfl (by kernel_rfl) (by go_simp; first | done | exact ⟨rfl, rfl⟩ | rfl) ?_
      refine ⟨S6, ?_⟩
      simp only [List.getElem_toArray, List.getElem_cons_succ, List.getElem_cons_zero, Act.put, List.setIfInBounds_toArray, List.set_cons_zero, List.set_cons_succ]
      refine hd_one 34 (by kernel_rfl) ?_
      obtain ⟨hi, hz0, hz1, hz2⟩ := HI.out
      refine op_wp rfl (by kernel_rfl) ?_
      refine wp_append_lies _ _ _ 22 rfl 0 5 i0 _ 1 1 Try.underlying22 hi hz0 hz1 hz2 rfl (by decide) u3 (4 * j) ((K.take (4 * j)).map B) rfl hown ⟨wr.heap.size, 0, none⟩ 4 4 [.int .u8 (x0.toNat : Int), .int .u8 (x1.toNat : Int), .int .u8 (x2.toNat : Int), .int .u8 (x3.toNat : Int)] rfl rfl (World.news_of_block (heap_alloc_new _ _)) (fun u hu => by simp at hu; rcases hu with rfl | rfl | rfl | rfl <;> rfl) (by decide) (by unfold maxLen; omega) (by omega) (Nat.zero_le _) _ rfl ?_
      intro g' cap' w2 hown2 hgrow hat hlt2
      have hb1 : Below w.heap.size w (wr.drewN 1) := HV.out.2.1.trans ((drew_below wr 1).mono HV.out.2.1.size)
      have HN : Hid (OB w2 (.slice (some ⟨g', 0, none⟩) (4 * j + 4) cap') (K.take (4 * (j + 1))) ∧ Below w.heap.size w w2 ∧ (∀ x, fpv (.slice (some ⟨g', 0, none⟩) (4 * j + 4) cap') x → w.heap.size ≤ x)) := by
        refine Lib.hid ⟨?_, (hb1.alloc hb1.size _).grown hgrow (by simp; have := hb1.size; simp at this; omega) (fun x hx => HV.out.2.2 x hx), fun z hz => ?_⟩
        · unfold OB
          rw [HT.out, List.length_append, hkl, List.map_append]
          simpa [B] using hown2
        · have e : g' = z := by simpa [fpv, Value.ownBlock] using hz
          subst e
          rcases hat with hat | hat
          · exact HV.out.2.2 g' hat
          · rw [hat]; simp; have := hb1.size; simp at this; omega
      clear hown2 hgrow hat hlt2 hown hi hz0 hz1 hz2 hb1
      simp only [List.getElem_toArray, List.getElem_cons_succ, List.getElem_cons_zero, Act.put, List.setIfInBounds_toArray, List.set_cons_zero, List.set_cons_succ]
      have S7 := HR.out.below HN.out.2.1
      refine ⟨S7, ?_⟩
      refine hd_take (v := ?_) 35 rfl (by kernel_rfl) (fun _ _ d _ _ h => (by cases d <;> exact h)) (by kernel_rfl) S7 (fun w' hS => ?_) ?_
      rotate_left
      focus (clear hS; go_simp; try rfl; done)
      simp only [List.getElem_toArray, List.getElem_cons_succ, List.getElem_cons_zero, Act.put, List.setIfInBounds_toArray, List.set_cons_zero, List.set_cons_succ]
      refine hd_done (by kernel_rfl) ?_
      go_wp2
      go_roundw
      case rel => exact ⟨j + 1, by omega, by go_num, HN⟩
      case measure => simp [intOf]; omega
    · obtain rfl : j = n := by omega
      go_wp2
      go_ret
      exact ⟨_, rfl, HV.out.1, HV.out.2.1, HV.out.2.2⟩
end Go.Proofs.Ytihmgkjmebdioaa
/- What turnkeyref10.Of keeps on its way: the words' row grows in the Aes block. No walk here. -/
namespace Go.Proofs.Ytihmgkjmebdioaa
open Go.RowKit
set_option maxRecDepth 100000
set_option linter.unusedVariables false
set_option linter.unusedSimpArgs false
theorem hd_part2 {P : Program} {ops : Array Oper} {md : Region.Mode} {Q : Exit → Act → World → Prop} {S : World → Prop} {fuel : Nat} {listed : Array Bool} {a : Act} {w : World} {o : Oper} {v : Value} (i : Nat) (ho : ops[i]? = some o) (hs : (Region.noSelect ops && Region.free md ops listed i && (Region.ready md ops listed).contains i) = true) (hQ : ∀ c (a : Act) (d : Option Tmp) (v : Value) w, Q (.panic c) (a.put d v) w → Q (.panic c) a w)
    (hy : YieldsIf P ops S o v a) (hS : S w) (kk : wpAnyH P md ops Q S fuel (listed.setIfInBounds i true) (a.put o.dst v) w) : wpAnyH P md ops Q S (fuel + 1) listed a w := by
  simp only [Bool.and_eq_true] at hs
  exact wpAnyH_take ho hs.1.1 hs.1.2 hs.2 (fun c a w => hQ c a _ v w) hy hS kk
theorem put4 (W t : List UInt8) (k i b : Nat) (hk : 1 ≤ k) (hi : k ≤ i) (hl : 4 * i + 4 ≤ W.length) (hb : b < 4) : (putTo W t k i 4)[4 * i + b]? = some (W.getD (4 * (i - k) + b) 0 ^^^ t.getD b 0) := by
  have low : ∀ n m, m < 4 * i → (putTo W t k i n).getD m 0 = W.getD m 0 := fun n m hm => by
    rw [List.getD_eq_getElem?_getD, List.getD_eq_getElem?_getD, putTo_low W t k i n m hm]
  have hlen : ∀ n, (putTo W t k i n).length = W.length := fun n => putTo_len W t k i n
  have step : ∀ n, putTo W t k i (n + 1) = (putTo W t k i n).set (4 * i + n) (W.getD (4 * (i - k) + n) 0 ^^^ t.getD n 0) ∨ ¬ 4 * (i - k) + n < 4 * i := fun n => by
    by_cases h : 4 * (i - k) + n < 4 * i
    · left; rw [putTo, low n _ h]
    · exact .inr h
  have s0 := (step 0).resolve_right (by omega)
  have s1 := (step 1).resolve_right (by omega)
  have s2 := (step 2).resolve_right (by omega)
  have s3 := (step 3).resolve_right (by omega)
  rcases (by omega : b = 0 ∨ b = 1 ∨ b = 2 ∨ b = 3) with rfl | rfl | rfl | rfl
  · rw [s3, List.getElem?_set_ne (by omega), s2, List.getElem?_set_ne (by omega), s1, List.getElem?_set_ne (by omega), s0, List.getElem?_set_self (by rw [hlen]; omega)]
  · rw [s3, List.getElem?_set_ne (by omega), s2, List.getElem?_set_ne (by omega), s1, List.getElem?_set_self (by rw [hlen]; omega)]
  · rw [s3, List.getElem?_set_ne (by omega), s2, List.getElem?_set_self (by rw [hlen]; omega)]
  · rw [s3, List.getElem?_set_self (by rw [hlen]; omega)]
/-- the word that is put behind -/
def xorW (W t : List UInt8) (k i : Nat) : List UInt8 := tab 4 fun j => t.getD j 0 ^^^ W.getD (4 * (i - k) + j) 0
theorem xorW_len (W t : List UInt8) (k i : Nat) : (xorW W t k i).length = 4 := tab_length _ _
theorem put_take (W t : List UInt8) (k i : Nat) (hk : 1 ≤ k) (hi : k ≤ i) (hl : 4 * i + 4 ≤ W.length) : (putTo W t k i 4).take (4 * (i + 1)) = W.take (4 * i) ++ xorW W t k i := by
  have hlen := putTo_len W t k i 4
  have hg : ∀ b, b < 4 → (putTo W t k i 4).getD (4 * i + b) 0 = t.getD b 0 ^^^ W.getD (4 * (i - k) + b) 0 := fun b hb => by
    rw [List.getD_eq_getElem?_getD, put4 W t k i b hk hi hl hb, UInt8.xor_comm]
    rfl
  rw [take_four _ i (by rw [hlen]; exact hl)]
  congr 1
  · apply List.ext_getElem?
    intro j
    by_cases hj : j < 4 * i
    · rw [List.getElem?_take_of_lt hj, List.getElem?_take_of_lt hj, putTo_low W t k i 4 j hj]
    · rw [List.getElem?_eq_none (by rw [List.length_take]; omega), List.getElem?_eq_none (by rw [List.length_take]; omega)]
  · rw [show 4 * i = 4 * i + 0 from rfl, hg 0 (by omega), show 4 * i + 0 + 1 = 4 * i + 1 from rfl, hg 1 (by omega), show 4 * i + 0 + 2 = 4 * i + 2 from rfl, hg 2 (by omega), show 4 * i + 0 + 3 = 4 * i + 3 from rfl, hg 3 (by omega)]
    rfl
theorem info4 : (Try.prog.info? 79).map (fun i => (i.zero, i.size, i.bytes)) = some (some (.agg #[.int .u8 0, .int .u8 0, .int .u8 0, .int .u8 0]), 4, 4) := by kernel_rfl
/-- the worlds between: the Aes block a, its words v (i of them, out of W) -/
structure OfW (w wx : World) (a : Nat) (v : Value) (i : Nat) (W : List UInt8) : Prop where
  blk : Blk wx a 109 (raC v)
  row : wx.ownsRow 0 79 4 v i ((W.take (4 * i)).map B)
  bel : Below w.heap.size w wx
  age : w.heap.size ≤ a
  vge : ∀ x, fpv v x → w.heap.size ≤ x ∧ x ≠ a
theorem OfW.only {w wx wy : World} {a i : Nat} {v : Value} {W : List UInt8} (h : OfW w wx a v i W) {S : Nat → Prop} (ho : Only S wx wy) (ha : ¬ S a) (hv : ∀ x, fpv v x → ¬ S x) (hS : ∀ x, S x → w.heap.size ≤ x) : OfW w wy a v i W :=
  ⟨h.blk.only ho ha, ownsRow_keep h.row ho hv, h.bel.trans (ho.below0 (fun x hx hs => absurd (hS x hs) (by omega)) h.bel.size), h.age, h.vge⟩
theorem OfW.below {w wx wy : World} {a i : Nat} {v : Value} {W : List UInt8} (h : OfW w wx a v i W) (hb : Below wx.heap.size wx wy) : OfW w wy a v i W :=
  h.only (Only.nothing hb) (fun h => h) (fun _ _ h => h) (fun _ h => h.elim)
theorem OfW.head {w wx : World} {a i : Nat} {v : Value} {W : List UInt8} (h : OfW w wx a v i W) : wx.cell? ⟨a, 0, none⟩ = some v := h.blk.cellAt 0 rfl
theorem raC_set (v v' : Value) : (raC v).set! 0 v' = raC v' := by
  unfold raC
  rfl
theorem OfW.form {w wx : World} {a i : Nat} {v : Value} {W : List UInt8} (h : OfW w wx a v i W) (hi : 0 < i) : ∃ g cap, v = .slice (some ⟨g, 0, none⟩) i cap ∧ i ≤ cap ∧ cap ≤ 9223372036854775807 := by
  rcases h.row.2 with ⟨_, h0⟩ | ⟨g, cap, cur, hv, _, _, h1, h2, _⟩
  · omega
  · exact ⟨g, cap, hv, h1, h2⟩
theorem OfW.ra {w wx : World} {a g n cap : Nat} {W : List UInt8} (h : OfW w wx a (.slice (some ⟨g, 0, none⟩) n cap) n W) (hl : 4 * n ≤ W.length) : RA wx a g n cap W :=
  ⟨h.blk, h.row, (h.vge g rfl).2, hl⟩
/-- a word more -/
theorem OfW.push {w w1 w2 : World} {a i : Nat} {v v' : Value} {W W' xs : List UInt8} (h : OfW w w1 a v i W) (hown : w2.ownsRow 0 79 4 v' (i + 1) ((W.take (4 * i)).map B ++ xs.map B)) (hg : w1.grownBy w2 v.ownBlock) (hat : v.ownBlock = v'.ownBlock ∨ v'.ownBlock = some w1.heap.size)
    (e : W'.take (4 * (i + 1)) = W.take (4 * i) ++ xs) : w2.cell? ⟨a, 0, none⟩ = some v ∧ w2.frozen? ⟨a, 0, none⟩ = false ∧ OfW w (w2.setCell ⟨a, 0, none⟩ v') a v' (i + 1) W' := by
  have ho : Only (fpv v) w1 w2 := Only.grown (Only.refl _ w1) hg (fun k hk => .inl hk)
  have hva : ¬ fpv v a := fun hx => (h.vge a hx).2 rfl
  have hb := h.blk.only ho hva
  have halt := h.blk.lt
  have hv' : ∀ x, fpv v' x → fpv v x ∨ x = w1.heap.size := fun x hx => by
    have hx' : v'.ownBlock = some x := hx
    rcases hat with hat | hat
    · exact .inl (by rw [← hat] at hx'; exact hx')
    · rw [hat] at hx'
      injection hx' with hx'
      exact .inr hx'.symm
  have hbel : Below w.heap.size w w2 := h.bel.trans (ho.below0 (fun x hx hs => absurd (h.vge x hs).1 (by omega)) h.bel.size)
  refine ⟨hb.cellAt 0 rfl, hb.unfrozen 0, ?_, ?_, hbel.setCell h.age _, h.age, fun x hx => ?_⟩
  · exact hb.set 0 v'
  · rw [e, List.map_append]
    refine ownsRow_keep hown ((Only.refl (fun x => x = a) w2).set (p := ⟨a, 0, none⟩) (.inl rfl) _) (fun x hx hs => ?_)
    subst hs
    rcases hv' x hx with hh | hh
    · exact hva hh
    · omega
  · rcases hv' x hx with hh | hh
    · exact h.vge x hh
    · have := h.bel.size
      exact ⟨by omega, by omega⟩
/-- and a box t of four bytes -/
structure OfT (w wx : World) (a : Nat) (v : Value) (i : Nat) (W : List UInt8) (T : Nat) (t : List UInt8) : Prop where
  o : OfW w wx a v i W
  tb : Blk wx T 79 (barr t)
  tge : w.heap.size ≤ T
  ta : T ≠ a
  tv : ¬ fpv v T
section
variable {w wx wy : World} {a i T : Nat} {v : Value} {W t : List UInt8}
theorem OfT.below (h : OfT w wx a v i W T t) (hb : Below wx.heap.size wx wy) : OfT w wy a v i W T t := ⟨h.o.below hb, h.tb.below hb h.tb.lt, h.tge, h.ta, h.tv⟩
theorem OfT.draw (h : OfT w wx a v i W T t) (m : Nat) : OfT w (wx.drewN m) a v i W T t := h.below (drew_below wx m)
theorem OfT.only' (h : OfT w wx a v i W T t) (ho : Only (fun x => x = T) wx wy) : OfW w wy a v i W :=
  h.o.only ho (fun e => h.ta e.symm) (fun x hx e => h.tv (by rw [← e]; exact hx)) (fun x e => by rw [e]; exact h.tge)
theorem OfT.row (h : OfT w wx a v i W T t) (t' : List UInt8) : OfT w (wx.setRow T (barr t')) a v i W T t' :=
  ⟨h.only' (Only.row (S := fun x => x = T) (Only.refl _ _) (.inl rfl) _), h.tb.row _, h.tge, h.ta, h.tv⟩
theorem OfT.set (h : OfT w wx a v i W T t) (j : Nat) (x : UInt8) : OfT w (wx.setCell ⟨T, j, none⟩ (.int .u8 (x.toNat : Int))) a v i W T (t.set j x) :=
  ⟨h.only' (Only.set (S := fun x => x = T) (p := ⟨T, j, none⟩) (Only.refl _ _) (.inl rfl) _), by rw [← barr_set]; exact h.tb.set j _, h.tge, h.ta, h.tv⟩
theorem OfW.boxed (h : OfW w wx a v i W) (t : List UInt8) : OfT w ((wx.alloc (.cells (barr (List.replicate 4 0)) 79)).setRow wx.heap.size (barr t)) a v i W wx.heap.size t := by
  have h2 := h.below ((Below.refl _ wx).alloc (Nat.le_refl _) (.cells (barr (List.replicate 4 0)) 79))
  have hT : OfT w (wx.alloc (.cells (barr (List.replicate 4 0)) 79)) a v i W wx.heap.size (List.replicate 4 0) :=
    ⟨h2, Blk.at rfl rfl, h.bel.size, fun e => absurd h.blk.lt (by omega), fun hx => by
      have := (World.ownsRow.lt h.row wx.heap.size hx).2
      omega⟩
  exact hT.row t
end
theorem wordAt_at {wx : World} {a g n cap : Nat} {W : List UInt8} (h : RA wx a g n cap W) (j : Nat) (hj : j < n) : wx.rangeAt g (j * 4) ((wordAt W j).map B) := by
  intro b u hb
  have hl := h.le
  have hb4 : b < 4 := by
    have := (List.getElem?_eq_some_iff.1 hb).1
    simpa [wordAt] using this
  have e := h.word (j * 4 + b) (by omega)
  rw [e]
  rw [← hb, show j * 4 + b = 4 * j + b from by omega]
  rcases (by omega : b = 0 ∨ b = 1 ∨ b = 2 ∨ b = 3) with rfl | rfl | rfl | rfl <;> rfl
end Go.Proofs.Ytihmgkjmebdioaa
/- The walk of package aes's expanded. Condition: the key has 16, 24 or 32 bytes. -/
namespace Go.Proofs.Ytihmgkjmebdioaa
open Go.RowKit
set_option maxRecDepth 100000
set_option linter.unusedVariables false
set_option linter.unusedSimpArgs false

set_option maxHeartbeats 4000000 in
theorem expanded_any (u : Value) (key : List UInt8) (k : Nat) (w : World) (hu : Bs w u key) (hkl : key.length = 4 * k) (hk : k = 4 ∨ k = 6 ∨ k = 8) :
    Calls Try.prog 31 #[u] w fun e w' => e = .returned (.agg (barr (sched key))) ∧ Below w.heap.size w w' := by
  have hk8 : k ≤ 8 := by omega
  have hk4 : 4 ≤ k := by omega
  have HU := Lib.hid hu
  obtain ⟨ao, cap, rfl, h1, h2, _, hc⟩ := hu.form
  clear hu
  have hpos : 0 < key.length := by omega
  obtain ⟨g, off, rfl, _⟩ := hc 0 hpos
  have hcell : ∀ j, j < key.length → w.cell? ⟨g, off + j, none⟩ = some (.int .u8 ((key.getD j 0).toNat : Int)) := by
    intro j hj
    obtain ⟨b, o, hb, hx⟩ := hc j hj
    injection hb with e
    injection e with e1 e2
    subst e1; subst e2
    exact hx
  have HCELL := Lib.hid hcell
  have hg : g < w.heap.size := World.block_lt_of_cell? w _ (hcell 0 hpos)
  clear hc hcell
  have hkq : (key.length : Int) / 4 = (k : Int) := by omega
  have HKL := Lib.hid hkl
  have hSched : Hid (expN k (3 * k + 28) k 1 (keyTo key k) = sched key) := by
    unfold sched
    rw [show key.length / 4 = k from by omega]
    congr 1
    unfold keyTo
    rw [← hkl, List.take_of_length_le (Nat.le_refl _)]
  have hz := zero240
  have hzw := zero240w
  generalize hZ : barr (List.replicate 240 0) = Z at hz hzw
  have HZ := Lib.hid hZ
  clear hZ hkl
  go_enter Try.func31, Try.ntmps31
  go_wp2_with fail
  have hE : ExpW w w.heap.size (keyTo key 0) ((w.alloc (.cells Z 66)).alloc (.cells Z 94)) := by
    refine ⟨?_, ?_, keyTo_len key 0 (by omega) (by have := HKL.out; omega), rfl, ((Below.refl _ _).alloc (Nat.le_refl _) _).alloc (by simp) _⟩
    · rw [HZ.out]; exact (Blk.at rfl rfl).alloc _
    · rw [keyTo_zero, HZ.out]; exact Blk.at (by simp) rfl
  have HE := Lib.hid hE
  clear hE
  generalize hn0 : w.heap.size = n0 at HE hg ⊢
  have HN0 := Lib.hid hn0
  go_loopw [17] (fun i w1 => ∃ j : Nat, j ≤ k ∧ i = .int .i64 (j : Int) ∧ Hid (ExpW w n0 (keyTo key j) w1)) (fun i _ => k - (intOf i).toNat)
  case atStart => exact ⟨0, by omega, rfl, HE⟩
  case round =>
    obtain ⟨j, hj, rfl, H⟩ := hrel
    clear HE
    by_cases hlt : j < k
    · obtain ⟨a, ha⟩ : ∃ a, 4 * j = a := ⟨_, rfl⟩
      have haI : 4 * (j : Int) = (a : Int) := by omega
      have ha4 : a + 4 ≤ key.length := by have := HKL.out; omega
      have hac : a + 4 ≤ cap := by omega
      have hlen : (wordAt key j).length = 4 := rfl
      have hrow := H.out.row
      have rng : wr.rangeAt g (off + a) ((wordAt key j).map B) := by
        intro i v hv
        have hi : i < 4 := by
          have := (List.getElem?_eq_some_iff.1 hv).1
          simpa [wordAt] using this
        have hb := H.out.below
        rw [show off + a + i = off + (a + i) from by omega, Below.cell hb (p := ⟨g, off + (a + i), none⟩) (by have := HN0.out; show g < _; omega), HCELL.out (a + i) (by omega), ← hv, ← ha]
        rcases i with _ | _ | _ | _ | i
        · rfl
        · rfl
        · rfl
        · rfl
        · omega
      have RNG := Lib.hid rng
      have HA := Lib.hid ha
      clear rng ha
      have hArr : ∀ w', (Instr.arrayAt 79 (.slice (some ⟨g, off + a, none⟩) 4 (cap - a))).run Try.prog w' = .ok (.pointer (some ⟨g, off + a, none⟩)) w' := fun w' => run_arrayAt w' 79 5 4 _ 4 _ Try.underlying79 (Nat.le_refl _)
      have hth : wr.there (n0 + 1) (j * 4) (barr (wordAt key j)).size := by
        rw [barr_size, hlen]
        exact hrow.there _ _ (by rw [barr_size, H.out.len]; omega)
      have HTH := Lib.hid hth
      have hs4 : (barr (wordAt key j)).size = 4 := by rw [barr_size, hlen]
      have hone : (barr (wordAt key j)).all (·.oneCell') = true := Array.all_eq_true_iff_forall_mem.2 (fun v hv => barr_one _ v (by simpa using hv))
      have hm4 : ((wordAt key j).map B).length = 4 := rfl
      clear hrow hth
      go_wp2_with (first | ((with_reducible change wpList _ _ _ (Oper.mk _ (Op.load 79 _) _ _ _ _ :: _) _ _); refine wpList_load_mid rfl 79 _ rfl g (off + a) rfl ((wordAt key j).map B) _ RNG.out Try.underlying79 rfl (size4.trans (by rw [hm4])) ?_) | ((with_reducible change wpList _ _ _ (Oper.mk _ (Op.store 79 _ _) _ _ _ _ :: _) _ _); refine wpList_store_mid rfl 79 _ _ rfl (n0 + 1) (j * 4) (barr (wordAt key j)) rfl rfl HTH.out (size4.trans (by rw [hs4])) hone ?_))
      go_roundw
      case rel =>
        refine ⟨j + 1, by omega, by go_num, ?_⟩
        have e := keyTo_succ key j (by have := HA.out; omega) (by have := HKL.out; omega)
        have h := H.out.word (j * 4) (wordAt key j) (by rw [e]; exact keyTo_len _ _ (by have := HA.out; omega) (by have := HKL.out; omega))
        rw [e] at h
        rw [barr_toList2]
        exact Lib.hid h
      case measure => simp [intOf]; omega
    · obtain rfl : j = k := by omega
      clear HCELL HU
      obtain ⟨N, hN⟩ : ∃ N, 4 * (j + 7) = N := ⟨_, rfl⟩
      have hNI : 4 * ((j : Int) + 7) = (N : Int) := by omega
      have hN60 : N ≤ 60 := by omega
      have HN := Lib.hid hN
      have hSched2 : Hid (expN j (N - j) j 1 (keyTo key j) = sched key) := by
        rw [show N - j = 3 * j + 28 from by omega]
        exact hSched
      clear hSched hN
      go_wp2_with fail
      go_loopw [6, 7] (fun x i w1 => ∃ (i' : Nat) (x' : UInt8) (W : List UInt8), j ≤ i' ∧ i' ≤ N ∧ i = .int .i64 (i' : Int) ∧ x = .int .u8 (x'.toNat : Int) ∧ Hid (expN j (N - i') i' x' W = sched key) ∧ Hid (ExpW w n0 W w1)) (fun _ i _ => N - (intOf i).toNat)
      case atStart => exact ⟨j, 1, _, Nat.le_refl _, by have := HN.out; omega, rfl, rfl, hSched2, H⟩
      case round =>
        obtain ⟨i, x, W, hji, hiN, rfl, rfl, HX, HW⟩ := hrel
        clear H hSched2
        have hWl := HW.out.len
        by_cases hit : i < N
        · obtain ⟨i1, hi1⟩ : ∃ i1, i - 1 = i1 := ⟨_, rfl⟩
          have hi1I : (i : Int) - 1 = (i1 : Int) := by omega
          have hi160 : i1 < 60 := by omega
          have HI1 := Lib.hid hi1
          have rng := wordAt_range HW.out.row i1 (by omega)
          have RNG := Lib.hid rng
          have hm4 : ((wordAt W i1).map B).length = 4 := rfl
          obtain ⟨d, hd⟩ : ∃ d, i - j = d := ⟨_, rfl⟩
          have hdI : (i : Int) - (j : Int) = (d : Int) := by omega
          have hd60 : d < 60 := by omega
          have hdi : d < i := by omega
          have HD := Lib.hid hd
          obtain ⟨t0, t1, t2, t3, htt⟩ : ∃ t0 t1 t2 t3, wordAt W i1 = [t0, t1, t2, t3] := ⟨_, _, _, _, rfl⟩
          have HTT := Lib.hid htt
          have hs4 : (barr (wordAt W i1)).size = 4 := rfl
          have rng4 : wr.rangeAt (n0 + 1) (i1 * 4) ([t0, t1, t2, t3].map B) := by rw [← htt]; exact rng
          have RNG4 := Lib.hid rng4
          have htbn : n0 + 1 < wr.heap.size := HW.out.row.lt
          have htw : w.heap.size ≤ wr.heap.size := HW.out.below.size
          have b0 : Blk (wr.alloc (.cells (barr (List.replicate 4 0)) 79)) wr.heap.size 79 (barr (List.replicate 4 0)) := Blk.new _ _ _
          have hm44 : ([t0, t1, t2, t3].map B).length = 4 := rfl
          clear rng rng4 hi1 hd htt
          by_cases hik : i % j = 0
          · have hikI : ((i : Int) % (j : Int) == 0) = true := by
              rw [beq_iff_eq]; omega
            go_wp2_with (first | ((with_reducible change wpList _ _ _ (Oper.mk _ (Op.load 79 _) _ _ _ _ :: _) _ _); refine wpList_load_mid rfl 79 _ rfl (n0 + 1) (i1 * 4) rfl ([t0, t1, t2, t3].map B) _ RNG4.out Try.underlying79 rfl (size4.trans (by rw [hm44])) ?_) | ((with_reducible change wpList _ _ _ (Oper.mk _ (Op.store 79 _ _) _ _ _ _ :: _) _ _); refine wpList_store_var wr.heap.size (barr [t0, t1, t2, t3]) rfl rfl b0 size4 rfl rfl (barr_one _) ?_; intro w1 B1 O1; have HW1 := Lib.hid ((HW.out.next ((Below.refl _ _).alloc (Nat.le_refl _) _)).only (g := wr.heap.size) htbn O1); have HB1 := Lib.hid B1; have q0 := B1.cellAt 0 (barr_getD [t0, t1, t2, t3] 0 (by simp)); have q1 := B1.cellAt 1 (barr_getD [t0, t1, t2, t3] 1 (by simp)); have q2 := B1.cellAt 2 (barr_getD [t0, t1, t2, t3] 2 (by simp)); have q3 := B1.cellAt 3 (barr_getD [t0, t1, t2, t3] 3 (by simp)); have hbl := B1.lt; clear B1 O1))
            refine (boxed_any [t1, t2, t3, t0] w1 rfl).mono ?_
            rintro e w2 ⟨rfl, h2⟩
            have HW2 := Lib.hid (HW1.out.next h2)
            have HB2 := Lib.hid (HB1.out.below h2 hbl)
            clear h2 HW1 HB1 q0 q1 q2 q3 hbl b0
            generalize htb : wr.heap.size = tb at *
            go_wp2_with ((with_reducible change wpList _ _ _ (Oper.mk _ (Op.store 79 _ _) _ _ _ _ :: _) _ _); refine wpList_store_var tb (barr [boxU t1, boxU t2, boxU t3, boxU t0]) rfl rfl HB2.out size4 rfl rfl (barr_one _) ?_; intro w3 B3 O3; have HW3 := Lib.hid (HW2.out.only (g := tb) htbn O3); have HB3 := Lib.hid B3; have q0 := B3.cellAt 0 (barr_getD [boxU t1, boxU t2, boxU t3, boxU t0] 0 (by simp)); have f0 := B3.unfrozen 0; have hbl := B3.lt; clear B3 O3)
            have HW4 := Lib.hid (HW3.out.only (g := tb) (w' := w3.setCell ⟨tb, 0, none⟩ (.int .u8 ((boxU t1 ^^^ x).toNat : Int))) htbn (Only.set (S := fun x => x = tb) (Only.refl _ _) (.inl rfl) _))
            have HB4 : Hid (Blk (w3.setCell ⟨tb, 0, none⟩ (.int .u8 ((boxU t1 ^^^ x).toNat : Int))) tb 79 (barr [boxU t1 ^^^ x, boxU t2, boxU t3, boxU t0])) := by
              have h := HB3.out.set 0 (.int .u8 ((boxU t1 ^^^ x).toNat : Int))
              rw [barr_set] at h
              exact Lib.hid h
            have hxx : bits .xor .u8 ((boxU t1).toNat : Int) (x.toNat : Int) = ((boxU t1 ^^^ x).toNat : Int) := xorU _ _
            have q0' : ([boxU t1, boxU t2, boxU t3, boxU t0] : List UInt8).getD 0 0 = boxU t1 := rfl
            refine (mulU_any x 2 _).mono ?_
            rintro e w5 ⟨rfl, rfl⟩
            have HE : Hid (ExpW w n0 W (w3.setCell ⟨tb, 0, none⟩ (.int .u8 (bits .xor .u8 ((boxU t1).toNat : Int) (x.toNat : Int))))) := by rw [hxx]; exact HW4
            have HT' : Hid (Blk (w3.setCell ⟨tb, 0, none⟩ (.int .u8 (bits .xor .u8 ((boxU t1).toNat : Int) (x.toNat : Int)))) tb 79 (barr [boxU t1 ^^^ x, boxU t2, boxU t3, boxU t0])) := by rw [hxx]; exact HB4
            obtain ⟨T, hTT⟩ : ∃ T, T = [boxU t1 ^^^ x, boxU t2, boxU t3, boxU t0] := ⟨_, rfl⟩
            have hTl : T.length = 4 := by rw [hTT]; rfl
            have HTe : Hid (turned j i x (wordAt W (i - 1)) = T) := by
              rw [HI1.out, HTT.out, hTT]
              unfold turned
              rw [if_pos hik]
              exact Lib.hid rfl
            rw [← hTT] at HT'
            have HT := HT'
            clear HT' hTT HW4 HB4 HW3 HB3 q0 f0 hbl HW2 HB2 q0' hxx
            go_wp2_with fail
            go_loopw [76] (fun b w1 => ∃ c : Nat, c ≤ 4 ∧ b = .int .i64 (c : Int) ∧ Hid (ExpW w n0 (putTo W T j i c) w1) ∧ Hid (Blk w1 tb 79 (barr T))) (fun b _ => 4 - (intOf b).toNat)
            case atStart => exact ⟨0, by omega, rfl, HE, HT⟩
            case round =>
              obtain ⟨c, hc, rfl, HE2, HT2⟩ := hrel
              by_cases hct : c < 4
              · have hPl : (putTo W T j i c).length = 240 := HE2.out.len
                have c1 := HE2.out.row.cellAt (d * 4 + c) (barr_getD _ (d * 4 + c) (by rw [hPl]; omega))
                have c2 := HT2.out.cellAt c (barr_getD T c (by rw [hTl]; exact hct))
                have c3 := HE2.out.row.cellAt (i * 4 + c) (barr_getD _ (i * 4 + c) (by rw [hPl]; omega))
                have f3 := HE2.out.row.unfrozen (i * 4 + c)
                have b1 := HE2.out.row.lt
                have b2 := HT2.out.lt
                generalize hy : (putTo W T j i c).getD (d * 4 + c) 0 = y at c1
                generalize hz2 : T.getD c 0 = z at c2
                have HY := Lib.hid hy
                have HZ2 := Lib.hid hz2
                have hWd : IntKind.i64.wrap (d : Int) = (d : Int) := IntWalk.i64_in _ (by omega)
                have hdI60 : (d : Int) < 60 := by omega
                have hiI60 : (i : Int) < 60 := by omega
                have hcI4 : (c : Int) < 4 := by omega
                clear hy hz2
                go_wp2_with fail
                refine wp_region_tame (fun w' => w' = wr.drewN 1) 0 15 (by kernel_rfl) (by kernel_rfl) (fun _ _ d _ _ h => (by cases d <;> exact h)) rfl (by decide) ?_
                simp only [List.take_succ_cons, List.take_zero, List.drop_succ_cons, List.drop_zero]
                refine wpPre_nil ?_
                refine wpTame_run (v := ?_) (by decide) rfl (fun w' hS => ?_) ?_
                rotate_left
                focus (subst hS; go_simp; try rfl; done)
                simp only [Act.put, List.setIfInBounds_toArray, List.set_cons_zero, List.set_cons_succ]
                refine wpTame_run (v := ?_) (by decide) rfl (fun w' hS => ?_) ?_
                rotate_left
                focus (subst hS; go_simp; try rfl; done)
                simp only [Act.put, List.setIfInBounds_toArray, List.set_cons_zero, List.set_cons_succ]
                refine wpTame_run (v := ?_) (by decide) rfl (fun w' hS => ?_) ?_
                rotate_left
                focus (subst hS; go_simp; try rfl; done)
                simp only [Act.put, List.setIfInBounds_toArray, List.set_cons_zero, List.set_cons_succ]
                refine wpTame_run (v := ?_) (by decide) rfl (fun w' hS => ?_) ?_
                rotate_left
                focus (subst hS; go_simp; try rfl; done)
                simp only [Act.put, List.setIfInBounds_toArray, List.set_cons_zero, List.set_cons_succ]
                refine wpTame_run (v := ?_) (by decide) rfl (fun w' hS => ?_) ?_
                rotate_left
                focus (subst hS; go_simp; try rfl; done)
                simp only [Act.put, List.setIfInBounds_toArray, List.set_cons_zero, List.set_cons_succ]
                refine wpTame_run (v := ?_) (by decide) rfl (fun w' hS => ?_) ?_
                rotate_left
                focus (subst hS; go_simp; try rfl; done)
                simp only [Act.put, List.setIfInBounds_toArray, List.set_cons_zero, List.set_cons_succ]
                refine wpTame_run (v := ?_) (by decide) rfl (fun w' hS => ?_) ?_
                rotate_left
                focus (subst hS; go_simp; try rfl; done)
                simp only [Act.put, List.setIfInBounds_toArray, List.set_cons_zero, List.set_cons_succ]
                refine wpTame_run (v := ?_) (by decide) rfl (fun w' hS => ?_) ?_
                rotate_left
                focus (subst hS; go_simp; try rfl; done)
                simp only [Act.put, List.setIfInBounds_toArray, List.set_cons_zero, List.set_cons_succ]
                refine wpTame_run (v := ?_) (by decide) rfl (fun w' hS => ?_) ?_
                rotate_left
                focus (subst hS; go_simp; try rfl; done)
                simp only [Act.put, List.setIfInBounds_toArray, List.set_cons_zero, List.set_cons_succ]
                refine wpTame_run (v := ?_) (by decide) rfl (fun w' hS => ?_) ?_
                rotate_left
                focus (subst hS; go_simp; try rfl; done)
                simp only [Act.put, List.setIfInBounds_toArray, List.set_cons_zero, List.set_cons_succ]
                refine wpTame_run (v := ?_) (by decide) rfl (fun w' hS => ?_) ?_
                rotate_left
                focus (subst hS; go_simp; try rfl; done)
                simp only [Act.put, List.setIfInBounds_toArray, List.set_cons_zero, List.set_cons_succ]
                refine wpTame_run (v := ?_) (by decide) rfl (fun w' hS => ?_) ?_
                rotate_left
                focus (subst hS; go_simp; try rfl; done)
                simp only [Act.put, List.setIfInBounds_toArray, List.set_cons_zero, List.set_cons_succ]
                refine wpTame_run (v := ?_) (by decide) rfl (fun w' hS => ?_) ?_
                rotate_left
                focus (subst hS; go_simp; try rfl; done)
                simp only [Act.put, List.setIfInBounds_toArray, List.set_cons_zero, List.set_cons_succ]
                refine wpTame_run (v := ?_) (by decide) rfl (fun w' hS => ?_) ?_
                rotate_left
                focus (subst hS; go_simp; try rfl; done)
                simp only [Act.put, List.setIfInBounds_toArray, List.set_cons_zero, List.set_cons_succ]
                refine wpTame_run (v := ?_) (by decide) rfl (fun w' hS => ?_) ?_
                rotate_left
                focus (subst hS; go_simp; try rfl; done)
                simp only [Act.put, List.setIfInBounds_toArray, List.set_cons_zero, List.set_cons_succ]
                refine wpTame_nil ?_
                intro w5 hw5
                subst hw5
                go_wp2
                go_roundw
                case rel =>
                  refine ⟨c + 1, by omega, by go_num, ?_, Lib.hid ((HT2.out.draw 1).set_ne (by simp; omega) _)⟩
                  have h := (HE2.out.next (drew_below wr 1)).set (i * 4 + c) (y ^^^ z)
                  have e : putTo W T j i (c + 1) = (putTo W T j i c).set (i * 4 + c) (y ^^^ z) := by
                    rw [putTo, HD.out, Nat.mul_comm 4 i, Nat.mul_comm 4 d, HY.out, HZ2.out]
                  rw [xorU, e]
                  exact Lib.hid h
                case measure => simp [intOf]; omega
              · obtain rfl : c = 4 := by omega
                go_wp2
                go_roundw
                case rel =>
                  refine ⟨i + 1, gmU x 2, putTo W T j i 4, by omega, by omega, by go_num, rfl, ?_, HE2⟩
                  have h := HX.out
                  rw [show N - i = (N - (i + 1)) + 1 from by omega, expN, HTe.out] at h
                  rw [← h]
                  have e : nextX j i x = gmU x 2 := by unfold nextX; rw [if_pos hik]
                  rw [e]
                  exact Lib.hid rfl
                case measure => simp [intOf]; omega
          · have hikI : ((i : Int) % (j : Int) == 0) = false := by
              rw [beq_eq_false_iff_ne]; omega
            by_cases h84 : j = 8 ∧ i % 8 = 4
            · have h8I : ((j : Int) == 8) = true := by rw [beq_iff_eq]; omega
              have h4I : ((i : Int) % 8 == 4) = true := by rw [beq_iff_eq]; omega
              have H84 := Lib.hid h84
              clear h84
              go_wp2_with (first | ((with_reducible change wpList _ _ _ (Oper.mk _ (Op.load 79 _) _ _ _ _ :: _) _ _); refine wpList_load_mid rfl 79 _ rfl (n0 + 1) (i1 * 4) rfl ([t0, t1, t2, t3].map B) _ RNG4.out Try.underlying79 rfl (size4.trans (by rw [hm44])) ?_) | ((with_reducible change wpList _ _ _ (Oper.mk _ (Op.store 79 _ _) _ _ _ _ :: _) _ _); refine wpList_store_var wr.heap.size (barr [t0, t1, t2, t3]) rfl rfl b0 size4 rfl rfl (barr_one _) ?_; intro w1 B1 O1; have HW1 := Lib.hid ((HW.out.next ((Below.refl _ _).alloc (Nat.le_refl _) _)).only (g := wr.heap.size) htbn O1); have HB1 := Lib.hid B1; have q0 := B1.cellAt 0 (barr_getD [t0, t1, t2, t3] 0 (by simp)); have q1 := B1.cellAt 1 (barr_getD [t0, t1, t2, t3] 1 (by simp)); have q2 := B1.cellAt 2 (barr_getD [t0, t1, t2, t3] 2 (by simp)); have q3 := B1.cellAt 3 (barr_getD [t0, t1, t2, t3] 3 (by simp)); have hbl := B1.lt; clear B1 O1) | ((with_reducible change wpList _ _ _ (Oper.mk _ (Op.load 79 _) _ _ _ _ :: _) _ _); refine wpList_load_blk (ty := 79) wr.heap.size rfl HB1.out Try.underlying79 rfl size4 rfl ?_))
              refine (boxed_any [t0, t1, t2, t3] w1 rfl).mono ?_
              rintro e w2 ⟨rfl, h2⟩
              have HW2 := Lib.hid (HW1.out.next h2)
              have HB2 := Lib.hid (HB1.out.below h2 hbl)
              clear h2 HW1 HB1 q0 q1 q2 q3 hbl b0
              generalize htb : wr.heap.size = tb at *
              obtain ⟨T, hTT⟩ : ∃ T, T = [boxU t0, boxU t1, boxU t2, boxU t3] := ⟨_, rfl⟩
              have hTl : T.length = 4 := by rw [hTT]; rfl
              have hs44 : (barr T).size = 4 := by rw [barr_size]; exact hTl
              have HTe : Hid (turned j i x (wordAt W (i - 1)) = T) := by
                rw [HI1.out, HTT.out, hTT]
                unfold turned
                rw [if_neg hik, if_pos H84.out]
                exact Lib.hid rfl
              rw [boxL_of, ← hTT]
              clear hTT
              go_wp2_with ((with_reducible change wpList _ _ _ (Oper.mk _ (Op.store 79 _ _) _ _ _ _ :: _) _ _); refine wpList_store_var tb (barr T) rfl rfl HB2.out size4 hs44 rfl (barr_one _) ?_; intro w3 B3 O3; have HE := Lib.hid (HW2.out.only (g := tb) htbn O3); have HT := Lib.hid B3; clear B3 O3)
              go_loopw [76] (fun b w1 => ∃ c : Nat, c ≤ 4 ∧ b = .int .i64 (c : Int) ∧ Hid (ExpW w n0 (putTo W T j i c) w1) ∧ Hid (Blk w1 tb 79 (barr T))) (fun b _ => 4 - (intOf b).toNat)
              case atStart => exact ⟨0, by omega, rfl, HE, HT⟩
              case round =>
                obtain ⟨c, hc, rfl, HE2, HT2⟩ := hrel
                by_cases hct : c < 4
                · have hPl : (putTo W T j i c).length = 240 := HE2.out.len
                  have c1 := HE2.out.row.cellAt (d * 4 + c) (barr_getD _ (d * 4 + c) (by rw [hPl]; omega))
                  have c2 := HT2.out.cellAt c (barr_getD T c (by rw [hTl]; exact hct))
                  have c3 := HE2.out.row.cellAt (i * 4 + c) (barr_getD _ (i * 4 + c) (by rw [hPl]; omega))
                  have f3 := HE2.out.row.unfrozen (i * 4 + c)
                  have b1 := HE2.out.row.lt
                  have b2 := HT2.out.lt
                  generalize hy : (putTo W T j i c).getD (d * 4 + c) 0 = y at c1
                  generalize hz2 : T.getD c 0 = z at c2
                  have HY := Lib.hid hy
                  have HZ2 := Lib.hid hz2
                  have hWd : IntKind.i64.wrap (d : Int) = (d : Int) := IntWalk.i64_in _ (by omega)
                  have hdI60 : (d : Int) < 60 := by omega
                  have hiI60 : (i : Int) < 60 := by omega
                  have hcI4 : (c : Int) < 4 := by omega
                  clear hy hz2
                  go_wp2_with fail
                  refine wp_region_tame (fun w' => w' = wr.drewN 1) 0 15 (by kernel_rfl) (by kernel_rfl) (fun _ _ d _ _ h => (by cases d <;> exact h)) rfl (by decide) ?_
                  simp only [List.take_succ_cons, List.take_zero, List.drop_succ_cons, List.drop_zero]
                  refine wpPre_nil ?_
                  refine wpTame_run (v := ?_) (by decide) rfl (fun w' hS => ?_) ?_
                  rotate_left
                  focus (subst hS; go_simp; try rfl; done)
                  simp only [Act.put, List.setIfInBounds_toArray, List.set_cons_zero, List.set_cons_succ]
                  refine wpTame_run (v := ?_) (by decide) rfl (fun w' hS => ?_) ?_
                  rotate_left
                  focus (subst hS; go_simp; try rfl; done)
                  simp only [Act.put, List.setIfInBounds_toArray, List.set_cons_zero, List.set_cons_succ]
                  refine wpTame_run (v := ?_) (by decide) rfl (fun w' hS => ?_) ?_
                  rotate_left
                  focus (subst hS; go_simp; try rfl; done)
                  simp only [Act.put, List.setIfInBounds_toArray, List.set_cons_zero, List.set_cons_succ]
                  refine wpTame_run (v := ?_) (by decide) rfl (fun w' hS => ?_) ?_
                  rotate_left
                  focus (subst hS; go_simp; try rfl; done)
                  simp only [Act.put, List.setIfInBounds_toArray, List.set_cons_zero, List.set_cons_succ]
                  refine wpTame_run (v := ?_) (by decide) rfl (fun w' hS => ?_) ?_
                  rotate_left
                  focus (subst hS; go_simp; try rfl; done)
                  simp only [Act.put, List.setIfInBounds_toArray, List.set_cons_zero, List.set_cons_succ]
                  refine wpTame_run (v := ?_) (by decide) rfl (fun w' hS => ?_) ?_
                  rotate_left
                  focus (subst hS; go_simp; try rfl; done)
                  simp only [Act.put, List.setIfInBounds_toArray, List.set_cons_zero, List.set_cons_succ]
                  refine wpTame_run (v := ?_) (by decide) rfl (fun w' hS => ?_) ?_
                  rotate_left
                  focus (subst hS; go_simp; try rfl; done)
                  simp only [Act.put, List.setIfInBounds_toArray, List.set_cons_zero, List.set_cons_succ]
                  refine wpTame_run (v := ?_) (by decide) rfl (fun w' hS => ?_) ?_
                  rotate_left
                  focus (subst hS; go_simp; try rfl; done)
                  simp only [Act.put, List.setIfInBounds_toArray, List.set_cons_zero, List.set_cons_succ]
                  refine wpTame_run (v := ?_) (by decide) rfl (fun w' hS => ?_) ?_
                  rotate_left
                  focus (subst hS; go_simp; try rfl; done)
                  simp only [Act.put, List.setIfInBounds_toArray, List.set_cons_zero, List.set_cons_succ]
                  refine wpTame_run (v := ?_) (by decide) rfl (fun w' hS => ?_) ?_
                  rotate_left
                  focus (subst hS; go_simp; try rfl; done)
                  simp only [Act.put, List.setIfInBounds_toArray, List.set_cons_zero, List.set_cons_succ]
                  refine wpTame_run (v := ?_) (by decide) rfl (fun w' hS => ?_) ?_
                  rotate_left
                  focus (subst hS; go_simp; try rfl; done)
                  simp only [Act.put, List.setIfInBounds_toArray, List.set_cons_zero, List.set_cons_succ]
                  refine wpTame_run (v := ?_) (by decide) rfl (fun w' hS => ?_) ?_
                  rotate_left
                  focus (subst hS; go_simp; try rfl; done)
                  simp only [Act.put, List.setIfInBounds_toArray, List.set_cons_zero, List.set_cons_succ]
                  refine wpTame_run (v := ?_) (by decide) rfl (fun w' hS => ?_) ?_
                  rotate_left
                  focus (subst hS; go_simp; try rfl; done)
                  simp only [Act.put, List.setIfInBounds_toArray, List.set_cons_zero, List.set_cons_succ]
                  refine wpTame_run (v := ?_) (by decide) rfl (fun w' hS => ?_) ?_
                  rotate_left
                  focus (subst hS; go_simp; try rfl; done)
                  simp only [Act.put, List.setIfInBounds_toArray, List.set_cons_zero, List.set_cons_succ]
                  refine wpTame_run (v := ?_) (by decide) rfl (fun w' hS => ?_) ?_
                  rotate_left
                  focus (subst hS; go_simp; try rfl; done)
                  simp only [Act.put, List.setIfInBounds_toArray, List.set_cons_zero, List.set_cons_succ]
                  refine wpTame_nil ?_
                  intro w5 hw5
                  subst hw5
                  go_wp2
                  go_roundw
                  case rel =>
                    refine ⟨c + 1, by omega, by go_num, ?_, Lib.hid ((HT2.out.draw 1).set_ne (by simp; omega) _)⟩
                    have h := (HE2.out.next (drew_below wr 1)).set (i * 4 + c) (y ^^^ z)
                    have e : putTo W T j i (c + 1) = (putTo W T j i c).set (i * 4 + c) (y ^^^ z) := by
                      rw [putTo, HD.out, Nat.mul_comm 4 i, Nat.mul_comm 4 d, HY.out, HZ2.out]
                    rw [xorU, e]
                    exact Lib.hid h
                  case measure => simp [intOf]; omega
                · obtain rfl : c = 4 := by omega
                  go_wp2
                  go_roundw
                  case rel =>
                    refine ⟨i + 1, x, putTo W T j i 4, by omega, by omega, by go_num, rfl, ?_, HE2⟩
                    have h := HX.out
                    rw [show N - i = (N - (i + 1)) + 1 from by omega, expN, HTe.out] at h
                    rw [← h]
                    have e : nextX j i x = x := by unfold nextX; rw [if_neg hik]
                    rw [e]
                    exact Lib.hid rfl
                  case measure => simp [intOf]; omega
            · have h8I : (((j : Int) == 8) = true ∧ ((i : Int) % 8 == 4) = false) ∨ ((j : Int) == 8) = false := by
                by_cases h8 : j = 8
                · left
                  refine ⟨by rw [beq_iff_eq]; omega, ?_⟩
                  rw [beq_eq_false_iff_ne]; omega
                · right
                  rw [beq_eq_false_iff_ne]; omega
              have HTe : Hid (turned j i x (wordAt W (i - 1)) = [t0, t1, t2, t3]) := by
                rw [HI1.out, HTT.out]
                unfold turned
                rw [if_neg hik, if_neg h84]
                exact Lib.hid rfl
              clear h84
              obtain ⟨T, hTT⟩ : ∃ T, T = [t0, t1, t2, t3] := ⟨_, rfl⟩
              have hTl : T.length = 4 := by rw [hTT]; rfl
              rcases h8I with ⟨h8I, h4I⟩ | h8I
              all_goals
                go_wp2_with (first | ((with_reducible change wpList _ _ _ (Oper.mk _ (Op.load 79 _) _ _ _ _ :: _) _ _); refine wpList_load_mid rfl 79 _ rfl (n0 + 1) (i1 * 4) rfl ([t0, t1, t2, t3].map B) _ RNG4.out Try.underlying79 rfl (size4.trans (by rw [hm44])) ?_) | ((with_reducible change wpList _ _ _ (Oper.mk _ (Op.store 79 _ _) _ _ _ _ :: _) _ _); refine wpList_store_var wr.heap.size (barr [t0, t1, t2, t3]) rfl rfl b0 size4 rfl rfl (barr_one _) ?_; intro w1 B1 O1; have HW1 := Lib.hid ((HW.out.next ((Below.refl _ _).alloc (Nat.le_refl _) _)).only (g := wr.heap.size) htbn O1); have HB1 := Lib.hid B1; have q0 := B1.cellAt 0 (barr_getD [t0, t1, t2, t3] 0 (by simp)); have q1 := B1.cellAt 1 (barr_getD [t0, t1, t2, t3] 1 (by simp)); have q2 := B1.cellAt 2 (barr_getD [t0, t1, t2, t3] 2 (by simp)); have q3 := B1.cellAt 3 (barr_getD [t0, t1, t2, t3] 3 (by simp)); have hbl := B1.lt; clear B1 O1))
                clear q0 q1 q2 q3 hbl b0
                generalize htb : wr.heap.size = tb at *
                rw [← hTT] at HB1 HTe
                have HE := HW1
                have HT := HB1
                clear HW1 HB1 hTT
                go_loopw [76] (fun b w1 => ∃ c : Nat, c ≤ 4 ∧ b = .int .i64 (c : Int) ∧ Hid (ExpW w n0 (putTo W T j i c) w1) ∧ Hid (Blk w1 tb 79 (barr T))) (fun b _ => 4 - (intOf b).toNat)
                case atStart => exact ⟨0, by omega, rfl, HE, HT⟩
                case round =>
                  obtain ⟨c, hc, rfl, HE2, HT2⟩ := hrel
                  by_cases hct : c < 4
                  · have hPl : (putTo W T j i c).length = 240 := HE2.out.len
                    have c1 := HE2.out.row.cellAt (d * 4 + c) (barr_getD _ (d * 4 + c) (by rw [hPl]; omega))
                    have c2 := HT2.out.cellAt c (barr_getD T c (by rw [hTl]; exact hct))
                    have c3 := HE2.out.row.cellAt (i * 4 + c) (barr_getD _ (i * 4 + c) (by rw [hPl]; omega))
                    have f3 := HE2.out.row.unfrozen (i * 4 + c)
                    have b1 := HE2.out.row.lt
                    have b2 := HT2.out.lt
                    generalize hy : (putTo W T j i c).getD (d * 4 + c) 0 = y at c1
                    generalize hz2 : T.getD c 0 = z at c2
                    have HY := Lib.hid hy
                    have HZ2 := Lib.hid hz2
                    have hWd : IntKind.i64.wrap (d : Int) = (d : Int) := IntWalk.i64_in _ (by omega)
                    have hdI60 : (d : Int) < 60 := by omega
                    have hiI60 : (i : Int) < 60 := by omega
                    have hcI4 : (c : Int) < 4 := by omega
                    clear hy hz2
                    go_wp2_with fail
                    refine wp_region_tame (fun w' => w' = wr.drewN 1) 0 15 (by kernel_rfl) (by kernel_rfl) (fun _ _ d _ _ h => (by cases d <;> exact h)) rfl (by decide) ?_
                    simp only [List.take_succ_cons, List.take_zero, List.drop_succ_cons, List.drop_zero]
                    refine wpPre_nil ?_
                    refine wpTame_run (v := ?_) (by decide) rfl (fun w' hS => ?_) ?_
                    rotate_left
                    focus (subst hS; go_simp; try rfl; done)
                    simp only [Act.put, List.setIfInBounds_toArray, List.set_cons_zero, List.set_cons_succ]
                    refine wpTame_run (v := ?_) (by decide) rfl (fun w' hS => ?_) ?_
                    rotate_left
                    focus (subst hS; go_simp; try rfl; done)
                    simp only [Act.put, List.setIfInBounds_toArray, List.set_cons_zero, List.set_cons_succ]
                    refine wpTame_run (v := ?_) (by decide) rfl (fun w' hS => ?_) ?_
                    rotate_left
                    focus (subst hS; go_simp; try rfl; done)
                    simp only [Act.put, List.setIfInBounds_toArray, List.set_cons_zero, List.set_cons_succ]
                    refine wpTame_run (v := ?_) (by decide) rfl (fun w' hS => ?_) ?_
                    rotate_left
                    focus (subst hS; go_simp; try rfl; done)
                    simp only [Act.put, List.setIfInBounds_toArray, List.set_cons_zero, List.set_cons_succ]
                    refine wpTame_run (v := ?_) (by decide) rfl (fun w' hS => ?_) ?_
                    rotate_left
                    focus (subst hS; go_simp; try rfl; done)
                    simp only [Act.put, List.setIfInBounds_toArray, List.set_cons_zero, List.set_cons_succ]
                    refine wpTame_run (v := ?_) (by decide) rfl (fun w' hS => ?_) ?_
                    rotate_left
                    focus (subst hS; go_simp; try rfl; done)
                    simp only [Act.put, List.setIfInBounds_toArray, List.set_cons_zero, List.set_cons_succ]
                    refine wpTame_run (v := ?_) (by decide) rfl (fun w' hS => ?_) ?_
                    rotate_left
                    focus (subst hS; go_simp; try rfl; done)
                    simp only [Act.put, List.setIfInBounds_toArray, List.set_cons_zero, List.set_cons_succ]
                    refine wpTame_run (v := ?_) (by decide) rfl (fun w' hS => ?_) ?_
                    rotate_left
                    focus (subst hS; go_simp; try rfl; done)
                    simp only [Act.put, List.setIfInBounds_toArray, List.set_cons_zero, List.set_cons_succ]
                    refine wpTame_run (v := ?_) (by decide) rfl (fun w' hS => ?_) ?_
                    rotate_left
                    focus (subst hS; go_simp; try rfl; done)
                    simp only [Act.put, List.setIfInBounds_toArray, List.set_cons_zero, List.set_cons_succ]
                    refine wpTame_run (v := ?_) (by decide) rfl (fun w' hS => ?_) ?_
                    rotate_left
                    focus (subst hS; go_simp; try rfl; done)
                    simp only [Act.put, List.setIfInBounds_toArray, List.set_cons_zero, List.set_cons_succ]
                    refine wpTame_run (v := ?_) (by decide) rfl (fun w' hS => ?_) ?_
                    rotate_left
                    focus (subst hS; go_simp; try rfl; done)
                    simp only [Act.put, List.setIfInBounds_toArray, List.set_cons_zero, List.set_cons_succ]
                    refine wpTame_run (v := ?_) (by decide) rfl (fun w' hS => ?_) ?_
                    rotate_left
                    focus (subst hS; go_simp; try rfl; done)
                    simp only [Act.put, List.setIfInBounds_toArray, List.set_cons_zero, List.set_cons_succ]
                    refine wpTame_run (v := ?_) (by decide) rfl (fun w' hS => ?_) ?_
                    rotate_left
                    focus (subst hS; go_simp; try rfl; done)
                    simp only [Act.put, List.setIfInBounds_toArray, List.set_cons_zero, List.set_cons_succ]
                    refine wpTame_run (v := ?_) (by decide) rfl (fun w' hS => ?_) ?_
                    rotate_left
                    focus (subst hS; go_simp; try rfl; done)
                    simp only [Act.put, List.setIfInBounds_toArray, List.set_cons_zero, List.set_cons_succ]
                    refine wpTame_run (v := ?_) (by decide) rfl (fun w' hS => ?_) ?_
                    rotate_left
                    focus (subst hS; go_simp; try rfl; done)
                    simp only [Act.put, List.setIfInBounds_toArray, List.set_cons_zero, List.set_cons_succ]
                    refine wpTame_nil ?_
                    intro w5 hw5
                    subst hw5
                    go_wp2
                    go_roundw
                    case rel =>
                      refine ⟨c + 1, by omega, by go_num, ?_, Lib.hid ((HT2.out.draw 1).set_ne (by simp; omega) _)⟩
                      have h := (HE2.out.next (drew_below wr 1)).set (i * 4 + c) (y ^^^ z)
                      have e : putTo W T j i (c + 1) = (putTo W T j i c).set (i * 4 + c) (y ^^^ z) := by
                        rw [putTo, HD.out, Nat.mul_comm 4 i, Nat.mul_comm 4 d, HY.out, HZ2.out]
                      rw [xorU, e]
                      exact Lib.hid h
                    case measure => simp [intOf]; omega
                  · obtain rfl : c = 4 := by omega
                    go_wp2
                    go_roundw
                    case rel =>
                      refine ⟨i + 1, x, putTo W T j i 4, by omega, by omega, by go_num, rfl, ?_, HE2⟩
                      have h := HX.out
                      rw [show N - i = (N - (i + 1)) + 1 from by omega, expN, HTe.out] at h
                      rw [← h]
                      have e : nextX j i x = x := by unfold nextX; rw [if_neg hik]
                      rw [e]
                      exact Lib.hid rfl
                    case measure => simp [intOf]; omega
        · obtain rfl : i = N := by omega
          have hX := HX.out
          rw [Nat.sub_self, expN] at hX
          subst hX
          clear HX HN
          have hs240 : (barr (sched key)).size = 240 := by rw [barr_size]; exact hWl
          have hZs : Z.size = 240 := by rw [← HZ.out, barr_size]; rfl
          have HLD := Lib.hid (HW.out.row.alloc (.cells Z 66))
          go_wp2_with ((with_reducible change wpList _ _ _ (Oper.mk _ (Op.load 94 _) _ _ _ _ :: _) _ _); refine wpList_load_blk (ty := 94) (n0 + 1) rfl HLD.out Try.underlying94 rfl size240w hs240 ?_)
          have hn2 : n0 + 1 < wr.heap.size := HW.out.row.lt
          have HO : Hid (ExpW w n0 (sched key) (wr.alloc (.cells Z 66)) ∧ Blk (wr.alloc (.cells Z 66)) wr.heap.size 66 (barr (outTo (sched key) 0))) := by
            refine Lib.hid ⟨HW.out.next ((Below.refl _ _).alloc (Nat.le_refl _) _), ?_⟩
            rw [outTo_zero, HZ.out]
            exact Blk.new _ _ _
          generalize hn2e : wr.heap.size = n2 at *
          clear HLD HW
          go_loopw [96] (fun i w1 => ∃ c : Nat, c ≤ 60 ∧ i = .int .i64 (c : Int) ∧ Hid (ExpW w n0 (sched key) w1 ∧ Blk w1 n2 66 (barr (outTo (sched key) c)))) (fun i _ => 60 - (intOf i).toNat)
          case atStart => exact ⟨0, by omega, rfl, HO⟩
          case round =>
            obtain ⟨c, hc, rfl, HP⟩ := hrel
            clear HO
            by_cases hct : c < 60
            · have hix : ∀ w', (Instr.index 94 (.agg (barr (sched key))) (.int .i64 (c : Int))).run Try.prog w' = .ok (.agg (barr (wordAt (sched key) c))) w' := fun w' => run_index_words Try.underlying94 Try.underlying79 rfl (by kernel_rfl) (sched key) c (by omega) hct w'
              obtain ⟨V, hV⟩ : ∃ V, V = wordAt (sched key) c := ⟨_, rfl⟩
              have hV4 : (barr V).size = 4 := by rw [hV]; rfl
              have hVl : V.length = 4 := by rw [hV]; rfl
              rw [← hV] at hix
              have HV := Lib.hid hV
              clear hV
              have hn3 : n2 < wr.heap.size := HP.out.2.lt
              have b0 : Blk (wr.alloc (.cells (barr (List.replicate 4 0)) 79)) wr.heap.size 79 (barr (List.replicate 4 0)) := Blk.new _ _ _
              go_wp2_with ((with_reducible change wpList _ _ _ (Oper.mk _ (Op.store 79 _ _) _ _ _ _ :: _) _ _); refine wpList_store_var wr.heap.size (barr V) rfl rfl b0 size4 hV4 rfl (barr_one _) ?_; intro w3 B3 O3; have HB3 := Lib.hid B3; have HE3 := Lib.hid ((HP.out.1.next ((Below.refl _ _).alloc (Nat.le_refl _) _)).only (g := wr.heap.size) (by omega) O3); have HN3 := Lib.hid ((HP.out.2.alloc (.cells (barr (List.replicate 4 0)) 79)).only O3 (by omega)); clear B3 O3)
              obtain ⟨e, he⟩ : ∃ e, c / 4 = e := ⟨_, rfl⟩
              obtain ⟨f, hf⟩ : ∃ f, c % 4 = f := ⟨_, rfl⟩
              obtain ⟨q, hq⟩ : ∃ q, 4 * f = q := ⟨_, rfl⟩
              have hT1 : (c : Int).tdiv 4 = (e : Int) := by rw [Int.tdiv_eq_ediv_of_nonneg (by omega)]; omega
              have hT2 : (c : Int).tmod 4 = (f : Int) := by rw [Int.tmod_eq_emod_of_nonneg (by omega)]; omega
              have hqI : 4 * (f : Int) = (q : Int) := by omega
              have hWq : IntKind.i64.wrap (q : Int) = (q : Int) := IntWalk.i64_in _ (by omega)
              have hWe : IntKind.i64.wrap (e : Int) = (e : Int) := IntWalk.i64_in _ (by omega)
              have heI : (e : Int) < 15 := by omega
              have hsl : ∀ w', (Instr.sliceAt 31 (.pointer (some ⟨n2, e * 16, none⟩)) (some (.int .i64 (q : Int))) none none).run Try.prog w' = .ok (.slice (some ⟨n2, 4 * c, none⟩) (16 - q) (16 - q)) w' := fun w' => by
                have hal : Try.prog.arrayLen 31 = 16 := by kernel_rfl
                rw [run_sliceAt_array_l w' 31 ⟨n2, e * 16, none⟩ (by simp [Program.arrayLen, Program.elem, Try.underlying31]) .i64 (q : Int) (by omega) (by rw [hal]; omega)]
                have hsz : (sizeOf (Try.prog.elem 31)).run Try.prog w' = .ok 1 w' := by kernel_rfl
                rw [hsz, Result.andThen_ok, hal]
                unfold slicedAt
                rw [if_neg (by omega), Int.toNat_natCast, add_lit, show e * 16 + q * 1 = 4 * c from by omega]
              have hsl2 : ∀ w', (Instr.sliceAt 79 (.pointer (some ⟨wr.heap.size, 0, none⟩)) none none none).run Try.prog w' = .ok (.slice (some ⟨wr.heap.size, 0, none⟩) 4 4) w' := fun w' => by
                have hal : Try.prog.arrayLen 79 = 4 := by kernel_rfl
                rw [run_sliceAt_array_all w' 79 ⟨wr.heap.size, 0, none⟩ (by simp [Program.arrayLen, Program.elem, Try.underlying79])]
                have hsz : (sizeOf (Try.prog.elem 79)).run Try.prog w' = .ok 1 w' := by kernel_rfl
                rw [hsz, Result.andThen_ok, hal]
                unfold slicedAt
                rw [if_neg (by omega), add_lit]
              have hq12 : q ≤ 12 := by omega
              clear he hf hq
              generalize htb : wr.heap.size = tb at *
              refine wp_region_tame (fun w' => w' = w3.drewN 1) 0 8 (by kernel_rfl) (by kernel_rfl) (fun _ _ d _ _ h => (by cases d <;> exact h)) rfl (by decide) ?_
              simp only [List.take_succ_cons, List.take_zero, List.drop_succ_cons, List.drop_zero]
              refine wpPre_nil ?_
              refine wpTame_run (v := ?_) (by decide) rfl (fun w' hS => ?_) ?_
              rotate_left
              focus (subst hS; go_simp; try rfl; done)
              simp only [Act.put, List.setIfInBounds_toArray, List.set_cons_zero, List.set_cons_succ]
              refine wpTame_run (v := ?_) (by decide) rfl (fun w' hS => ?_) ?_
              rotate_left
              focus (subst hS; go_simp; try rfl; done)
              simp only [Act.put, List.setIfInBounds_toArray, List.set_cons_zero, List.set_cons_succ]
              refine wpTame_run (v := ?_) (by decide) rfl (fun w' hS => ?_) ?_
              rotate_left
              focus (subst hS; go_simp; try rfl; done)
              simp only [Act.put, List.setIfInBounds_toArray, List.set_cons_zero, List.set_cons_succ]
              refine wpTame_run (v := ?_) (by decide) rfl (fun w' hS => ?_) ?_
              rotate_left
              focus (subst hS; go_simp; try rfl; done)
              simp only [Act.put, List.setIfInBounds_toArray, List.set_cons_zero, List.set_cons_succ]
              refine wpTame_run (v := ?_) (by decide) rfl (fun w' hS => ?_) ?_
              rotate_left
              focus (subst hS; go_simp; try rfl; done)
              simp only [Act.put, List.setIfInBounds_toArray, List.set_cons_zero, List.set_cons_succ]
              refine wpTame_run (v := ?_) (by decide) rfl (fun w' hS => ?_) ?_
              rotate_left
              focus (subst hS; go_simp; try rfl; done)
              simp only [Act.put, List.setIfInBounds_toArray, List.set_cons_zero, List.set_cons_succ]
              refine wpTame_run (v := ?_) (by decide) rfl (fun w' hS => ?_) ?_
              rotate_left
              focus (subst hS; go_simp; try rfl; done)
              simp only [Act.put, List.setIfInBounds_toArray, List.set_cons_zero, List.set_cons_succ]
              refine wpTame_run (v := ?_) (by decide) rfl (fun w' hS => ?_) ?_
              rotate_left
              focus (subst hS; go_simp; try rfl; done)
              simp only [Act.put, List.setIfInBounds_toArray, List.set_cons_zero, List.set_cons_succ]
              refine wpTame_nil ?_
              intro w5 hw5
              subst hw5
              have hcs : (V.map B).length = Nat.min 4 (16 - q) := by rw [List.length_map, hVl]; exact (Nat.min_eq_left (by omega)).symm
              refine wpList_copy_only rfl _ _ _ _ rfl 5 Try.underlying22 (by kernel_rfl) _ _ _ _ _ _ rfl rfl n2 (4 * c) ((outTo (sched key) c).map B) 66 (HN3.out.draw 1) (V.map B) hcs (fun _ => ⟨rfl, ⟨tb, 0, none⟩, rfl, fun j v hj => ?_⟩) (by rw [List.length_map, List.length_map, hVl, outTo_len _ _ hWl hc]; omega) (bytes_one V) ?_
              · rw [add_lit, Nat.zero_add]
                exact (HB3.out.draw 1).cellAt j (by show (V.map B).toArray[j]? = some v; rw [List.getElem?_toArray]; exact hj)
              intro w6 G6 O6
              have HE6 := Lib.hid ((HE3.out.next (drew_below w3 1)).only (g := n2) hn2 O6)
              have HO6 : Hid (Blk w6 n2 66 (barr (outTo (sched key) (c + 1)))) := by
                have h := G6.out
                rw [HV.out, outTo_splice _ _ hWl hct] at h
                exact Lib.hid h
              clear G6 O6
              refine wpList_nil ?_
              go_wp2
              go_roundw
              case rel => exact ⟨c + 1, by omega, by go_num, Lib.hid ⟨HE6.out, HO6.out⟩⟩
              case measure => simp [intOf]; omega
            · obtain rfl : c = 60 := by omega
              have HR := Lib.hid HP.out.1.res
              have HG := HP.out.2
              rw [outTo_end _ hWl] at HG
              have HGG := Lib.hid HG
              have hn0lt : HP.out.1.at0 = HP.out.1.at0 := rfl
              have hz240 : (barr (List.replicate 240 (0 : UInt8))).size = 240 := by rw [barr_size]; simp
              have HBL := Lib.hid HP.out.1.below
              have hle : w.heap.size ≤ n0 := by rw [HP.out.1.at0]; exact Nat.le_refl _
              clear HG HP hn0lt
              go_wp2_with (first | ((with_reducible change wpList _ _ _ (Oper.mk _ (Op.load 66 _) _ _ _ _ :: _) _ _); refine wpList_load_blk (ty := 66) n2 rfl HGG.out Try.underlying66 rfl size240 hs240 ?_) | ((with_reducible change wpList _ _ _ (Oper.mk _ (Op.store 66 _ _) _ _ _ _ :: _) _ _); refine wpList_store_blk (ty := 66) n0 (barr (sched key)) rfl rfl HR.out size240 hs240 hz240 (barr_one _) ?_))
              refine bodyPost_ret (results_cell_blk rfl _ _ n0 rfl (HR.out.row _) Try.underlying66 rfl size240 hs240) rfl ⟨rfl, below_row HBL.out hle _⟩
end Go.Proofs.Ytihmgkjmebdioaa
/- The contracts of package aes: Encrypt, Decrypt. Conditions: a block has sixteen bytes; room for one event more. -/
namespace Go.Proofs.Ytihmgkjmebdioaa
open Go.RowKit
set_option maxRecDepth 100000
set_option linter.unusedVariables false
set_option linter.unusedSimpArgs false

theorem cmade_any (b k : Nat) (K : List UInt8) (w : World) (h : CipAt w b k K) : Calls Try.prog 32 #[.pointer (some ⟨b, 0, none⟩)] w fun e w' => e = .returned (.bool (decide (0 < k))) ∧ w = w' := by
  have c0 := h.key
  have hb := h.lt
  have hd : decide ((k : Int) > 0) = decide (0 < k) := by congr 1; simp
  obtain ⟨m, hm⟩ : ∃ m, decide (0 < k) = m := ⟨_, rfl⟩
  rw [hm] at hd ⊢
  clear h hm
  go_enter Try.func32, Try.ntmps32
  go_wp2
  go_ret
  refine ⟨?_, rfl⟩
  first | rfl | (rw [← hd]; simp)
theorem cmade_nil (w : World) : Calls Try.prog 32 #[.pointer none] w fun e w' => e = .returned (.bool false) ∧ w = w' := by
  go_enter Try.func32, Try.ntmps32
  go_wp2
  go_ret
  exact ⟨rfl, rfl⟩
theorem rounds_any (b k : Nat) (K : List UInt8) (w : World) (h : CipAt w b k K) (hk : k ≤ 32) : Calls Try.prog 33 #[.pointer (some ⟨b, 0, none⟩)] w fun e w' => e = .returned (.int .i64 ((k / 4 + 6 : Nat) : Int)) ∧ w = w' := by
  have c0 := h.key
  have hb := h.lt
  obtain ⟨q, hq⟩ : ∃ q, k / 4 = q := ⟨_, rfl⟩
  have hqI : (k : Int) / 4 = (q : Int) := by omega
  have hq8 : q ≤ 8 := by omega
  rw [hq]
  clear h hq
  go_enter Try.func33, Try.ntmps33
  go_wp2
  go_ret
  refine ⟨?_, rfl⟩
  first | rfl | (congr 2) | (congr 2; omega)

theorem zero16 (w : World) : (zeroValue 31).run Try.prog w = .ok (.agg (barr (List.replicate 16 0))) w := by kernel_rfl
theorem results_cell2_blk {P : Program} {fn : Func} {p t2 : Tmp} {ty : TypeId} (h : fn.results = #[.cell p ty, .tmp t2]) (tmps : Array Value) (w : World) (g : Nat) {t : TypeId} {cs : Array Value} {de : TypeDesc} {n : Nat}
    (hp : tmps.getD p undef = .pointer (some ⟨g, 0, none⟩)) (hg : Blk w g t cs)
    (hu : P.underlying ty = some de) (hd : (match de with | .struct _ | .array _ _ => true | _ => false) = true) (hi : (P.info? ty).map (·.size) = some n) (hn : cs.size = n) :
    (results fn tmps).run P w = .ok (.tuple #[.agg cs, tmps.getD t2 undef]) w := by
  have hp' : tmps[p]?.getD undef = .pointer (some ⟨g, 0, none⟩) := by simpa using hp
  simp [results, h, hp', asAddr, run_loadVar_row w g t ty cs (0, 0) de hg hu hd (by rw [hi, hn])]
set_option maxHeartbeats 1000000 in
theorem encrypt_no (p q : Value) (l : List UInt8) (w : World) (hm : ∀ w', Below w.heap.size w w' → Calls Try.prog 32 #[p] w' fun e w'' => e = .returned (.bool false) ∧ w' = w'') :
    Calls Try.prog 13 #[p, q, .agg (barr l)] w fun e w' => e = .returned (.tuple #[.agg (barr (List.replicate 16 0)), .int .i64 1]) ∧ Below w.heap.size w w' := by
  have HM := Lib.hid hm
  clear hm
  have hz := zero16
  generalize hZ : barr (List.replicate 16 0) = Z at hz
  have HZ := Lib.hid hZ
  have hZs : Z.size = 16 := by rw [← hZ, barr_size]; rfl
  have hZo : ∀ v ∈ Z.toList, v.oneCell' = true := by rw [← hZ]; exact barr_one _
  clear hZ
  go_enter Try.func13, Try.ntmps13
  go_wp2_with fail
  have hb : Below w.heap.size w ((w.alloc (.cells (barr l) 31)).alloc (.cells Z 31)) := ((Below.refl _ _).alloc (Nat.le_refl _) _).alloc (by simp) _
  have HB := Lib.hid hb
  have b1 : Blk ((w.alloc (.cells (barr l) 31)).alloc (.cells Z 31)) (w.heap.size + 1) 31 Z := Blk.at (by simp) rfl
  refine (HM.out _ hb).mono ?_
  clear hb
  rintro e w' ⟨rfl, rfl⟩
  go_wp2_with (first | ((with_reducible change wpList _ _ _ (Oper.mk _ (Op.store 31 _ _) _ _ _ _ :: _) _ _); refine wpList_store_blk (ty := 31) (w.heap.size + 1) Z rfl rfl b1 size16 hZs hZs hZo ?_))
  refine bodyPost_ret (results_cell2_blk rfl _ _ (w.heap.size + 1) rfl (b1.row _) Try.underlying31 rfl size16 hZs) rfl ⟨rfl, below_row HB.out (by omega) _⟩
/-- the worlds between: what a round needs -/
structure EncW (n0 b k : Nat) (K st : List UInt8) (w2 w1 : World) : Prop where
  blk : Blk w1 n0 31 (barr st)
  res : Blk w1 (n0 + 1) 31 (barr (List.replicate 16 0))
  cip : CipAt w1 b k K
  only : Only (fun x => x = n0) w2 w1
theorem EncW.below {n0 b k : Nat} {K st : List UInt8} {w2 w1 w' : World} (h : EncW n0 b k K st w2 w1) (hb : Below w1.heap.size w1 w') : EncW n0 b k K st w2 w' :=
  ⟨h.blk.below hb h.blk.lt, h.res.below hb h.res.lt, h.cip.below hb, h.only.trans (Only.of_below hb (fun x => x = n0)) (fun x hx => .inl hx)⟩
theorem EncW.put {n0 b k : Nat} {K st : List UInt8} {w2 w1 : World} (h : EncW n0 b k K st w2 w1) (hb : b ≠ n0) (st' : List UInt8) : EncW n0 b k K st' w2 (w1.setRow n0 (barr st')) :=
  ⟨h.blk.row _, h.res.row_ne (by omega) _, ⟨h.cip.1.row_ne hb _, h.cip.2⟩, h.only.row (.inl rfl) _⟩
theorem EncW.other {n0 b k g : Nat} {K st : List UInt8} {w2 w1 : World} (h : EncW n0 b k K st w2 w1) (hg : w2.heap.size ≤ g) (h2 : n0 + 1 < w2.heap.size) (hb : b < w2.heap.size) {w' : World} (ho : Only (fun x => x = g) w1 w') : EncW n0 b k K st w2 w' :=
  ⟨h.blk.only ho (by omega), h.res.only ho (by omega), h.cip.only ho (by omega), h.only.trans ho (fun x hx => .inr (by rw [hx]; exact hg))⟩
theorem shiftB_tab (b : List UInt8) : shiftB b = tab 16 (fun i => boxU (b.getD ((i + 4 * (i % 4)) % 16) 0)) := rfl
theorem barr_m2 : barr m2 = #[.int .u8 2, .int .u8 3, .int .u8 1, .int .u8 1] := rfl
theorem barr_m14 : barr m14 = #[.int .u8 14, .int .u8 11, .int .u8 13, .int .u8 9] := rfl
theorem with_any1 (b k : Nat) (K l : List UInt8) (r : Nat) (w : World) (h : CipAt w b k K) (hl : l.length = 16) (hr : r + 1 < 15) :
    Calls Try.prog 34 #[.pointer (some ⟨b, 0, none⟩), .agg (barr l), .int .i64 ((r : Int) + 1)] w fun e w' => e = .returned (.agg (barr (withK K l (r + 1)))) ∧ Below w.heap.size w w' := by
  have h := with_any b k K l (r + 1) w h hl hr
  rwa [show ((r + 1 : Nat) : Int) = (r : Int) + 1 from by omega] at h
set_option maxHeartbeats 4000000 in
theorem encrypt_any (b k : Nat) (K l : List UInt8) (q : Value) (G : Nat → Prop) (o : Option (List Rn)) (w : World) (h : CipAt w b k K) (hl : l.length = 16) (hk0 : 0 < k) (hk : k ≤ 32) (hq : LgP w q G o) (hr : Room o 1) (hG : ¬ G b) :
    Calls Try.prog 13 #[.pointer (some ⟨b, 0, none⟩), q, .agg (barr l)] w fun e w' => e = .returned (.tuple #[.agg (barr (enc K (k / 4 + 6) l)), .int .i64 0]) ∧ LaidP q G (noteO o 5 k 1) w w' := by
  have hbw := h.lt
  have HGlt := Lib.hid hq.lt
  have hkd : decide (0 < k) = true := by simpa using hk0
  have HH := Lib.hid h
  have HQ := Lib.hid hq
  clear h hq
  go_enter Try.func13, Try.ntmps13
  go_wp2_with fail
  have hb0 : Below w.heap.size w ((w.alloc (.cells (barr l) 31)).alloc (.cells (barr (List.replicate 16 0)) 31)) := ((Below.refl _ _).alloc (Nat.le_refl _) _).alloc (by simp) _
  have hA : EncW w.heap.size b k K l ((w.alloc (.cells (barr l) 31)).alloc (.cells (barr (List.replicate 16 0)) 31)) ((w.alloc (.cells (barr l) 31)).alloc (.cells (barr (List.replicate 16 0)) 31)) :=
    ⟨(Blk.at rfl rfl).alloc _, Blk.at (by simp) rfl, HH.out.below hb0, Only.refl _ _⟩
  have hs0 : w.heap.size + 1 < ((w.alloc (.cells (barr l) 31)).alloc (.cells (barr (List.replicate 16 0)) 31)).heap.size := by simp
  have HQ0 := Lib.hid (HQ.out.keep (Only.nothing hb0) (fun _ _ h => h))
  obtain ⟨w0, hw0⟩ : ∃ w0, w0 = ((w.alloc (.cells (barr l) 31)).alloc (.cells (barr (List.replicate 16 0)) 31)) := ⟨_, rfl⟩
  obtain ⟨n0, hn0⟩ : ∃ n0, n0 = w.heap.size := ⟨_, rfl⟩
  have hbn : b ≠ n0 := by omega
  have hbn1 : b < n0 := by omega
  have HA : Hid (EncW n0 b k K l w0 w0) := by rw [hw0, hn0]; exact Lib.hid hA
  have HQ1 : Hid (LgP w0 q G o) := by rw [hw0]; exact HQ0
  have HB0 : Hid (Below w.heap.size w w0) := by rw [hw0]; exact Lib.hid hb0
  have hs1 : n0 + 1 < w0.heap.size := by rw [hw0, hn0]; exact hs0
  have HGn : Hid (∀ x, G x → x < n0) := by rw [hn0]; exact HGlt
  have HN0 : Hid (n0 = w.heap.size) := hn0
  change Calls _ _ _ ((w.alloc (.cells (barr l) 31)).alloc (.cells (barr (List.replicate 16 0)) 31)) _
  rw [← hw0, ← hn0]
  clear hA hs0 HQ0 hb0 hw0 hn0 HH HQ
  refine (cmade_any b k K w0 HA.out.cip).mono ?_
  rintro e w' ⟨he, rfl⟩
  rw [hkd] at he
  subst he
  have c0 := HA.out.cip.key
  have hbl := HA.out.cip.lt
  go_wp2_with fail
  refine (gnoteP_any q G o 5 k w0 HQ1.out hr).mono ?_
  rintro e w2 ⟨rfl, hn⟩
  have HN := Lib.hid hn
  have on := hn.only
  have h2 : EncW n0 b k K l w2 w2 := ⟨HA.out.blk.only on (fun hh => by have := HGn.out _ hh; omega), HA.out.res.only on (fun hh => by have := HGn.out _ hh; omega), HA.out.cip.only on hG, Only.refl _ _⟩
  have hs2 : n0 + 1 < w2.heap.size := Nat.lt_of_lt_of_le hs1 on.size
  have hb2 : b < w2.heap.size := h2.cip.lt
  have H2 := Lib.hid h2
  have hll : (barr l).size = 16 := by rw [barr_size, hl]
  clear hn on h2 c0 hbl HA HQ1
  go_wp2_with ((with_reducible change wpList _ _ _ (Oper.mk _ (Op.load 31 _) _ _ _ _ :: _) _ _); refine wpList_load_blk (ty := 31) n0 rfl H2.out.blk Try.underlying31 rfl size16 hll ?_)
  refine (with_any b k K l 0 w2 H2.out.cip hl (by omega)).mono ?_
  rintro e w3 ⟨rfl, h3⟩
  have H3 := Lib.hid (H2.out.below h3)
  clear h3
  have hs3 : (barr (withK K l 0)).size = 16 := by rw [barr_size, withK_len]
  go_wp2_with ((with_reducible change wpList _ _ _ (Oper.mk _ (Op.store 31 _ _) _ _ _ _ :: _) _ _); refine wpList_store_blk (ty := 31) n0 (barr (withK K l 0)) rfl rfl H3.out.blk size16 hs3 hll (barr_one _) ?_)
  have H4 := Lib.hid (H3.out.put hbn (withK K l 0))
  clear H3
  obtain ⟨R, hR⟩ : ∃ R, k / 4 + 6 = R := ⟨_, rfl⟩
  have hR14 : R ≤ 14 := by omega
  have HR := Lib.hid hR
  clear hR
  go_loopw [8] (fun i w1 => ∃ r : Nat, r ≤ R ∧ i = .int .i64 ((r : Int) + 1) ∧ Hid (EncW n0 b k K (encS K R l r) w2 w1)) (fun i _ => R + 1 - (intOf i).toNat)
  case atStart => exact ⟨0, by omega, rfl, H4⟩
  case round =>
    obtain ⟨r, hrr, rfl, H⟩ := hrel
    clear H4 H2
    go_wp2_with fail
    refine (rounds_any b k K wr H.out.cip hk).mono ?_
    rintro e w' ⟨he, rfl⟩
    rw [HR.out] at he
    subst he
    have hst : (encS K R l r).length = 16 := encS_len _ _ _ _
    obtain ⟨st, hstt⟩ : ∃ st, st = encS K R l r := ⟨_, rfl⟩
    rw [← hstt] at H hst
    have HST := Lib.hid hstt
    clear hstt
    by_cases hlt : r < R
    · have hle : decide ((r : Int) + 1 ≤ (R : Int)) = true := by simp; omega
      have hs0 : w2.heap.size ≤ wr.heap.size := H.out.only.size
      go_wp2_with fail
      generalize hs0e : wr.heap.size = s0
      go_loopw [31] (fun i w1 => ∃ j : Nat, j ≤ 16 ∧ i = .int .i64 (j : Int) ∧ Hid (EncW n0 b k K st w2 w1) ∧ Hid (Blk w1 s0 31 (barr (mixT 16 (fun i => boxU (st.getD ((i + 4 * (i % 4)) % 16) 0)) (fun _ => 0) j)))) (fun i _ => 16 - (intOf i).toNat)
      case atStart =>
        refine ⟨0, by omega, rfl, H.out.below ((Below.refl _ _).alloc (Nat.le_refl _) _), ?_⟩
        rw [mixT_zero, tab_zero]
        exact Blk.at hs0e.symm rfl
      case round =>
        obtain ⟨j, hj, rfl, H5, G5⟩ := hrel
        by_cases hjt : j < 16
        · obtain ⟨m, hm⟩ : ∃ m, j % 4 = m := ⟨_, rfl⟩
          obtain ⟨s, hs⟩ : ∃ s, j + 4 * m = s := ⟨_, rfl⟩
          obtain ⟨p, hp⟩ : ∃ p, s % 16 = p := ⟨_, rfl⟩
          have hmI : (j : Int) % 4 = (m : Int) := by omega
          have hsI : (j : Int) + 4 * (m : Int) = (s : Int) := by omega
          have hpI : (s : Int) % 16 = (p : Int) := by omega
          have hm4 : m < 4 := by omega
          have hs32 : s < 32 := by omega
          have hp16 : p < 16 := by omega
          have c0 := H5.out.blk.cellAt p (barr_getD st p (by rw [hst]; exact hp16))
          have hbl := H5.out.blk.lt
          have HP : Hid ((j + 4 * (j % 4)) % 16 = p) := Lib.hid (by rw [hm, hs, hp])
          generalize hx : st.getD p 0 = x at c0
          have HX := Lib.hid hx
          clear hx hm hs hp
          go_wp2_with fail
          refine (boxU_any x _).mono ?_
          rintro e w' ⟨rfl, n, rfl⟩
          have f5 := (G5.out.draw n).unfrozen j
          have hg5 := G5.out.lt
          have c5 := (G5.out.draw n).cellAt j (barr_getD _ j (by rw [mixT_len]; exact hjt))
          go_wp2
          go_roundw
          case rel =>
            refine ⟨j + 1, by omega, by go_num, ?_, ?_⟩
            · exact (H5.out.below (drew_below _ n)).other (g := s0) (by omega) hs2 hb2 (Only.set (S := fun x => x = s0) (Only.refl _ _) (.inl rfl) _)
            · have h := (G5.out.draw n).set j (.int .u8 ((boxU x).toNat : Int))
              have e : mixT 16 (fun i => boxU (st.getD ((i + 4 * (i % 4)) % 16) 0)) (fun _ => 0) (j + 1) = (mixT 16 (fun i => boxU (st.getD ((i + 4 * (i % 4)) % 16) 0)) (fun _ => 0) j).set j (boxU x) := by
                rw [← mixT_succ, HP.out, HX.out]
              rw [barr_set, ← e] at h
              exact h
          case measure => simp [intOf]; omega
        · obtain rfl : j = 16 := by omega
          have g6 := G5.out
          rw [mixT_end, ← shiftB_tab] at g6
          have G6 := Lib.hid g6
          have hss : (barr (shiftB st)).size = 16 := by rw [barr_size, shiftB_len]
          have hb16 : (barr st).size = 16 := by rw [barr_size, hst]
          clear g6 G5
          go_wp2_with fail
          refine (rounds_any b k K wr H5.out.cip hk).mono ?_
          rintro e w' ⟨he, rfl⟩
          rw [HR.out] at he
          subst he
          by_cases hlt2 : r + 1 < R
          · have hle2 : decide ((r : Int) + 1 < (R : Int)) = true := by simp; omega
            go_wp2_with ((with_reducible change wpList _ _ _ (Oper.mk _ (Op.load 31 _) _ _ _ _ :: _) _ _); refine wpList_load_blk (ty := 31) s0 rfl G6.out Try.underlying31 rfl size16 hss ?_)
            refine (mixed_any (shiftB st) m2 _ (shiftB_len st) rfl).mono ?_
            rintro e w6 ⟨rfl, h6⟩
            have H6 := Lib.hid (H5.out.below h6)
            have G7 := Lib.hid (G6.out.below h6 G6.out.lt)
            clear h6
            have hsm : (barr (mixB m2 (shiftB st))).size = 16 := by rw [barr_size, mixB_len]
            have G8 := Lib.hid (G7.out.row (barr (mixB m2 (shiftB st))))
            go_wp2_with (first | ((with_reducible change wpList _ _ _ (Oper.mk _ (Op.store 31 _ _) _ _ _ _ :: _) _ _); refine wpList_store_blk (ty := 31) s0 (barr (mixB m2 (shiftB st))) rfl rfl G7.out size16 hsm hss (barr_one _) ?_) | ((with_reducible change wpList _ _ _ (Oper.mk _ (Op.load 31 _) _ _ _ _ :: _) _ _); refine wpList_load_blk (ty := 31) s0 rfl G8.out Try.underlying31 rfl size16 hsm ?_))
            have H8 := Lib.hid (H6.out.other (g := s0) (w' := w6.setRow s0 (barr (mixB m2 (shiftB st)))) (by omega) hs2 hb2 (Only.row (S := fun x => x = s0) (Only.refl _ _) (.inl rfl) _))
            refine (with_any1 b k K (mixB m2 (shiftB st)) r _ H8.out.cip (mixB_len _ _) (by omega)).mono ?_
            rintro e w7 ⟨rfl, h7⟩
            have H9 := Lib.hid (H8.out.below h7)
            clear h7
            have hs6 : (barr (withK K (mixB m2 (shiftB st)) (r + 1))).size = 16 := by rw [barr_size, withK_len]
            go_wp2_with ((with_reducible change wpList _ _ _ (Oper.mk _ (Op.store 31 _ _) _ _ _ _ :: _) _ _); refine wpList_store_blk (ty := 31) n0 (barr (withK K (mixB m2 (shiftB st)) (r + 1))) rfl rfl H9.out.blk size16 hs6 hb16 (barr_one _) ?_)
            go_roundw
            case rel =>
              refine ⟨r + 1, by omega, by go_num, ?_⟩
              have e : encS K R l (r + 1) = withK K (mixB m2 (shiftB st)) (r + 1) := by
                rw [encS, ← HST.out]
                unfold rnd mid
                rw [if_pos hlt2]
              rw [e]
              exact Lib.hid (H9.out.put hbn _)
            case measure => simp [intOf]; omega
          · have hle2 : decide ((r : Int) + 1 < (R : Int)) = false := by simp; omega
            go_wp2_with ((with_reducible change wpList _ _ _ (Oper.mk _ (Op.load 31 _) _ _ _ _ :: _) _ _); refine wpList_load_blk (ty := 31) s0 rfl G6.out Try.underlying31 rfl size16 hss ?_)
            refine (with_any1 b k K (shiftB st) r _ H5.out.cip (shiftB_len st) (by omega)).mono ?_
            rintro e w6 ⟨rfl, h6⟩
            have H6 := Lib.hid (H5.out.below h6)
            clear h6
            have hs6 : (barr (withK K (shiftB st) (r + 1))).size = 16 := by rw [barr_size, withK_len]
            go_wp2_with ((with_reducible change wpList _ _ _ (Oper.mk _ (Op.store 31 _ _) _ _ _ _ :: _) _ _); refine wpList_store_blk (ty := 31) n0 (barr (withK K (shiftB st) (r + 1))) rfl rfl H6.out.blk size16 hs6 hb16 (barr_one _) ?_)
            go_roundw
            case rel =>
              refine ⟨r + 1, by omega, by go_num, ?_⟩
              have e : encS K R l (r + 1) = withK K (shiftB st) (r + 1) := by
                rw [encS, ← HST.out]
                unfold rnd mid
                rw [if_neg hlt2]
              rw [e]
              exact Lib.hid (H6.out.put hbn _)
            case measure => simp [intOf]; omega
    · have hrR : r = R := by omega
      have hle : decide ((r : Int) + 1 ≤ (R : Int)) = false := by simp; omega
      have hb16 : (barr st).size = 16 := by rw [barr_size, hst]
      go_wp2_with (first | ((with_reducible change wpList _ _ _ (Oper.mk _ (Op.load 31 _) _ _ _ _ :: _) _ _); refine wpList_load_blk (ty := 31) n0 rfl H.out.blk Try.underlying31 rfl size16 hb16 ?_) | ((with_reducible change wpList _ _ _ (Oper.mk _ (Op.store 31 _ _) _ _ _ _ :: _) _ _); refine wpList_store_blk (ty := 31) (n0 + 1) (barr st) rfl rfl H.out.res size16 hb16 (by rw [barr_size]; rfl) (barr_one _) ?_))
      refine bodyPost_ret (results_cell2_blk rfl _ _ (n0 + 1) rfl (H.out.res.row _) Try.underlying31 rfl size16 hb16) rfl ⟨?_, ?_⟩
      · have e : enc K R l = st := by rw [enc_S, HST.out, hrR]
        rw [HR.out, e]
        rfl
      · obtain ⟨F', f1, f2, f3⟩ := HN.out
        have hF : ∀ x, F' x → x ≠ n0 ∧ x ≠ n0 + 1 := by
          intro x hx
          rcases f3 x hx with hh | hh
          · have := HGn.out x hh; omega
          · omega
        have ho : Only (fun x => x = n0 ∨ x = n0 + 1) w2 (wr.setRow (n0 + 1) (barr st)) := (H.out.only.mono (S' := fun x => x = n0 ∨ x = n0 + 1) (fun x hx => .inl hx)).row (.inl (.inr rfl)) _
        refine ⟨F', f1.keep ho (fun x hx hh => by rcases hh with hh | hh; exact (hF x hx).1 hh; exact (hF x hx).2 hh), ?_, fun x hx => (f3 x hx).imp id (fun hh => by have := HB0.out.size; omega)⟩
        refine ((Only.of_below HB0.out G).trans f2 (fun x hx => .inl hx)).trans ho (fun x hx => .inr ?_)
        have := HN0.out
        rcases hx with hx | hx <;> omega
end Go.Proofs.Ytihmgkjmebdioaa
namespace Go.Proofs.Ytihmgkjmebdioaa
open Go.RowKit
set_option maxRecDepth 100000
set_option linter.unusedVariables false
set_option linter.unusedSimpArgs false

theorem EncW.set {n0 b k : Nat} {K st : List UInt8} {w2 w1 : World} (h : EncW n0 b k K st w2 w1) (hb : b ≠ n0) (p : Nat) (y : UInt8) : EncW n0 b k K (st.set p y) w2 (w1.setCell ⟨n0, p, none⟩ (.int .u8 (y.toNat : Int))) :=
  ⟨by rw [← barr_set]; exact h.blk.set p _, h.res.set_ne (by simp) _, ⟨h.cip.1.set_ne hb _, h.cip.2⟩, h.only.set (.inl rfl) _⟩
set_option maxHeartbeats 1000000 in
theorem decrypt_no (p q : Value) (l : List UInt8) (w : World) (hm : ∀ w', Below w.heap.size w w' → Calls Try.prog 32 #[p] w' fun e w'' => e = .returned (.bool false) ∧ w' = w'') :
    Calls Try.prog 18 #[p, q, .agg (barr l)] w fun e w' => e = .returned (.tuple #[.agg (barr (List.replicate 16 0)), .int .i64 1]) ∧ Below w.heap.size w w' := by
  have HM := Lib.hid hm
  clear hm
  have hz := zero16
  generalize hZ : barr (List.replicate 16 0) = Z at hz
  have HZ := Lib.hid hZ
  have hZs : Z.size = 16 := by rw [← hZ, barr_size]; rfl
  have hZo : ∀ v ∈ Z.toList, v.oneCell' = true := by rw [← hZ]; exact barr_one _
  clear hZ
  go_enter Try.func18, Try.ntmps18
  go_wp2_with fail
  have hb : Below w.heap.size w ((w.alloc (.cells (barr l) 31)).alloc (.cells Z 31)) := ((Below.refl _ _).alloc (Nat.le_refl _) _).alloc (by simp) _
  have HB := Lib.hid hb
  have b1 : Blk ((w.alloc (.cells (barr l) 31)).alloc (.cells Z 31)) (w.heap.size + 1) 31 Z := Blk.at (by simp) rfl
  refine (HM.out _ hb).mono ?_
  clear hb
  rintro e w' ⟨rfl, rfl⟩
  go_wp2_with (first | ((with_reducible change wpList _ _ _ (Oper.mk _ (Op.store 31 _ _) _ _ _ _ :: _) _ _); refine wpList_store_blk (ty := 31) (w.heap.size + 1) Z rfl rfl b1 size16 hZs hZs hZo ?_))
  refine bodyPost_ret (results_cell2_blk rfl _ _ (w.heap.size + 1) rfl (b1.row _) Try.underlying31 rfl size16 hZs) rfl ⟨rfl, below_row HB.out (by omega) _⟩
set_option maxHeartbeats 4000000 in
theorem decrypt_any (b k : Nat) (K l : List UInt8) (q : Value) (G : Nat → Prop) (o : Option (List Rn)) (w : World) (h : CipAt w b k K) (hl : l.length = 16) (hk0 : 0 < k) (hk : k ≤ 32) (hq : LgP w q G o) (hr : Room o 1) (hG : ¬ G b) :
    Calls Try.prog 18 #[.pointer (some ⟨b, 0, none⟩), q, .agg (barr l)] w fun e w' => e = .returned (.tuple #[.agg (barr (dec K (k / 4 + 6) l)), .int .i64 0]) ∧ LaidP q G (noteO o 5 k 1) w w' := by
  have hbw := h.lt
  have HGlt := Lib.hid hq.lt
  have hkd : decide (0 < k) = true := by simpa using hk0
  have HH := Lib.hid h
  have HQ := Lib.hid hq
  clear h hq
  go_enter Try.func18, Try.ntmps18
  go_wp2_with fail
  have hb0 : Below w.heap.size w ((w.alloc (.cells (barr l) 31)).alloc (.cells (barr (List.replicate 16 0)) 31)) := ((Below.refl _ _).alloc (Nat.le_refl _) _).alloc (by simp) _
  have hA : EncW w.heap.size b k K l ((w.alloc (.cells (barr l) 31)).alloc (.cells (barr (List.replicate 16 0)) 31)) ((w.alloc (.cells (barr l) 31)).alloc (.cells (barr (List.replicate 16 0)) 31)) :=
    ⟨(Blk.at rfl rfl).alloc _, Blk.at (by simp) rfl, HH.out.below hb0, Only.refl _ _⟩
  have hs0 : w.heap.size + 1 < ((w.alloc (.cells (barr l) 31)).alloc (.cells (barr (List.replicate 16 0)) 31)).heap.size := by simp
  have HQ0 := Lib.hid (HQ.out.keep (Only.nothing hb0) (fun _ _ h => h))
  obtain ⟨w0, hw0⟩ : ∃ w0, w0 = ((w.alloc (.cells (barr l) 31)).alloc (.cells (barr (List.replicate 16 0)) 31)) := ⟨_, rfl⟩
  obtain ⟨n0, hn0⟩ : ∃ n0, n0 = w.heap.size := ⟨_, rfl⟩
  have hbn : b ≠ n0 := by omega
  have hbn1 : b < n0 := by omega
  have HA : Hid (EncW n0 b k K l w0 w0) := by rw [hw0, hn0]; exact Lib.hid hA
  have HQ1 : Hid (LgP w0 q G o) := by rw [hw0]; exact HQ0
  have HB0 : Hid (Below w.heap.size w w0) := by rw [hw0]; exact Lib.hid hb0
  have hs1 : n0 + 1 < w0.heap.size := by rw [hw0, hn0]; exact hs0
  have HGn : Hid (∀ x, G x → x < n0) := by rw [hn0]; exact HGlt
  have HN0 : Hid (n0 = w.heap.size) := hn0
  change Calls _ _ _ ((w.alloc (.cells (barr l) 31)).alloc (.cells (barr (List.replicate 16 0)) 31)) _
  rw [← hw0, ← hn0]
  clear hA hs0 HQ0 hb0 hw0 hn0 HH HQ
  refine (cmade_any b k K w0 HA.out.cip).mono ?_
  rintro e w' ⟨he, rfl⟩
  rw [hkd] at he
  subst he
  have c0 := HA.out.cip.key
  have hbl := HA.out.cip.lt
  go_wp2_with fail
  refine (gnoteP_any q G o 5 k w0 HQ1.out hr).mono ?_
  rintro e w2 ⟨rfl, hn⟩
  have HN := Lib.hid hn
  have on := hn.only
  have h2 : EncW n0 b k K l w2 w2 := ⟨HA.out.blk.only on (fun hh => by have := HGn.out _ hh; omega), HA.out.res.only on (fun hh => by have := HGn.out _ hh; omega), HA.out.cip.only on hG, Only.refl _ _⟩
  have hs2 : n0 + 1 < w2.heap.size := Nat.lt_of_lt_of_le hs1 on.size
  have hb2 : b < w2.heap.size := h2.cip.lt
  have H2 := Lib.hid h2
  have hll : (barr l).size = 16 := by rw [barr_size, hl]
  clear hn on h2 c0 hbl HA HQ1
  obtain ⟨R, hR⟩ : ∃ R, k / 4 + 6 = R := ⟨_, rfl⟩
  have hR14 : R ≤ 14 := by omega
  have HR := Lib.hid hR
  clear hR
  go_wp2_with fail
  refine (rounds_any b k K w2 H2.out.cip hk).mono ?_
  rintro e w' ⟨he, rfl⟩
  rw [HR.out] at he
  subst he
  go_wp2_with fail
  go_loopw [8] (fun i w1 => ∃ (r : Nat) (st : List UInt8), r ≤ R ∧ i = .int .i64 (r : Int) ∧ st.length = 16 ∧ Hid (decN K R r st = dec K R l) ∧ Hid (EncW n0 b k K st w2 w1)) (fun i _ => (intOf i).toNat)
  case atStart => exact ⟨R, l, Nat.le_refl _, rfl, hl, Lib.hid rfl, H2⟩
  case round =>
    obtain ⟨r, st, hrr, rfl, hst, HD, H⟩ := hrel
    clear H2
    have hb16 : (barr st).size = 16 := by rw [barr_size, hst]
    by_cases hlt : 0 < r
    · have hgt : decide ((r : Int) > 0) = true := by simp; omega
      go_wp2_with ((with_reducible change wpList _ _ _ (Oper.mk _ (Op.load 31 _) _ _ _ _ :: _) _ _); refine wpList_load_blk (ty := 31) n0 rfl H.out.blk Try.underlying31 rfl size16 hb16 ?_)
      refine (with_any b k K st r _ H.out.cip hst (by omega)).mono ?_
      rintro e w6 ⟨rfl, h6⟩
      have H6 := Lib.hid (H.out.below h6)
      clear h6
      have hsz : w2.heap.size ≤ w6.heap.size := H6.out.only.size
      have hs6 : (barr (withK K st r)).size = 16 := by rw [barr_size, withK_len]
      have b6 : Blk (w6.alloc (.cells (barr (List.replicate 16 0)) 31)) w6.heap.size 31 (barr (List.replicate 16 0)) := Blk.new _ _ _
      go_wp2_with ((with_reducible change wpList _ _ _ (Oper.mk _ (Op.store 31 _ _) _ _ _ _ :: _) _ _); refine wpList_store_blk (ty := 31) w6.heap.size (barr (withK K st r)) rfl rfl b6 size16 hs6 (by rw [barr_size]; rfl) (barr_one _) ?_)
      have H7 : Hid (EncW n0 b k K st w2 ((w6.alloc (.cells (barr (List.replicate 16 0)) 31)).setRow w6.heap.size (barr (withK K st r)))) := Lib.hid ((H6.out.below ((Below.refl _ _).alloc (Nat.le_refl _) _)).other (g := w6.heap.size) hsz hs2 hb2 (Only.row (S := fun x => x = w6.heap.size) (Only.refl _ _) (.inl rfl) _))
      have G7 := Lib.hid (b6.row (barr (withK K st r)))
      obtain ⟨w7, hw7⟩ : ∃ w7, w7 = ((w6.alloc (.cells (barr (List.replicate 16 0)) 31)).setRow w6.heap.size (barr (withK K st r))) := ⟨_, rfl⟩
      change Calls _ _ _ ((w6.alloc (.cells (barr (List.replicate 16 0)) 31)).setRow w6.heap.size (barr (withK K st r))) _
      rw [← hw7] at H7 G7 ⊢
      generalize hs0e : w6.heap.size = s0 at *
      clear hw7 b6 H6
      refine (rounds_any b k K w7 H7.out.cip hk).mono ?_
      rintro e w' ⟨he, rfl⟩
      rw [HR.out] at he
      subst he
      by_cases hlt2 : r < R
      · have hle2 : decide ((r : Int) < (R : Int)) = true := by simp; omega
        go_wp2_with ((with_reducible change wpList _ _ _ (Oper.mk _ (Op.load 31 _) _ _ _ _ :: _) _ _); refine wpList_load_blk (ty := 31) s0 rfl G7.out Try.underlying31 rfl size16 hs6 ?_)
        refine (mixed_any (withK K st r) m14 _ (withK_len _ _ _) rfl).mono ?_
        rintro e w8 ⟨rfl, h8⟩
        have H8 := Lib.hid (H7.out.below h8)
        have G8 := Lib.hid (G7.out.below h8 G7.out.lt)
        clear h8
        have hsm : (barr (mixB m14 (withK K st r))).size = 16 := by rw [barr_size, mixB_len]
        have G9 := Lib.hid (G8.out.row (barr (mixB m14 (withK K st r))))
        have H9 := Lib.hid (H8.out.other (g := s0) (w' := w8.setRow s0 (barr (mixB m14 (withK K st r)))) hsz hs2 hb2 (Only.row (S := fun x => x = s0) (Only.refl _ _) (.inl rfl) _))
        go_wp2_with ((with_reducible change wpList _ _ _ (Oper.mk _ (Op.store 31 _ _) _ _ _ _ :: _) _ _); refine wpList_store_blk (ty := 31) s0 (barr (mixB m14 (withK K st r))) rfl rfl G8.out size16 hsm hs6 (barr_one _) ?_)
        go_loopw [39] (fun i w1 => ∃ j : Nat, j ≤ 16 ∧ i = .int .i64 (j : Int) ∧ Hid (EncW n0 b k K (unTo (mixB m14 (withK K st r)) st j) w2 w1) ∧ Hid (Blk w1 s0 31 (barr (mixB m14 (withK K st r))))) (fun i _ => 16 - (intOf i).toNat)
        case atStart => exact ⟨0, by omega, rfl, H9, G9⟩
        case round =>
          obtain ⟨j, hj, rfl, H5, G5⟩ := hrel
          by_cases hjt : j < 16
          · obtain ⟨m, hm⟩ : ∃ m, j % 4 = m := ⟨_, rfl⟩
            obtain ⟨s, hs⟩ : ∃ s, j + 4 * m = s := ⟨_, rfl⟩
            obtain ⟨p, hp⟩ : ∃ p, s % 16 = p := ⟨_, rfl⟩
            have hmI : (j : Int) % 4 = (m : Int) := by omega
            have hsI : (j : Int) + 4 * (m : Int) = (s : Int) := by omega
            have hpI : (s : Int) % 16 = (p : Int) := by omega
            have hm4 : m < 4 := by omega
            have hs32 : s < 32 := by omega
            have hp16 : p < 16 := by omega
            have c0 := G5.out.cellAt j (barr_getD (mixB m14 (withK K st r)) j (by rw [mixB_len]; exact hjt))
            have hbl := G5.out.lt
            have HP : Hid ((j + 4 * (j % 4)) % 16 = p) := Lib.hid (by rw [hm, hs, hp])
            generalize hx : List.getD (mixB m14 (withK K st r)) j 0 = x at c0
            have HX := Lib.hid hx
            clear hx hm hs hp
            go_wp2_with fail
            refine (backU_any x _).mono ?_
            rintro e w' ⟨rfl, n, rfl⟩
            have H6 := Lib.hid (H5.out.below (drew_below _ n))
            have G6 := Lib.hid (G5.out.draw n)
            have f6 := H6.out.blk.unfrozen p
            have hb6 := H6.out.blk.lt
            have c6 := H6.out.blk.cellAt p (barr_getD _ p (by rw [unTo_len, hst]; exact hp16))
            clear H5 G5
            go_wp2
            go_roundw
            case rel =>
              refine ⟨j + 1, by omega, by go_num, ?_, Lib.hid (G6.out.set_ne (by simp; omega) _)⟩
              have h := H6.out.set hbn p (backU x)
              have e : unTo (mixB m14 (withK K st r)) st (j + 1) = (unTo (mixB m14 (withK K st r)) st j).set p (backU x) := by rw [unTo, HP.out, HX.out]
              rw [e]
              exact Lib.hid h
            case measure => simp [intOf]; omega
          · obtain rfl : j = 16 := by omega
            go_wp2
            go_roundw
            case rel =>
              refine ⟨r - 1, _, by omega, by rw [show ((r - 1 : Nat) : Int) = (r : Int) - 1 from by omega], by rw [unTo_len, hst], ?_, H5⟩
              have h := HD.out
              rw [show r = (r - 1) + 1 from by omega, decN, show r - 1 + 1 = r from by omega] at h
              rw [← h]
              have e : dim R r (withK K st r) = (mixB m14 (withK K st r)) := by unfold dim; rw [if_pos hlt2]
              rw [e]
              exact Lib.hid rfl
            case measure => simp [intOf]; omega
      · have hle2 : decide ((r : Int) < (R : Int)) = false := by simp; omega
        go_wp2_with fail
        go_loopw [39] (fun i w1 => ∃ j : Nat, j ≤ 16 ∧ i = .int .i64 (j : Int) ∧ Hid (EncW n0 b k K (unTo (withK K st r) st j) w2 w1) ∧ Hid (Blk w1 s0 31 (barr (withK K st r)))) (fun i _ => 16 - (intOf i).toNat)
        case atStart => exact ⟨0, by omega, rfl, H7, G7⟩
        case round =>
          obtain ⟨j, hj, rfl, H5, G5⟩ := hrel
          by_cases hjt : j < 16
          · obtain ⟨m, hm⟩ : ∃ m, j % 4 = m := ⟨_, rfl⟩
            obtain ⟨s, hs⟩ : ∃ s, j + 4 * m = s := ⟨_, rfl⟩
            obtain ⟨p, hp⟩ : ∃ p, s % 16 = p := ⟨_, rfl⟩
            have hmI : (j : Int) % 4 = (m : Int) := by omega
            have hsI : (j : Int) + 4 * (m : Int) = (s : Int) := by omega
            have hpI : (s : Int) % 16 = (p : Int) := by omega
            have hm4 : m < 4 := by omega
            have hs32 : s < 32 := by omega
            have hp16 : p < 16 := by omega
            have c0 := G5.out.cellAt j (barr_getD (withK K st r) j (by rw [withK_len]; exact hjt))
            have hbl := G5.out.lt
            have HP : Hid ((j + 4 * (j % 4)) % 16 = p) := Lib.hid (by rw [hm, hs, hp])
            generalize hx : List.getD (withK K st r) j 0 = x at c0
            have HX := Lib.hid hx
            clear hx hm hs hp
            go_wp2_with fail
            refine (backU_any x _).mono ?_
            rintro e w' ⟨rfl, n, rfl⟩
            have H6 := Lib.hid (H5.out.below (drew_below _ n))
            have G6 := Lib.hid (G5.out.draw n)
            have f6 := H6.out.blk.unfrozen p
            have hb6 := H6.out.blk.lt
            have c6 := H6.out.blk.cellAt p (barr_getD _ p (by rw [unTo_len, hst]; exact hp16))
            clear H5 G5
            go_wp2
            go_roundw
            case rel =>
              refine ⟨j + 1, by omega, by go_num, ?_, Lib.hid (G6.out.set_ne (by simp; omega) _)⟩
              have h := H6.out.set hbn p (backU x)
              have e : unTo (withK K st r) st (j + 1) = (unTo (withK K st r) st j).set p (backU x) := by rw [unTo, HP.out, HX.out]
              rw [e]
              exact Lib.hid h
            case measure => simp [intOf]; omega
          · obtain rfl : j = 16 := by omega
            go_wp2
            go_roundw
            case rel =>
              refine ⟨r - 1, _, by omega, by rw [show ((r - 1 : Nat) : Int) = (r : Int) - 1 from by omega], by rw [unTo_len, hst], ?_, H5⟩
              have h := HD.out
              rw [show r = (r - 1) + 1 from by omega, decN, show r - 1 + 1 = r from by omega] at h
              rw [← h]
              have e : dim R r (withK K st r) = (withK K st r) := by unfold dim; rw [if_neg hlt2]
              rw [e]
              exact Lib.hid rfl
            case measure => simp [intOf]; omega
    · have hr0 : r = 0 := by omega
      subst hr0
      have hd := HD.out
      rw [decN] at hd
      have HD2 := Lib.hid hd
      clear hd HD
      go_wp2_with ((with_reducible change wpList _ _ _ (Oper.mk _ (Op.load 31 _) _ _ _ _ :: _) _ _); refine wpList_load_blk (ty := 31) n0 rfl H.out.blk Try.underlying31 rfl size16 hb16 ?_)
      refine (with_any b k K st 0 _ H.out.cip hst (by omega)).mono ?_
      rintro e w6 ⟨rfl, h6⟩
      have H6 := Lib.hid (H.out.below h6)
      clear h6
      have hs6 : (barr (withK K st 0)).size = 16 := by rw [barr_size, withK_len]
      go_wp2_with ((with_reducible change wpList _ _ _ (Oper.mk _ (Op.store 31 _ _) _ _ _ _ :: _) _ _); refine wpList_store_blk (ty := 31) (n0 + 1) (barr (withK K st 0)) rfl rfl H6.out.res size16 hs6 (by rw [barr_size]; rfl) (barr_one _) ?_)
      refine bodyPost_ret (results_cell2_blk rfl _ _ (n0 + 1) rfl (H6.out.res.row _) Try.underlying31 rfl size16 hs6) rfl ⟨?_, ?_⟩
      · rw [HR.out, ← HD2.out]
        rfl
      · obtain ⟨F', f1, f2, f3⟩ := HN.out
        have hF : ∀ x, F' x → x ≠ n0 ∧ x ≠ n0 + 1 := by
          intro x hx
          rcases f3 x hx with hh | hh
          · have := HGn.out x hh; omega
          · omega
        have ho : Only (fun x => x = n0 ∨ x = n0 + 1) w2 (w6.setRow (n0 + 1) (barr (withK K st 0))) := (H6.out.only.mono (S' := fun x => x = n0 ∨ x = n0 + 1) (fun x hx => .inl hx)).row (.inl (.inr rfl)) _
        refine ⟨F', f1.keep ho (fun x hx hh => by rcases hh with hh | hh; exact (hF x hx).1 hh; exact (hF x hx).2 hh), ?_, fun x hx => (f3 x hx).imp id (fun hh => by have := HB0.out.size; omega)⟩
        refine ((Only.of_below HB0.out G).trans f2 (fun x hx => .inl hx)).trans ho (fun x hx => .inr ?_)
        have := HN0.out
        rcases hx with hx | hx <;> omega
end Go.Proofs.Ytihmgkjmebdioaa
