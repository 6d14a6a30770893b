/- The walk of NaiveCounts. -/
import Derived.Test.YtpbplcbdejoolaaRows
import Derived.Test.YtpbplcbdejoolaaLarge
import Derived.Test.YtpbplcbdejoolaaHeld
import Derived.Deep.DeepCutAuto
import Derived.BigQuiet
import Derived.Test.YtpbplcbdejoolaaSortedFn
namespace Go.Proofs.Ytpbplcbdejoolaa
open Go.RowKit
set_option maxRecDepth 100000
set_option linter.unusedVariables false
set_option linter.unusedSimpArgs false

theorem common_at : ∀ (xs ys : List UInt8) (c : Nat), c < xs.length → c < ys.length → common (xs.drop c) (ys.drop c) = if xs.getD c 0 = ys.getD c 0 then common (xs.drop (c + 1)) (ys.drop (c + 1)) + 1 else 0 := by
  intro xs ys c h1 h2
  rw [drop_at xs c h1, drop_at ys c h2]
  rfl
theorem common_end (xs ys : List UInt8) (c : Nat) (h : xs.length ≤ c ∨ ys.length ≤ c) : common (xs.drop c) (ys.drop c) = 0 := by
  rcases h with h | h
  · rw [List.drop_of_length_le h]
    cases ys.drop c <;> rfl
  · rw [List.drop_of_length_le h]
    cases xs.drop c <;> rfl
set_option maxHeartbeats 8000000 in
theorem naiveCounts.walk {w : World} (v : Value) (A B : List UInt8) (x : UInt8) (base ex m : Nat) (h : AskIs w v A B x base ex m) :
    Calls Try.prog 5 #[v] w fun e w' => e = .returned (.bool true) ∧ Below w.heap.size w w' := by
  obtain ⟨⟨va, vb, rfl, hA, hB⟩, l1, l2, l3⟩ := h
  obtain ⟨ao, cap, rfl, h1, h2, _, _⟩ := hA.form
  obtain ⟨bo, dap, rfl, h3, h4, _, _⟩ := hB.form
  have hla : A.length ≤ 9223372036854775807 := by omega
  have hlb : B.length ≤ 9223372036854775807 := by omega
  have HL := Lib.hid (And.intro l1 (And.intro l2 l3))
  clear l1 l2 l3
  go_enter Try.func5, Try.ntmps5
  go_wp2_with fail
  obtain ⟨wA, hwA⟩ : ∃ wA, wA = w.alloc (.cells #[.slice ao A.length cap, .slice bo B.length dap, .int .u8 (x.toNat : Int), .int .u64 (base : Int), .int .u64 (ex : Int), .int .u64 (m : Int)] 43) := ⟨_, rfl⟩
  rw [← hwA]
  have hbA : Below w.heap.size w wA := by rw [hwA]; exact (Below.refl _ _).alloc (Nat.le_refl _) _
  have HA := Lib.hid (hA.grow hbA)
  have HB := Lib.hid (hB.grow hbA)
  have blk : Blk wA w.heap.size 43 #[.slice ao A.length cap, .slice bo B.length dap, .int .u8 (x.toNat : Int), .int .u64 (base : Int), .int .u64 (ex : Int), .int .u64 (m : Int)] := by rw [hwA]; exact Blk.new w _ _
  have CA : Hid (∀ w', Below wA.heap.size wA w' → w'.cell? ⟨w.heap.size, 0, none⟩ = some (.slice ao A.length cap) ∧ w'.cell? ⟨w.heap.size, 1, none⟩ = some (.slice bo B.length dap) ∧ w'.cell? ⟨w.heap.size, 2, none⟩ = some (.int .u8 (x.toNat : Int)) ∧ w'.cell? ⟨w.heap.size, 3, none⟩ = some (.int .u64 (base : Int)) ∧ w'.cell? ⟨w.heap.size, 4, none⟩ = some (.int .u64 (ex : Int)) ∧ w'.cell? ⟨w.heap.size, 5, none⟩ = some (.int .u64 (m : Int))) :=
    Lib.hid fun w' hb => by
      have hlt := blk.lt
      exact ⟨(hb.cell hlt).trans (blk.cellAt 0 rfl), (hb.cell hlt).trans (blk.cellAt 1 rfl), (hb.cell hlt).trans (blk.cellAt 2 rfl), (hb.cell hlt).trans (blk.cellAt 3 rfl), (hb.cell hlt).trans (blk.cellAt 4 rfl), (hb.cell hlt).trans (blk.cellAt 5 rfl)⟩
  have HBA := Lib.hid hbA
  clear hA hB blk hbA hwA
  refine (naiveLives_any wA).mono ?_
  rintro e w1 ⟨rfl, hb1⟩
  have H1 := Lib.hid ((Env.start wA).below hb1)
  clear hb1
  obtain ⟨a0, a1, a2, a3, a4, a5⟩ := CA.out w1 H1.out.base
  go_wp2_with fail
  obtain ⟨b1, hbb1⟩ : ∃ b : Bool, decide ((200 : Int) < (A.length : Int)) = b := ⟨_, rfl⟩
  obtain ⟨b2, hbb2⟩ : ∃ b : Bool, decide ((200 : Int) < (B.length : Int)) = b := ⟨_, rfl⟩
  refine (large_any _ _ A B x base ex m _ (H1.out.old HA.out) (H1.out.old HB.out) b1 b2 hbb1 hbb2).mono ?_
  rintro e w2 ⟨rfl, hb2⟩
  have H2 := Lib.hid (H1.out.below hb2)
  have HBB := Lib.hid (And.intro hbb1 hbb2)
  clear hb2 a0 a1 a2 a3 a4 a5 H1 hbb1 hbb2
  obtain ⟨c, hc⟩ : ∃ c, (b1 || b2) = c := ⟨_, rfl⟩
  rw [hc]
  have HC := Lib.hid hc
  clear hc
  cases c with
  | true =>
    go_wp2_with fail
    go_ret
    exact ⟨rfl, HBA.out.trans (H2.out.base.mono HBA.out.size)⟩
  | false =>
    have hA200 : A.length ≤ 200 := by
      have h1 := HC.out
      have h2 := HBB.out.1
      cases b1 <;> cases b2 <;> simp at h1
      simp at h2
      omega
    have hB200 : B.length ≤ 200 := by
      have h1 := HC.out
      have h2 := HBB.out.2
      cases b1 <;> cases b2 <;> simp at h1
      simp at h2
      omega
    clear HC HBB
    go_wp2_with fail
    refine (newP_env H2.out).mono ?_
    rintro e w3 ⟨l, rfl, h5⟩
    have H3 : Hid (Env wA w3 [obP l (some [])]) := Lib.hid h5
    clear h5 H2
    have F0 : FewS (some []) 0 := ⟨[], rfl, Few.nil⟩
    obtain ⟨r1, o1, hq1⟩ : ∃ r1 o1, nEq A B (some []) = (r1, o1) := ⟨_, _, rfl⟩
    have F1 := nEq_few A B _ _ F0
    have N1 := nEq_counts A B (some []) F0.is
    rw [hq1] at F1 N1
    obtain ⟨rs1, rfl, f1⟩ := F1
    have HF0 := Lib.hid F0
    have HF1 := Lib.hid f1
    have HN1 := Lib.hid N1
    have Q1 := Lib.hid hq1
    clear F0 f1 N1 hq1
    obtain ⟨a0, a1, a2, a3, a4, a5⟩ := CA.out w3 H3.out.base
    go_wp2_with fail
    refine (nEqual_env H3.out 0 rfl HF0.out.few (by omega) (Src.old H3.out 0 HA.out) (Src.old H3.out 0 HB.out)).mono ?_
    rintro e w4 ⟨he, h5⟩
    rw [Q1.out] at he h5
    subst he
    have H4 : Hid (Env wA w4 [obP l (some rs1)]) := Lib.hid h5
    clear h5 H3 a0 a1 a2 a3 a4 a5
    go_wp2_with fail
    go_loopw [5] (fun cv wx => ∃ c : Nat, c ≤ A.length ∧ cv = .int .i64 (c : Int) ∧ Hid (common A B = c + common (A.drop c) (B.drop c)) ∧ Hid (Env wA wx [obP l (some rs1)])) (fun c _ => A.length - (intOf c).toNat)
    case atStart => exact ⟨0, Nat.zero_le _, rfl, Lib.hid (by simp), H4⟩
    case round =>
      obtain ⟨c, hc, rfl, HC, H5⟩ := hrel
      obtain ⟨a0, a1, a2, a3, a4, a5⟩ := CA.out wr H5.out.base
      clear H4
      go_upto_region 8 with fail
      go_cut [48] from 24 to 48 (fun cv wx => ∃ b : Bool, cv = .bool b ∧ (b = true → c < A.length ∧ common A B = c + 1 + common (A.drop (c + 1)) (B.drop (c + 1))) ∧ (b = false → common A B = c) ∧ ∃ m, wx = wr.drewN m)
      case first =>
        by_cases c1 : c < A.length
        · have t1 : decide ((c : Int) < (A.length : Int)) = true := by rw [decide_eq_true_eq]; omega
          by_cases c2 : c < B.length
          · have t2 : decide ((c : Int) < (B.length : Int)) = true := by rw [decide_eq_true_eq]; omega
            have U := H5.out.old HA.out
            have V := H5.out.old HB.out
            obtain ⟨ao', cap', hv1, _, _, _, C1⟩ := U.form
            injection hv1 with e2 _ e3
            subst e2; subst e3
            obtain ⟨bo', dap', hv2, _, _, _, C2⟩ := V.form
            injection hv2 with e2 _ e3
            subst e2; subst e3
            obtain ⟨g1, off1, rfl, d1⟩ := C1 c c1
            obtain ⟨g2, off2, rfl, d2⟩ := C2 c c2
            have hcc := HC.out
            rw [common_at A B c c1 c2] at hcc
            generalize A.getD c 0 = x1 at d1 hcc
            generalize B.getD c 0 = y1 at d2 hcc
            obtain ⟨b, hb⟩ : ∃ b : Bool, decide (x1 = y1) = b := ⟨_, rfl⟩
            have t3 : ((x1.toNat : Int) == (y1.toNat : Int)) = b := by rw [u8_eq_iff]; exact hb
            have HH := Lib.hid (And.intro hcc hb)
            have bc1 : 0 ≤ (c : Int) ∧ (c : Int) < (A.length : Int) := by omega
            have bc2 : 0 ≤ (c : Int) ∧ (c : Int) < (B.length : Int) := by omega
            clear hcc hb U V C1 C2
            go_quiet (fail)
            go_wp2_with fail
            go_meet
            refine ⟨_, rfl, fun h => ?_, fun h => ?_, _, rfl⟩
            · have h1 := HH.out.1
              rw [if_pos (of_decide_eq_true (HH.out.2.trans h))] at h1
              exact ⟨c1, by omega⟩
            · have h1 := HH.out.1
              rw [if_neg (of_decide_eq_false (HH.out.2.trans h))] at h1
              omega
          · have t2 : decide ((c : Int) < (B.length : Int)) = false := by rw [decide_eq_false_iff_not]; omega
            have h0 := common_end A B c (Or.inr (by omega))
            have HH := Lib.hid h0
            clear h0
            go_quiet (fail)
            go_wp2_with fail
            go_meet
            exact ⟨_, rfl, (fun h => by cases h), (fun _ => by have := HC.out; have := HH.out; omega), _, rfl⟩
        · have t1 : decide ((c : Int) < (A.length : Int)) = false := by rw [decide_eq_false_iff_not]; omega
          have h0 := common_end A B c (Or.inl (by omega))
          have HH := Lib.hid h0
          clear h0
          go_quiet (fail)
          go_wp2_with fail
          go_meet
          exact ⟨_, rfl, (fun h => by cases h), (fun _ => by have := HC.out; have := HH.out; omega), _, rfl⟩
      case rest =>
        obtain ⟨b, rfl, hb1, hb2, dm, hm⟩ := hcut
        have H6 : Hid (Env wA wc [obP l (some rs1)]) := by rw [hm]; exact Lib.hid (H5.out.draw dm)
        have HB1 := Lib.hid hb1
        have HB2 := Lib.hid hb2
        clear hb1 hb2 hm a0 a1 a2 a3 a4 a5 H5 HC
        cases b with
        | true =>
          have h1 := HB1.out rfl
          have HC2 : Hid (common A B = (c + 1) + common (A.drop (c + 1)) (B.drop (c + 1))) := Lib.hid h1.2
          have c1 := h1.1
          clear h1
          go_wp2_with fail
          go_roundw
          case rel => exact ⟨c + 1, by omega, by go_num, HC2, H6⟩
          case measure => simp [intOf]; omega
        | false =>
          have HC2 : Hid (common A B = c) := Lib.hid (HB2.out rfl)
          clear HB1 HB2
          obtain ⟨a0, a1, a2, a3, a4, a5⟩ := CA.out wc H6.out.base
          obtain ⟨W, hW⟩ : ∃ W : Nat, W = if A.length = B.length then min (common A B + 1) A.length else 0 := ⟨_, rfl⟩
          have hcle := (common_le A B).1
          have HWW := Lib.hid hW
          have HCL := Lib.hid hcle
          clear hW hcle
          obtain ⟨q1, hq1⟩ : ∃ b : Bool, decide (A.length = B.length) = b := ⟨_, rfl⟩
          have t1 : ((A.length : Int) == (B.length : Int)) = q1 := by
            rw [← hq1]
            by_cases hh : A.length = B.length
            · simp [hh]
            · rw [decide_eq_false hh, beq_eq_false_iff_ne]
              omega
          have HQ1 := Lib.hid hq1
          clear hq1
          go_upto_if 57 with fail
          go_cut [6] from 51 to 63 (fun v wx => wx = wc ∧ v = .int .i64 (W : Int))
          case first =>
            have HQQ := HQ1
            cases q1 with
            | true =>
              have hl : A.length = B.length := of_decide_eq_true HQ1.out
              have hW := HWW.out
              rw [if_pos hl, HC2.out] at hW
              have hm : min ((c : Int) + 1) (A.length : Int) = (W : Int) := by omega
              clear hl hW
              go_wp2_with fail
              go_meet
              exact ⟨rfl, rfl⟩
            | false =>
              have hl : ¬ A.length = B.length := of_decide_eq_false HQ1.out
              have hW := HWW.out
              rw [if_neg hl] at hW
              have HW0 := Lib.hid hW
              clear hl hW
              go_wp2_with fail
              go_meet
              exact ⟨rfl, by rw [HW0.out]; rfl⟩
          case rest =>
            obtain ⟨rfl, rfl⟩ := hcut
            have htot : Hid (tot rs1 = (W : Int)) := by
              have h2 := HN1.out.2
              rw [← HWW.out] at h2
              refine Lib.hid ?_
              have e : totO (some rs1) = tot rs1 := rfl
              have e0 : totO (some ([] : List Rn)) = 0 := rfl
              rw [e, e0] at h2
              omega
            have t5 : ((W : Int) != (W : Int)) = false := by simp
            obtain ⟨q2, hq2⟩ : ∃ b : Bool, decide (c = A.length) = b := ⟨_, rfl⟩
            have t6 : ((c : Int) == (A.length : Int)) = q2 := by
              rw [← hq2]
              by_cases hh : c = A.length
              · simp [hh]
              · rw [decide_eq_false hh, beq_eq_false_iff_ne]
                omega
            have hr1 : Hid (r1 = (q1 && q2)) := by
              have h1 := HN1.out.1
              rw [HC2.out, HQ1.out, hq2] at h1
              exact Lib.hid h1
            clear hq2
            go_upto_region 13 with fail
            go_cut [85] from 64 to 85 (fun v wx => v = .bool false ∧ Env wA wx [obP l (some rs1)])
            case first =>
              have hrr := hr1.out
              cases q1 <;> cases q2
              all_goals
                have hrr2 := hrr
                simp only [Bool.and_self, Bool.and_false, Bool.and_true] at hrr2
                subst hrr2
                clear hrr
                go_wp2_with fail
                refine (lenP_env H6.out 0 rfl).mono ?_
                rintro e w5 ⟨he, hw⟩
                subst hw
                rw [htot.out] at he
                subst he
                go_wp2_with fail
                go_meet
                exact ⟨rfl, H6.out⟩
            case rest =>
              obtain ⟨rfl, h6⟩ := hcut
              have H7 := Lib.hid h6
              clear h6 a0 a1 a2 a3 a4 a5 H6 hr1 t1 t5 t6 htot
              go_wp2_with fail
              refine (resetP_env H7.out 0 rfl).mono ?_
              rintro e w8 ⟨rfl, h5⟩
              have H8 : Hid (Env wA w8 [obP l (some [])]) := Lib.hid h5
              clear h5 H7
              obtain ⟨r5, o5, hq5⟩ : ∃ r5 o5, fdN x A 0 (some []) = (r5, o5) := ⟨_, _, rfl⟩
              have F5 := fdN_few x A 0 _ _ HF0.out
              have N5 := fdN_counts x A 0 (some []) HF0.out.is
              rw [hq5] at F5 N5
              obtain ⟨rs5, rfl, f5⟩ := F5
              have Q5 := Lib.hid hq5
              have HN5 := Lib.hid N5
              have HF5 := Lib.hid f5
              clear f5 N5 hq5
              obtain ⟨a0, a1, a2, a3, a4, a5⟩ := CA.out w8 H8.out.base
              go_wp2_with fail
              refine (nFind_env H8.out 0 rfl HF0.out.few x (by omega) (Src.old H8.out 0 HA.out)).mono ?_
              rintro e w9 ⟨he, h5⟩
              rw [Q5.out] at he h5
              subst he
              have H9 : Hid (Env wA w9 [obP l (some rs5)]) := Lib.hid h5
              clear h5 H8 a0 a1 a2 a3 a4 a5
              obtain ⟨S, hS⟩ : ∃ S : World → Prop, S = fun w' => Below wA.heap.size wA w' := ⟨_, rfl⟩
              have HS : Hid (∀ w', Below wA.heap.size wA w' → S w') := Lib.hid (fun w' h => by rw [hS]; exact h)
              have HS2 : Hid (∀ w', S w' → Below wA.heap.size wA w') := Lib.hid (fun w' h => by rw [hS] at h; exact h)
              have G0 : ∀ w', S w' → w'.cell? ⟨w.heap.size, 0, none⟩ = some (.slice ao A.length cap) := fun w' h => (CA.out w' (by rw [hS] at h; exact h)).1
              have G1 : ∀ w', S w' → w'.cell? ⟨w.heap.size, 1, none⟩ = some (.slice bo B.length dap) := fun w' h => (CA.out w' (by rw [hS] at h; exact h)).2.1
              have G2 : ∀ w', S w' → w'.cell? ⟨w.heap.size, 2, none⟩ = some (.int .u8 (x.toNat : Int)) := fun w' h => (CA.out w' (by rw [hS] at h; exact h)).2.2.1
              clear hS
              go_upto_region 17 with fail
              go_cut [135] from 94 to 135 (fun v wx => v = .bool false ∧ Env wA wx [obP l (some rs5)])
              case first =>
                have e : totO (some rs5) = tot rs5 := rfl
                have e0 : totO (some ([] : List Rn)) = 0 := rfl
                rcases HN5.out with ⟨n1, n2⟩ | ⟨k, n1, n2, n3, n4⟩
                · rw [e, e0] at n2
                  subst n1
                  have HT : Hid (tot rs5 = (A.length : Int)) := Lib.hid (by omega)
                  clear n2 e e0
                  have t1 : decide ((A.length : Int) ≤ -1) = false := by rw [decide_eq_false_iff_not]; omega
                  have t2 : ((A.length : Int) != (A.length : Int)) = false := by simp
                  refine hd_start S (by kernel_rfl) ?_
                  intro w10 hw'
                  have H10 := Lib.hid (H9.out.draw 1)
                  rw [← hw'] at H10
                  clear hw' H9
                  have S10 : S w10 := HS.out w10 H10.out.base
                  refine hd_take (v := ?_) 0 rfl (by kernel_rfl) (fun _ _ d _ _ h => (by cases d <;> exact h)) (by kernel_rfl) S10 (fun w' hS => ?_) ?_
                  rotate_left
                  focus (clear hS; go_simp; try rfl; done)
                  simp only [List.getElem_toArray, List.getElem_cons_succ, List.getElem_cons_zero, Act.put, List.setIfInBounds_toArray, List.set_cons_zero, List.set_cons_succ]
                  refine hd_take (v := ?_) 1 rfl (by kernel_rfl) (fun _ _ d _ _ h => (by cases d <;> exact h)) (by kernel_rfl) S10 (fun w' hS => ?_) ?_
                  rotate_left
                  focus (clear hS; go_simp; try rfl; done)
                  simp only [List.getElem_toArray, List.getElem_cons_succ, List.getElem_cons_zero, Act.put, List.setIfInBounds_toArray, List.set_cons_zero, List.set_cons_succ]
                  refine hd_take (v := ?_) 2 rfl (by kernel_rfl) (fun _ _ d _ _ h => (by cases d <;> exact h)) (by kernel_rfl) S10 (fun w' hS => ?_) ?_
                  rotate_left
                  focus (have q0 := G0 w' hS; clear hS; go_simp; try rfl; done)
                  simp only [List.getElem_toArray, List.getElem_cons_succ, List.getElem_cons_zero, Act.put, List.setIfInBounds_toArray, List.set_cons_zero, List.set_cons_succ]
                  refine hd_take (v := ?_) 3 rfl (by kernel_rfl) (fun _ _ d _ _ h => (by cases d <;> exact h)) (by kernel_rfl) S10 (fun w' hS => ?_) ?_
                  rotate_left
                  focus (clear hS; go_simp; try rfl; done)
                  simp only [List.getElem_toArray, List.getElem_cons_succ, List.getElem_cons_zero, Act.put, List.setIfInBounds_toArray, List.set_cons_zero, List.set_cons_succ]
                  refine hd_take (v := ?_) 4 rfl (by kernel_rfl) (fun _ _ d _ _ h => (by cases d <;> exact h)) (by kernel_rfl) S10 (fun w' hS => ?_) ?_
                  rotate_left
                  focus (clear hS; go_simp; try rfl; done)
                  simp only [List.getElem_toArray, List.getElem_cons_succ, List.getElem_cons_zero, Act.put, List.setIfInBounds_toArray, List.set_cons_zero, List.set_cons_succ]
                  refine hd_take (v := ?_) 5 rfl (by kernel_rfl) (fun _ _ d _ _ h => (by cases d <;> exact h)) (by kernel_rfl) S10 (fun w' hS => ?_) ?_
                  rotate_left
                  focus (clear hS; go_simp; try rfl; done)
                  simp only [List.getElem_toArray, List.getElem_cons_succ, List.getElem_cons_zero, Act.put, List.setIfInBounds_toArray, List.set_cons_zero, List.set_cons_succ]
                  refine hd_take (v := ?_) 6 rfl (by kernel_rfl) (fun _ _ d _ _ h => (by cases d <;> exact h)) (by kernel_rfl) S10 (fun w' hS => ?_) ?_
                  rotate_left
                  focus (clear hS; go_simp; try rfl; done)
                  simp only [List.getElem_toArray, List.getElem_cons_succ, List.getElem_cons_zero, Act.put, List.setIfInBounds_toArray, List.set_cons_zero, List.set_cons_succ]
                  refine hd_take (v := ?_) 7 rfl (by kernel_rfl) (fun _ _ d _ _ h => (by cases d <;> exact h)) (by kernel_rfl) S10 (fun w' hS => ?_) ?_
                  rotate_left
                  focus (clear hS; go_simp; try rfl; done)
                  simp only [List.getElem_toArray, List.getElem_cons_succ, List.getElem_cons_zero, Act.put, List.setIfInBounds_toArray, List.set_cons_zero, List.set_cons_succ]
                  refine hd_take (v := ?_) 8 rfl (by kernel_rfl) (fun _ _ d _ _ h => (by cases d <;> exact h)) (by kernel_rfl) S10 (fun w' hS => ?_) ?_
                  rotate_left
                  focus (clear hS; go_simp; try rfl; done)
                  simp only [List.getElem_toArray, List.getElem_cons_succ, List.getElem_cons_zero, Act.put, List.setIfInBounds_toArray, List.set_cons_zero, List.set_cons_succ]
                  refine hd_take (v := ?_) 9 rfl (by kernel_rfl) (fun _ _ d _ _ h => (by cases d <;> exact h)) (by kernel_rfl) S10 (fun w' hS => ?_) ?_
                  rotate_left
                  focus (clear hS; go_simp; try rfl; done)
                  simp only [List.getElem_toArray, List.getElem_cons_succ, List.getElem_cons_zero, Act.put, List.setIfInBounds_toArray, List.set_cons_zero, List.set_cons_succ]
                  refine hd_take (v := ?_) 10 rfl (by kernel_rfl) (fun _ _ d _ _ h => (by cases d <;> exact h)) (by kernel_rfl) S10 (fun w' hS => ?_) ?_
                  rotate_left
                  focus (clear hS; go_simp; try rfl; done)
                  simp only [List.getElem_toArray, List.getElem_cons_succ, List.getElem_cons_zero, Act.put, List.setIfInBounds_toArray, List.set_cons_zero, List.set_cons_succ]
                  refine hd_take (v := ?_) 11 rfl (by kernel_rfl) (fun _ _ d _ _ h => (by cases d <;> exact h)) (by kernel_rfl) S10 (fun w' hS => ?_) ?_
                  rotate_left
                  focus (clear hS; go_simp; try rfl; done)
                  simp only [List.getElem_toArray, List.getElem_cons_succ, List.getElem_cons_zero, Act.put, List.setIfInBounds_toArray, List.set_cons_zero, List.set_cons_succ]
                  refine hd_take (v := ?_) 12 rfl (by kernel_rfl) (fun _ _ d _ _ h => (by cases d <;> exact h)) (by kernel_rfl) S10 (fun w' hS => ?_) ?_
                  rotate_left
                  focus (clear hS; go_simp; try rfl; done)
                  simp only [List.getElem_toArray, List.getElem_cons_succ, List.getElem_cons_zero, Act.put, List.setIfInBounds_toArray, List.set_cons_zero, List.set_cons_succ]
                  refine hd_off 13 rfl (by kernel_rfl) (fun _ _ d _ _ h => (by cases d <;> exact h)) (by kernel_rfl) S10 ?_
                  simp only [List.getElem_toArray, List.getElem_cons_succ, List.getElem_cons_zero, Act.put, List.setIfInBounds_toArray, List.set_cons_zero, List.set_cons_succ]
                  refine hd_off 14 rfl (by kernel_rfl) (fun _ _ d _ _ h => (by cases d <;> exact h)) (by kernel_rfl) S10 ?_
                  simp only [List.getElem_toArray, List.getElem_cons_succ, List.getElem_cons_zero, Act.put, List.setIfInBounds_toArray, List.set_cons_zero, List.set_cons_succ]
                  refine hd_off 15 rfl (by kernel_rfl) (fun _ _ d _ _ h => (by cases d <;> exact h)) (by kernel_rfl) S10 ?_
                  simp only [List.getElem_toArray, List.getElem_cons_succ, List.getElem_cons_zero, Act.put, List.setIfInBounds_toArray, List.set_cons_zero, List.set_cons_succ]
                  refine hd_off 16 rfl (by kernel_rfl) (fun _ _ d _ _ h => (by cases d <;> exact h)) (by kernel_rfl) S10 ?_
                  simp only [List.getElem_toArray, List.getElem_cons_succ, List.getElem_cons_zero, Act.put, List.setIfInBounds_toArray, List.set_cons_zero, List.set_cons_succ]
                  refine hd_off 17 rfl (by kernel_rfl) (fun _ _ d _ _ h => (by cases d <;> exact h)) (by kernel_rfl) S10 ?_
                  simp only [List.getElem_toArray, List.getElem_cons_succ, List.getElem_cons_zero, Act.put, List.setIfInBounds_toArray, List.set_cons_zero, List.set_cons_succ]
                  refine hd_off 18 rfl (by kernel_rfl) (fun _ _ d _ _ h => (by cases d <;> exact h)) (by kernel_rfl) S10 ?_
                  simp only [List.getElem_toArray, List.getElem_cons_succ, List.getElem_cons_zero, Act.put, List.setIfInBounds_toArray, List.set_cons_zero, List.set_cons_succ]
                  refine hd_off 19 rfl (by kernel_rfl) (fun _ _ d _ _ h => (by cases d <;> exact h)) (by kernel_rfl) S10 ?_
                  simp only [List.getElem_toArray, List.getElem_cons_succ, List.getElem_cons_zero, Act.put, List.setIfInBounds_toArray, List.set_cons_zero, List.set_cons_succ]
                  refine hd_off 20 rfl (by kernel_rfl) (fun _ _ d _ _ h => (by cases d <;> exact h)) (by kernel_rfl) S10 ?_
                  simp only [List.getElem_toArray, List.getElem_cons_succ, List.getElem_cons_zero, Act.put, List.setIfInBounds_toArray, List.set_cons_zero, List.set_cons_succ]
                  refine hd_off 21 rfl (by kernel_rfl) (fun _ _ d _ _ h => (by cases d <;> exact h)) (by kernel_rfl) S10 ?_
                  simp only [List.getElem_toArray, List.getElem_cons_succ, List.getElem_cons_zero, Act.put, List.setIfInBounds_toArray, List.set_cons_zero, List.set_cons_succ]
                  refine hd_off 22 rfl (by kernel_rfl) (fun _ _ d _ _ h => (by cases d <;> exact h)) (by kernel_rfl) S10 ?_
                  simp only [List.getElem_toArray, List.getElem_cons_succ, List.getElem_cons_zero, Act.put, List.setIfInBounds_toArray, List.set_cons_zero, List.set_cons_succ]
                  refine hd_off 23 rfl (by kernel_rfl) (fun _ _ d _ _ h => (by cases d <;> exact h)) (by kernel_rfl) S10 ?_
                  simp only [List.getElem_toArray, List.getElem_cons_succ, List.getElem_cons_zero, Act.put, List.setIfInBounds_toArray, List.set_cons_zero, List.set_cons_succ]
                  refine hd_off 24 rfl (by kernel_rfl) (fun _ _ d _ _ h => (by cases d <;> exact h)) (by kernel_rfl) S10 ?_
                  simp only [List.getElem_toArray, List.getElem_cons_succ, List.getElem_cons_zero, Act.put, List.setIfInBounds_toArray, List.set_cons_zero, List.set_cons_succ]
                  refine hd_off 25 rfl (by kernel_rfl) (fun _ _ d _ _ h => (by cases d <;> exact h)) (by kernel_rfl) S10 ?_
                  simp only [List.getElem_toArray, List.getElem_cons_succ, List.getElem_cons_zero, Act.put, List.setIfInBounds_toArray, List.set_cons_zero, List.set_cons_succ]
                  refine hd_off 26 rfl (by kernel_rfl) (fun _ _ d _ _ h => (by cases d <;> exact h)) (by kernel_rfl) S10 ?_
                  simp only [List.getElem_toArray, List.getElem_cons_succ, List.getElem_cons_zero, Act.put, List.setIfInBounds_toArray, List.set_cons_zero, List.set_cons_succ]
                  refine hd_off 27 rfl (by kernel_rfl) (fun _ _ d _ _ h => (by cases d <;> exact h)) (by kernel_rfl) S10 ?_
                  simp only [List.getElem_toArray, List.getElem_cons_succ, List.getElem_cons_zero, Act.put, List.setIfInBounds_toArray, List.set_cons_zero, List.set_cons_succ]
                  refine hd_take (v := ?_) 28 rfl (by kernel_rfl) (fun _ _ d _ _ h => (by cases d <;> exact h)) (by kernel_rfl) S10 (fun w' hS => ?_) ?_
                  rotate_left
                  focus (clear hS; go_simp; try rfl; done)
                  simp only [List.getElem_toArray, List.getElem_cons_succ, List.getElem_cons_zero, Act.put, List.setIfInBounds_toArray, List.set_cons_zero, List.set_cons_succ]
                  refine hd_take (v := ?_) 29 rfl (by kernel_rfl) (fun _ _ d _ _ h => (by cases d <;> exact h)) (by kernel_rfl) S10 (fun w' hS => ?_) ?_
                  rotate_left
                  focus (clear hS; go_simp; try rfl; done)
                  simp only [List.getElem_toArray, List.getElem_cons_succ, List.getElem_cons_zero, Act.put, List.setIfInBounds_toArray, List.set_cons_zero, List.set_cons_succ]
                  refine hd_take (v := ?_) 30 rfl (by kernel_rfl) (fun _ _ d _ _ h => (by cases d <;> exact h)) (by kernel_rfl) S10 (fun w' hS => ?_) ?_
                  rotate_left
                  focus (clear hS; go_simp; try rfl; done)
                  simp only [List.getElem_toArray, List.getElem_cons_succ, List.getElem_cons_zero, Act.put, List.setIfInBounds_toArray, List.set_cons_zero, List.set_cons_succ]
                  refine hd_take (v := ?_) 31 rfl (by kernel_rfl) (fun _ _ d _ _ h => (by cases d <;> exact h)) (by kernel_rfl) S10 (fun w' hS => ?_) ?_
                  rotate_left
                  focus (clear hS; go_simp; try rfl; done)
                  simp only [List.getElem_toArray, List.getElem_cons_succ, List.getElem_cons_zero, Act.put, List.setIfInBounds_toArray, List.set_cons_zero, List.set_cons_succ]
                  refine hd_take (v := ?_) 32 rfl (by kernel_rfl) (fun _ _ d _ _ h => (by cases d <;> exact h)) (by kernel_rfl) S10 (fun w' hS => ?_) ?_
                  rotate_left
                  focus (clear hS; go_simp; try rfl; done)
                  simp only [List.getElem_toArray, List.getElem_cons_succ, List.getElem_cons_zero, Act.put, List.setIfInBounds_toArray, List.set_cons_zero, List.set_cons_succ]
                  refine hd_take (v := ?_) 33 rfl (by kernel_rfl) (fun _ _ d _ _ h => (by cases d <;> exact h)) (by kernel_rfl) S10 (fun w' hS => ?_) ?_
                  rotate_left
                  focus (clear hS; go_simp; try rfl; done)
                  simp only [List.getElem_toArray, List.getElem_cons_succ, List.getElem_cons_zero, Act.put, List.setIfInBounds_toArray, List.set_cons_zero, List.set_cons_succ]
                  refine hd_take (v := ?_) 34 rfl (by kernel_rfl) (fun _ _ d _ _ h => (by cases d <;> exact h)) (by kernel_rfl) S10 (fun w' hS => ?_) ?_
                  rotate_left
                  focus (clear hS; go_simp; try rfl; done)
                  simp only [List.getElem_toArray, List.getElem_cons_succ, List.getElem_cons_zero, Act.put, List.setIfInBounds_toArray, List.set_cons_zero, List.set_cons_succ]
                  refine hd_take (v := ?_) 36 rfl (by kernel_rfl) (fun _ _ d _ _ h => (by cases d <;> exact h)) (by kernel_rfl) S10 (fun w' hS => ?_) ?_
                  rotate_left
                  focus (clear hS; go_simp; try rfl; done)
                  simp only [List.getElem_toArray, List.getElem_cons_succ, List.getElem_cons_zero, Act.put, List.setIfInBounds_toArray, List.set_cons_zero, List.set_cons_succ]
                  refine hd_take (v := ?_) 37 rfl (by kernel_rfl) (fun _ _ d _ _ h => (by cases d <;> exact h)) (by kernel_rfl) S10 (fun w' hS => ?_) ?_
                  rotate_left
                  focus (have q0 := G0 w' hS; clear hS; go_simp; try rfl; done)
                  simp only [List.getElem_toArray, List.getElem_cons_succ, List.getElem_cons_zero, Act.put, List.setIfInBounds_toArray, List.set_cons_zero, List.set_cons_succ]
                  refine hd_take (v := ?_) 38 rfl (by kernel_rfl) (fun _ _ d _ _ h => (by cases d <;> exact h)) (by kernel_rfl) S10 (fun w' hS => ?_) ?_
                  rotate_left
                  focus (clear hS; go_simp; try rfl; done)
                  simp only [List.getElem_toArray, List.getElem_cons_succ, List.getElem_cons_zero, Act.put, List.setIfInBounds_toArray, List.set_cons_zero, List.set_cons_succ]
                  refine hd_one 35 (by kernel_rfl) ?_
                  refine op_call rfl (by kernel_rfl) (by go_simp; first | exact ⟨rfl, rfl⟩ | rfl) ?_
                  refine (lenP_env H10.out 0 rfl).mono ?_
                  rintro e w11 ⟨he, hw⟩
                  rw [HT.out] at he
                  subst he
                  have H11 : Hid (Env wA w11 [obP l (some rs5)]) := by rw [← hw]; exact H10
                  have hS2 : S w11 := HS.out w11 H11.out.base
                  have S11 := hS2
                  clear hw
                  refine ⟨_, rfl, hS2, ?_⟩
                  simp only [List.getElem_toArray, List.getElem_cons_succ, List.getElem_cons_zero, Act.put, List.setIfInBounds_toArray, List.set_cons_zero, List.set_cons_succ]
                  refine hd_take (v := ?_) 39 rfl (by kernel_rfl) (fun _ _ d _ _ h => (by cases d <;> exact h)) (by kernel_rfl) S11 (fun w' hS => ?_) ?_
                  rotate_left
                  focus (clear hS; go_simp; try rfl; done)
                  simp only [List.getElem_toArray, List.getElem_cons_succ, List.getElem_cons_zero, Act.put, List.setIfInBounds_toArray, List.set_cons_zero, List.set_cons_succ]
                  refine hd_take (v := ?_) 40 rfl (by kernel_rfl) (fun _ _ d _ _ h => (by cases d <;> exact h)) (by kernel_rfl) S11 (fun w' hS => ?_) ?_
                  rotate_left
                  focus (clear hS; go_simp; try rfl; done)
                  simp only [List.getElem_toArray, List.getElem_cons_succ, List.getElem_cons_zero, Act.put, List.setIfInBounds_toArray, List.set_cons_zero, List.set_cons_succ]
                  refine hd_take (v := ?_) 41 rfl (by kernel_rfl) (fun _ _ d _ _ h => (by cases d <;> exact h)) (by kernel_rfl) S11 (fun w' hS => ?_) ?_
                  rotate_left
                  focus (clear hS; go_simp; try rfl; done)
                  simp only [List.getElem_toArray, List.getElem_cons_succ, List.getElem_cons_zero, Act.put, List.setIfInBounds_toArray, List.set_cons_zero, List.set_cons_succ]
                  refine hd_done (by kernel_rfl) ?_
                  go_wp2_with fail
                  go_meet
                  exact ⟨rfl, H11.out⟩
                · rw [e, e0] at n4
                  rw [Nat.zero_add] at n2
                  subst n2
                  have HT : Hid (tot rs5 = (k : Int) + 1) := Lib.hid (by omega)
                  clear n4 e e0
                  have GA : ∃ g off, ao = some ⟨g, off, none⟩ ∧ ∀ w', S w' → w'.cell? ⟨g, off + k, none⟩ = some (.int .u8 (x.toNat : Int)) := by
                    obtain ⟨ao', cap', hv1, _, _, _, C1⟩ := HA.out.form
                    injection hv1 with e2 _ e3
                    subst e2; subst e3
                    obtain ⟨g, off, hg, d1⟩ := C1 k n1
                    refine ⟨g, off, hg, fun w' h => ?_⟩
                    rw [n3] at d1
                    rw [(HS2.out w' h).cell (World.block_lt_of_cell? wA _ d1)]
                    exact d1
                  obtain ⟨g, off, rfl, GA⟩ := GA
                  have t1 : decide (A.length ≤ k) = false := by rw [decide_eq_false_iff_not]; omega
                  have t2 : decide ((k : Int) < -1) = false := by rw [decide_eq_false_iff_not]; omega
                  have t3 : decide ((0 : Int) ≤ (k : Int)) = true := by rw [decide_eq_true_eq]; omega
                  have t4 : decide ((k : Int) < 0) = false := by rw [decide_eq_false_iff_not]; omega
                  have t5 : IntKind.i64.wrap ((k : Int) + 1) = (k : Int) + 1 := by rw [IntKind.wrap_i64]; omega
                  have t7 : (((k : Int) + 1) != ((k : Int) + 1)) = false := by simp
                  have bk : 0 ≤ (k : Int) ∧ (k : Int) < (A.length : Int) := by omega
                  clear n3
                  refine hd_start S (by kernel_rfl) ?_
                  intro w10 hw'
                  have H10 := Lib.hid (H9.out.draw 1)
                  rw [← hw'] at H10
                  clear hw' H9
                  have S10 : S w10 := HS.out w10 H10.out.base
                  refine hd_take (v := ?_) 0 rfl (by kernel_rfl) (fun _ _ d _ _ h => (by cases d <;> exact h)) (by kernel_rfl) S10 (fun w' hS => ?_) ?_
                  rotate_left
                  focus (clear hS; go_simp; try rfl; done)
                  simp only [List.getElem_toArray, List.getElem_cons_succ, List.getElem_cons_zero, Act.put, List.setIfInBounds_toArray, List.set_cons_zero, List.set_cons_succ]
                  refine hd_take (v := ?_) 1 rfl (by kernel_rfl) (fun _ _ d _ _ h => (by cases d <;> exact h)) (by kernel_rfl) S10 (fun w' hS => ?_) ?_
                  rotate_left
                  focus (clear hS; go_simp; try rfl; done)
                  simp only [List.getElem_toArray, List.getElem_cons_succ, List.getElem_cons_zero, Act.put, List.setIfInBounds_toArray, List.set_cons_zero, List.set_cons_succ]
                  refine hd_take (v := ?_) 2 rfl (by kernel_rfl) (fun _ _ d _ _ h => (by cases d <;> exact h)) (by kernel_rfl) S10 (fun w' hS => ?_) ?_
                  rotate_left
                  focus (have q0 := G0 w' hS; clear hS; go_simp; try rfl; done)
                  simp only [List.getElem_toArray, List.getElem_cons_succ, List.getElem_cons_zero, Act.put, List.setIfInBounds_toArray, List.set_cons_zero, List.set_cons_succ]
                  refine hd_take (v := ?_) 3 rfl (by kernel_rfl) (fun _ _ d _ _ h => (by cases d <;> exact h)) (by kernel_rfl) S10 (fun w' hS => ?_) ?_
                  rotate_left
                  focus (clear hS; go_simp; try rfl; done)
                  simp only [List.getElem_toArray, List.getElem_cons_succ, List.getElem_cons_zero, Act.put, List.setIfInBounds_toArray, List.set_cons_zero, List.set_cons_succ]
                  refine hd_take (v := ?_) 4 rfl (by kernel_rfl) (fun _ _ d _ _ h => (by cases d <;> exact h)) (by kernel_rfl) S10 (fun w' hS => ?_) ?_
                  rotate_left
                  focus (clear hS; go_simp; try rfl; done)
                  simp only [List.getElem_toArray, List.getElem_cons_succ, List.getElem_cons_zero, Act.put, List.setIfInBounds_toArray, List.set_cons_zero, List.set_cons_succ]
                  refine hd_take (v := ?_) 5 rfl (by kernel_rfl) (fun _ _ d _ _ h => (by cases d <;> exact h)) (by kernel_rfl) S10 (fun w' hS => ?_) ?_
                  rotate_left
                  focus (clear hS; go_simp; try rfl; done)
                  simp only [List.getElem_toArray, List.getElem_cons_succ, List.getElem_cons_zero, Act.put, List.setIfInBounds_toArray, List.set_cons_zero, List.set_cons_succ]
                  refine hd_take (v := ?_) 6 rfl (by kernel_rfl) (fun _ _ d _ _ h => (by cases d <;> exact h)) (by kernel_rfl) S10 (fun w' hS => ?_) ?_
                  rotate_left
                  focus (clear hS; go_simp; try rfl; done)
                  simp only [List.getElem_toArray, List.getElem_cons_succ, List.getElem_cons_zero, Act.put, List.setIfInBounds_toArray, List.set_cons_zero, List.set_cons_succ]
                  refine hd_take (v := ?_) 7 rfl (by kernel_rfl) (fun _ _ d _ _ h => (by cases d <;> exact h)) (by kernel_rfl) S10 (fun w' hS => ?_) ?_
                  rotate_left
                  focus (clear hS; go_simp; try rfl; done)
                  simp only [List.getElem_toArray, List.getElem_cons_succ, List.getElem_cons_zero, Act.put, List.setIfInBounds_toArray, List.set_cons_zero, List.set_cons_succ]
                  refine hd_take (v := ?_) 8 rfl (by kernel_rfl) (fun _ _ d _ _ h => (by cases d <;> exact h)) (by kernel_rfl) S10 (fun w' hS => ?_) ?_
                  rotate_left
                  focus (clear hS; go_simp; try rfl; done)
                  simp only [List.getElem_toArray, List.getElem_cons_succ, List.getElem_cons_zero, Act.put, List.setIfInBounds_toArray, List.set_cons_zero, List.set_cons_succ]
                  refine hd_take (v := ?_) 9 rfl (by kernel_rfl) (fun _ _ d _ _ h => (by cases d <;> exact h)) (by kernel_rfl) S10 (fun w' hS => ?_) ?_
                  rotate_left
                  focus (clear hS; go_simp; try rfl; done)
                  simp only [List.getElem_toArray, List.getElem_cons_succ, List.getElem_cons_zero, Act.put, List.setIfInBounds_toArray, List.set_cons_zero, List.set_cons_succ]
                  refine hd_take (v := ?_) 10 rfl (by kernel_rfl) (fun _ _ d _ _ h => (by cases d <;> exact h)) (by kernel_rfl) S10 (fun w' hS => ?_) ?_
                  rotate_left
                  focus (clear hS; go_simp; try rfl; done)
                  simp only [List.getElem_toArray, List.getElem_cons_succ, List.getElem_cons_zero, Act.put, List.setIfInBounds_toArray, List.set_cons_zero, List.set_cons_succ]
                  refine hd_take (v := ?_) 11 rfl (by kernel_rfl) (fun _ _ d _ _ h => (by cases d <;> exact h)) (by kernel_rfl) S10 (fun w' hS => ?_) ?_
                  rotate_left
                  focus (clear hS; go_simp; try rfl; done)
                  simp only [List.getElem_toArray, List.getElem_cons_succ, List.getElem_cons_zero, Act.put, List.setIfInBounds_toArray, List.set_cons_zero, List.set_cons_succ]
                  refine hd_take (v := ?_) 12 rfl (by kernel_rfl) (fun _ _ d _ _ h => (by cases d <;> exact h)) (by kernel_rfl) S10 (fun w' hS => ?_) ?_
                  rotate_left
                  focus (clear hS; go_simp; try rfl; done)
                  simp only [List.getElem_toArray, List.getElem_cons_succ, List.getElem_cons_zero, Act.put, List.setIfInBounds_toArray, List.set_cons_zero, List.set_cons_succ]
                  refine hd_take (v := ?_) 13 rfl (by kernel_rfl) (fun _ _ d _ _ h => (by cases d <;> exact h)) (by kernel_rfl) S10 (fun w' hS => ?_) ?_
                  rotate_left
                  focus (clear hS; go_simp; try rfl; done)
                  simp only [List.getElem_toArray, List.getElem_cons_succ, List.getElem_cons_zero, Act.put, List.setIfInBounds_toArray, List.set_cons_zero, List.set_cons_succ]
                  refine hd_take (v := ?_) 14 rfl (by kernel_rfl) (fun _ _ d _ _ h => (by cases d <;> exact h)) (by kernel_rfl) S10 (fun w' hS => ?_) ?_
                  rotate_left
                  focus (have q0 := G0 w' hS; clear hS; go_simp; try rfl; done)
                  simp only [List.getElem_toArray, List.getElem_cons_succ, List.getElem_cons_zero, Act.put, List.setIfInBounds_toArray, List.set_cons_zero, List.set_cons_succ]
                  refine hd_take (v := ?_) 15 rfl (by kernel_rfl) (fun _ _ d _ _ h => (by cases d <;> exact h)) (by kernel_rfl) S10 (fun w' hS => ?_) ?_
                  rotate_left
                  focus (clear hS; go_simp; try rfl; done)
                  simp only [List.getElem_toArray, List.getElem_cons_succ, List.getElem_cons_zero, Act.put, List.setIfInBounds_toArray, List.set_cons_zero, List.set_cons_succ]
                  refine hd_take (v := ?_) 16 rfl (by kernel_rfl) (fun _ _ d _ _ h => (by cases d <;> exact h)) (by kernel_rfl) S10 (fun w' hS => ?_) ?_
                  rotate_left
                  focus (clear hS; go_simp; try rfl; done)
                  simp only [List.getElem_toArray, List.getElem_cons_succ, List.getElem_cons_zero, Act.put, List.setIfInBounds_toArray, List.set_cons_zero, List.set_cons_succ]
                  refine hd_take (v := ?_) 17 rfl (by kernel_rfl) (fun _ _ d _ _ h => (by cases d <;> exact h)) (by kernel_rfl) S10 (fun w' hS => ?_) ?_
                  rotate_left
                  focus (have q0 := GA w' hS; clear hS; go_simp; try rfl; done)
                  simp only [List.getElem_toArray, List.getElem_cons_succ, List.getElem_cons_zero, Act.put, List.setIfInBounds_toArray, List.set_cons_zero, List.set_cons_succ]
                  refine hd_take (v := ?_) 18 rfl (by kernel_rfl) (fun _ _ d _ _ h => (by cases d <;> exact h)) (by kernel_rfl) S10 (fun w' hS => ?_) ?_
                  rotate_left
                  focus (clear hS; go_simp; try rfl; done)
                  simp only [List.getElem_toArray, List.getElem_cons_succ, List.getElem_cons_zero, Act.put, List.setIfInBounds_toArray, List.set_cons_zero, List.set_cons_succ]
                  refine hd_take (v := ?_) 19 rfl (by kernel_rfl) (fun _ _ d _ _ h => (by cases d <;> exact h)) (by kernel_rfl) S10 (fun w' hS => ?_) ?_
                  rotate_left
                  focus (have q0 := G2 w' hS; clear hS; go_simp; try rfl; done)
                  simp only [List.getElem_toArray, List.getElem_cons_succ, List.getElem_cons_zero, Act.put, List.setIfInBounds_toArray, List.set_cons_zero, List.set_cons_succ]
                  refine hd_take (v := ?_) 20 rfl (by kernel_rfl) (fun _ _ d _ _ h => (by cases d <;> exact h)) (by kernel_rfl) S10 (fun w' hS => ?_) ?_
                  rotate_left
                  focus (clear hS; go_simp; try rfl; done)
                  simp only [List.getElem_toArray, List.getElem_cons_succ, List.getElem_cons_zero, Act.put, List.setIfInBounds_toArray, List.set_cons_zero, List.set_cons_succ]
                  refine hd_take (v := ?_) 21 rfl (by kernel_rfl) (fun _ _ d _ _ h => (by cases d <;> exact h)) (by kernel_rfl) S10 (fun w' hS => ?_) ?_
                  rotate_left
                  focus (clear hS; go_simp; try rfl; done)
                  simp only [List.getElem_toArray, List.getElem_cons_succ, List.getElem_cons_zero, Act.put, List.setIfInBounds_toArray, List.set_cons_zero, List.set_cons_succ]
                  refine hd_take (v := ?_) 22 rfl (by kernel_rfl) (fun _ _ d _ _ h => (by cases d <;> exact h)) (by kernel_rfl) S10 (fun w' hS => ?_) ?_
                  rotate_left
                  focus (clear hS; go_simp; try rfl; done)
                  simp only [List.getElem_toArray, List.getElem_cons_succ, List.getElem_cons_zero, Act.put, List.setIfInBounds_toArray, List.set_cons_zero, List.set_cons_succ]
                  refine hd_take (v := ?_) 24 rfl (by kernel_rfl) (fun _ _ d _ _ h => (by cases d <;> exact h)) (by kernel_rfl) S10 (fun w' hS => ?_) ?_
                  rotate_left
                  focus (clear hS; go_simp; try rfl; done)
                  simp only [List.getElem_toArray, List.getElem_cons_succ, List.getElem_cons_zero, Act.put, List.setIfInBounds_toArray, List.set_cons_zero, List.set_cons_succ]
                  refine hd_take (v := ?_) 25 rfl (by kernel_rfl) (fun _ _ d _ _ h => (by cases d <;> exact h)) (by kernel_rfl) S10 (fun w' hS => ?_) ?_
                  rotate_left
                  focus (clear hS; go_simp; try rfl; done)
                  simp only [List.getElem_toArray, List.getElem_cons_succ, List.getElem_cons_zero, Act.put, List.setIfInBounds_toArray, List.set_cons_zero, List.set_cons_succ]
                  refine hd_one 23 (by kernel_rfl) ?_
                  refine op_call rfl (by kernel_rfl) (by go_simp; first | exact ⟨rfl, rfl⟩ | rfl) ?_
                  refine (lenP_env H10.out 0 rfl).mono ?_
                  rintro e w11 ⟨he, hw⟩
                  rw [HT.out] at he
                  subst he
                  have H11 : Hid (Env wA w11 [obP l (some rs5)]) := by rw [← hw]; exact H10
                  have hS2 : S w11 := HS.out w11 H11.out.base
                  have S11 := hS2
                  clear hw
                  refine ⟨_, rfl, hS2, ?_⟩
                  simp only [List.getElem_toArray, List.getElem_cons_succ, List.getElem_cons_zero, Act.put, List.setIfInBounds_toArray, List.set_cons_zero, List.set_cons_succ]
                  refine hd_take (v := ?_) 26 rfl (by kernel_rfl) (fun _ _ d _ _ h => (by cases d <;> exact h)) (by kernel_rfl) S11 (fun w' hS => ?_) ?_
                  rotate_left
                  focus (clear hS; go_simp; try rfl; done)
                  simp only [List.getElem_toArray, List.getElem_cons_succ, List.getElem_cons_zero, Act.put, List.setIfInBounds_toArray, List.set_cons_zero, List.set_cons_succ]
                  refine hd_take (v := ?_) 27 rfl (by kernel_rfl) (fun _ _ d _ _ h => (by cases d <;> exact h)) (by kernel_rfl) S11 (fun w' hS => ?_) ?_
                  rotate_left
                  focus (clear hS; go_simp; try rfl; done)
                  simp only [List.getElem_toArray, List.getElem_cons_succ, List.getElem_cons_zero, Act.put, List.setIfInBounds_toArray, List.set_cons_zero, List.set_cons_succ]
                  refine hd_take (v := ?_) 28 rfl (by kernel_rfl) (fun _ _ d _ _ h => (by cases d <;> exact h)) (by kernel_rfl) S11 (fun w' hS => ?_) ?_
                  rotate_left
                  focus (clear hS; go_simp; try rfl; done)
                  simp only [List.getElem_toArray, List.getElem_cons_succ, List.getElem_cons_zero, Act.put, List.setIfInBounds_toArray, List.set_cons_zero, List.set_cons_succ]
                  refine hd_take (v := ?_) 29 rfl (by kernel_rfl) (fun _ _ d _ _ h => (by cases d <;> exact h)) (by kernel_rfl) S11 (fun w' hS => ?_) ?_
                  rotate_left
                  focus (clear hS; go_simp; try rfl; done)
                  simp only [List.getElem_toArray, List.getElem_cons_succ, List.getElem_cons_zero, Act.put, List.setIfInBounds_toArray, List.set_cons_zero, List.set_cons_succ]
                  refine hd_take (v := ?_) 30 rfl (by kernel_rfl) (fun _ _ d _ _ h => (by cases d <;> exact h)) (by kernel_rfl) S11 (fun w' hS => ?_) ?_
                  rotate_left
                  focus (clear hS; go_simp; try rfl; done)
                  simp only [List.getElem_toArray, List.getElem_cons_succ, List.getElem_cons_zero, Act.put, List.setIfInBounds_toArray, List.set_cons_zero, List.set_cons_succ]
                  refine hd_take (v := ?_) 31 rfl (by kernel_rfl) (fun _ _ d _ _ h => (by cases d <;> exact h)) (by kernel_rfl) S11 (fun w' hS => ?_) ?_
                  rotate_left
                  focus (clear hS; go_simp; try rfl; done)
                  simp only [List.getElem_toArray, List.getElem_cons_succ, List.getElem_cons_zero, Act.put, List.setIfInBounds_toArray, List.set_cons_zero, List.set_cons_succ]
                  refine hd_take (v := ?_) 32 rfl (by kernel_rfl) (fun _ _ d _ _ h => (by cases d <;> exact h)) (by kernel_rfl) S11 (fun w' hS => ?_) ?_
                  rotate_left
                  focus (clear hS; go_simp; try rfl; done)
                  simp only [List.getElem_toArray, List.getElem_cons_succ, List.getElem_cons_zero, Act.put, List.setIfInBounds_toArray, List.set_cons_zero, List.set_cons_succ]
                  refine hd_take (v := ?_) 33 rfl (by kernel_rfl) (fun _ _ d _ _ h => (by cases d <;> exact h)) (by kernel_rfl) S11 (fun w' hS => ?_) ?_
                  rotate_left
                  focus (clear hS; go_simp; try rfl; done)
                  simp only [List.getElem_toArray, List.getElem_cons_succ, List.getElem_cons_zero, Act.put, List.setIfInBounds_toArray, List.set_cons_zero, List.set_cons_succ]
                  refine hd_off 34 rfl (by kernel_rfl) (fun _ _ d _ _ h => (by cases d <;> exact h)) (by kernel_rfl) S11 ?_
                  simp only [List.getElem_toArray, List.getElem_cons_succ, List.getElem_cons_zero, Act.put, List.setIfInBounds_toArray, List.set_cons_zero, List.set_cons_succ]
                  refine hd_off 35 rfl (by kernel_rfl) (fun _ _ d _ _ h => (by cases d <;> exact h)) (by kernel_rfl) S11 ?_
                  simp only [List.getElem_toArray, List.getElem_cons_succ, List.getElem_cons_zero, Act.put, List.setIfInBounds_toArray, List.set_cons_zero, List.set_cons_succ]
                  refine hd_off 36 rfl (by kernel_rfl) (fun _ _ d _ _ h => (by cases d <;> exact h)) (by kernel_rfl) S11 ?_
                  simp only [List.getElem_toArray, List.getElem_cons_succ, List.getElem_cons_zero, Act.put, List.setIfInBounds_toArray, List.set_cons_zero, List.set_cons_succ]
                  refine hd_off 37 rfl (by kernel_rfl) (fun _ _ d _ _ h => (by cases d <;> exact h)) (by kernel_rfl) S11 ?_
                  simp only [List.getElem_toArray, List.getElem_cons_succ, List.getElem_cons_zero, Act.put, List.setIfInBounds_toArray, List.set_cons_zero, List.set_cons_succ]
                  refine hd_off 38 rfl (by kernel_rfl) (fun _ _ d _ _ h => (by cases d <;> exact h)) (by kernel_rfl) S11 ?_
                  simp only [List.getElem_toArray, List.getElem_cons_succ, List.getElem_cons_zero, Act.put, List.setIfInBounds_toArray, List.set_cons_zero, List.set_cons_succ]
                  refine hd_off 39 rfl (by kernel_rfl) (fun _ _ d _ _ h => (by cases d <;> exact h)) (by kernel_rfl) S11 ?_
                  simp only [List.getElem_toArray, List.getElem_cons_succ, List.getElem_cons_zero, Act.put, List.setIfInBounds_toArray, List.set_cons_zero, List.set_cons_succ]
                  refine hd_take (v := ?_) 40 rfl (by kernel_rfl) (fun _ _ d _ _ h => (by cases d <;> exact h)) (by kernel_rfl) S11 (fun w' hS => ?_) ?_
                  rotate_left
                  focus (clear hS; go_simp; try rfl; done)
                  simp only [List.getElem_toArray, List.getElem_cons_succ, List.getElem_cons_zero, Act.put, List.setIfInBounds_toArray, List.set_cons_zero, List.set_cons_succ]
                  refine hd_take (v := ?_) 41 rfl (by kernel_rfl) (fun _ _ d _ _ h => (by cases d <;> exact h)) (by kernel_rfl) S11 (fun w' hS => ?_) ?_
                  rotate_left
                  focus (clear hS; go_simp; try rfl; done)
                  simp only [List.getElem_toArray, List.getElem_cons_succ, List.getElem_cons_zero, Act.put, List.setIfInBounds_toArray, List.set_cons_zero, List.set_cons_succ]
                  refine hd_done (by kernel_rfl) ?_
                  go_wp2_with fail
                  go_meet
                  exact ⟨rfl, H11.out⟩
              case rest =>
                obtain ⟨rfl, h6⟩ := hcut
                have H12 := Lib.hid h6
                clear h6 H9
                go_wp2_with fail
                refine (resetP_env H12.out 0 rfl).mono ?_
                rintro e w13 ⟨rfl, h5⟩
                have H13 : Hid (Env wA w13 [obP l (some [])]) := Lib.hid h5
                clear h5 H12
                obtain ⟨P, E, hp, hpz⟩ : ∃ P E : Int, pwN base ex m = .tuple #[.int .u64 P, .int .i64 E] ∧ E = if m = 0 then 2 else 0 := by
                  unfold pwN
                  by_cases h : m = 0
                  · rw [if_pos h, if_pos h]
                    exact ⟨_, _, rfl, rfl⟩
                  · rw [if_neg h, if_neg h]
                    exact ⟨_, _, rfl, rfl⟩
                obtain ⟨o4, hq4⟩ : ∃ o4, (if m = 0 then (some []) else powO ex 64 (some [])) = o4 := ⟨_, rfl⟩
                have F4 : FewS o4 (0 + 64) := by
                  rw [← hq4]
                  by_cases h : m = 0
                  · rw [if_pos h]
                    exact HF0.out.le (by omega)
                  · rw [if_neg h]
                    exact powO_few ex 64 _ _ HF0.out
                obtain ⟨rs4, rfl, f4⟩ := F4
                have HF4 := Lib.hid f4
                have Q4 := Lib.hid hq4
                have QP := Lib.hid hp
                have QE := Lib.hid hpz
                clear f4 hq4 hp hpz
                obtain ⟨a0, a1, a2, a3, a4, a5⟩ := CA.out w13 H13.out.base
                go_wp2_with fail
                refine (power_env H13.out 0 rfl HF0.out.few (by omega) base ex m HL.out.1 HL.out.2.1 HL.out.2.2).mono ?_
                rintro e w14 ⟨he, h5⟩
                rw [QP.out] at he
                subst he
                rw [Q4.out] at h5
                have H14 : Hid (Env wA w14 [obP l (some rs4)]) := Lib.hid h5
                clear h5 H13 a0 a1 a2 a3 a4 a5
                obtain ⟨a0, a1, a2, a3, a4, a5⟩ := CA.out w14 H14.out.base
                go_wp2_with fail
                go_loopw [10, 11] (fun nv iv wx => ∃ i : Nat, i ≤ 64 ∧ nv = .int .i64 (onesN ex i : Int) ∧ iv = .int .i64 (i : Int) ∧ wx = w14) (fun _ i _ => 64 - (intOf i).toNat)
                case atStart => exact ⟨0, by omega, rfl, rfl, rfl⟩
                case round =>
                  obtain ⟨i, hi, rfl, rfl, rfl⟩ := hrel
                  by_cases hlt : i < 64
                  · have hbl : ex / 2 ^ i % 2 < 2 := Nat.mod_lt _ (by omega)
                    have hol := onesN_le ex i
                    obtain ⟨d, hd⟩ : ∃ d, ex / 2 ^ i % 2 = d := ⟨_, rfl⟩
                    have hbit : bits .and .u64 ((ex : Int) / 2 ^ i) 1 = (d : Int) := by
                      have e1 := bits_and_u64_nat (ex / 2 ^ i) 1 (Nat.lt_of_le_of_lt (Nat.div_le_self _ _) HL.out.2.1) (by omega)
                      rw [shrN, show (1 : Int) = ((1 : Nat) : Int) from rfl, e1, Nat.and_one_is_mod, hd]
                    have hon : Hid (onesN ex (i + 1) = onesN ex i + d) := by
                      rw [← hd]
                      exact Lib.hid rfl
                    rw [hd] at hbl
                    clear hd
                    generalize onesN ex i = z at hol hon
                    have e1 : IntKind.i64.wrap (d : Int) = (d : Int) := by rw [IntKind.wrap_i64]; omega
                    have e2 : IntKind.i64.wrap ((z : Int) + (d : Int)) = (z : Int) + (d : Int) := by rw [IntKind.wrap_i64]; omega
                    go_wp2_with fail
                    go_roundw
                    case rel => exact ⟨i + 1, by omega, by rw [hon.out]; go_num, by go_num, by first | rfl | trivial⟩
                    case measure => simp [intOf]; omega
                  · obtain rfl : i = 64 := by omega
                    have hol := onesN_le ex 64
                    have hones : Hid (m ≠ 0 → tot rs4 = 64 ∧ szd rs4 = (onesN ex 64 : Int)) := Lib.hid (fun h => by
                      have h1 := powO_counts ex 64 (some []) HF0.out.is
                      have h2 := Q4.out
                      rw [if_neg h] at h2
                      rw [h2] at h1
                      have e0 : totO (some ([] : List Rn)) = 0 := rfl
                      have e1 : szdO (some ([] : List Rn)) = 0 := rfl
                      have e2 : totO (some rs4) = tot rs4 := rfl
                      have e3 : szdO (some rs4) = szd rs4 := rfl
                      rw [e0, e1, e2, e3] at h1
                      omega)
                    generalize onesN ex 64 = z at hol hones
                    go_upto_region 26 with fail
                    go_cut [181] from 161 to 181 (fun v wx => v = .bool false ∧ Env wA wx [obP l (some rs4)])
                    case first =>
                      by_cases hm : m = 0
                      · have hE : E = 2 := by rw [QE.out, if_pos hm]
                        subst hE
                        have t1 : ((m : Int) != 0) = false := by simp [hm]
                        clear hm
                        go_wp2_with fail
                        go_meet
                        exact ⟨rfl, H14.out⟩
                      · have hE : E = 0 := by rw [QE.out, if_neg hm]
                        subst hE
                        have t1 : ((m : Int) != 0) = true := by simp [hm]
                        have h1 := hones.out hm
                        have HO1 := Lib.hid h1
                        clear hm h1
                        have t2 : ((z : Int) != (z : Int)) = false := by simp
                        go_wp2_with fail
                        refine (lenP_env H14.out 0 rfl).mono ?_
                        rintro e w15 ⟨he, hw⟩
                        subst hw
                        rw [HO1.out.1] at he
                        subst he
                        go_wp2_with fail
                        refine (sized_env H14.out 0 rfl HF4.out (by omega)).mono ?_
                        rintro e w16 ⟨he, h5⟩
                        rw [HO1.out.2] at he
                        subst he
                        have H16 := Lib.hid h5
                        clear h5
                        go_wp2_with fail
                        go_meet
                        exact ⟨rfl, H16.out⟩
                    case rest =>
                      obtain ⟨rfl, h6⟩ := hcut
                      have H17 := Lib.hid h6
                      clear h6 H14 a0 a1 a2 a3 a4 a5
                      go_wp2_with fail
                      refine (resetP_env H17.out 0 rfl).mono ?_
                      rintro e w18 ⟨rfl, h5⟩
                      have H18 : Hid (Env wA w18 [obP l (some [])]) := Lib.hid h5
                      clear h5 H17
                      obtain ⟨T, hT, hTs, hTp, hTz⟩ := sortN_law B (some []) HF0.out.is
                      have F6 := sortN_few B hB200 (some []) 0 HF0.out
                      obtain ⟨rs6, hrs6, f6⟩ := F6
                      have hq6 : sortN B (some []) = (T, some rs6) := Prod.ext hT hrs6
                      have hz6 : szd rs6 = (pairsN B : Int) := by
                        rw [hrs6] at hTz
                        have e0 : szdO (some ([] : List Rn)) = 0 := rfl
                        have e1 : szdO (some rs6) = szd rs6 := rfl
                        rw [e0, e1] at hTz
                        omega
                      have Q6 := Lib.hid hq6
                      have HZ6 := Lib.hid hz6
                      have HF6 := Lib.hid f6
                      have HT6 := Lib.hid (And.intro hTs hTp)
                      clear hT hTs hTp hTz hrs6 f6 hq6 hz6
                      obtain ⟨a0, a1, a2, a3, a4, a5⟩ := CA.out w18 H18.out.base
                      go_wp2_with fail
                      refine (sort_env H18.out 0 rfl HF0.out.few (H18.out.old HB.out) hB200 (by omega)).mono ?_
                      rintro e w19 ⟨s, rfl, h5⟩
                      rw [Q6.out] at h5
                      have H19 : Hid (Env wA w19 [obP l (some rs6), obB s T]) := Lib.hid h5
                      clear h5 H18 a0 a1 a2 a3 a4 a5
                      have t3 : ((pairsN B : Int) == (pairsN B : Int)) = true := by simp
                      go_upto_region 30 with fail
                      refine hd_start S (by kernel_rfl) ?_
                      intro w20 hw'
                      have H20 := Lib.hid (H19.out.draw 1)
                      rw [← hw'] at H20
                      clear hw' H19
                      have S20 : S w20 := HS.out w20 H20.out.base
                      refine hd_take (v := ?_) 0 rfl (by kernel_rfl) (fun _ _ d _ _ h => (by cases d <;> exact h)) (by kernel_rfl) S20 (fun w' hS => ?_) ?_
                      rotate_left
                      focus (clear hS; go_simp; try rfl; done)
                      simp only [List.getElem_toArray, List.getElem_cons_succ, List.getElem_cons_zero, Act.put, List.setIfInBounds_toArray, List.set_cons_zero, List.set_cons_succ]
                      refine hd_take (v := ?_) 1 rfl (by kernel_rfl) (fun _ _ d _ _ h => (by cases d <;> exact h)) (by kernel_rfl) S20 (fun w' hS => ?_) ?_
                      rotate_left
                      focus (clear hS; go_simp; try rfl; done)
                      simp only [List.getElem_toArray, List.getElem_cons_succ, List.getElem_cons_zero, Act.put, List.setIfInBounds_toArray, List.set_cons_zero, List.set_cons_succ]
                      refine hd_take (v := ?_) 2 rfl (by kernel_rfl) (fun _ _ d _ _ h => (by cases d <;> exact h)) (by kernel_rfl) S20 (fun w' hS => ?_) ?_
                      rotate_left
                      focus (have q0 := G1 w' hS; clear hS; go_simp; try rfl; done)
                      simp only [List.getElem_toArray, List.getElem_cons_succ, List.getElem_cons_zero, Act.put, List.setIfInBounds_toArray, List.set_cons_zero, List.set_cons_succ]
                      refine hd_one 3 (by kernel_rfl) ?_
                      refine op_call rfl (by kernel_rfl) (by go_simp; first | exact ⟨rfl, rfl⟩ | rfl) ?_
                      refine (sorted_any _ _ T B w20 (H20.out.bytes 1 rfl).rd (H20.out.old HB.out) (by rw [HT6.out.2.length_eq]; exact hB200) HT6.out.1 HT6.out.2).mono ?_
                      rintro e w21 ⟨he, hb⟩
                      subst he
                      have H21 := Lib.hid (H20.out.below hb)
                      have hS2 : S w21 := HS.out w21 H21.out.base
                      have S21 := hS2
                      clear hb
                      refine ⟨_, rfl, hS2, ?_⟩
                      simp only [List.getElem_toArray, List.getElem_cons_succ, List.getElem_cons_zero, Act.put, List.setIfInBounds_toArray, List.set_cons_zero, List.set_cons_succ]
                      refine hd_take (v := ?_) 4 rfl (by kernel_rfl) (fun _ _ d _ _ h => (by cases d <;> exact h)) (by kernel_rfl) S21 (fun w' hS => ?_) ?_
                      rotate_left
                      focus (clear hS; go_simp; try rfl; done)
                      simp only [List.getElem_toArray, List.getElem_cons_succ, List.getElem_cons_zero, Act.put, List.setIfInBounds_toArray, List.set_cons_zero, List.set_cons_succ]
                      refine hd_take (v := ?_) 5 rfl (by kernel_rfl) (fun _ _ d _ _ h => (by cases d <;> exact h)) (by kernel_rfl) S21 (fun w' hS => ?_) ?_
                      rotate_left
                      focus (clear hS; go_simp; try rfl; done)
                      simp only [List.getElem_toArray, List.getElem_cons_succ, List.getElem_cons_zero, Act.put, List.setIfInBounds_toArray, List.set_cons_zero, List.set_cons_succ]
                      refine hd_take (v := ?_) 7 rfl (by kernel_rfl) (fun _ _ d _ _ h => (by cases d <;> exact h)) (by kernel_rfl) S21 (fun w' hS => ?_) ?_
                      rotate_left
                      focus (clear hS; go_simp; try rfl; done)
                      simp only [List.getElem_toArray, List.getElem_cons_succ, List.getElem_cons_zero, Act.put, List.setIfInBounds_toArray, List.set_cons_zero, List.set_cons_succ]
                      refine hd_take (v := ?_) 8 rfl (by kernel_rfl) (fun _ _ d _ _ h => (by cases d <;> exact h)) (by kernel_rfl) S21 (fun w' hS => ?_) ?_
                      rotate_left
                      focus (have q0 := G1 w' hS; clear hS; go_simp; try rfl; done)
                      simp only [List.getElem_toArray, List.getElem_cons_succ, List.getElem_cons_zero, Act.put, List.setIfInBounds_toArray, List.set_cons_zero, List.set_cons_succ]
                      refine hd_one 6 (by kernel_rfl) ?_
                      refine op_call rfl (by kernel_rfl) (by go_simp; first | exact ⟨rfl, rfl⟩ | rfl) ?_
                      refine (sized_env H21.out 0 rfl HF6.out (by omega)).mono ?_
                      rintro e w22 ⟨he, h5⟩
                      rw [HZ6.out] at he
                      subst he
                      have H22 := Lib.hid h5
                      have hS2 : S w22 := HS.out w22 h5.base
                      have S22 := hS2
                      clear h5
                      refine ⟨_, rfl, hS2, ?_⟩
                      simp only [List.getElem_toArray, List.getElem_cons_succ, List.getElem_cons_zero, Act.put, List.setIfInBounds_toArray, List.set_cons_zero, List.set_cons_succ]
                      refine hd_one 9 (by kernel_rfl) ?_
                      refine op_call rfl (by kernel_rfl) (by go_simp; first | exact ⟨rfl, rfl⟩ | rfl) ?_
                      refine (pairs_any _ B w22 (H22.out.old HB.out) hB200).mono ?_
                      rintro e w23 ⟨he, mm, hw⟩
                      subst he
                      have H23 : Hid (Env wA w23 [obP l (some rs6), obB s T]) := by rw [hw]; exact Lib.hid (H22.out.draw mm)
                      have hS2 : S w23 := HS.out w23 H23.out.base
                      have S23 := hS2
                      clear hw
                      refine ⟨_, rfl, hS2, ?_⟩
                      simp only [List.getElem_toArray, List.getElem_cons_succ, List.getElem_cons_zero, Act.put, List.setIfInBounds_toArray, List.set_cons_zero, List.set_cons_succ]
                      refine hd_take (v := ?_) 10 rfl (by kernel_rfl) (fun _ _ d _ _ h => (by cases d <;> exact h)) (by kernel_rfl) S23 (fun w' hS => ?_) ?_
                      rotate_left
                      focus (clear hS; go_simp; try rfl; done)
                      simp only [List.getElem_toArray, List.getElem_cons_succ, List.getElem_cons_zero, Act.put, List.setIfInBounds_toArray, List.set_cons_zero, List.set_cons_succ]
                      refine hd_take (v := ?_) 11 rfl (by kernel_rfl) (fun _ _ d _ _ h => (by cases d <;> exact h)) (by kernel_rfl) S23 (fun w' hS => ?_) ?_
                      rotate_left
                      focus (clear hS; go_simp; try rfl; done)
                      simp only [List.getElem_toArray, List.getElem_cons_succ, List.getElem_cons_zero, Act.put, List.setIfInBounds_toArray, List.set_cons_zero, List.set_cons_succ]
                      refine hd_take (v := ?_) 12 rfl (by kernel_rfl) (fun _ _ d _ _ h => (by cases d <;> exact h)) (by kernel_rfl) S23 (fun w' hS => ?_) ?_
                      rotate_left
                      focus (clear hS; go_simp; try rfl; done)
                      simp only [List.getElem_toArray, List.getElem_cons_succ, List.getElem_cons_zero, Act.put, List.setIfInBounds_toArray, List.set_cons_zero, List.set_cons_succ]
                      refine hd_done (by kernel_rfl) ?_
                      go_wp2_with fail
                      go_ret
                      exact ⟨rfl, HBA.out.trans (H23.out.base.mono HBA.out.size)⟩
end Go.Proofs.Ytpbplcbdejoolaa
