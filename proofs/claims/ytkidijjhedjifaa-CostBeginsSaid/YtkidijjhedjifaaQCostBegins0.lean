/- The statement CostBegins: for every input turnkey/turnkeylaw22.CostBegins returns true, and each argument reads as it did. Its walk is proved in CostBegins; here is the step from the walk to the row. -/
import Derived.Test.YtkidijjhedjifaaRows
import Derived.Test.YtkidijjhedjifaaQB9
/- The law CostBegins: a part of the operations ahead costs what it cost. -/
namespace Go.Proofs.Ytkidijjhedjifaa
open Go.RowKit
set_option maxRecDepth 100000
set_option linter.unusedVariables false
set_option linter.unusedSimpArgs false
attribute [local go_sem] Oper.semAt_some
theorem pick22 (i n : Int) (w : World) (hn : 0 < n) (hn' : n ≤ 9223372036854775807) :
    Calls Try.prog 10 #[.int .i64 i, .int .i64 n] w fun e w' => e = .returned (.int .i64 (i % n)) ∧ w = w' := by
  have ht : i.tmod n = if i % n = 0 ∨ 0 ≤ i then i % n else i % n - n := by
    have := Int.emod_nonneg i (show n ≠ 0 by omega)
    rw [Int.tmod_eq_emod]
    have : (n.natAbs : Int) = n := by omega
    by_cases h : 0 ≤ i ∨ n ∣ i
    · rw [if_pos h]
      rcases h with h | h
      · rw [if_pos (.inr h)]; omega
      · rw [if_pos (.inl (Int.emod_eq_zero_of_dvd h))]; omega
    · rw [if_neg h]
      have : ¬ (i % n = 0 ∨ 0 ≤ i) := by
        rintro (h1 | h1)
        · exact h (.inr (Int.dvd_of_emod_eq_zero h1))
        · exact h (.inl h1)
      rw [if_neg this]
      omega
  have h1 := Int.emod_nonneg i (show n ≠ 0 by omega)
  have h2 := Int.emod_lt_of_pos i hn
  by_cases hc : i % n = 0 ∨ 0 ≤ i
  · rw [if_pos hc] at ht
    clear hc
    generalize i % n = r at ht h1 h2 ⊢
    go_enter Try.func10, Try.ntmps10
    go_wp2
    go_ret
    exact ⟨rfl, rfl⟩
  · rw [if_neg hc] at ht
    have h3 : ¬ i % n = 0 := fun e => hc (.inl e)
    clear hc
    generalize i % n = r at ht h1 h2 h3 ⊢
    have e : r - n + n = r := by omega
    go_enter Try.func10, Try.ntmps10
    go_wp2
    go_ret
    exact ⟨rfl, rfl⟩
theorem eachL_take (l : List Sk) {n : Nat} (h : n ≤ l.length) {j : Nat} (hj : j < n) : (eachL (l.take n))[j]? = (eachL l)[j]? := by
  unfold eachL
  rw [List.length_take, Nat.min_eq_left h, eachTo_take l n n (Nat.le_refl _), eachTo_get l _ j hj, eachTo_get l _ j (by omega)]
theorem codesL_take (l : List Sk) {n : Nat} (h : n ≤ l.length) : codesL (l.take n) = (codesL l).take n := by
  unfold codesL
  rw [List.length_take, Nat.min_eq_left h, codesTo_take l n n (Nat.le_refl _), codesTo_pre l n _ h]
theorem KS.part {w : World} {ao : Option Addr} {N cap : Nat} {l : List Sk} (h : KS.R w (.slice ao N cap) l) {n : Nat} (hn : n ≤ l.length) : KS.R w (.slice ao n cap) (l.take n) := by
  have e : l.take n ++ l.drop n = l := List.take_append_drop n l
  rw [← e] at h
  have h1 := Knd.R.begin h
  rw [List.length_take, Nat.min_eq_left hn] at h1
  exact h1
theorem KC.part {w : World} {ao : Option Addr} {N cap : Nat} {l : List Int} (h : KC.R w (.slice ao N cap) l) {n : Nat} (hn : n ≤ l.length) : KC.R w (.slice ao n cap) (l.take n) := by
  have e : l.take n ++ l.drop n = l := List.take_append_drop n l
  rw [← e] at h
  have h1 := Knd.R.begin h
  rw [List.length_take, Nat.min_eq_left hn] at h1
  exact h1
namespace costBegins
set_option maxHeartbeats 8000000 in
theorem walk (v : Value) (l : List Sk) {w : World} (hin : InSk w v l) (a1 : Int) (w1 : (Lit.int .i64 a1).wf = true) :
    Calls Try.prog 3 #[v, .int .i64 a1] w fun e w' => e = .returned (.bool true) ∧ Below w.heap.size w w' := by
  obtain ⟨hv, hok⟩ := hin
  obtain ⟨ao, cap, rfl, hc1, hc2, hc3⟩ := hv.any
  have HV := Lib.hid hv
  have HOK := Lib.hid hok
  clear hv hok
  go_enter Try.func3, Try.ntmps3
  go_wp2_with fail
  refine (awake_any _).mono ?_
  rintro e w1 ⟨rfl, hb⟩
  have HB := Lib.hid hb
  have HV1 := Lib.hid (HV.out.grow hb)
  clear hb HV
  by_cases h300 : 300 < l.length
  · have t3 : decide (300 < (l.length : Int)) = true := by rw [decide_eq_true_eq]; omega
    go_wp2_with fail
    go_ret
    exact ⟨rfl, HB.out⟩
  · have t3 : decide (300 < (l.length : Int)) = false := by rw [decide_eq_false_iff_not]; omega
    have hw1 : IntKind.i64.wrap ((l.length : Int) + 1) = ((l.length + 1 : Nat) : Int) := by rw [IntWalk.i64_in _ (by omega)]; omega
    go_wp2_with fail
    refine (pick22 a1 ((l.length + 1 : Nat) : Int) _ (by omega) (by omega)).mono ?_
    rintro e w2 ⟨rfl, rfl⟩
    obtain ⟨n, hn⟩ : ∃ n : Nat, a1 % ((l.length + 1 : Nat) : Int) = n := ⟨(a1 % ((l.length + 1 : Nat) : Int)).toNat, by have := Int.emod_nonneg a1 (show ((l.length + 1 : Nat) : Int) ≠ 0 by omega); omega⟩
    have hnl : n ≤ l.length := by
      have := Int.emod_lt_of_pos a1 (show (0 : Int) < ((l.length + 1 : Nat) : Int) by omega)
      omega
    rw [hn]
    clear hn hw1
    go_wp2_with fail
    refine (each_env (Env.start w1) (RdS.old HV1.out) HOK.out (by omega)).mono ?_
    rintro e w2 ⟨u, ts, rfl, hts, h2⟩
    rw [List.nil_append] at h2
    have htl : ts.length = l.length := by
      have := congrArg List.length hts
      rw [List.length_map] at this
      rw [this]
      exact eachTo_len l _
    obtain ⟨uo, uc, rfl, hu1, hu2⟩ := obTR_form h2 0 rfl
    rw [htl] at h2 hu1 ⊢
    have H2 := Lib.hid h2
    have HT := Lib.hid (And.intro hts htl)
    have HV2 := Lib.hid (KS.part HV1.out hnl)
    have HOK2 : Hid (∀ s ∈ l.take n, OKsk s) := Lib.hid fun s hs => HOK.out s (List.mem_of_mem_take hs)
    have htn : (l.take n).length = n := by rw [List.length_take, Nat.min_eq_left hnl]
    clear h2 hts htl
    go_wp2_with fail
    refine (each_env H2.out (RdS.old HV2.out) HOK2.out (by omega)).mono ?_
    rintro e w3 ⟨u', us, rfl, hus, h3⟩
    have hul : us.length = n := by
      have := congrArg List.length hus
      rw [List.length_map] at this
      have e2 : (eachL (l.take n)).length = (l.take n).length := eachTo_len _ _
      rw [this, e2, htn]
    obtain ⟨vo, vc, rfl, hv1, hv2⟩ := obTR_form h3 1 rfl
    rw [hul] at h3 hv1 ⊢
    have H3 : Hid (Env w1 w3 [obTR (.slice uo l.length uc) ts, obTR (.slice vo n vc) us]) := Lib.hid h3
    have HU := Lib.hid (And.intro hus hul)
    clear h3 hus hul H2
    go_wp2_with fail
    refine (codes_env H3.out (RdS.old HV1.out) HOK.out (by omega)).mono ?_
    rintro e w4 ⟨c, rfl, h4⟩
    have h4 : Env w1 w4 [obTR (.slice uo l.length uc) ts, obTR (.slice vo n vc) us, KC.ob c (codesL l)] := h4
    obtain ⟨co, cc, hce, hcc1, hcc2, _⟩ := (h4.kR 2 (v := c) (l := codesL l) rfl).any
    have hcl : (codesL l).length = l.length := codesTo_len _ _
    subst hce
    rw [hcl] at h4 hcc1 ⊢
    have H4 := Lib.hid h4
    clear h4 hcl H3
    go_wp2_with fail
    refine (codes_env H4.out (RdS.old HV2.out) HOK2.out (by omega)).mono ?_
    rintro e w5 ⟨d, rfl, h5⟩
    have h5 : Env w1 w5 [obTR (.slice uo l.length uc) ts, obTR (.slice vo n vc) us, KC.ob (.slice co l.length cc) (codesL l), KC.ob d (codesL (l.take n))] := h5
    have hcl : (codesL l).length = l.length := codesTo_len _ _
    have r1 : KC.R w5 (.slice co n cc) ((codesL l).take n) := KC.part (h5.kR 2 (v := .slice co l.length cc) (l := codesL l) rfl) (by rw [hcl]; exact hnl)
    have r0 : KC.R w5 d ((codesL l).take n) := by
      rw [← codesL_take l hnl]
      exact h5.kR 3 (v := d) (l := codesL (l.take n)) rfl
    have H5 := Lib.hid h5
    have HR := Lib.hid (And.intro r0 r1)
    clear h5 r0 r1 H4 hcl
    go_wp2_with fail
    refine (sameC_any _ _ _ _ _ HR.out.1 HR.out.2).mono ?_
    rintro e w6 ⟨he, m, hm⟩
    rw [sameL_refl eqC (fun x => by simp [eqC])] at he
    subst he
    have h6 := H5.out.draw m
    rw [← hm] at h6
    have H6 := Lib.hid h6
    clear h6 hm HR H5
    go_wp2_with fail
    go_loopw [10] (fun iv wx => ∃ j : Nat, j ≤ n ∧ iv = .int .i64 (j : Int) ∧ Hid (Env w1 wx [obTR (.slice uo l.length uc) ts, obTR (.slice vo n vc) us, KC.ob (.slice co l.length cc) (codesL l), KC.ob d (codesL (l.take n))])) (fun iv _ => n - (intOf iv).toNat)
    case atStart => exact ⟨0, Nat.zero_le _, rfl, H6⟩
    case round =>
      obtain ⟨j, hj, rfl, HK⟩ := hrel
      clear H6
      by_cases hlt : j < n
      · have t4 : decide ((j : Int) < (n : Int)) = true := by rw [decide_eq_true_eq]; omega
        have bj : 0 ≤ (j : Int) ∧ (j : Int) < (n : Int) := by omega
        have bl : 0 ≤ (j : Int) ∧ (j : Int) < (l.length : Int) := by omega
        obtain ⟨⟨rv, r⟩, hr⟩ : ∃ y, ts[j]? = some y := ⟨_, List.getElem?_eq_getElem (by rw [HT.out.2]; omega)⟩
        obtain ⟨⟨sv, r'⟩, hs⟩ : ∃ y, us[j]? = some y := ⟨_, List.getElem?_eq_getElem (by rw [HU.out.2]; omega)⟩
        have hrr : r' = r := by
          have e1 := congrArg (fun z => z[j]?) HT.out.1
          have e2 := congrArg (fun z => z[j]?) HU.out.1
          simp only [List.getElem?_map, hr, hs, Option.map_some] at e1 e2
          rw [eachL_take l hnl hlt, ← e1] at e2
          injection e2
        subst hrr
        obtain ⟨g, c1, q1, _, _⟩ := obTR_slice HK.out 0 rfl (by rw [HT.out.2]; omega)
        obtain ⟨g2, c2, q2, _, _⟩ := obTR_slice HK.out 1 rfl (by rw [HU.out.2]; omega)
        injection q1 with q1 q1b q1c
        injection q2 with q2 q2b q2c
        subst q1 q2
        clear q1b q1c q2b q2c
        have HR := Lib.hid (And.intro hr hs)
        have hS : Hid (∀ W, Env w1 W [obTR (.slice (some ⟨g, 0, none⟩) l.length uc) ts, obTR (.slice (some ⟨g2, 0, none⟩) n vc) us, KC.ob (.slice co l.length cc) (codesL l), KC.ob d (codesL (l.take n))] → SAw g g2 j rv sv W ∧ RunsRd W rv r' ∧ RunsRd W sv r') := Lib.hid fun W hW => ⟨⟨obTR_cell hW 0 rfl HR.out.1, obTR_cell hW 1 rfl HR.out.2⟩, obTR_get hW 0 rfl HR.out.1, obTR_get hW 1 rfl HR.out.2⟩
        clear hr hs
        go_upto_region 14 with fail
        refine hd_start (SAw g g2 j rv sv) (by kernel_rfl) ?_
        intro w7 hw'
        have H7 := Lib.hid (HK.out.draw 1)
        rw [← hw'] at H7
        clear hw' HK
        have S7 := (hS.out _ H7.out).1
        refine hd_take (v := ?_) 0 rfl (by kernel_rfl) (fun _ _ d _ _ h => (by cases d <;> exact h)) (by kernel_rfl) S7 (fun w' hS => ?_) ?_
        rotate_left
        focus (have q0 := SAw.id w' hS; clear hS; go_simp; try rfl; done)
        simp only [List.getElem_toArray, List.getElem_cons_succ, List.getElem_cons_zero, Act.put, List.setIfInBounds_toArray, List.set_cons_zero, List.set_cons_succ]
        refine hd_take (v := ?_) 1 rfl (by kernel_rfl) (fun _ _ d _ _ h => (by cases d <;> exact h)) (by kernel_rfl) S7 (fun w' hS => ?_) ?_
        rotate_left
        focus (have q0 := SAw.id w' hS; clear hS; go_simp; try rfl; done)
        simp only [List.getElem_toArray, List.getElem_cons_succ, List.getElem_cons_zero, Act.put, List.setIfInBounds_toArray, List.set_cons_zero, List.set_cons_succ]
        refine hd_take (v := ?_) 2 rfl (by kernel_rfl) (fun _ _ d _ _ h => (by cases d <;> exact h)) (by kernel_rfl) S7 (fun w' hS => ?_) ?_
        rotate_left
        focus (have q0 := SAw.id w' hS; clear hS; go_simp; try rfl; done)
        simp only [List.getElem_toArray, List.getElem_cons_succ, List.getElem_cons_zero, Act.put, List.setIfInBounds_toArray, List.set_cons_zero, List.set_cons_succ]
        refine hd_take (v := ?_) 3 rfl (by kernel_rfl) (fun _ _ d _ _ h => (by cases d <;> exact h)) (by kernel_rfl) S7 (fun w' hS => ?_) ?_
        rotate_left
        focus (have q0 := SAw.id w' hS; clear hS; go_simp; try rfl; done)
        simp only [List.getElem_toArray, List.getElem_cons_succ, List.getElem_cons_zero, Act.put, List.setIfInBounds_toArray, List.set_cons_zero, List.set_cons_succ]
        refine hd_take (v := ?_) 4 rfl (by kernel_rfl) (fun _ _ d _ _ h => (by cases d <;> exact h)) (by kernel_rfl) S7 (fun w' hS => ?_) ?_
        rotate_left
        focus (have q0 := SAw.id w' hS; clear hS; go_simp; try rfl; done)
        simp only [List.getElem_toArray, List.getElem_cons_succ, List.getElem_cons_zero, Act.put, List.setIfInBounds_toArray, List.set_cons_zero, List.set_cons_succ]
        refine hd_take (v := ?_) 5 rfl (by kernel_rfl) (fun _ _ d _ _ h => (by cases d <;> exact h)) (by kernel_rfl) S7 (fun w' hS => ?_) ?_
        rotate_left
        focus (have q0 := SAw.id w' hS; clear hS; go_simp; try rfl; done)
        simp only [List.getElem_toArray, List.getElem_cons_succ, List.getElem_cons_zero, Act.put, List.setIfInBounds_toArray, List.set_cons_zero, List.set_cons_succ]
        refine hd_take (v := ?_) 6 rfl (by kernel_rfl) (fun _ _ d _ _ h => (by cases d <;> exact h)) (by kernel_rfl) S7 (fun w' hS => ?_) ?_
        rotate_left
        focus (have q0 := SAw.id w' hS; clear hS; go_simp; try rfl; done)
        simp only [List.getElem_toArray, List.getElem_cons_succ, List.getElem_cons_zero, Act.put, List.setIfInBounds_toArray, List.set_cons_zero, List.set_cons_succ]
        refine hd_take (v := ?_) 7 rfl (by kernel_rfl) (fun _ _ d _ _ h => (by cases d <;> exact h)) (by kernel_rfl) S7 (fun w' hS => ?_) ?_
        rotate_left
        focus (have q0 := SAw.id w' hS; clear hS; go_simp; try rfl; done)
        simp only [List.getElem_toArray, List.getElem_cons_succ, List.getElem_cons_zero, Act.put, List.setIfInBounds_toArray, List.set_cons_zero, List.set_cons_succ]
        refine hd_one 8 (by kernel_rfl) ?_
        refine op_call rfl (by kernel_rfl) (by go_simp; first | exact ⟨rfl, rfl⟩ | rfl) ?_
        refine (sameRuns_env' H7.out (hS.out _ H7.out).2.1 (hS.out _ H7.out).2.2).mono ?_
        rintro e w8 ⟨he, h8⟩
        rw [decide_eq_true rfl] at he
        subst he
        have hS2 := (hS.out _ h8).1
        have S8 := hS2
        have H8 := Lib.hid h8
        clear h8
        refine ⟨_, rfl, hS2, ?_⟩
        simp only [List.getElem_toArray, List.getElem_cons_succ, List.getElem_cons_zero, Act.put, List.setIfInBounds_toArray, List.set_cons_zero, List.set_cons_succ]
        refine hd_take (v := ?_) 9 rfl (by kernel_rfl) (fun _ _ d _ _ h => (by cases d <;> exact h)) (by kernel_rfl) S8 (fun w' hS => ?_) ?_
        rotate_left
        focus (clear hS; go_simp; try rfl; done)
        simp only [List.getElem_toArray, List.getElem_cons_succ, List.getElem_cons_zero, Act.put, List.setIfInBounds_toArray, List.set_cons_zero, List.set_cons_succ]
        refine hd_done (by kernel_rfl) ?_
        clear S7 S8 hS
        have hw1 : IntKind.i64.wrap ((j : Int) + 1) = ((j + 1 : Nat) : Int) := by rw [IntWalk.i64_in _ (by omega)]; omega
        go_wp2_with fail
        refine ⟨⟨j + 1, by omega, rfl, H8⟩, ?_⟩
        have q9 : n - ((j : Int) + 1).toNat < n - ((j : Int)).toNat := by omega
        exact q9
      · have t4 : decide ((j : Int) < (n : Int)) = false := by rw [decide_eq_false_iff_not]; omega
        go_wp2_with fail
        go_ret
        exact ⟨rfl, HB.out.trans (HK.out.base.mono HB.out.size)⟩
end costBegins
end Go.Proofs.Ytkidijjhedjifaa
namespace Go.Proofs.Ytkidijjhedjifaa.costBegins
open Go.ChangeShapes Go.WideShapes Go.ChangeAt Go.RowKit
set_option linter.unusedVariables false

set_option maxRecDepth 100000 in
theorem lifted (os : Os) (started : os.Started) (H : Type) (enc : TypeId × Value → H) :
    ReturnsInHanded {} Try.checked os 3 .any (Rows.costBeginsSpec.pre6 enc Try.prog Try.f3 Rows.costBeginsRow.domain false) (Rows.costBeginsSpec.post enc Try.prog Try.f3 false true false false) := by
  refine returnsInHanded_of_change (C := Try.checked) own started (by kernel_rfl) Try.func3
    (ChangeSpec.witness6 (enc := enc) (C := Try.checked) false ⟨#[], #[.slice none 0 0, .int .i64 0], []⟩ 8 (by kernel_rfl) (by kernel_rfl) (by kernel_rfl) (by kernel_rfl)) ?_
  intro W base args ds gs before hval0 hW hcnd _
  have hval : ∀ (j : Nat) t v, Try.f3.params[j]? = some t → args[j]? = some v → Value.okWide Try.prog W .any base t v := hval0
  have hW' := hW
  obtain ⟨p, q, hA0, hV, rfl, hfz, hnd⟩ := hW
  have hA : DataW.TrodAll enc Try.prog W 0 (fun _ => true) true Try.f3.params.toList args.toList ds p := hA0
  rw [Try.params3] at hA hval
  obtain ⟨v0, vs0, d0, ds0, p0, q0, hargs, rfl, rfl, h0, r0⟩ := trodAll_cons hA
  obtain ⟨v1, vs1, d1, ds1, p1, q1, rfl, rfl, rfl, h1, r1⟩ := trodAll_cons r0
  obtain ⟨rfl, rfl, rfl⟩ := trodAll_nil r1
  obtain rfl : args = #[v0, v1] := by cases args; simp_all
  obtain ⟨rfl, rfl⟩ := trodVars_none hV
  obtain ⟨a0, e0⟩ := openSks (hval 0 22 v0 rfl rfl) h0
  obtain ⟨a1, rfl, rfl, rfl, w1⟩ := open_int Try.underlying3 (hval 1 3 v1 rfl rfl) h1
  clear hA0 hval0
  simp only [List.append_nil] at hW'
  refine (walk v0 a0 e0 a1 w1).mono fun e W' ⟨he, hg⟩ => ?_
  subst he
  exact ⟨_, rfl, law_post laidOut (by kernel_rfl) rfl rfl Try.underlying4 hW' hg rfl rfl rfl⟩

theorem over : Rows.costBeginsRow.holds Try.pinned (OpenSpec.ofChange Rows.costBeginsSpec) :=
  OpenClaim.holds_of_wide 3 Try.f3 rfl rfl rfl rfl rfl rfl rfl ⟨rfl, rfl, rfl, rfl, rfl⟩ rfl rfl rfl rfl rfl (by kernel_rfl) Try.func3 (by kernel_rfl)
    (of_decide_eq_true (by kernel_rfl)) (by unfold Func.isWrapper; rw [if_neg (of_decide_eq_false (by kernel_rfl))]; exact ⟨rfl, rfl⟩)
    (fun os started H enc _ => lifted os started H enc)

theorem proved : Rows.CostBeginsSaid := over
end Go.Proofs.Ytkidijjhedjifaa.costBegins
