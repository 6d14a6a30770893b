/- The statement CostBounds: for every input turnkey/turnkeylaw22.CostBounds returns true, and each argument reads as it did. Its walk is proved in CostBounds; here is the step from the walk to the row. -/
import Derived.Test.YtkidijjhedjifaaRows
import Derived.Test.YtkidijjhedjifaaQB2
import Derived.Test.YtkidijjhedjifaaQB3
import Derived.Test.YtkidijjhedjifaaQB4
import Derived.Test.YtkidijjhedjifaaQB5
import Derived.Test.YtkidijjhedjifaaQB8
import Derived.Test.YtkidijjhedjifaaQB9
/- The law CostBegins: a part of the operations ahead costs what it cost. -/
namespace Go.Proofs.Ytkidijjhedjifaa
open Go.RowKit
set_option maxRecDepth 100000
set_option linter.unusedVariables false
set_option linter.unusedSimpArgs false
attribute [local go_sem] Oper.semAt_some
theorem pick22 (i n : Int) (w : World) (hn : 0 < n) (hn' : n ≤ 9223372036854775807) :
    Calls Try.prog 10 #[.int .i64 i, .int .i64 n] w fun e w' => e = .returned (.int .i64 (i % n)) ∧ w = w' := by
  have ht : i.tmod n = if i % n = 0 ∨ 0 ≤ i then i % n else i % n - n := by
    have := Int.emod_nonneg i (show n ≠ 0 by omega)
    rw [Int.tmod_eq_emod]
    have : (n.natAbs : Int) = n := by omega
    by_cases h : 0 ≤ i ∨ n ∣ i
    · rw [if_pos h]
      rcases h with h | h
      · rw [if_pos (.inr h)]; omega
      · rw [if_pos (.inl (Int.emod_eq_zero_of_dvd h))]; omega
    · rw [if_neg h]
      have : ¬ (i % n = 0 ∨ 0 ≤ i) := by
        rintro (h1 | h1)
        · exact h (.inr (Int.dvd_of_emod_eq_zero h1))
        · exact h (.inl h1)
      rw [if_neg this]
      omega
  have h1 := Int.emod_nonneg i (show n ≠ 0 by omega)
  have h2 := Int.emod_lt_of_pos i hn
  by_cases hc : i % n = 0 ∨ 0 ≤ i
  · rw [if_pos hc] at ht
    clear hc
    generalize i % n = r at ht h1 h2 ⊢
    go_enter Try.func10, Try.ntmps10
    go_wp2
    go_ret
    exact ⟨rfl, rfl⟩
  · rw [if_neg hc] at ht
    have h3 : ¬ i % n = 0 := fun e => hc (.inl e)
    clear hc
    generalize i % n = r at ht h1 h2 h3 ⊢
    have e : r - n + n = r := by omega
    go_enter Try.func10, Try.ntmps10
    go_wp2
    go_ret
    exact ⟨rfl, rfl⟩
theorem eachL_take (l : List Sk) {n : Nat} (h : n ≤ l.length) {j : Nat} (hj : j < n) : (eachL (l.take n))[j]? = (eachL l)[j]? := by
  unfold eachL
  rw [List.length_take, Nat.min_eq_left h, eachTo_take l n n (Nat.le_refl _), eachTo_get l _ j hj, eachTo_get l _ j (by omega)]
theorem codesL_take (l : List Sk) {n : Nat} (h : n ≤ l.length) : codesL (l.take n) = (codesL l).take n := by
  unfold codesL
  rw [List.length_take, Nat.min_eq_left h, codesTo_take l n n (Nat.le_refl _), codesTo_pre l n _ h]
theorem KS.part {w : World} {ao : Option Addr} {N cap : Nat} {l : List Sk} (h : KS.R w (.slice ao N cap) l) {n : Nat} (hn : n ≤ l.length) : KS.R w (.slice ao n cap) (l.take n) := by
  have e : l.take n ++ l.drop n = l := List.take_append_drop n l
  rw [← e] at h
  have h1 := Knd.R.begin h
  rw [List.length_take, Nat.min_eq_left hn] at h1
  exact h1
theorem KC.part {w : World} {ao : Option Addr} {N cap : Nat} {l : List Int} (h : KC.R w (.slice ao N cap) l) {n : Nat} (hn : n ≤ l.length) : KC.R w (.slice ao n cap) (l.take n) := by
  have e : l.take n ++ l.drop n = l := List.take_append_drop n l
  rw [← e] at h
  have h1 := Knd.R.begin h
  rw [List.length_take, Nat.min_eq_left hn] at h1
  exact h1
namespace costBegins
set_option maxHeartbeats 8000000 in
theorem walk (v : Value) (l : List Sk) {w : World} (hin : InSk w v l) (a1 : Int) (w1 : (Lit.int .i64 a1).wf = true) :
    Calls Try.prog 3 #[v, .int .i64 a1] w fun e w' => e = .returned (.bool true) ∧ Below w.heap.size w w' := by
  obtain ⟨hv, hok⟩ := hin
  obtain ⟨ao, cap, rfl, hc1, hc2, hc3⟩ := hv.any
  have HV := Lib.hid hv
  have HOK := Lib.hid hok
  clear hv hok
  go_enter Try.func3, Try.ntmps3
  go_wp2_with fail
  refine (awake_any _).mono ?_
  rintro e w1 ⟨rfl, hb⟩
  have HB := Lib.hid hb
  have HV1 := Lib.hid (HV.out.grow hb)
  clear hb HV
  by_cases h300 : 300 < l.length
  · have t3 : decide (300 < (l.length : Int)) = true := by rw [decide_eq_true_eq]; omega
    go_wp2_with fail
    go_ret
    exact ⟨rfl, HB.out⟩
  · have t3 : decide (300 < (l.length : Int)) = false := by rw [decide_eq_false_iff_not]; omega
    have hw1 : IntKind.i64.wrap ((l.length : Int) + 1) = ((l.length + 1 : Nat) : Int) := by rw [IntWalk.i64_in _ (by omega)]; omega
    go_wp2_with fail
    refine (pick22 a1 ((l.length + 1 : Nat) : Int) _ (by omega) (by omega)).mono ?_
    rintro e w2 ⟨rfl, rfl⟩
    obtain ⟨n, hn⟩ : ∃ n : Nat, a1 % ((l.length + 1 : Nat) : Int) = n := ⟨(a1 % ((l.length + 1 : Nat) : Int)).toNat, by have := Int.emod_nonneg a1 (show ((l.length + 1 : Nat) : Int) ≠ 0 by omega); omega⟩
    have hnl : n ≤ l.length := by
      have := Int.emod_lt_of_pos a1 (show (0 : Int) < ((l.length + 1 : Nat) : Int) by omega)
      omega
    rw [hn]
    clear hn hw1
    go_wp2_with fail
    refine (each_env (Env.start w1) (RdS.old HV1.out) HOK.out (by omega)).mono ?_
    rintro e w2 ⟨u, ts, rfl, hts, h2⟩
    rw [List.nil_append] at h2
    have htl : ts.length = l.length := by
      have := congrArg List.length hts
      rw [List.length_map] at this
      rw [this]
      exact eachTo_len l _
    obtain ⟨uo, uc, rfl, hu1, hu2⟩ := obTR_form h2 0 rfl
    rw [htl] at h2 hu1 ⊢
    have H2 := Lib.hid h2
    have HT := Lib.hid (And.intro hts htl)
    have HV2 := Lib.hid (KS.part HV1.out hnl)
    have HOK2 : Hid (∀ s ∈ l.take n, OKsk s) := Lib.hid fun s hs => HOK.out s (List.mem_of_mem_take hs)
    have htn : (l.take n).length = n := by rw [List.length_take, Nat.min_eq_left hnl]
    clear h2 hts htl
    go_wp2_with fail
    refine (each_env H2.out (RdS.old HV2.out) HOK2.out (by omega)).mono ?_
    rintro e w3 ⟨u', us, rfl, hus, h3⟩
    have hul : us.length = n := by
      have := congrArg List.length hus
      rw [List.length_map] at this
      have e2 : (eachL (l.take n)).length = (l.take n).length := eachTo_len _ _
      rw [this, e2, htn]
    obtain ⟨vo, vc, rfl, hv1, hv2⟩ := obTR_form h3 1 rfl
    rw [hul] at h3 hv1 ⊢
    have H3 : Hid (Env w1 w3 [obTR (.slice uo l.length uc) ts, obTR (.slice vo n vc) us]) := Lib.hid h3
    have HU := Lib.hid (And.intro hus hul)
    clear h3 hus hul H2
    go_wp2_with fail
    refine (codes_env H3.out (RdS.old HV1.out) HOK.out (by omega)).mono ?_
    rintro e w4 ⟨c, rfl, h4⟩
    have h4 : Env w1 w4 [obTR (.slice uo l.length uc) ts, obTR (.slice vo n vc) us, KC.ob c (codesL l)] := h4
    obtain ⟨co, cc, hce, hcc1, hcc2, _⟩ := (h4.kR 2 (v := c) (l := codesL l) rfl).any
    have hcl : (codesL l).length = l.length := codesTo_len _ _
    subst hce
    rw [hcl] at h4 hcc1 ⊢
    have H4 := Lib.hid h4
    clear h4 hcl H3
    go_wp2_with fail
    refine (codes_env H4.out (RdS.old HV2.out) HOK2.out (by omega)).mono ?_
    rintro e w5 ⟨d, rfl, h5⟩
    have h5 : Env w1 w5 [obTR (.slice uo l.length uc) ts, obTR (.slice vo n vc) us, KC.ob (.slice co l.length cc) (codesL l), KC.ob d (codesL (l.take n))] := h5
    have hcl : (codesL l).length = l.length := codesTo_len _ _
    have r1 : KC.R w5 (.slice co n cc) ((codesL l).take n) := KC.part (h5.kR 2 (v := .slice co l.length cc) (l := codesL l) rfl) (by rw [hcl]; exact hnl)
    have r0 : KC.R w5 d ((codesL l).take n) := by
      rw [← codesL_take l hnl]
      exact h5.kR 3 (v := d) (l := codesL (l.take n)) rfl
    have H5 := Lib.hid h5
    have HR := Lib.hid (And.intro r0 r1)
    clear h5 r0 r1 H4 hcl
    go_wp2_with fail
    refine (sameC_any _ _ _ _ _ HR.out.1 HR.out.2).mono ?_
    rintro e w6 ⟨he, m, hm⟩
    rw [sameL_refl eqC (fun x => by simp [eqC])] at he
    subst he
    have h6 := H5.out.draw m
    rw [← hm] at h6
    have H6 := Lib.hid h6
    clear h6 hm HR H5
    go_wp2_with fail
    go_loopw [10] (fun iv wx => ∃ j : Nat, j ≤ n ∧ iv = .int .i64 (j : Int) ∧ Hid (Env w1 wx [obTR (.slice uo l.length uc) ts, obTR (.slice vo n vc) us, KC.ob (.slice co l.length cc) (codesL l), KC.ob d (codesL (l.take n))])) (fun iv _ => n - (intOf iv).toNat)
    case atStart => exact ⟨0, Nat.zero_le _, rfl, H6⟩
    case round =>
      obtain ⟨j, hj, rfl, HK⟩ := hrel
      clear H6
      by_cases hlt : j < n
      · have t4 : decide ((j : Int) < (n : Int)) = true := by rw [decide_eq_true_eq]; omega
        have bj : 0 ≤ (j : Int) ∧ (j : Int) < (n : Int) := by omega
        have bl : 0 ≤ (j : Int) ∧ (j : Int) < (l.length : Int) := by omega
        obtain ⟨⟨rv, r⟩, hr⟩ : ∃ y, ts[j]? = some y := ⟨_, List.getElem?_eq_getElem (by rw [HT.out.2]; omega)⟩
        obtain ⟨⟨sv, r'⟩, hs⟩ : ∃ y, us[j]? = some y := ⟨_, List.getElem?_eq_getElem (by rw [HU.out.2]; omega)⟩
        have hrr : r' = r := by
          have e1 := congrArg (fun z => z[j]?) HT.out.1
          have e2 := congrArg (fun z => z[j]?) HU.out.1
          simp only [List.getElem?_map, hr, hs, Option.map_some] at e1 e2
          rw [eachL_take l hnl hlt, ← e1] at e2
          injection e2
        subst hrr
        obtain ⟨g, c1, q1, _, _⟩ := obTR_slice HK.out 0 rfl (by rw [HT.out.2]; omega)
        obtain ⟨g2, c2, q2, _, _⟩ := obTR_slice HK.out 1 rfl (by rw [HU.out.2]; omega)
        injection q1 with q1 q1b q1c
        injection q2 with q2 q2b q2c
        subst q1 q2
        clear q1b q1c q2b q2c
        have HR := Lib.hid (And.intro hr hs)
        have hS : Hid (∀ W, Env w1 W [obTR (.slice (some ⟨g, 0, none⟩) l.length uc) ts, obTR (.slice (some ⟨g2, 0, none⟩) n vc) us, KC.ob (.slice co l.length cc) (codesL l), KC.ob d (codesL (l.take n))] → SAw g g2 j rv sv W ∧ RunsRd W rv r' ∧ RunsRd W sv r') := Lib.hid fun W hW => ⟨⟨obTR_cell hW 0 rfl HR.out.1, obTR_cell hW 1 rfl HR.out.2⟩, obTR_get hW 0 rfl HR.out.1, obTR_get hW 1 rfl HR.out.2⟩
        clear hr hs
        go_upto_region 14 with fail
        refine hd_start (SAw g g2 j rv sv) (by kernel_rfl) ?_
        intro w7 hw'
        have H7 := Lib.hid (HK.out.draw 1)
        rw [← hw'] at H7
        clear hw' HK
        have S7 := (hS.out _ H7.out).1
        refine hd_take (v := ?_) 0 rfl (by kernel_rfl) (fun _ _ d _ _ h => (by cases d <;> exact h)) (by kernel_rfl) S7 (fun w' hS => ?_) ?_
        rotate_left
        focus (have q0 := SAw.id w' hS; clear hS; go_simp; try rfl; done)
        simp only [List.getElem_toArray, List.getElem_cons_succ, List.getElem_cons_zero, Act.put, List.setIfInBounds_toArray, List.set_cons_zero, List.set_cons_succ]
        refine hd_take (v := ?_) 1 rfl (by kernel_rfl) (fun _ _ d _ _ h => (by cases d <;> exact h)) (by kernel_rfl) S7 (fun w' hS => ?_) ?_
        rotate_left
        focus (have q0 := SAw.id w' hS; clear hS; go_simp; try rfl; done)
        simp only [List.getElem_toArray, List.getElem_cons_succ, List.getElem_cons_zero, Act.put, List.setIfInBounds_toArray, List.set_cons_zero, List.set_cons_succ]
        refine hd_take (v := ?_) 2 rfl (by kernel_rfl) (fun _ _ d _ _ h => (by cases d <;> exact h)) (by kernel_rfl) S7 (fun w' hS => ?_) ?_
        rotate_left
        focus (have q0 := SAw.id w' hS; clear hS; go_simp; try rfl; done)
        simp only [List.getElem_toArray, List.getElem_cons_succ, List.getElem_cons_zero, Act.put, List.setIfInBounds_toArray, List.set_cons_zero, List.set_cons_succ]
        refine hd_take (v := ?_) 3 rfl (by kernel_rfl) (fun _ _ d _ _ h => (by cases d <;> exact h)) (by kernel_rfl) S7 (fun w' hS => ?_) ?_
        rotate_left
        focus (have q0 := SAw.id w' hS; clear hS; go_simp; try rfl; done)
        simp only [List.getElem_toArray, List.getElem_cons_succ, List.getElem_cons_zero, Act.put, List.setIfInBounds_toArray, List.set_cons_zero, List.set_cons_succ]
        refine hd_take (v := ?_) 4 rfl (by kernel_rfl) (fun _ _ d _ _ h => (by cases d <;> exact h)) (by kernel_rfl) S7 (fun w' hS => ?_) ?_
        rotate_left
        focus (have q0 := SAw.id w' hS; clear hS; go_simp; try rfl; done)
        simp only [List.getElem_toArray, List.getElem_cons_succ, List.getElem_cons_zero, Act.put, List.setIfInBounds_toArray, List.set_cons_zero, List.set_cons_succ]
        refine hd_take (v := ?_) 5 rfl (by kernel_rfl) (fun _ _ d _ _ h => (by cases d <;> exact h)) (by kernel_rfl) S7 (fun w' hS => ?_) ?_
        rotate_left
        focus (have q0 := SAw.id w' hS; clear hS; go_simp; try rfl; done)
        simp only [List.getElem_toArray, List.getElem_cons_succ, List.getElem_cons_zero, Act.put, List.setIfInBounds_toArray, List.set_cons_zero, List.set_cons_succ]
        refine hd_take (v := ?_) 6 rfl (by kernel_rfl) (fun _ _ d _ _ h => (by cases d <;> exact h)) (by kernel_rfl) S7 (fun w' hS => ?_) ?_
        rotate_left
        focus (have q0 := SAw.id w' hS; clear hS; go_simp; try rfl; done)
        simp only [List.getElem_toArray, List.getElem_cons_succ, List.getElem_cons_zero, Act.put, List.setIfInBounds_toArray, List.set_cons_zero, List.set_cons_succ]
        refine hd_take (v := ?_) 7 rfl (by kernel_rfl) (fun _ _ d _ _ h => (by cases d <;> exact h)) (by kernel_rfl) S7 (fun w' hS => ?_) ?_
        rotate_left
        focus (have q0 := SAw.id w' hS; clear hS; go_simp; try rfl; done)
        simp only [List.getElem_toArray, List.getElem_cons_succ, List.getElem_cons_zero, Act.put, List.setIfInBounds_toArray, List.set_cons_zero, List.set_cons_succ]
        refine hd_one 8 (by kernel_rfl) ?_
        refine op_call rfl (by kernel_rfl) (by go_simp; first | exact ⟨rfl, rfl⟩ | rfl) ?_
        refine (sameRuns_env' H7.out (hS.out _ H7.out).2.1 (hS.out _ H7.out).2.2).mono ?_
        rintro e w8 ⟨he, h8⟩
        rw [decide_eq_true rfl] at he
        subst he
        have hS2 := (hS.out _ h8).1
        have S8 := hS2
        have H8 := Lib.hid h8
        clear h8
        refine ⟨_, rfl, hS2, ?_⟩
        simp only [List.getElem_toArray, List.getElem_cons_succ, List.getElem_cons_zero, Act.put, List.setIfInBounds_toArray, List.set_cons_zero, List.set_cons_succ]
        refine hd_take (v := ?_) 9 rfl (by kernel_rfl) (fun _ _ d _ _ h => (by cases d <;> exact h)) (by kernel_rfl) S8 (fun w' hS => ?_) ?_
        rotate_left
        focus (clear hS; go_simp; try rfl; done)
        simp only [List.getElem_toArray, List.getElem_cons_succ, List.getElem_cons_zero, Act.put, List.setIfInBounds_toArray, List.set_cons_zero, List.set_cons_succ]
        refine hd_done (by kernel_rfl) ?_
        clear S7 S8 hS
        have hw1 : IntKind.i64.wrap ((j : Int) + 1) = ((j + 1 : Nat) : Int) := by rw [IntWalk.i64_in _ (by omega)]; omega
        go_wp2_with fail
        refine ⟨⟨j + 1, by omega, rfl, H8⟩, ?_⟩
        have q9 : n - ((j : Int) + 1).toNat < n - ((j : Int)).toNat := by omega
        exact q9
      · have t4 : decide ((j : Int) < (n : Int)) = false := by rw [decide_eq_false_iff_not]; omega
        go_wp2_with fail
        go_ret
        exact ⟨rfl, HB.out.trans (HK.out.base.mono HB.out.size)⟩
end costBegins
end Go.Proofs.Ytkidijjhedjifaa
/- CostBounds, the plain law: what each row of runs is. -/
namespace Go.Proofs.Ytkidijjhedjifaa
set_option linter.unusedVariables false
set_option linter.unusedSimpArgs false
theorem noteAll_lenB : ∀ (l a : List Rn), (noteAll a l).length ≤ a.length + l.length
  | [], a => Nat.le_refl _
  | x :: l, a => by
    have h2 := noteAll_lenB l (noteT a x)
    have h1 : (noteT a x).length ≤ a.length + 1 := by
      unfold noteT
      split
      · omega
      · exact noteL_len1 a _ _ _
    show (noteAll (noteT a x) l).length ≤ _
    simp only [List.length_cons]
    omega
theorem evS_lenB (σ : Hs) (s : Sk) : (evS σ s).length ≤ 3 := by
  unfold evS beginE
  simp only
  repeat' split
  all_goals simp
theorem runsD_lenB (σ : Hs) (s : Sk) : (runsD σ s).length ≤ 5 := by
  unfold runsD
  have h1 : (if codeD σ s = 0 then evS σ s.clip else []).length ≤ 3 := by
    split
    · exact evS_lenB σ s.clip
    · simp
  have h2 := noteAll_lenB (if codeD σ s = 0 then evS σ s.clip else []) (noteL [] 11 s.kind 1)
  have h3 := noteL_len1 [] 11 s.kind 1
  have h4 := noteL_len1 (noteAll (noteL [] 11 s.kind 1) (if codeD σ s = 0 then evS σ s.clip else [])) 12 (codeD σ s) 1
  rw [foldl_times]
  simp only [List.length_nil] at h3
  omega
theorem allTo_lenB (l : List Sk) : ∀ n, (allTo l n).length ≤ 5 * n
  | 0 => Nat.le_refl _
  | n + 1 => by
    have h1 := allTo_lenB l n
    have h2 := runsD_lenB (stTo l n) (l.getD n ⟨0, 0, 0, 0, 0, 0, 0⟩)
    have h3 := noteAll_lenB (runsD (stTo l n) (l.getD n ⟨0, 0, 0, 0, 0, 0, 0⟩)) (allTo l n)
    show (noteAll (allTo l n) _).length ≤ _
    omega
theorem okC_ofB {l : List Rn} (hp : Posi l) (ht : tot l ≤ 9223372036854775807) : okC l := fun r hr => by
  have h1 := hp r hr
  obtain ⟨a, b, rfl⟩ := List.append_of_mem hr
  have h2 := tot_nonneg a (fun x hx => hp x (by simp [hx]))
  have h3 := tot_nonneg b (fun x hx => hp x (by simp [hx]))
  have e : tot (a ++ r :: b) = tot a + (r.c + tot b) := by simp [tot]
  omega
structure BRow (l : List Sk) (j : Nat) (s : Sk) (r : List Rn) : Prop where
  fr : Framed s.kind (codeD (stTo l j) s) r
  chk : chkL r = 0
  tl : totL r ≤ boundS s
  okr : okC r
  oka : okC (allTo l j)
  jn : joinL (allTo l j) r = allTo l (j + 1)
  len : (allTo l j).length + r.length ≤ 4000000
  rl : r.length ≤ 5
  at1 : (eachL l)[j]? = some r
  at2 : (codesL l)[j]? = some (codeD (stTo l j) s)
theorem bnd_row (l : List Sk) {j : Nat} {s : Sk} (h : l[j]? = some s) (hl : l.length ≤ 300) : BRow l j s (runsD (stTo l j) s) := by
  have hj : j < l.length := (List.getElem?_eq_some_iff.1 h).1
  have hd : l.getD j ⟨0, 0, 0, 0, 0, 0, 0⟩ = s := by rw [List.getD_eq_getElem?_getD, h]; rfl
  have h1 := runsD_ok (stTo_ok l j) s
  obtain ⟨a1, a2, a3⟩ := allTo_ok l j
  have hn := h1.1.nrm
  have e1 := eachTo_get l l.length j hj
  have e2 := codesTo_get l l.length j hj
  have l1 := allTo_lenB l j
  have l2 := runsD_lenB (stTo l j) s
  rw [hd] at e1 e2
  exact ⟨h1.1, chkL_zero _ hn, by rw [totL_is _ hn.posi (by omega)]; exact h1.2.1, okC_ofB hn.posi (by omega), okC_ofB a1.posi (by omega), by rw [join_all _ _ a1 hn (by omega), allTo_step l h], by omega, l2, e1, e2⟩
end Go.Proofs.Ytkidijjhedjifaa
/- The contract of skel.Bound: how many events an operation of a skeleton records at most. -/
namespace Go.Proofs.Ytkidijjhedjifaa
open Go.RowKit
set_option maxRecDepth 100000
set_option linter.unusedVariables false
set_option linter.unusedSimpArgs false
attribute [local go_sem] Oper.semAt_some
theorem cap_any (n : Int) (w : World) : Calls Try.prog 45 #[.int .i64 n] w fun e w' => e = .returned (.int .i64 (capB n)) ∧ Below w.heap.size w w' := by
  go_enter Try.func45, Try.ntmps45
  go_wp2
  all_goals (go_ret; refine ⟨?_, Below.refl _ _⟩; show Ending.returned (.int .i64 _) = Ending.returned (.int .i64 _); congr 2; unfold capB; first | omega | (split at * <;> omega))
structure SBx (B : Nat) (s : Sk) (W : World) : Prop where
  b3 : W.cell? ⟨B, 3, none⟩ = some (.int .i64 s.count)
  b4 : W.cell? ⟨B, 4, none⟩ = some (.int .i64 s.out)
  b5 : W.cell? ⟨B, 5, none⟩ = some (.int .i64 s.data)
  b6 : W.cell? ⟨B, 6, none⟩ = some (.int .i64 s.more)
theorem SBx.of {B : Nat} {s : Sk} {W : World} (h : Blk W B 43 (skCells s)) : SBx B s W := ⟨h.cellAt 3 rfl, h.cellAt 4 rfl, h.cellAt 5 rfl, h.cellAt 6 rfl⟩
theorem SBx.g3 {B : Nat} {s : Sk} (W : World) (h : SBx B s W) : W.cell? ⟨B, 3, none⟩ = some (.int .i64 s.count) := h.b3
theorem SBx.g4 {B : Nat} {s : Sk} (W : World) (h : SBx B s W) : W.cell? ⟨B, 4, none⟩ = some (.int .i64 s.out) := h.b4
theorem SBx.g5 {B : Nat} {s : Sk} (W : World) (h : SBx B s W) : W.cell? ⟨B, 5, none⟩ = some (.int .i64 s.data) := h.b5
theorem SBx.g6 {B : Nat} {s : Sk} (W : World) (h : SBx B s W) : W.cell? ⟨B, 6, none⟩ = some (.int .i64 s.more) := h.b6
theorem bound_arith {d m o c : Int} (h1 : 0 ≤ d ∧ d ≤ 16777216) (h2 : 0 ≤ m ∧ m ≤ 16777216) (h3 : 0 ≤ o ∧ o ≤ 16777216) (h4 : 0 ≤ c ∧ c ≤ 16777216) :
    0 ≤ o / 32 ∧ o / 32 ≤ 524288 ∧ 0 ≤ (m + 512) * (o / 32 + 1) ∧ (m + 512) * (o / 32 + 1) ≤ 16777728 * 524289 ∧ 0 ≤ (m + 512) * (o / 32 + 1) / 16 ∧ (m + 512) * (o / 32 + 1) / 16 ≤ 16777728 * 524289 ∧ 0 ≤ 4 * c * (o / 32 + 1) ∧ 4 * c * (o / 32 + 1) ≤ 67108864 * 524289 := by
  have q0 : 0 ≤ o / 32 ∧ o / 32 ≤ 524288 := by omega
  have q1 : 0 ≤ (m + 512) * (o / 32 + 1) := Int.mul_nonneg (by omega) (by omega)
  have q2 : (m + 512) * (o / 32 + 1) ≤ 16777728 * 524289 := Int.mul_le_mul (by omega) (by omega) (by omega) (by omega)
  have q3 : 0 ≤ 4 * c * (o / 32 + 1) := Int.mul_nonneg (by omega) (by omega)
  have q4 : 4 * c * (o / 32 + 1) ≤ 67108864 * 524289 := Int.mul_le_mul (by omega) (by omega) (by omega) (by omega)
  refine ⟨q0.1, q0.2, q1, q2, by omega, by omega, q3, q4⟩
set_option maxHeartbeats 4000000 in
theorem boundF_any (s : Sk) (w : World) : Calls Try.prog 26 #[skV s] w fun e w' => e = .returned (.int .i64 (boundS s)) ∧ Below w.heap.size w w' := by
  have hbs : boundS s = 64 + capB s.data + capB s.out + (capB s.more + 512) * (capB s.out / 32 + 1) / 16 + 4 * capB s.count * (capB s.out / 32 + 1) := rfl
  obtain ⟨T, hT⟩ : ∃ T, boundS s = T := ⟨_, rfl⟩
  rw [hT]
  rw [hT] at hbs
  clear hT
  unfold skV
  have hk := Blk.new w 43 (skCells s)
  have hb : Below w.heap.size w (w.alloc (.cells (skCells s) 43)) := (Below.refl _ _).alloc (Nat.le_refl _) _
  go_enter Try.func26, Try.ntmps26
  go_upto_region 2 with fail
  obtain ⟨W, hW⟩ : ∃ y, w.alloc (.cells (skCells s) 43) = y := ⟨_, rfl⟩
  obtain ⟨B, hB⟩ : ∃ y, w.heap.size = y := ⟨_, rfl⟩
  rw [hW] at hk hb
  have HB := Lib.hid hb
  have HS : Hid (w.heap.size ≤ W.heap.size) := Lib.hid hb.size
  unfold skCells at hW
  try rw [hW]
  rw [hB] at hk hb ⊢
  have hlt : B < W.heap.size := hk.lt
  have hbx : Hid (∀ W', Below W.heap.size W W' → SBx B s W') := Lib.hid fun W' hb' => SBx.of (hk.only (Only.nothing hb') (fun h => h))
  obtain ⟨d, hd⟩ : ∃ y, capB s.data = y := ⟨_, rfl⟩
  obtain ⟨m, hm⟩ : ∃ y, capB s.more = y := ⟨_, rfl⟩
  obtain ⟨o, ho⟩ : ∃ y, capB s.out = y := ⟨_, rfl⟩
  obtain ⟨c, hc⟩ : ∃ y, capB s.count = y := ⟨_, rfl⟩
  have bd : 0 ≤ d ∧ d ≤ 16777216 := by rw [← hd]; exact capB_nonneg _
  have bm : 0 ≤ m ∧ m ≤ 16777216 := by rw [← hm]; exact capB_nonneg _
  have bo : 0 ≤ o ∧ o ≤ 16777216 := by rw [← ho]; exact capB_nonneg _
  have bc : 0 ≤ c ∧ c ≤ 16777216 := by rw [← hc]; exact capB_nonneg _
  rw [hd, hm, ho, hc] at hbs
  have HT := Lib.hid hbs
  have HD := Lib.hid hd
  have HM := Lib.hid hm
  have HO := Lib.hid ho
  have HC := Lib.hid hc
  clear hd hm ho hc hbs hk hb
  refine hd_start (SBx B s) (by kernel_rfl) ?_
  intro w3 hw'
  have h3 : Below W.heap.size W w3 := by rw [hw']; exact below_draw (Below.refl _ _) 1
  clear hw' hW hB hlt
  have S3 := hbx.out _ h3
  refine hd_take (v := ?_) 0 rfl (by kernel_rfl) (fun _ _ d _ _ h => (by cases d <;> exact h)) (by kernel_rfl) S3 (fun w' hS => ?_) ?_
  rotate_left
  focus (have q0 := SBx.g3 w' hS; have q1 := SBx.g4 w' hS; have q2 := SBx.g5 w' hS; have q3 := SBx.g6 w' hS; clear hS; go_simp; try rfl; done)
  simp only [List.getElem_toArray, List.getElem_cons_succ, List.getElem_cons_zero, Act.put, List.setIfInBounds_toArray, List.set_cons_zero, List.set_cons_succ]
  refine hd_take (v := ?_) 1 rfl (by kernel_rfl) (fun _ _ d _ _ h => (by cases d <;> exact h)) (by kernel_rfl) S3 (fun w' hS => ?_) ?_
  rotate_left
  focus (have q0 := SBx.g3 w' hS; have q1 := SBx.g4 w' hS; have q2 := SBx.g5 w' hS; have q3 := SBx.g6 w' hS; clear hS; go_simp; try rfl; done)
  simp only [List.getElem_toArray, List.getElem_cons_succ, List.getElem_cons_zero, Act.put, List.setIfInBounds_toArray, List.set_cons_zero, List.set_cons_succ]
  refine hd_take (v := ?_) 2 rfl (by kernel_rfl) (fun _ _ d _ _ h => (by cases d <;> exact h)) (by kernel_rfl) S3 (fun w' hS => ?_) ?_
  rotate_left
  focus (have q0 := SBx.g3 w' hS; have q1 := SBx.g4 w' hS; have q2 := SBx.g5 w' hS; have q3 := SBx.g6 w' hS; clear hS; go_simp; try rfl; done)
  simp only [List.getElem_toArray, List.getElem_cons_succ, List.getElem_cons_zero, Act.put, List.setIfInBounds_toArray, List.set_cons_zero, List.set_cons_succ]
  refine hd_take (v := ?_) 4 rfl (by kernel_rfl) (fun _ _ d _ _ h => (by cases d <;> exact h)) (by kernel_rfl) S3 (fun w' hS => ?_) ?_
  rotate_left
  focus (have q0 := SBx.g3 w' hS; have q1 := SBx.g4 w' hS; have q2 := SBx.g5 w' hS; have q3 := SBx.g6 w' hS; clear hS; go_simp; try rfl; done)
  simp only [List.getElem_toArray, List.getElem_cons_succ, List.getElem_cons_zero, Act.put, List.setIfInBounds_toArray, List.set_cons_zero, List.set_cons_succ]
  refine hd_take (v := ?_) 5 rfl (by kernel_rfl) (fun _ _ d _ _ h => (by cases d <;> exact h)) (by kernel_rfl) S3 (fun w' hS => ?_) ?_
  rotate_left
  focus (have q0 := SBx.g3 w' hS; have q1 := SBx.g4 w' hS; have q2 := SBx.g5 w' hS; have q3 := SBx.g6 w' hS; clear hS; go_simp; try rfl; done)
  simp only [List.getElem_toArray, List.getElem_cons_succ, List.getElem_cons_zero, Act.put, List.setIfInBounds_toArray, List.set_cons_zero, List.set_cons_succ]
  refine hd_take (v := ?_) 6 rfl (by kernel_rfl) (fun _ _ d _ _ h => (by cases d <;> exact h)) (by kernel_rfl) S3 (fun w' hS => ?_) ?_
  rotate_left
  focus (have q0 := SBx.g3 w' hS; have q1 := SBx.g4 w' hS; have q2 := SBx.g5 w' hS; have q3 := SBx.g6 w' hS; clear hS; go_simp; try rfl; done)
  simp only [List.getElem_toArray, List.getElem_cons_succ, List.getElem_cons_zero, Act.put, List.setIfInBounds_toArray, List.set_cons_zero, List.set_cons_succ]
  refine hd_take (v := ?_) 8 rfl (by kernel_rfl) (fun _ _ d _ _ h => (by cases d <;> exact h)) (by kernel_rfl) S3 (fun w' hS => ?_) ?_
  rotate_left
  focus (have q0 := SBx.g3 w' hS; have q1 := SBx.g4 w' hS; have q2 := SBx.g5 w' hS; have q3 := SBx.g6 w' hS; clear hS; go_simp; try rfl; done)
  simp only [List.getElem_toArray, List.getElem_cons_succ, List.getElem_cons_zero, Act.put, List.setIfInBounds_toArray, List.set_cons_zero, List.set_cons_succ]
  refine hd_take (v := ?_) 9 rfl (by kernel_rfl) (fun _ _ d _ _ h => (by cases d <;> exact h)) (by kernel_rfl) S3 (fun w' hS => ?_) ?_
  rotate_left
  focus (have q0 := SBx.g3 w' hS; have q1 := SBx.g4 w' hS; have q2 := SBx.g5 w' hS; have q3 := SBx.g6 w' hS; clear hS; go_simp; try rfl; done)
  simp only [List.getElem_toArray, List.getElem_cons_succ, List.getElem_cons_zero, Act.put, List.setIfInBounds_toArray, List.set_cons_zero, List.set_cons_succ]
  refine hd_take (v := ?_) 10 rfl (by kernel_rfl) (fun _ _ d _ _ h => (by cases d <;> exact h)) (by kernel_rfl) S3 (fun w' hS => ?_) ?_
  rotate_left
  focus (have q0 := SBx.g3 w' hS; have q1 := SBx.g4 w' hS; have q2 := SBx.g5 w' hS; have q3 := SBx.g6 w' hS; clear hS; go_simp; try rfl; done)
  simp only [List.getElem_toArray, List.getElem_cons_succ, List.getElem_cons_zero, Act.put, List.setIfInBounds_toArray, List.set_cons_zero, List.set_cons_succ]
  refine hd_take (v := ?_) 12 rfl (by kernel_rfl) (fun _ _ d _ _ h => (by cases d <;> exact h)) (by kernel_rfl) S3 (fun w' hS => ?_) ?_
  rotate_left
  focus (have q0 := SBx.g3 w' hS; have q1 := SBx.g4 w' hS; have q2 := SBx.g5 w' hS; have q3 := SBx.g6 w' hS; clear hS; go_simp; try rfl; done)
  simp only [List.getElem_toArray, List.getElem_cons_succ, List.getElem_cons_zero, Act.put, List.setIfInBounds_toArray, List.set_cons_zero, List.set_cons_succ]
  refine hd_take (v := ?_) 13 rfl (by kernel_rfl) (fun _ _ d _ _ h => (by cases d <;> exact h)) (by kernel_rfl) S3 (fun w' hS => ?_) ?_
  rotate_left
  focus (have q0 := SBx.g3 w' hS; have q1 := SBx.g4 w' hS; have q2 := SBx.g5 w' hS; have q3 := SBx.g6 w' hS; clear hS; go_simp; try rfl; done)
  simp only [List.getElem_toArray, List.getElem_cons_succ, List.getElem_cons_zero, Act.put, List.setIfInBounds_toArray, List.set_cons_zero, List.set_cons_succ]
  refine hd_take (v := ?_) 14 rfl (by kernel_rfl) (fun _ _ d _ _ h => (by cases d <;> exact h)) (by kernel_rfl) S3 (fun w' hS => ?_) ?_
  rotate_left
  focus (have q0 := SBx.g3 w' hS; have q1 := SBx.g4 w' hS; have q2 := SBx.g5 w' hS; have q3 := SBx.g6 w' hS; clear hS; go_simp; try rfl; done)
  simp only [List.getElem_toArray, List.getElem_cons_succ, List.getElem_cons_zero, Act.put, List.setIfInBounds_toArray, List.set_cons_zero, List.set_cons_succ]
  refine hd_one 3 (by kernel_rfl) ?_
  refine op_call rfl (by kernel_rfl) (by go_simp; first | exact ⟨rfl, rfl⟩ | rfl) ?_
  refine (cap_any s.data w3).mono ?_
  rintro e w4 ⟨rfl, h4⟩
  rw [HD.out]
  have h4' := h3.trans (h4.mono h3.size)
  have hS2 := hbx.out _ h4'
  refine ⟨_, rfl, hS2, ?_⟩
  simp only [List.getElem_toArray, List.getElem_cons_succ, List.getElem_cons_zero, Act.put, List.setIfInBounds_toArray, List.set_cons_zero, List.set_cons_succ]
  refine hd_one 7 (by kernel_rfl) ?_
  refine op_call rfl (by kernel_rfl) (by go_simp; first | exact ⟨rfl, rfl⟩ | rfl) ?_
  refine (cap_any s.more w4).mono ?_
  rintro e w5 ⟨rfl, h5⟩
  rw [HM.out]
  have h5' := h4'.trans (h5.mono h4'.size)
  have hS2 := hbx.out _ h5'
  refine ⟨_, rfl, hS2, ?_⟩
  simp only [List.getElem_toArray, List.getElem_cons_succ, List.getElem_cons_zero, Act.put, List.setIfInBounds_toArray, List.set_cons_zero, List.set_cons_succ]
  refine hd_one 11 (by kernel_rfl) ?_
  refine op_call rfl (by kernel_rfl) (by go_simp; first | exact ⟨rfl, rfl⟩ | rfl) ?_
  refine (cap_any s.out w5).mono ?_
  rintro e w6 ⟨rfl, h6⟩
  rw [HO.out]
  have h6' := h5'.trans (h6.mono h5'.size)
  have hS2 := hbx.out _ h6'
  refine ⟨_, rfl, hS2, ?_⟩
  simp only [List.getElem_toArray, List.getElem_cons_succ, List.getElem_cons_zero, Act.put, List.setIfInBounds_toArray, List.set_cons_zero, List.set_cons_succ]
  refine hd_one 15 (by kernel_rfl) ?_
  refine op_call rfl (by kernel_rfl) (by go_simp; first | exact ⟨rfl, rfl⟩ | rfl) ?_
  refine (cap_any s.count w6).mono ?_
  rintro e w7 ⟨rfl, h7⟩
  rw [HC.out]
  have h7' := h6'.trans (h7.mono h6'.size)
  have hS2 := hbx.out _ h7'
  refine ⟨_, rfl, hS2, ?_⟩
  simp only [List.getElem_toArray, List.getElem_cons_succ, List.getElem_cons_zero, Act.put, List.setIfInBounds_toArray, List.set_cons_zero, List.set_cons_succ]
  refine hd_take (v := ?_) 16 rfl (by kernel_rfl) (fun _ _ d _ _ h => (by cases d <;> exact h)) (by kernel_rfl) hS2 (fun w' hS => ?_) ?_
  rotate_left
  focus (clear hS; go_simp; try rfl; done)
  simp only [List.getElem_toArray, List.getElem_cons_succ, List.getElem_cons_zero, Act.put, List.setIfInBounds_toArray, List.set_cons_zero, List.set_cons_succ]
  refine hd_take (v := ?_) 17 rfl (by kernel_rfl) (fun _ _ d _ _ h => (by cases d <;> exact h)) (by kernel_rfl) hS2 (fun w' hS => ?_) ?_
  rotate_left
  focus (clear hS; go_simp; try rfl; done)
  simp only [List.getElem_toArray, List.getElem_cons_succ, List.getElem_cons_zero, Act.put, List.setIfInBounds_toArray, List.set_cons_zero, List.set_cons_succ]
  refine hd_take (v := ?_) 18 rfl (by kernel_rfl) (fun _ _ d _ _ h => (by cases d <;> exact h)) (by kernel_rfl) hS2 (fun w' hS => ?_) ?_
  rotate_left
  focus (clear hS; go_simp; try rfl; done)
  simp only [List.getElem_toArray, List.getElem_cons_succ, List.getElem_cons_zero, Act.put, List.setIfInBounds_toArray, List.set_cons_zero, List.set_cons_succ]
  refine hd_take (v := ?_) 19 rfl (by kernel_rfl) (fun _ _ d _ _ h => (by cases d <;> exact h)) (by kernel_rfl) hS2 (fun w' hS => ?_) ?_
  rotate_left
  focus (clear hS; go_simp; try rfl; done)
  simp only [List.getElem_toArray, List.getElem_cons_succ, List.getElem_cons_zero, Act.put, List.setIfInBounds_toArray, List.set_cons_zero, List.set_cons_succ]
  refine hd_done (by kernel_rfl) ?_
  have H7 := Lib.hid h7'
  clear S3 h3 h4 h4' h5 h5' h6 h6' h7 h7' hS2 HD HM HO HC hbx
  obtain ⟨q1, q2, q3, q4, q5, q6, q7, q8⟩ := bound_arith bd bm bo bc
  obtain ⟨x, hx⟩ : ∃ x, (m + 512) * (o / 32 + 1) = x := ⟨_, rfl⟩
  obtain ⟨y, hy⟩ : ∃ x, 4 * c * (o / 32 + 1) = x := ⟨_, rfl⟩
  rw [hx] at q3 q4 q5 q6
  rw [hy] at q7 q8
  have w1 : IntKind.i64.wrap (64 + d) = 64 + d := IntWalk.i64_in _ (by omega)
  have w2 : IntKind.i64.wrap (64 + d + o) = 64 + d + o := IntWalk.i64_in _ (by omega)
  have w3' : IntKind.i64.wrap (m + 512) = m + 512 := IntWalk.i64_in _ (by omega)
  have w4' : IntKind.i64.wrap (o / 32) = o / 32 := IntWalk.i64_in _ (by omega)
  have w4d : Int.tdiv o 32 = o / 32 := by rw [Int.tdiv_eq_ediv_of_nonneg bo.1]
  have w5' : IntKind.i64.wrap (o / 32 + 1) = o / 32 + 1 := IntWalk.i64_in _ (by omega)
  have w6' : IntKind.i64.wrap ((m + 512) * (o / 32 + 1)) = x := by rw [hx]; exact IntWalk.i64_in _ (by omega)
  have w7' : IntKind.i64.wrap (x / 16) = x / 16 := IntWalk.i64_in _ (by omega)
  have w7d : Int.tdiv x 16 = x / 16 := by rw [Int.tdiv_eq_ediv_of_nonneg q3]
  have w8 : IntKind.i64.wrap (64 + d + o + x / 16) = 64 + d + o + x / 16 := IntWalk.i64_in _ (by omega)
  have w9 : IntKind.i64.wrap (4 * c) = 4 * c := IntWalk.i64_in _ (by omega)
  have w10 : IntKind.i64.wrap (4 * c * (o / 32 + 1)) = y := by rw [hy]; exact IntWalk.i64_in _ (by omega)
  have w11 : IntKind.i64.wrap (64 + d + o + x / 16 + y) = 64 + d + o + x / 16 + y := IntWalk.i64_in _ (by omega)
  have HX := Lib.hid hx
  have HY := Lib.hid hy
  clear hx hy
  go_wp2_with fail
  go_ret
  refine ⟨congrArg (fun z => Ending.returned (.int .i64 z)) ?_, HB.out.trans (H7.out.mono HS.out)⟩
  rw [HT.out, HX.out, HY.out]
end Go.Proofs.Ytkidijjhedjifaa
/- The law CostBounds: each row of runs is framed and at most B events; all of them joined are Runs. -/
namespace Go.Proofs.Ytkidijjhedjifaa
open Go.RowKit
set_option maxRecDepth 100000
set_option linter.unusedVariables false
set_option linter.unusedSimpArgs false
attribute [local go_sem] Oper.semAt_some
/-- what the region of the tests reads -/
structure SBd (b1 o1 m b2 o2 b3 o3 : Nat) (s : Sk) (c : Int) (W : World) : Prop where
  r0 : W.cell? ⟨b1, o1, none⟩ = some (.int .u8 11)
  r1 : W.cell? ⟨b1, o1 + 1, none⟩ = some (.int .i64 s.kind)
  r2 : W.cell? ⟨b1, o1 + 2, none⟩ = some (.int .i64 1)
  e0 : W.cell? ⟨b1, o1 + m * 3, none⟩ = some (.int .u8 12)
  e1 : W.cell? ⟨b1, o1 + m * 3 + 1, none⟩ = some (.int .i64 c)
  e2 : W.cell? ⟨b1, o1 + m * 3 + 2, none⟩ = some (.int .i64 1)
  sk : SkAt W b2 o2 s
  cd : W.cell? ⟨b3, o3, none⟩ = some (.int .i64 c)
section
variable {b1 o1 m b2 o2 b3 o3 : Nat} {s : Sk} {c : Int}
theorem SBd.q0 (W : World) (h : SBd b1 o1 m b2 o2 b3 o3 s c W) : W.cell? ⟨b1, o1, none⟩ = some (.int .u8 11) := h.r0
theorem SBd.q1 (W : World) (h : SBd b1 o1 m b2 o2 b3 o3 s c W) : W.cell? ⟨b1, o1 + 1, none⟩ = some (.int .i64 s.kind) := h.r1
theorem SBd.q2 (W : World) (h : SBd b1 o1 m b2 o2 b3 o3 s c W) : W.cell? ⟨b1, o1 + 2, none⟩ = some (.int .i64 1) := h.r2
theorem SBd.p0 (W : World) (h : SBd b1 o1 m b2 o2 b3 o3 s c W) : W.cell? ⟨b1, o1 + m * 3, none⟩ = some (.int .u8 12) := h.e0
theorem SBd.p1 (W : World) (h : SBd b1 o1 m b2 o2 b3 o3 s c W) : W.cell? ⟨b1, o1 + m * 3 + 1, none⟩ = some (.int .i64 c) := h.e1
theorem SBd.p2 (W : World) (h : SBd b1 o1 m b2 o2 b3 o3 s c W) : W.cell? ⟨b1, o1 + m * 3 + 2, none⟩ = some (.int .i64 1) := h.e2
theorem SBd.k0 (W : World) (h : SBd b1 o1 m b2 o2 b3 o3 s c W) : W.cell? ⟨b2, o2, none⟩ = some (.int .u8 s.kind) := h.sk.c0
theorem SBd.k1 (W : World) (h : SBd b1 o1 m b2 o2 b3 o3 s c W) : W.cell? ⟨b2, o2 + 1, none⟩ = some (.int .i64 s.handle) := h.sk.c1
theorem SBd.k2 (W : World) (h : SBd b1 o1 m b2 o2 b3 o3 s c W) : W.cell? ⟨b2, o2 + 2, none⟩ = some (.int .u8 s.alg) := h.sk.c2
theorem SBd.k3 (W : World) (h : SBd b1 o1 m b2 o2 b3 o3 s c W) : W.cell? ⟨b2, o2 + 3, none⟩ = some (.int .i64 s.count) := h.sk.c3
theorem SBd.k4 (W : World) (h : SBd b1 o1 m b2 o2 b3 o3 s c W) : W.cell? ⟨b2, o2 + 4, none⟩ = some (.int .i64 s.out) := h.sk.c4
theorem SBd.k5 (W : World) (h : SBd b1 o1 m b2 o2 b3 o3 s c W) : W.cell? ⟨b2, o2 + 5, none⟩ = some (.int .i64 s.data) := h.sk.c5
theorem SBd.k6 (W : World) (h : SBd b1 o1 m b2 o2 b3 o3 s c W) : W.cell? ⟨b2, o2 + 6, none⟩ = some (.int .i64 s.more) := h.sk.c6
theorem SBd.cq (W : World) (h : SBd b1 o1 m b2 o2 b3 o3 s c W) : W.cell? ⟨b3, o3, none⟩ = some (.int .i64 c) := h.cd
end
theorem rnCells {w : World} {b off n cap : Nat} {l : List Rn} (h : KN.R w (.slice (some ⟨b, off, none⟩) n cap) l) {k : Nat} {x : Rn} (hx : l[k]? = some x) : w.cell? ⟨b, off + k * 3, none⟩ = some (.int .u8 x.k) ∧ w.cell? ⟨b, off + k * 3 + 1, none⟩ = some (.int .i64 x.s) ∧ w.cell? ⟨b, off + k * 3 + 2, none⟩ = some (.int .i64 x.c) := by
  obtain ⟨b', off', e, _, hc⟩ := Knd.R.get h hx
  injection e with e
  injection e with e1 e2
  subst e1 e2
  have c1 := hc 1 _ rfl
  have c2 := hc 2 _ rfl
  rw [← Nat.add_assoc] at c1 c2
  exact ⟨hc 0 _ rfl, c1, c2⟩
theorem skElem {w : World} {b off n cap : Nat} {l : List Sk} (h : KS.R w (.slice (some ⟨b, off, none⟩) n cap) l) {j : Nat} {s : Sk} (hs : l[j]? = some s) : SkAt w b (off + j * 7) s := by
  obtain ⟨b', off', e, _, hsk⟩ := KS.elem h hs
  injection e with e
  injection e with e1 e2
  subst e1 e2
  exact hsk
theorem cdCell {w : World} {b off n cap : Nat} {l : List Int} (h : KC.R w (.slice (some ⟨b, off, none⟩) n cap) l) {k : Nat} {x : Int} (hx : l[k]? = some x) : w.cell? ⟨b, off + k, none⟩ = some (.int .i64 x) := by
  obtain ⟨b', off', e, _, hc⟩ := Knd.R.get h hx
  injection e with e
  injection e with e1 e2
  subst e1 e2
  have c1 := hc 0 _ rfl
  have c2 : w.cell? ⟨b, off + k * 1, none⟩ = some (.int .i64 x) := c1
  rw [Nat.mul_one] at c2
  exact c2
namespace costBounds
set_option maxHeartbeats 8000000 in
theorem walk (v : Value) (l : List Sk) {w : World} (hin : InSk w v l) :
    Calls Try.prog 6 #[v] w fun e w' => e = .returned (.bool true) ∧ Below w.heap.size w w' := by
  obtain ⟨hv, hok⟩ := hin
  obtain ⟨ao, cap, rfl, hc1, hc2, hc3⟩ := hv.any
  have HV := Lib.hid hv
  have HOK := Lib.hid hok
  clear hv hok
  go_enter Try.func6, Try.ntmps6
  go_wp2_with fail
  refine (awake_any _).mono ?_
  rintro e w1 ⟨rfl, hb⟩
  have HB := Lib.hid hb
  have HV1 := Lib.hid (HV.out.grow hb)
  clear hb HV
  by_cases h300 : 300 < l.length
  · have t3 : decide (300 < (l.length : Int)) = true := by rw [decide_eq_true_eq]; omega
    go_wp2_with fail
    go_ret
    exact ⟨rfl, HB.out⟩
  · have t3 : decide (300 < (l.length : Int)) = false := by rw [decide_eq_false_iff_not]; omega
    go_wp2_with fail
    refine (each_env (Env.start w1) (RdS.old HV1.out) HOK.out (by omega)).mono ?_
    rintro e w2 ⟨u, ts, rfl, hts, h2⟩
    rw [List.nil_append] at h2
    have htl : ts.length = l.length := by
      have := congrArg List.length hts
      rw [List.length_map] at this
      rw [this]
      exact eachTo_len l _
    obtain ⟨uo, uc, rfl, hu1, hu2⟩ := obTR_form h2 0 rfl
    rw [htl] at h2 hu1 ⊢
    have H2 := Lib.hid h2
    have HT := Lib.hid (And.intro hts htl)
    clear h2 hts htl
    go_wp2_with fail
    refine (codes_env H2.out (RdS.old HV1.out) HOK.out (by omega)).mono ?_
    rintro e w4 ⟨c, rfl, h4⟩
    have h4 : Env w1 w4 [obTR (.slice uo l.length uc) ts, KC.ob c (codesL l)] := h4
    obtain ⟨co, cc, hce, hcc1, hcc2, _⟩ := (h4.kR 1 (v := c) (l := codesL l) rfl).any
    have hcl : (codesL l).length = l.length := codesTo_len _ _
    subst hce
    rw [hcl] at h4 hcc1 ⊢
    have h5 : Env w1 w4 [obTR (.slice uo l.length uc) ts, KC.ob (.slice co l.length cc) (codesL l), KN.ob (.slice none 0 0) (allTo l 0)] := h4.pushNil KN
    have H5 := Lib.hid h5
    clear h4 hcl H2 h5
    go_wp2_with fail
    go_loopw [6, 7] (fun mv iv wx => ∃ j : Nat, j ≤ l.length ∧ iv = .int .i64 (j : Int) ∧ Hid (Env w1 wx [obTR (.slice uo l.length uc) ts, KC.ob (.slice co l.length cc) (codesL l), KN.ob mv (allTo l j)])) (fun _ iv _ => l.length - (intOf iv).toNat)
    case atStart => exact ⟨0, Nat.zero_le _, rfl, H5⟩
    case round =>
      obtain ⟨j, hj, rfl, HK⟩ := hrel
      clear H5
      by_cases hlt : j < l.length
      · obtain ⟨s, hs⟩ : ∃ s, l[j]? = some s := ⟨_, List.getElem?_eq_getElem hlt⟩
        have t4 : decide ((j : Int) < (l.length : Int)) = true := by rw [decide_eq_true_eq]; omega
        have bj : 0 ≤ (j : Int) ∧ (j : Int) < (l.length : Int) := by omega
        obtain ⟨⟨rv, r⟩, hr⟩ : ∃ y, ts[j]? = some y := ⟨_, List.getElem?_eq_getElem (by rw [HT.out.2]; omega)⟩
        have hbr := bnd_row l hs (by omega)
        have hrr : r = runsD (stTo l j) s := by
          have e1 := congrArg (fun z => z[j]?) HT.out.1
          simp only [List.getElem?_map, hr, Option.map_some] at e1
          rw [hbr.at1] at e1
          injection e1
        rw [← hrr] at hbr
        obtain ⟨C, hC⟩ : ∃ y, codeD (stTo l j) s = y := ⟨_, rfl⟩
        have hfl := hbr.fr.len
        have hoff := hbr.fr.off
        have hat := hbr.at2
        rw [hC] at hfl hoff hat
        have HBR := Lib.hid hbr
        have hskok := HOK.out s (List.mem_of_getElem? hs)
        have hkw : IntKind.i64.wrap s.kind = s.kind := by have := hskok.hk; unfold okU at this; exact IntWalk.i64_in _ (by omega)
        obtain ⟨g, c1, q1, _, _⟩ := obTR_slice HK.out 0 rfl (by rw [HT.out.2]; omega)
        injection q1 with q1 q1b q1c
        subst q1
        clear q1b q1c
        have hR0 := obTR_get HK.out 0 rfl hr
        obtain ⟨ro, rc, rfl, hrl1, hrl2, _⟩ := hR0.any
        obtain ⟨b1, o1, hro, hb1, _⟩ := Knd.R.get hR0 hfl.2.1
        subst hro
        obtain ⟨b2, o2, hao, hb2, _⟩ := KS.elem (HV1.out) hs
        subst hao
        obtain ⟨b3, o3, hco, hb3, _⟩ := Knd.R.get (HK.out.kR 1 (v := .slice co l.length cc) (l := codesL l) rfl) hat
        subst hco
        obtain ⟨m, hm⟩ : ∃ m, r.length = m + 1 := ⟨r.length - 1, by have := hfl.1; omega⟩
        have hm2 : r.length - 1 = m := by omega
        rw [hm2] at hfl
        obtain ⟨n, hn⟩ : ∃ n, r.length = n := ⟨_, rfl⟩
        have hnm : n = m + 1 := by omega
        rw [hn] at hrl1 hR0 hoff
        have hn2 : 2 ≤ n := by omega
        have hn3 : n ≤ 5 := by have := hbr.rl; omega
        have hS : Hid (∀ W, Env w1 W [obTR (.slice (some ⟨g, 0, none⟩) l.length uc) ts, KC.ob (.slice (some ⟨b3, o3, none⟩) l.length cc) (codesL l), KN.ob u6 (allTo l j)] → SBd b1 o1 m b2 (o2 + j * 7) b3 (o3 + j) s C W ∧ KN.R W (.slice (some ⟨b1, o1, none⟩) n rc) r) := Lib.hid fun W hW => by
          have hR := obTR_get hW 0 rfl hr
          rw [hn] at hR
          have f := rnCells hR hfl.2.1
          have g := rnCells hR hfl.2.2
          simp only [Nat.zero_mul, Nat.add_zero] at f
          exact ⟨⟨f.1, f.2.1, f.2.2, g.1, g.2.1, g.2.2, skElem (hW.oldK HV1.out) hs, cdCell (hW.kR 1 (l := codesL l) rfl) hat⟩, hR⟩
        have hd : Hid (∀ W, Env w1 W [obTR (.slice (some ⟨g, 0, none⟩) l.length uc) ts, KC.ob (.slice (some ⟨b3, o3, none⟩) l.length cc) (codesL l), KN.ob u6 (allTo l j)] → W.cell? ⟨g, j, none⟩ = some (.slice (some ⟨b1, o1, none⟩) n rc)) := Lib.hid fun W hW => by
          have := obTR_cell hW 0 rfl hr
          rw [hn] at this
          exact this
        have d0 := hd.out _ HK.out
        have hcode : C = 0 ∨ (C ≠ 0 ∧ n = 2) := by
          by_cases e : C = 0
          · exact .inl e
          · exact .inr ⟨e, hoff e⟩
        have HC := Lib.hid hcode
        clear hr hs hfl hoff hat hm hm2 hn hC hrr hbr hskok hR0 hcode
        have tn : decide ((n : Int) < 2) = false := by rw [decide_eq_false_iff_not]; omega
        have n0 : 0 < n := by omega
        have n0i : (0 : Int) < (n : Int) := by omega
        have b0 : 0 ≤ (0 : Int) ∧ (0 : Int) < (n : Int) := by omega
        have hwm : IntKind.i64.wrap ((n : Int) - 1) = (m : Int) := by rw [IntWalk.i64_in _ (by omega)]; omega
        have hmn : m < n := by omega
        have bm : 0 ≤ (m : Int) ∧ (m : Int) < (n : Int) := by omega
        clear hnm
        go_upto_region 14 with fail
        clear d0
        refine hd_start (SBd b1 o1 m b2 (o2 + j * 7) b3 (o3 + j) s C) (by kernel_rfl) ?_
        intro w7 hw'
        have H7 := Lib.hid (HK.out.draw 1)
        rw [← hw'] at H7
        clear hw' HK
        have S7 := (hS.out _ H7.out).1
        refine hd_take (v := ?_) 0 rfl (by kernel_rfl) (fun _ _ d _ _ h => (by cases d <;> exact h)) (by kernel_rfl) S7 (fun w' hS => ?_) ?_
        rotate_left
        focus (clear hS; go_simp; try rfl; done)
        simp only [List.getElem_toArray, List.getElem_cons_succ, List.getElem_cons_zero, Act.put, List.setIfInBounds_toArray, List.set_cons_zero, List.set_cons_succ]
        refine hd_take (v := ?_) 1 rfl (by kernel_rfl) (fun _ _ d _ _ h => (by cases d <;> exact h)) (by kernel_rfl) S7 (fun w' hS => ?_) ?_
        rotate_left
        focus (clear hS; go_simp; try rfl; done)
        simp only [List.getElem_toArray, List.getElem_cons_succ, List.getElem_cons_zero, Act.put, List.setIfInBounds_toArray, List.set_cons_zero, List.set_cons_succ]
        refine hd_take (v := ?_) 2 rfl (by kernel_rfl) (fun _ _ d _ _ h => (by cases d <;> exact h)) (by kernel_rfl) S7 (fun w' hS => ?_) ?_
        rotate_left
        focus (clear hS; go_simp; try rfl; done)
        simp only [List.getElem_toArray, List.getElem_cons_succ, List.getElem_cons_zero, Act.put, List.setIfInBounds_toArray, List.set_cons_zero, List.set_cons_succ]
        refine hd_take (v := ?_) 3 rfl (by kernel_rfl) (fun _ _ d _ _ h => (by cases d <;> exact h)) (by kernel_rfl) S7 (fun w' hS => ?_) ?_
        rotate_left
        focus (clear hS; go_simp; try rfl; done)
        simp only [List.getElem_toArray, List.getElem_cons_succ, List.getElem_cons_zero, Act.put, List.setIfInBounds_toArray, List.set_cons_zero, List.set_cons_succ]
        refine hd_one 4 (by kernel_rfl) ?_
        refine op_call rfl (by kernel_rfl) (by go_simp; first | exact ⟨rfl, rfl⟩ | rfl) ?_
        refine (check_any _ r w7 (hS.out _ H7.out).2).mono ?_
        rintro e w8 ⟨rfl, h8⟩
        rw [HBR.out.chk]
        have H8 := Lib.hid (H7.out.below h8)
        have hS2 := (hS.out _ H8.out).1
        have S8 := hS2
        clear h8
        refine ⟨_, rfl, hS2, ?_⟩
        simp only [List.getElem_toArray, List.getElem_cons_succ, List.getElem_cons_zero, Act.put, List.setIfInBounds_toArray, List.set_cons_zero, List.set_cons_succ]
        refine hd_take (v := ?_) 5 rfl (by kernel_rfl) (fun _ _ d _ _ h => (by cases d <;> exact h)) (by kernel_rfl) S8 (fun w' hS => ?_) ?_
        rotate_left
        focus (have q0 := SBd.q0 w' hS; have q1 := SBd.q1 w' hS; have q2 := SBd.q2 w' hS; have q3 := SBd.p0 w' hS; have q4 := SBd.p1 w' hS; have q5 := SBd.p2 w' hS; have q6 := SBd.k0 w' hS; have q7 := SBd.cq w' hS; clear hS; go_simp; try rfl; done)
        simp only [List.getElem_toArray, List.getElem_cons_succ, List.getElem_cons_zero, Act.put, List.setIfInBounds_toArray, List.set_cons_zero, List.set_cons_succ]
        refine hd_take (v := ?_) 6 rfl (by kernel_rfl) (fun _ _ d _ _ h => (by cases d <;> exact h)) (by kernel_rfl) S8 (fun w' hS => ?_) ?_
        rotate_left
        focus (have q0 := SBd.q0 w' hS; have q1 := SBd.q1 w' hS; have q2 := SBd.q2 w' hS; have q3 := SBd.p0 w' hS; have q4 := SBd.p1 w' hS; have q5 := SBd.p2 w' hS; have q6 := SBd.k0 w' hS; have q7 := SBd.cq w' hS; clear hS; go_simp; try rfl; done)
        simp only [List.getElem_toArray, List.getElem_cons_succ, List.getElem_cons_zero, Act.put, List.setIfInBounds_toArray, List.set_cons_zero, List.set_cons_succ]
        refine hd_take (v := ?_) 7 rfl (by kernel_rfl) (fun _ _ d _ _ h => (by cases d <;> exact h)) (by kernel_rfl) S8 (fun w' hS => ?_) ?_
        rotate_left
        focus (have q0 := SBd.q0 w' hS; have q1 := SBd.q1 w' hS; have q2 := SBd.q2 w' hS; have q3 := SBd.p0 w' hS; have q4 := SBd.p1 w' hS; have q5 := SBd.p2 w' hS; have q6 := SBd.k0 w' hS; have q7 := SBd.cq w' hS; clear hS; go_simp; try rfl; done)
        simp only [List.getElem_toArray, List.getElem_cons_succ, List.getElem_cons_zero, Act.put, List.setIfInBounds_toArray, List.set_cons_zero, List.set_cons_succ]
        refine hd_take (v := ?_) 8 rfl (by kernel_rfl) (fun _ _ d _ _ h => (by cases d <;> exact h)) (by kernel_rfl) S8 (fun w' hS => ?_) ?_
        rotate_left
        focus (have q0 := SBd.q0 w' hS; have q1 := SBd.q1 w' hS; have q2 := SBd.q2 w' hS; have q3 := SBd.p0 w' hS; have q4 := SBd.p1 w' hS; have q5 := SBd.p2 w' hS; have q6 := SBd.k0 w' hS; have q7 := SBd.cq w' hS; clear hS; go_simp; try rfl; done)
        simp only [List.getElem_toArray, List.getElem_cons_succ, List.getElem_cons_zero, Act.put, List.setIfInBounds_toArray, List.set_cons_zero, List.set_cons_succ]
        refine hd_take (v := ?_) 9 rfl (by kernel_rfl) (fun _ _ d _ _ h => (by cases d <;> exact h)) (by kernel_rfl) S8 (fun w' hS => ?_) ?_
        rotate_left
        focus (have q0 := SBd.q0 w' hS; have q1 := SBd.q1 w' hS; have q2 := SBd.q2 w' hS; have q3 := SBd.p0 w' hS; have q4 := SBd.p1 w' hS; have q5 := SBd.p2 w' hS; have q6 := SBd.k0 w' hS; have q7 := SBd.cq w' hS; clear hS; go_simp; try rfl; done)
        simp only [List.getElem_toArray, List.getElem_cons_succ, List.getElem_cons_zero, Act.put, List.setIfInBounds_toArray, List.set_cons_zero, List.set_cons_succ]
        refine hd_take (v := ?_) 10 rfl (by kernel_rfl) (fun _ _ d _ _ h => (by cases d <;> exact h)) (by kernel_rfl) S8 (fun w' hS => ?_) ?_
        rotate_left
        focus (have q0 := SBd.q0 w' hS; have q1 := SBd.q1 w' hS; have q2 := SBd.q2 w' hS; have q3 := SBd.p0 w' hS; have q4 := SBd.p1 w' hS; have q5 := SBd.p2 w' hS; have q6 := SBd.k0 w' hS; have q7 := SBd.cq w' hS; clear hS; go_simp; try rfl; done)
        simp only [List.getElem_toArray, List.getElem_cons_succ, List.getElem_cons_zero, Act.put, List.setIfInBounds_toArray, List.set_cons_zero, List.set_cons_succ]
        refine hd_take (v := ?_) 11 rfl (by kernel_rfl) (fun _ _ d _ _ h => (by cases d <;> exact h)) (by kernel_rfl) S8 (fun w' hS => ?_) ?_
        rotate_left
        focus (have q0 := SBd.q0 w' hS; have q1 := SBd.q1 w' hS; have q2 := SBd.q2 w' hS; have q3 := SBd.p0 w' hS; have q4 := SBd.p1 w' hS; have q5 := SBd.p2 w' hS; have q6 := SBd.k0 w' hS; have q7 := SBd.cq w' hS; clear hS; go_simp; try rfl; done)
        simp only [List.getElem_toArray, List.getElem_cons_succ, List.getElem_cons_zero, Act.put, List.setIfInBounds_toArray, List.set_cons_zero, List.set_cons_succ]
        refine hd_take (v := ?_) 12 rfl (by kernel_rfl) (fun _ _ d _ _ h => (by cases d <;> exact h)) (by kernel_rfl) S8 (fun w' hS => ?_) ?_
        rotate_left
        focus (have q0 := SBd.q0 w' hS; have q1 := SBd.q1 w' hS; have q2 := SBd.q2 w' hS; have q3 := SBd.p0 w' hS; have q4 := SBd.p1 w' hS; have q5 := SBd.p2 w' hS; have q6 := SBd.k0 w' hS; have q7 := SBd.cq w' hS; clear hS; go_simp; try rfl; done)
        simp only [List.getElem_toArray, List.getElem_cons_succ, List.getElem_cons_zero, Act.put, List.setIfInBounds_toArray, List.set_cons_zero, List.set_cons_succ]
        refine hd_take (v := ?_) 13 rfl (by kernel_rfl) (fun _ _ d _ _ h => (by cases d <;> exact h)) (by kernel_rfl) S8 (fun w' hS => ?_) ?_
        rotate_left
        focus (have q0 := SBd.q0 w' hS; have q1 := SBd.q1 w' hS; have q2 := SBd.q2 w' hS; have q3 := SBd.p0 w' hS; have q4 := SBd.p1 w' hS; have q5 := SBd.p2 w' hS; have q6 := SBd.k0 w' hS; have q7 := SBd.cq w' hS; clear hS; go_simp; try rfl; done)
        simp only [List.getElem_toArray, List.getElem_cons_succ, List.getElem_cons_zero, Act.put, List.setIfInBounds_toArray, List.set_cons_zero, List.set_cons_succ]
        refine hd_take (v := ?_) 14 rfl (by kernel_rfl) (fun _ _ d _ _ h => (by cases d <;> exact h)) (by kernel_rfl) S8 (fun w' hS => ?_) ?_
        rotate_left
        focus (have q0 := SBd.q0 w' hS; have q1 := SBd.q1 w' hS; have q2 := SBd.q2 w' hS; have q3 := SBd.p0 w' hS; have q4 := SBd.p1 w' hS; have q5 := SBd.p2 w' hS; have q6 := SBd.k0 w' hS; have q7 := SBd.cq w' hS; clear hS; go_simp; try rfl; done)
        simp only [List.getElem_toArray, List.getElem_cons_succ, List.getElem_cons_zero, Act.put, List.setIfInBounds_toArray, List.set_cons_zero, List.set_cons_succ]
        refine hd_take (v := ?_) 15 rfl (by kernel_rfl) (fun _ _ d _ _ h => (by cases d <;> exact h)) (by kernel_rfl) S8 (fun w' hS => ?_) ?_
        rotate_left
        focus (have q0 := SBd.q0 w' hS; have q1 := SBd.q1 w' hS; have q2 := SBd.q2 w' hS; have q3 := SBd.p0 w' hS; have q4 := SBd.p1 w' hS; have q5 := SBd.p2 w' hS; have q6 := SBd.k0 w' hS; have q7 := SBd.cq w' hS; clear hS; go_simp; try rfl; done)
        simp only [List.getElem_toArray, List.getElem_cons_succ, List.getElem_cons_zero, Act.put, List.setIfInBounds_toArray, List.set_cons_zero, List.set_cons_succ]
        refine hd_take (v := ?_) 16 rfl (by kernel_rfl) (fun _ _ d _ _ h => (by cases d <;> exact h)) (by kernel_rfl) S8 (fun w' hS => ?_) ?_
        rotate_left
        focus (have q0 := SBd.q0 w' hS; have q1 := SBd.q1 w' hS; have q2 := SBd.q2 w' hS; have q3 := SBd.p0 w' hS; have q4 := SBd.p1 w' hS; have q5 := SBd.p2 w' hS; have q6 := SBd.k0 w' hS; have q7 := SBd.cq w' hS; clear hS; go_simp; try rfl; done)
        simp only [List.getElem_toArray, List.getElem_cons_succ, List.getElem_cons_zero, Act.put, List.setIfInBounds_toArray, List.set_cons_zero, List.set_cons_succ]
        refine hd_one 17 (by kernel_rfl) ?_
        refine op_call rfl (by kernel_rfl) (by go_simp; first | exact ⟨rfl, rfl⟩ | rfl) ?_
        refine (event22_any 11 s.kind 1 w8).mono ?_
        rintro e w9 ⟨rfl, h9⟩
        have H9 := Lib.hid (H8.out.below h9)
        have hS2 := (hS.out _ H9.out).1
        have S9 := hS2
        clear h9
        refine ⟨_, rfl, hS2, ?_⟩
        simp only [List.getElem_toArray, List.getElem_cons_succ, List.getElem_cons_zero, Act.put, List.setIfInBounds_toArray, List.set_cons_zero, List.set_cons_succ]
        refine hd_take (v := ?_) 18 rfl (by kernel_rfl) (fun _ _ d _ _ h => (by cases d <;> exact h)) (by kernel_rfl) S9 (fun w' hS => ?_) ?_
        rotate_left
        focus (have q0 := SBd.q0 w' hS; have q1 := SBd.q1 w' hS; have q2 := SBd.q2 w' hS; have q3 := SBd.p0 w' hS; have q4 := SBd.p1 w' hS; have q5 := SBd.p2 w' hS; have q6 := SBd.k0 w' hS; have q7 := SBd.cq w' hS; clear hS; go_simp; try rfl; done)
        simp only [List.getElem_toArray, List.getElem_cons_succ, List.getElem_cons_zero, Act.put, List.setIfInBounds_toArray, List.set_cons_zero, List.set_cons_succ]
        refine hd_take (v := ?_) 19 rfl (by kernel_rfl) (fun _ _ d _ _ h => (by cases d <;> exact h)) (by kernel_rfl) S9 (fun w' hS => ?_) ?_
        rotate_left
        focus (have q0 := SBd.q0 w' hS; have q1 := SBd.q1 w' hS; have q2 := SBd.q2 w' hS; have q3 := SBd.p0 w' hS; have q4 := SBd.p1 w' hS; have q5 := SBd.p2 w' hS; have q6 := SBd.k0 w' hS; have q7 := SBd.cq w' hS; clear hS; go_simp; try rfl; done)
        simp only [List.getElem_toArray, List.getElem_cons_succ, List.getElem_cons_zero, Act.put, List.setIfInBounds_toArray, List.set_cons_zero, List.set_cons_succ]
        refine hd_take (v := ?_) 20 rfl (by kernel_rfl) (fun _ _ d _ _ h => (by cases d <;> exact h)) (by kernel_rfl) S9 (fun w' hS => ?_) ?_
        rotate_left
        focus (have q0 := SBd.q0 w' hS; have q1 := SBd.q1 w' hS; have q2 := SBd.q2 w' hS; have q3 := SBd.p0 w' hS; have q4 := SBd.p1 w' hS; have q5 := SBd.p2 w' hS; have q6 := SBd.k0 w' hS; have q7 := SBd.cq w' hS; clear hS; go_simp; try rfl; done)
        simp only [List.getElem_toArray, List.getElem_cons_succ, List.getElem_cons_zero, Act.put, List.setIfInBounds_toArray, List.set_cons_zero, List.set_cons_succ]
        refine hd_take (v := ?_) 21 rfl (by kernel_rfl) (fun _ _ d _ _ h => (by cases d <;> exact h)) (by kernel_rfl) S9 (fun w' hS => ?_) ?_
        rotate_left
        focus (have q0 := SBd.q0 w' hS; have q1 := SBd.q1 w' hS; have q2 := SBd.q2 w' hS; have q3 := SBd.p0 w' hS; have q4 := SBd.p1 w' hS; have q5 := SBd.p2 w' hS; have q6 := SBd.k0 w' hS; have q7 := SBd.cq w' hS; clear hS; go_simp; try rfl; done)
        simp only [List.getElem_toArray, List.getElem_cons_succ, List.getElem_cons_zero, Act.put, List.setIfInBounds_toArray, List.set_cons_zero, List.set_cons_succ]
        refine hd_take (v := ?_) 22 rfl (by kernel_rfl) (fun _ _ d _ _ h => (by cases d <;> exact h)) (by kernel_rfl) S9 (fun w' hS => ?_) ?_
        rotate_left
        focus (have q0 := SBd.q0 w' hS; have q1 := SBd.q1 w' hS; have q2 := SBd.q2 w' hS; have q3 := SBd.p0 w' hS; have q4 := SBd.p1 w' hS; have q5 := SBd.p2 w' hS; have q6 := SBd.k0 w' hS; have q7 := SBd.cq w' hS; clear hS; go_simp; try rfl; done)
        simp only [List.getElem_toArray, List.getElem_cons_succ, List.getElem_cons_zero, Act.put, List.setIfInBounds_toArray, List.set_cons_zero, List.set_cons_succ]
        refine hd_take (v := ?_) 23 rfl (by kernel_rfl) (fun _ _ d _ _ h => (by cases d <;> exact h)) (by kernel_rfl) S9 (fun w' hS => ?_) ?_
        rotate_left
        focus (have q0 := SBd.q0 w' hS; have q1 := SBd.q1 w' hS; have q2 := SBd.q2 w' hS; have q3 := SBd.p0 w' hS; have q4 := SBd.p1 w' hS; have q5 := SBd.p2 w' hS; have q6 := SBd.k0 w' hS; have q7 := SBd.cq w' hS; clear hS; go_simp; try rfl; done)
        simp only [List.getElem_toArray, List.getElem_cons_succ, List.getElem_cons_zero, Act.put, List.setIfInBounds_toArray, List.set_cons_zero, List.set_cons_succ]
        refine hd_take (v := ?_) 24 rfl (by kernel_rfl) (fun _ _ d _ _ h => (by cases d <;> exact h)) (by kernel_rfl) S9 (fun w' hS => ?_) ?_
        rotate_left
        focus (have q0 := SBd.q0 w' hS; have q1 := SBd.q1 w' hS; have q2 := SBd.q2 w' hS; have q3 := SBd.p0 w' hS; have q4 := SBd.p1 w' hS; have q5 := SBd.p2 w' hS; have q6 := SBd.k0 w' hS; have q7 := SBd.cq w' hS; clear hS; go_simp; try rfl; done)
        simp only [List.getElem_toArray, List.getElem_cons_succ, List.getElem_cons_zero, Act.put, List.setIfInBounds_toArray, List.set_cons_zero, List.set_cons_succ]
        refine hd_take (v := ?_) 25 rfl (by kernel_rfl) (fun _ _ d _ _ h => (by cases d <;> exact h)) (by kernel_rfl) S9 (fun w' hS => ?_) ?_
        rotate_left
        focus (have q0 := SBd.q0 w' hS; have q1 := SBd.q1 w' hS; have q2 := SBd.q2 w' hS; have q3 := SBd.p0 w' hS; have q4 := SBd.p1 w' hS; have q5 := SBd.p2 w' hS; have q6 := SBd.k0 w' hS; have q7 := SBd.cq w' hS; clear hS; go_simp; try rfl; done)
        simp only [List.getElem_toArray, List.getElem_cons_succ, List.getElem_cons_zero, Act.put, List.setIfInBounds_toArray, List.set_cons_zero, List.set_cons_succ]
        refine hd_take (v := ?_) 26 rfl (by kernel_rfl) (fun _ _ d _ _ h => (by cases d <;> exact h)) (by kernel_rfl) S9 (fun w' hS => ?_) ?_
        rotate_left
        focus (have q0 := SBd.q0 w' hS; have q1 := SBd.q1 w' hS; have q2 := SBd.q2 w' hS; have q3 := SBd.p0 w' hS; have q4 := SBd.p1 w' hS; have q5 := SBd.p2 w' hS; have q6 := SBd.k0 w' hS; have q7 := SBd.cq w' hS; clear hS; go_simp; try rfl; done)
        simp only [List.getElem_toArray, List.getElem_cons_succ, List.getElem_cons_zero, Act.put, List.setIfInBounds_toArray, List.set_cons_zero, List.set_cons_succ]
        refine hd_take (v := ?_) 27 rfl (by kernel_rfl) (fun _ _ d _ _ h => (by cases d <;> exact h)) (by kernel_rfl) S9 (fun w' hS => ?_) ?_
        rotate_left
        focus (have q0 := SBd.q0 w' hS; have q1 := SBd.q1 w' hS; have q2 := SBd.q2 w' hS; have q3 := SBd.p0 w' hS; have q4 := SBd.p1 w' hS; have q5 := SBd.p2 w' hS; have q6 := SBd.k0 w' hS; have q7 := SBd.cq w' hS; clear hS; go_simp; try rfl; done)
        simp only [List.getElem_toArray, List.getElem_cons_succ, List.getElem_cons_zero, Act.put, List.setIfInBounds_toArray, List.set_cons_zero, List.set_cons_succ]
        refine hd_take (v := ?_) 28 rfl (by kernel_rfl) (fun _ _ d _ _ h => (by cases d <;> exact h)) (by kernel_rfl) S9 (fun w' hS => ?_) ?_
        rotate_left
        focus (have q0 := SBd.q0 w' hS; have q1 := SBd.q1 w' hS; have q2 := SBd.q2 w' hS; have q3 := SBd.p0 w' hS; have q4 := SBd.p1 w' hS; have q5 := SBd.p2 w' hS; have q6 := SBd.k0 w' hS; have q7 := SBd.cq w' hS; clear hS; go_simp; try rfl; done)
        simp only [List.getElem_toArray, List.getElem_cons_succ, List.getElem_cons_zero, Act.put, List.setIfInBounds_toArray, List.set_cons_zero, List.set_cons_succ]
        refine hd_take (v := ?_) 29 rfl (by kernel_rfl) (fun _ _ d _ _ h => (by cases d <;> exact h)) (by kernel_rfl) S9 (fun w' hS => ?_) ?_
        rotate_left
        focus (have q0 := SBd.q0 w' hS; have q1 := SBd.q1 w' hS; have q2 := SBd.q2 w' hS; have q3 := SBd.p0 w' hS; have q4 := SBd.p1 w' hS; have q5 := SBd.p2 w' hS; have q6 := SBd.k0 w' hS; have q7 := SBd.cq w' hS; clear hS; go_simp; try rfl; done)
        simp only [List.getElem_toArray, List.getElem_cons_succ, List.getElem_cons_zero, Act.put, List.setIfInBounds_toArray, List.set_cons_zero, List.set_cons_succ]
        refine hd_one 30 (by kernel_rfl) ?_
        refine op_call rfl (by kernel_rfl) (by go_simp; first | exact ⟨rfl, rfl⟩ | rfl) ?_
        refine (event22_any 12 C 1 w9).mono ?_
        rintro e w10 ⟨rfl, h10⟩
        have H10 := Lib.hid (H9.out.below h10)
        have hS2 := (hS.out _ H10.out).1
        have S10 := hS2
        clear h10
        refine ⟨_, rfl, hS2, ?_⟩
        simp only [List.getElem_toArray, List.getElem_cons_succ, List.getElem_cons_zero, Act.put, List.setIfInBounds_toArray, List.set_cons_zero, List.set_cons_succ]
        refine hd_take (v := ?_) 31 rfl (by kernel_rfl) (fun _ _ d _ _ h => (by cases d <;> exact h)) (by kernel_rfl) S10 (fun w' hS => ?_) ?_
        rotate_left
        focus (have q0 := SBd.k0 w' hS; have q1 := SBd.k1 w' hS; have q2 := SBd.k2 w' hS; have q3 := SBd.k3 w' hS; have q4 := SBd.k4 w' hS; have q5 := SBd.k5 w' hS; have q6 := SBd.k6 w' hS; clear hS; go_simp; try rfl; done)
        simp only [List.getElem_toArray, List.getElem_cons_succ, List.getElem_cons_zero, Act.put, List.setIfInBounds_toArray, List.set_cons_zero, List.set_cons_succ]
        refine hd_take (v := ?_) 32 rfl (by kernel_rfl) (fun _ _ d _ _ h => (by cases d <;> exact h)) (by kernel_rfl) S10 (fun w' hS => ?_) ?_
        rotate_left
        focus (have q0 := SBd.k0 w' hS; have q1 := SBd.k1 w' hS; have q2 := SBd.k2 w' hS; have q3 := SBd.k3 w' hS; have q4 := SBd.k4 w' hS; have q5 := SBd.k5 w' hS; have q6 := SBd.k6 w' hS; clear hS; go_simp; try rfl; done)
        simp only [List.getElem_toArray, List.getElem_cons_succ, List.getElem_cons_zero, Act.put, List.setIfInBounds_toArray, List.set_cons_zero, List.set_cons_succ]
        refine hd_take (v := ?_) 33 rfl (by kernel_rfl) (fun _ _ d _ _ h => (by cases d <;> exact h)) (by kernel_rfl) S10 (fun w' hS => ?_) ?_
        rotate_left
        focus (have q0 := SBd.k0 w' hS; have q1 := SBd.k1 w' hS; have q2 := SBd.k2 w' hS; have q3 := SBd.k3 w' hS; have q4 := SBd.k4 w' hS; have q5 := SBd.k5 w' hS; have q6 := SBd.k6 w' hS; clear hS; go_simp; try rfl; done)
        simp only [List.getElem_toArray, List.getElem_cons_succ, List.getElem_cons_zero, Act.put, List.setIfInBounds_toArray, List.set_cons_zero, List.set_cons_succ]
        refine hd_take (v := ?_) 34 rfl (by kernel_rfl) (fun _ _ d _ _ h => (by cases d <;> exact h)) (by kernel_rfl) S10 (fun w' hS => ?_) ?_
        rotate_left
        focus (have q0 := SBd.k0 w' hS; have q1 := SBd.k1 w' hS; have q2 := SBd.k2 w' hS; have q3 := SBd.k3 w' hS; have q4 := SBd.k4 w' hS; have q5 := SBd.k5 w' hS; have q6 := SBd.k6 w' hS; clear hS; go_simp; try rfl; done)
        simp only [List.getElem_toArray, List.getElem_cons_succ, List.getElem_cons_zero, Act.put, List.setIfInBounds_toArray, List.set_cons_zero, List.set_cons_succ]
        refine hd_take (v := ?_) 36 rfl (by kernel_rfl) (fun _ _ d _ _ h => (by cases d <;> exact h)) (by kernel_rfl) S10 (fun w' hS => ?_) ?_
        rotate_left
        focus (have q0 := SBd.k0 w' hS; have q1 := SBd.k1 w' hS; have q2 := SBd.k2 w' hS; have q3 := SBd.k3 w' hS; have q4 := SBd.k4 w' hS; have q5 := SBd.k5 w' hS; have q6 := SBd.k6 w' hS; clear hS; go_simp; try rfl; done)
        simp only [List.getElem_toArray, List.getElem_cons_succ, List.getElem_cons_zero, Act.put, List.setIfInBounds_toArray, List.set_cons_zero, List.set_cons_succ]
        refine hd_take (v := ?_) 37 rfl (by kernel_rfl) (fun _ _ d _ _ h => (by cases d <;> exact h)) (by kernel_rfl) S10 (fun w' hS => ?_) ?_
        rotate_left
        focus (have q0 := SBd.k0 w' hS; have q1 := SBd.k1 w' hS; have q2 := SBd.k2 w' hS; have q3 := SBd.k3 w' hS; have q4 := SBd.k4 w' hS; have q5 := SBd.k5 w' hS; have q6 := SBd.k6 w' hS; clear hS; go_simp; try rfl; done)
        simp only [List.getElem_toArray, List.getElem_cons_succ, List.getElem_cons_zero, Act.put, List.setIfInBounds_toArray, List.set_cons_zero, List.set_cons_succ]
        refine hd_take (v := ?_) 38 rfl (by kernel_rfl) (fun _ _ d _ _ h => (by cases d <;> exact h)) (by kernel_rfl) S10 (fun w' hS => ?_) ?_
        rotate_left
        focus (have q0 := SBd.k0 w' hS; have q1 := SBd.k1 w' hS; have q2 := SBd.k2 w' hS; have q3 := SBd.k3 w' hS; have q4 := SBd.k4 w' hS; have q5 := SBd.k5 w' hS; have q6 := SBd.k6 w' hS; clear hS; go_simp; try rfl; done)
        simp only [List.getElem_toArray, List.getElem_cons_succ, List.getElem_cons_zero, Act.put, List.setIfInBounds_toArray, List.set_cons_zero, List.set_cons_succ]
        refine hd_take (v := ?_) 39 rfl (by kernel_rfl) (fun _ _ d _ _ h => (by cases d <;> exact h)) (by kernel_rfl) S10 (fun w' hS => ?_) ?_
        rotate_left
        focus (have q0 := SBd.k0 w' hS; have q1 := SBd.k1 w' hS; have q2 := SBd.k2 w' hS; have q3 := SBd.k3 w' hS; have q4 := SBd.k4 w' hS; have q5 := SBd.k5 w' hS; have q6 := SBd.k6 w' hS; clear hS; go_simp; try rfl; done)
        simp only [List.getElem_toArray, List.getElem_cons_succ, List.getElem_cons_zero, Act.put, List.setIfInBounds_toArray, List.set_cons_zero, List.set_cons_succ]
        refine hd_one 35 (by kernel_rfl) ?_
        refine op_call rfl (by kernel_rfl) (by go_simp; first | exact ⟨rfl, rfl⟩ | rfl) ?_
        refine (total_any _ r w10 (hS.out _ H10.out).2 HBR.out.okr).mono ?_
        rintro e w11 ⟨rfl, h11⟩
        have H11 := Lib.hid (H10.out.below h11)
        have hS2 := (hS.out _ H11.out).1
        have S11 := hS2
        clear h11
        refine ⟨_, rfl, hS2, ?_⟩
        simp only [List.getElem_toArray, List.getElem_cons_succ, List.getElem_cons_zero, Act.put, List.setIfInBounds_toArray, List.set_cons_zero, List.set_cons_succ]
        refine hd_one 40 (by kernel_rfl) ?_
        refine op_call rfl (by kernel_rfl) (by go_simp; first | exact ⟨rfl, rfl⟩ | rfl) ?_
        refine (boundF_any s w11).mono ?_
        rintro e w12 ⟨rfl, h12⟩
        have H12 := Lib.hid (H11.out.below h12)
        have hS2 := (hS.out _ H12.out).1
        have S12 := hS2
        clear h12
        refine ⟨_, rfl, hS2, ?_⟩
        simp only [List.getElem_toArray, List.getElem_cons_succ, List.getElem_cons_zero, Act.put, List.setIfInBounds_toArray, List.set_cons_zero, List.set_cons_succ]
        have tg : decide (boundS s < totL r) = false := by rw [decide_eq_false_iff_not]; have := HBR.out.tl; omega
        refine hd_take (v := ?_) 41 rfl (by kernel_rfl) (fun _ _ d _ _ h => (by cases d <;> exact h)) (by kernel_rfl) S12 (fun w' hS => ?_) ?_
        rotate_left
        focus (have q0 := SBd.cq w' hS; clear hS; go_simp; try rfl; done)
        simp only [List.getElem_toArray, List.getElem_cons_succ, List.getElem_cons_zero, Act.put, List.setIfInBounds_toArray, List.set_cons_zero, List.set_cons_succ]
        refine hd_take (v := ?_) 42 rfl (by kernel_rfl) (fun _ _ d _ _ h => (by cases d <;> exact h)) (by kernel_rfl) S12 (fun w' hS => ?_) ?_
        rotate_left
        focus (have q0 := SBd.cq w' hS; clear hS; go_simp; try rfl; done)
        simp only [List.getElem_toArray, List.getElem_cons_succ, List.getElem_cons_zero, Act.put, List.setIfInBounds_toArray, List.set_cons_zero, List.set_cons_succ]
        refine hd_take (v := ?_) 43 rfl (by kernel_rfl) (fun _ _ d _ _ h => (by cases d <;> exact h)) (by kernel_rfl) S12 (fun w' hS => ?_) ?_
        rotate_left
        focus (have q0 := SBd.cq w' hS; clear hS; go_simp; try rfl; done)
        simp only [List.getElem_toArray, List.getElem_cons_succ, List.getElem_cons_zero, Act.put, List.setIfInBounds_toArray, List.set_cons_zero, List.set_cons_succ]
        refine hd_take (v := ?_) 44 rfl (by kernel_rfl) (fun _ _ d _ _ h => (by cases d <;> exact h)) (by kernel_rfl) S12 (fun w' hS => ?_) ?_
        rotate_left
        focus (have q0 := SBd.cq w' hS; clear hS; go_simp; try rfl; done)
        simp only [List.getElem_toArray, List.getElem_cons_succ, List.getElem_cons_zero, Act.put, List.setIfInBounds_toArray, List.set_cons_zero, List.set_cons_succ]
        refine hd_take (v := ?_) 45 rfl (by kernel_rfl) (fun _ _ d _ _ h => (by cases d <;> exact h)) (by kernel_rfl) S12 (fun w' hS => ?_) ?_
        rotate_left
        focus (have q0 := SBd.cq w' hS; clear hS; go_simp; try rfl; done)
        simp only [List.getElem_toArray, List.getElem_cons_succ, List.getElem_cons_zero, Act.put, List.setIfInBounds_toArray, List.set_cons_zero, List.set_cons_succ]
        refine hd_take (v := ?_) 46 rfl (by kernel_rfl) (fun _ _ d _ _ h => (by cases d <;> exact h)) (by kernel_rfl) S12 (fun w' hS => ?_) ?_
        rotate_left
        focus (have q0 := SBd.cq w' hS; clear hS; go_simp; try rfl; done)
        simp only [List.getElem_toArray, List.getElem_cons_succ, List.getElem_cons_zero, Act.put, List.setIfInBounds_toArray, List.set_cons_zero, List.set_cons_succ]
        refine hd_take (v := ?_) 47 rfl (by kernel_rfl) (fun _ _ d _ _ h => (by cases d <;> exact h)) (by kernel_rfl) S12 (fun w' hS => ?_) ?_
        rotate_left
        focus (have q0 := SBd.cq w' hS; clear hS; go_simp; try rfl; done)
        simp only [List.getElem_toArray, List.getElem_cons_succ, List.getElem_cons_zero, Act.put, List.setIfInBounds_toArray, List.set_cons_zero, List.set_cons_succ]
        rcases HC.out with hc0 | ⟨hcn, hn5⟩
        · subst hc0
          refine hd_take (v := ?_) 48 rfl (by kernel_rfl) (fun _ _ d _ _ h => (by cases d <;> exact h)) (by kernel_rfl) S12 (fun w' hS => ?_) ?_
          rotate_left
          focus (clear hS; go_simp; try rfl; done)
          simp only [List.getElem_toArray, List.getElem_cons_succ, List.getElem_cons_zero, Act.put, List.setIfInBounds_toArray, List.set_cons_zero, List.set_cons_succ]
          refine hd_take (v := ?_) 49 rfl (by kernel_rfl) (fun _ _ d _ _ h => (by cases d <;> exact h)) (by kernel_rfl) S12 (fun w' hS => ?_) ?_
          rotate_left
          focus (clear hS; go_simp; try rfl; done)
          simp only [List.getElem_toArray, List.getElem_cons_succ, List.getElem_cons_zero, Act.put, List.setIfInBounds_toArray, List.set_cons_zero, List.set_cons_succ]
          refine hd_off 50 rfl (by kernel_rfl) (fun _ _ d _ _ h => (by cases d <;> exact h)) (by kernel_rfl) S12 ?_
          simp only [List.getElem_toArray, List.getElem_cons_succ, List.getElem_cons_zero, Act.put, List.setIfInBounds_toArray, List.set_cons_zero, List.set_cons_succ]
          refine hd_off 51 rfl (by kernel_rfl) (fun _ _ d _ _ h => (by cases d <;> exact h)) (by kernel_rfl) S12 ?_
          simp only [List.getElem_toArray, List.getElem_cons_succ, List.getElem_cons_zero, Act.put, List.setIfInBounds_toArray, List.set_cons_zero, List.set_cons_succ]
          refine hd_take (v := ?_) 52 rfl (by kernel_rfl) (fun _ _ d _ _ h => (by cases d <;> exact h)) (by kernel_rfl) S12 (fun w' hS => ?_) ?_
          rotate_left
          focus (clear hS; go_simp; try rfl; done)
          simp only [List.getElem_toArray, List.getElem_cons_succ, List.getElem_cons_zero, Act.put, List.setIfInBounds_toArray, List.set_cons_zero, List.set_cons_succ]
          refine hd_take (v := ?_) 53 rfl (by kernel_rfl) (fun _ _ d _ _ h => (by cases d <;> exact h)) (by kernel_rfl) S12 (fun w' hS => ?_) ?_
          rotate_left
          focus (clear hS; go_simp; try rfl; done)
          simp only [List.getElem_toArray, List.getElem_cons_succ, List.getElem_cons_zero, Act.put, List.setIfInBounds_toArray, List.set_cons_zero, List.set_cons_succ]
          refine hd_done (by kernel_rfl) ?_
          go_wp2_with fail
          refine (join_any _ _ (allTo l j) r w12 (H12.out.kR 2 rfl) (hS.out _ H12.out).2 HBR.out.oka HBR.out.okr HBR.out.len).mono ?_
          rintro e w13 hn9
          obtain ⟨jv, rfl, h13⟩ := Knd.New.env H12.out hn9
          rw [HBR.out.jn] at h13
          have h14 : Env w1 w13 [obTR (.slice (some ⟨g, 0, none⟩) l.length uc) ts, KC.ob (.slice (some ⟨b3, o3, none⟩) l.length cc) (codesL l), KN.ob jv (allTo l (j + 1))] := Env.omit (A := [_, _]) (x := KN.ob u6 (allTo l j)) (B := [KN.ob jv (allTo l (j + 1))]) h13
          have H14 := Lib.hid h14
          clear h13 h14 hn9 hS S7 S8 S9 S10 S11 S12 H7 H8 H9 H10 H11 H12
          have hw1 : IntKind.i64.wrap ((j : Int) + 1) = ((j + 1 : Nat) : Int) := by rw [IntWalk.i64_in _ (by omega)]; omega
          go_wp2_with fail
          refine ⟨⟨j + 1, by omega, rfl, H14⟩, ?_⟩
          have q9 : l.length - ((j : Int) + 1).toNat < l.length - ((j : Int)).toNat := by omega
          exact q9
        · subst hn5
          have ce : (C != (0 : Int)) = true := by rw [bne_iff_ne]; exact hcn
          refine hd_take (v := ?_) 48 rfl (by kernel_rfl) (fun _ _ d _ _ h => (by cases d <;> exact h)) (by kernel_rfl) S12 (fun w' hS => ?_) ?_
          rotate_left
          focus (clear hS; go_simp; try rfl; done)
          simp only [List.getElem_toArray, List.getElem_cons_succ, List.getElem_cons_zero, Act.put, List.setIfInBounds_toArray, List.set_cons_zero, List.set_cons_succ]
          refine hd_take (v := ?_) 49 rfl (by kernel_rfl) (fun _ _ d _ _ h => (by cases d <;> exact h)) (by kernel_rfl) S12 (fun w' hS => ?_) ?_
          rotate_left
          focus (clear hS; go_simp; try rfl; done)
          simp only [List.getElem_toArray, List.getElem_cons_succ, List.getElem_cons_zero, Act.put, List.setIfInBounds_toArray, List.set_cons_zero, List.set_cons_succ]
          refine hd_take (v := ?_) 50 rfl (by kernel_rfl) (fun _ _ d _ _ h => (by cases d <;> exact h)) (by kernel_rfl) S12 (fun w' hS => ?_) ?_
          rotate_left
          focus (clear hS; go_simp; try rfl; done)
          simp only [List.getElem_toArray, List.getElem_cons_succ, List.getElem_cons_zero, Act.put, List.setIfInBounds_toArray, List.set_cons_zero, List.set_cons_succ]
          refine hd_take (v := ?_) 51 rfl (by kernel_rfl) (fun _ _ d _ _ h => (by cases d <;> exact h)) (by kernel_rfl) S12 (fun w' hS => ?_) ?_
          rotate_left
          focus (clear hS; go_simp; try rfl; done)
          simp only [List.getElem_toArray, List.getElem_cons_succ, List.getElem_cons_zero, Act.put, List.setIfInBounds_toArray, List.set_cons_zero, List.set_cons_succ]
          refine hd_take (v := ?_) 52 rfl (by kernel_rfl) (fun _ _ d _ _ h => (by cases d <;> exact h)) (by kernel_rfl) S12 (fun w' hS => ?_) ?_
          rotate_left
          focus (clear hS; go_simp; try rfl; done)
          simp only [List.getElem_toArray, List.getElem_cons_succ, List.getElem_cons_zero, Act.put, List.setIfInBounds_toArray, List.set_cons_zero, List.set_cons_succ]
          refine hd_take (v := ?_) 53 rfl (by kernel_rfl) (fun _ _ d _ _ h => (by cases d <;> exact h)) (by kernel_rfl) S12 (fun w' hS => ?_) ?_
          rotate_left
          focus (clear hS; go_simp; try rfl; done)
          simp only [List.getElem_toArray, List.getElem_cons_succ, List.getElem_cons_zero, Act.put, List.setIfInBounds_toArray, List.set_cons_zero, List.set_cons_succ]
          refine hd_done (by kernel_rfl) ?_
          go_wp2_with fail
          refine (join_any _ _ (allTo l j) r w12 (H12.out.kR 2 rfl) (hS.out _ H12.out).2 HBR.out.oka HBR.out.okr HBR.out.len).mono ?_
          rintro e w13 hn9
          obtain ⟨jv, rfl, h13⟩ := Knd.New.env H12.out hn9
          rw [HBR.out.jn] at h13
          have h14 : Env w1 w13 [obTR (.slice (some ⟨g, 0, none⟩) l.length uc) ts, KC.ob (.slice (some ⟨b3, o3, none⟩) l.length cc) (codesL l), KN.ob jv (allTo l (j + 1))] := Env.omit (A := [_, _]) (x := KN.ob u6 (allTo l j)) (B := [KN.ob jv (allTo l (j + 1))]) h13
          have H14 := Lib.hid h14
          clear h13 h14 hn9 hS S7 S8 S9 S10 S11 S12 H7 H8 H9 H10 H11 H12
          have hw1 : IntKind.i64.wrap ((j : Int) + 1) = ((j + 1 : Nat) : Int) := by rw [IntWalk.i64_in _ (by omega)]; omega
          go_wp2_with fail
          refine ⟨⟨j + 1, by omega, rfl, H14⟩, ?_⟩
          have q9 : l.length - ((j : Int) + 1).toNat < l.length - ((j : Int)).toNat := by omega
          exact q9
      · have t4 : decide ((j : Int) < (l.length : Int)) = false := by rw [decide_eq_false_iff_not]; omega
        have hjl : j = l.length := by omega
        rw [hjl] at HK
        go_wp2_with fail
        refine (runs_env HK.out (RdS.old HV1.out) HOK.out (by omega)).mono ?_
        rintro e w2 ⟨r, rfl, h2⟩
        have h2 : Env w1 w2 [obTR (.slice uo l.length uc) ts, KC.ob (.slice co l.length cc) (codesL l), KN.ob u6 (allTo l l.length), obRuns r (allTo l l.length)] := h2
        have ra : RunsRd w2 u6 (allTo l l.length) := (h2.runs 2 rfl).rd
        have rb : RunsRd w2 r (allTo l l.length) := (h2.runs 3 rfl).rd
        have H2 := Lib.hid h2
        have HRR := Lib.hid (And.intro ra rb)
        clear ra rb h2 HK
        go_wp2_with fail
        refine (sameRuns_env' H2.out HRR.out.1 HRR.out.2).mono ?_
        rintro e w3 ⟨he, h3⟩
        rw [decide_eq_true rfl] at he
        subst he
        have H3 := Lib.hid h3
        clear h3 H2 HRR
        go_wp2_with fail
        go_ret
        exact ⟨rfl, HB.out.trans (H3.out.base.mono HB.out.size)⟩
end costBounds
end Go.Proofs.Ytkidijjhedjifaa
namespace Go.Proofs.Ytkidijjhedjifaa.costBounds
open Go.ChangeShapes Go.WideShapes Go.ChangeAt Go.RowKit
set_option linter.unusedVariables false

set_option maxRecDepth 100000 in
theorem lifted (os : Os) (started : os.Started) (H : Type) (enc : TypeId × Value → H) :
    ReturnsInHanded {} Try.checked os 6 .any (Rows.costBoundsSpec.pre6 enc Try.prog Try.f6 Rows.costBoundsRow.domain false) (Rows.costBoundsSpec.post enc Try.prog Try.f6 false true false false) := by
  refine returnsInHanded_of_change (C := Try.checked) own started (by kernel_rfl) Try.func6
    (ChangeSpec.witness6 (enc := enc) (C := Try.checked) false ⟨#[], #[.slice none 0 0], []⟩ 8 (by kernel_rfl) (by kernel_rfl) (by kernel_rfl) (by kernel_rfl)) ?_
  intro W base args ds gs before hval0 hW hcnd _
  have hval : ∀ (j : Nat) t v, Try.f6.params[j]? = some t → args[j]? = some v → Value.okWide Try.prog W .any base t v := hval0
  have hW' := hW
  obtain ⟨p, q, hA0, hV, rfl, hfz, hnd⟩ := hW
  have hA : DataW.TrodAll enc Try.prog W 0 (fun _ => true) true Try.f6.params.toList args.toList ds p := hA0
  rw [Try.params6] at hA hval
  obtain ⟨v0, vs0, d0, ds0, p0, q0, hargs, rfl, rfl, h0, r0⟩ := trodAll_cons hA
  obtain ⟨rfl, rfl, rfl⟩ := trodAll_nil r0
  obtain rfl : args = #[v0] := by cases args; simp_all
  obtain ⟨rfl, rfl⟩ := trodVars_none hV
  obtain ⟨a0, e0⟩ := openSks (hval 0 22 v0 rfl rfl) h0
  clear hA0 hval0
  simp only [List.append_nil] at hW'
  refine (walk v0 a0 e0).mono fun e W' ⟨he, hg⟩ => ?_
  subst he
  exact ⟨_, rfl, law_post laidOut (by kernel_rfl) rfl rfl Try.underlying4 hW' hg rfl rfl rfl⟩

theorem over : Rows.costBoundsRow.holds Try.pinned (OpenSpec.ofChange Rows.costBoundsSpec) :=
  OpenClaim.holds_of_wide 6 Try.f6 rfl rfl rfl rfl rfl rfl rfl ⟨rfl, rfl, rfl, rfl, rfl⟩ rfl rfl rfl rfl rfl (by kernel_rfl) Try.func6 (by kernel_rfl)
    (of_decide_eq_true (by kernel_rfl)) (by unfold Func.isWrapper; rw [if_neg (of_decide_eq_false (by kernel_rfl))]; exact ⟨rfl, rfl⟩)
    (fun os started H enc _ => lifted os started H enc)

theorem proved : Rows.CostBoundsSaid := over
end Go.Proofs.Ytkidijjhedjifaa.costBounds
