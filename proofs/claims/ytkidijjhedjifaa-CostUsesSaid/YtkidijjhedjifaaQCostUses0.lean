/- The statement CostUses: for every input turnkey/turnkeylaw22.CostUses returns true, and each argument reads as it did. Its walk is proved in CostUses; here is the step from the walk to the row. -/
import Derived.Test.YtkidijjhedjifaaRows
import Derived.Deep.CutBlock
import Derived.Test.YtkidijjhedjifaaQB9
/- The law CostBegins: a part of the operations ahead costs what it cost. -/
namespace Go.Proofs.Ytkidijjhedjifaa
open Go.RowKit
set_option maxRecDepth 100000
set_option linter.unusedVariables false
set_option linter.unusedSimpArgs false
attribute [local go_sem] Oper.semAt_some
theorem pick22 (i n : Int) (w : World) (hn : 0 < n) (hn' : n ≤ 9223372036854775807) :
    Calls Try.prog 10 #[.int .i64 i, .int .i64 n] w fun e w' => e = .returned (.int .i64 (i % n)) ∧ w = w' := by
  have ht : i.tmod n = if i % n = 0 ∨ 0 ≤ i then i % n else i % n - n := by
    have := Int.emod_nonneg i (show n ≠ 0 by omega)
    rw [Int.tmod_eq_emod]
    have : (n.natAbs : Int) = n := by omega
    by_cases h : 0 ≤ i ∨ n ∣ i
    · rw [if_pos h]
      rcases h with h | h
      · rw [if_pos (.inr h)]; omega
      · rw [if_pos (.inl (Int.emod_eq_zero_of_dvd h))]; omega
    · rw [if_neg h]
      have : ¬ (i % n = 0 ∨ 0 ≤ i) := by
        rintro (h1 | h1)
        · exact h (.inr (Int.dvd_of_emod_eq_zero h1))
        · exact h (.inl h1)
      rw [if_neg this]
      omega
  have h1 := Int.emod_nonneg i (show n ≠ 0 by omega)
  have h2 := Int.emod_lt_of_pos i hn
  by_cases hc : i % n = 0 ∨ 0 ≤ i
  · rw [if_pos hc] at ht
    clear hc
    generalize i % n = r at ht h1 h2 ⊢
    go_enter Try.func10, Try.ntmps10
    go_wp2
    go_ret
    exact ⟨rfl, rfl⟩
  · rw [if_neg hc] at ht
    have h3 : ¬ i % n = 0 := fun e => hc (.inl e)
    clear hc
    generalize i % n = r at ht h1 h2 h3 ⊢
    have e : r - n + n = r := by omega
    go_enter Try.func10, Try.ntmps10
    go_wp2
    go_ret
    exact ⟨rfl, rfl⟩
theorem eachL_take (l : List Sk) {n : Nat} (h : n ≤ l.length) {j : Nat} (hj : j < n) : (eachL (l.take n))[j]? = (eachL l)[j]? := by
  unfold eachL
  rw [List.length_take, Nat.min_eq_left h, eachTo_take l n n (Nat.le_refl _), eachTo_get l _ j hj, eachTo_get l _ j (by omega)]
theorem codesL_take (l : List Sk) {n : Nat} (h : n ≤ l.length) : codesL (l.take n) = (codesL l).take n := by
  unfold codesL
  rw [List.length_take, Nat.min_eq_left h, codesTo_take l n n (Nat.le_refl _), codesTo_pre l n _ h]
theorem KS.part {w : World} {ao : Option Addr} {N cap : Nat} {l : List Sk} (h : KS.R w (.slice ao N cap) l) {n : Nat} (hn : n ≤ l.length) : KS.R w (.slice ao n cap) (l.take n) := by
  have e : l.take n ++ l.drop n = l := List.take_append_drop n l
  rw [← e] at h
  have h1 := Knd.R.begin h
  rw [List.length_take, Nat.min_eq_left hn] at h1
  exact h1
theorem KC.part {w : World} {ao : Option Addr} {N cap : Nat} {l : List Int} (h : KC.R w (.slice ao N cap) l) {n : Nat} (hn : n ≤ l.length) : KC.R w (.slice ao n cap) (l.take n) := by
  have e : l.take n ++ l.drop n = l := List.take_append_drop n l
  rw [← e] at h
  have h1 := Knd.R.begin h
  rw [List.length_take, Nat.min_eq_left hn] at h1
  exact h1
namespace costBegins
set_option maxHeartbeats 8000000 in
theorem walk (v : Value) (l : List Sk) {w : World} (hin : InSk w v l) (a1 : Int) (w1 : (Lit.int .i64 a1).wf = true) :
    Calls Try.prog 3 #[v, .int .i64 a1] w fun e w' => e = .returned (.bool true) ∧ Below w.heap.size w w' := by
  obtain ⟨hv, hok⟩ := hin
  obtain ⟨ao, cap, rfl, hc1, hc2, hc3⟩ := hv.any
  have HV := Lib.hid hv
  have HOK := Lib.hid hok
  clear hv hok
  go_enter Try.func3, Try.ntmps3
  go_wp2_with fail
  refine (awake_any _).mono ?_
  rintro e w1 ⟨rfl, hb⟩
  have HB := Lib.hid hb
  have HV1 := Lib.hid (HV.out.grow hb)
  clear hb HV
  by_cases h300 : 300 < l.length
  · have t3 : decide (300 < (l.length : Int)) = true := by rw [decide_eq_true_eq]; omega
    go_wp2_with fail
    go_ret
    exact ⟨rfl, HB.out⟩
  · have t3 : decide (300 < (l.length : Int)) = false := by rw [decide_eq_false_iff_not]; omega
    have hw1 : IntKind.i64.wrap ((l.length : Int) + 1) = ((l.length + 1 : Nat) : Int) := by rw [IntWalk.i64_in _ (by omega)]; omega
    go_wp2_with fail
    refine (pick22 a1 ((l.length + 1 : Nat) : Int) _ (by omega) (by omega)).mono ?_
    rintro e w2 ⟨rfl, rfl⟩
    obtain ⟨n, hn⟩ : ∃ n : Nat, a1 % ((l.length + 1 : Nat) : Int) = n := ⟨(a1 % ((l.length + 1 : Nat) : Int)).toNat, by have := Int.emod_nonneg a1 (show ((l.length + 1 : Nat) : Int) ≠ 0 by omega); omega⟩
    have hnl : n ≤ l.length := by
      have := Int.emod_lt_of_pos a1 (show (0 : Int) < ((l.length + 1 : Nat) : Int) by omega)
      omega
    rw [hn]
    clear hn hw1
    go_wp2_with fail
    refine (each_env (Env.start w1) (RdS.old HV1.out) HOK.out (by omega)).mono ?_
    rintro e w2 ⟨u, ts, rfl, hts, h2⟩
    rw [List.nil_append] at h2
    have htl : ts.length = l.length := by
      have := congrArg List.length hts
      rw [List.length_map] at this
      rw [this]
      exact eachTo_len l _
    obtain ⟨uo, uc, rfl, hu1, hu2⟩ := obTR_form h2 0 rfl
    rw [htl] at h2 hu1 ⊢
    have H2 := Lib.hid h2
    have HT := Lib.hid (And.intro hts htl)
    have HV2 := Lib.hid (KS.part HV1.out hnl)
    have HOK2 : Hid (∀ s ∈ l.take n, OKsk s) := Lib.hid fun s hs => HOK.out s (List.mem_of_mem_take hs)
    have htn : (l.take n).length = n := by rw [List.length_take, Nat.min_eq_left hnl]
    clear h2 hts htl
    go_wp2_with fail
    refine (each_env H2.out (RdS.old HV2.out) HOK2.out (by omega)).mono ?_
    rintro e w3 ⟨u', us, rfl, hus, h3⟩
    have hul : us.length = n := by
      have := congrArg List.length hus
      rw [List.length_map] at this
      have e2 : (eachL (l.take n)).length = (l.take n).length := eachTo_len _ _
      rw [this, e2, htn]
    obtain ⟨vo, vc, rfl, hv1, hv2⟩ := obTR_form h3 1 rfl
    rw [hul] at h3 hv1 ⊢
    have H3 : Hid (Env w1 w3 [obTR (.slice uo l.length uc) ts, obTR (.slice vo n vc) us]) := Lib.hid h3
    have HU := Lib.hid (And.intro hus hul)
    clear h3 hus hul H2
    go_wp2_with fail
    refine (codes_env H3.out (RdS.old HV1.out) HOK.out (by omega)).mono ?_
    rintro e w4 ⟨c, rfl, h4⟩
    have h4 : Env w1 w4 [obTR (.slice uo l.length uc) ts, obTR (.slice vo n vc) us, KC.ob c (codesL l)] := h4
    obtain ⟨co, cc, hce, hcc1, hcc2, _⟩ := (h4.kR 2 (v := c) (l := codesL l) rfl).any
    have hcl : (codesL l).length = l.length := codesTo_len _ _
    subst hce
    rw [hcl] at h4 hcc1 ⊢
    have H4 := Lib.hid h4
    clear h4 hcl H3
    go_wp2_with fail
    refine (codes_env H4.out (RdS.old HV2.out) HOK2.out (by omega)).mono ?_
    rintro e w5 ⟨d, rfl, h5⟩
    have h5 : Env w1 w5 [obTR (.slice uo l.length uc) ts, obTR (.slice vo n vc) us, KC.ob (.slice co l.length cc) (codesL l), KC.ob d (codesL (l.take n))] := h5
    have hcl : (codesL l).length = l.length := codesTo_len _ _
    have r1 : KC.R w5 (.slice co n cc) ((codesL l).take n) := KC.part (h5.kR 2 (v := .slice co l.length cc) (l := codesL l) rfl) (by rw [hcl]; exact hnl)
    have r0 : KC.R w5 d ((codesL l).take n) := by
      rw [← codesL_take l hnl]
      exact h5.kR 3 (v := d) (l := codesL (l.take n)) rfl
    have H5 := Lib.hid h5
    have HR := Lib.hid (And.intro r0 r1)
    clear h5 r0 r1 H4 hcl
    go_wp2_with fail
    refine (sameC_any _ _ _ _ _ HR.out.1 HR.out.2).mono ?_
    rintro e w6 ⟨he, m, hm⟩
    rw [sameL_refl eqC (fun x => by simp [eqC])] at he
    subst he
    have h6 := H5.out.draw m
    rw [← hm] at h6
    have H6 := Lib.hid h6
    clear h6 hm HR H5
    go_wp2_with fail
    go_loopw [10] (fun iv wx => ∃ j : Nat, j ≤ n ∧ iv = .int .i64 (j : Int) ∧ Hid (Env w1 wx [obTR (.slice uo l.length uc) ts, obTR (.slice vo n vc) us, KC.ob (.slice co l.length cc) (codesL l), KC.ob d (codesL (l.take n))])) (fun iv _ => n - (intOf iv).toNat)
    case atStart => exact ⟨0, Nat.zero_le _, rfl, H6⟩
    case round =>
      obtain ⟨j, hj, rfl, HK⟩ := hrel
      clear H6
      by_cases hlt : j < n
      · have t4 : decide ((j : Int) < (n : Int)) = true := by rw [decide_eq_true_eq]; omega
        have bj : 0 ≤ (j : Int) ∧ (j : Int) < (n : Int) := by omega
        have bl : 0 ≤ (j : Int) ∧ (j : Int) < (l.length : Int) := by omega
        obtain ⟨⟨rv, r⟩, hr⟩ : ∃ y, ts[j]? = some y := ⟨_, List.getElem?_eq_getElem (by rw [HT.out.2]; omega)⟩
        obtain ⟨⟨sv, r'⟩, hs⟩ : ∃ y, us[j]? = some y := ⟨_, List.getElem?_eq_getElem (by rw [HU.out.2]; omega)⟩
        have hrr : r' = r := by
          have e1 := congrArg (fun z => z[j]?) HT.out.1
          have e2 := congrArg (fun z => z[j]?) HU.out.1
          simp only [List.getElem?_map, hr, hs, Option.map_some] at e1 e2
          rw [eachL_take l hnl hlt, ← e1] at e2
          injection e2
        subst hrr
        obtain ⟨g, c1, q1, _, _⟩ := obTR_slice HK.out 0 rfl (by rw [HT.out.2]; omega)
        obtain ⟨g2, c2, q2, _, _⟩ := obTR_slice HK.out 1 rfl (by rw [HU.out.2]; omega)
        injection q1 with q1 q1b q1c
        injection q2 with q2 q2b q2c
        subst q1 q2
        clear q1b q1c q2b q2c
        have HR := Lib.hid (And.intro hr hs)
        have hS : Hid (∀ W, Env w1 W [obTR (.slice (some ⟨g, 0, none⟩) l.length uc) ts, obTR (.slice (some ⟨g2, 0, none⟩) n vc) us, KC.ob (.slice co l.length cc) (codesL l), KC.ob d (codesL (l.take n))] → SAw g g2 j rv sv W ∧ RunsRd W rv r' ∧ RunsRd W sv r') := Lib.hid fun W hW => ⟨⟨obTR_cell hW 0 rfl HR.out.1, obTR_cell hW 1 rfl HR.out.2⟩, obTR_get hW 0 rfl HR.out.1, obTR_get hW 1 rfl HR.out.2⟩
        clear hr hs
        go_upto_region 14 with fail
        refine hd_start (SAw g g2 j rv sv) (by kernel_rfl) ?_
        intro w7 hw'
        have H7 := Lib.hid (HK.out.draw 1)
        rw [← hw'] at H7
        clear hw' HK
        have S7 := (hS.out _ H7.out).1
        refine hd_take (v := ?_) 0 rfl (by kernel_rfl) (fun _ _ d _ _ h => (by cases d <;> exact h)) (by kernel_rfl) S7 (fun w' hS => ?_) ?_
        rotate_left
        focus (have q0 := SAw.id w' hS; clear hS; go_simp; try rfl; done)
        simp only [List.getElem_toArray, List.getElem_cons_succ, List.getElem_cons_zero, Act.put, List.setIfInBounds_toArray, List.set_cons_zero, List.set_cons_succ]
        refine hd_take (v := ?_) 1 rfl (by kernel_rfl) (fun _ _ d _ _ h => (by cases d <;> exact h)) (by kernel_rfl) S7 (fun w' hS => ?_) ?_
        rotate_left
        focus (have q0 := SAw.id w' hS; clear hS; go_simp; try rfl; done)
        simp only [List.getElem_toArray, List.getElem_cons_succ, List.getElem_cons_zero, Act.put, List.setIfInBounds_toArray, List.set_cons_zero, List.set_cons_succ]
        refine hd_take (v := ?_) 2 rfl (by kernel_rfl) (fun _ _ d _ _ h => (by cases d <;> exact h)) (by kernel_rfl) S7 (fun w' hS => ?_) ?_
        rotate_left
        focus (have q0 := SAw.id w' hS; clear hS; go_simp; try rfl; done)
        simp only [List.getElem_toArray, List.getElem_cons_succ, List.getElem_cons_zero, Act.put, List.setIfInBounds_toArray, List.set_cons_zero, List.set_cons_succ]
        refine hd_take (v := ?_) 3 rfl (by kernel_rfl) (fun _ _ d _ _ h => (by cases d <;> exact h)) (by kernel_rfl) S7 (fun w' hS => ?_) ?_
        rotate_left
        focus (have q0 := SAw.id w' hS; clear hS; go_simp; try rfl; done)
        simp only [List.getElem_toArray, List.getElem_cons_succ, List.getElem_cons_zero, Act.put, List.setIfInBounds_toArray, List.set_cons_zero, List.set_cons_succ]
        refine hd_take (v := ?_) 4 rfl (by kernel_rfl) (fun _ _ d _ _ h => (by cases d <;> exact h)) (by kernel_rfl) S7 (fun w' hS => ?_) ?_
        rotate_left
        focus (have q0 := SAw.id w' hS; clear hS; go_simp; try rfl; done)
        simp only [List.getElem_toArray, List.getElem_cons_succ, List.getElem_cons_zero, Act.put, List.setIfInBounds_toArray, List.set_cons_zero, List.set_cons_succ]
        refine hd_take (v := ?_) 5 rfl (by kernel_rfl) (fun _ _ d _ _ h => (by cases d <;> exact h)) (by kernel_rfl) S7 (fun w' hS => ?_) ?_
        rotate_left
        focus (have q0 := SAw.id w' hS; clear hS; go_simp; try rfl; done)
        simp only [List.getElem_toArray, List.getElem_cons_succ, List.getElem_cons_zero, Act.put, List.setIfInBounds_toArray, List.set_cons_zero, List.set_cons_succ]
        refine hd_take (v := ?_) 6 rfl (by kernel_rfl) (fun _ _ d _ _ h => (by cases d <;> exact h)) (by kernel_rfl) S7 (fun w' hS => ?_) ?_
        rotate_left
        focus (have q0 := SAw.id w' hS; clear hS; go_simp; try rfl; done)
        simp only [List.getElem_toArray, List.getElem_cons_succ, List.getElem_cons_zero, Act.put, List.setIfInBounds_toArray, List.set_cons_zero, List.set_cons_succ]
        refine hd_take (v := ?_) 7 rfl (by kernel_rfl) (fun _ _ d _ _ h => (by cases d <;> exact h)) (by kernel_rfl) S7 (fun w' hS => ?_) ?_
        rotate_left
        focus (have q0 := SAw.id w' hS; clear hS; go_simp; try rfl; done)
        simp only [List.getElem_toArray, List.getElem_cons_succ, List.getElem_cons_zero, Act.put, List.setIfInBounds_toArray, List.set_cons_zero, List.set_cons_succ]
        refine hd_one 8 (by kernel_rfl) ?_
        refine op_call rfl (by kernel_rfl) (by go_simp; first | exact ⟨rfl, rfl⟩ | rfl) ?_
        refine (sameRuns_env' H7.out (hS.out _ H7.out).2.1 (hS.out _ H7.out).2.2).mono ?_
        rintro e w8 ⟨he, h8⟩
        rw [decide_eq_true rfl] at he
        subst he
        have hS2 := (hS.out _ h8).1
        have S8 := hS2
        have H8 := Lib.hid h8
        clear h8
        refine ⟨_, rfl, hS2, ?_⟩
        simp only [List.getElem_toArray, List.getElem_cons_succ, List.getElem_cons_zero, Act.put, List.setIfInBounds_toArray, List.set_cons_zero, List.set_cons_succ]
        refine hd_take (v := ?_) 9 rfl (by kernel_rfl) (fun _ _ d _ _ h => (by cases d <;> exact h)) (by kernel_rfl) S8 (fun w' hS => ?_) ?_
        rotate_left
        focus (clear hS; go_simp; try rfl; done)
        simp only [List.getElem_toArray, List.getElem_cons_succ, List.getElem_cons_zero, Act.put, List.setIfInBounds_toArray, List.set_cons_zero, List.set_cons_succ]
        refine hd_done (by kernel_rfl) ?_
        clear S7 S8 hS
        have hw1 : IntKind.i64.wrap ((j : Int) + 1) = ((j + 1 : Nat) : Int) := by rw [IntWalk.i64_in _ (by omega)]; omega
        go_wp2_with fail
        refine ⟨⟨j + 1, by omega, rfl, H8⟩, ?_⟩
        have q9 : n - ((j : Int) + 1).toNat < n - ((j : Int)).toNat := by omega
        exact q9
      · have t4 : decide ((j : Int) < (n : Int)) = false := by rw [decide_eq_false_iff_not]; omega
        go_wp2_with fail
        go_ret
        exact ⟨rfl, HB.out.trans (HK.out.base.mono HB.out.size)⟩
end costBegins
end Go.Proofs.Ytkidijjhedjifaa
/- The law CostUses: what a kind does not use costs nothing. -/
namespace Go.Proofs.Ytkidijjhedjifaa
open Go.RowKit
set_option maxRecDepth 100000
set_option linter.unusedVariables false
set_option linter.unusedSimpArgs false
attribute [local go_sem] Oper.semAt_some
def usesTo (l : List Sk) (x : Sk) (j : Nat) : List Sk := (l.take j).map fun s => useS s x
theorem usesTo_len (l : List Sk) (x : Sk) {j : Nat} (h : j ≤ l.length) : (usesTo l x j).length = j := by
  unfold usesTo
  rw [List.length_map, List.length_take, Nat.min_eq_left h]
theorem usesTo_step (l : List Sk) (x : Sk) {j : Nat} {s : Sk} (h : l[j]? = some s) : usesTo l x (j + 1) = usesTo l x j ++ [useS s x] := by
  unfold usesTo
  rw [List.take_add_one, h, List.map_append]
  rfl
theorem usesTo_get (l : List Sk) (x : Sk) (i : Nat) (s : Sk) (h : l[i]? = some s) : (usesTo l x l.length)[i]? = some (useS s x) := by
  unfold usesTo
  rw [List.take_length, List.getElem?_map, h]
  rfl
theorem useS_ok {s x : Sk} (hs : OKsk s) (hx : OKsk x) : OKsk (useS s x) := by
  obtain ⟨a1, a2, a3, a4, a5, a6, a7⟩ := hs
  obtain ⟨b1, b2, b3, b4, b5, b6, b7⟩ := hx
  unfold useS
  repeat' split
  all_goals (constructor <;> assumption)
def skA (s : Sk) : Array Value := #[.int .u8 s.kind, .int .i64 s.handle, .int .u8 s.alg, .int .i64 s.count, .int .i64 s.out, .int .i64 s.data, .int .i64 s.more]
def SEl (b o : Nat) (s : Sk) (W : World) : Prop := SkAt W b o s
theorem SEl.f1 {b o : Nat} {s : Sk} (W : World) (h : SEl b o s W) : W.cell? ⟨b, o + 1, none⟩ = some (.int .i64 s.handle) := SkAt.c1 h
theorem SEl.f2 {b o : Nat} {s : Sk} (W : World) (h : SEl b o s W) : W.cell? ⟨b, o + 2, none⟩ = some (.int .u8 s.alg) := SkAt.c2 h
theorem SEl.f4 {b o : Nat} {s : Sk} (W : World) (h : SEl b o s W) : W.cell? ⟨b, o + 4, none⟩ = some (.int .i64 s.out) := SkAt.c4 h
theorem SEl.f5 {b o : Nat} {s : Sk} (W : World) (h : SEl b o s W) : W.cell? ⟨b, o + 5, none⟩ = some (.int .i64 s.data) := SkAt.c5 h
theorem elemAt {w : World} {b off n cap : Nat} {l : List Sk} (h : KS.R w (.slice (some ⟨b, off, none⟩) n cap) l) {j : Nat} {s : Sk} (hs : l[j]? = some s) : SkAt w b (off + j * 7) s := by
  obtain ⟨b', off', e, _, hsk⟩ := KS.elem h hs
  injection e with e
  injection e with e1 e2
  subst e1 e2
  exact hsk
theorem infoS : (Try.prog.info? 43).map (fun i => (i.zero, i.size, i.bytes)) = some (some (.agg #[.int .u8 0, .int .i64 0, .int .u8 0, .int .i64 0, .int .i64 0, .int .i64 0, .int .i64 0]), 7, 56) := by kernel_rfl
namespace costUses
set_option maxHeartbeats 8000000 in
theorem walk (v : Value) (l : List Sk) {w : World} (hin : InSk w v l) (v1 : Value) (x : Sk) (hx : OKsk x ∧ v1 = .agg (KS.cv x).toArray) :
    Calls Try.prog 5 #[v, v1] w fun e w' => e = .returned (.bool true) ∧ Below w.heap.size w w' := by
  obtain ⟨hv, hok⟩ := hin
  obtain ⟨hxo, rfl⟩ := hx
  obtain ⟨ao, cap, rfl, hc1, hc2, hc3⟩ := hv.any
  have HV := Lib.hid hv
  have HOK := Lib.hid hok
  have HX := Lib.hid hxo
  clear hv hok hxo
  show Calls Try.prog 5 #[_, .agg (skA x)] w _
  unfold skA
  go_enter Try.func5, Try.ntmps5
  go_wp2_with fail
  have hb0 : Below w.heap.size w (w.alloc (.cells (skA x) 43)) := (Below.refl _ _).alloc (Nat.le_refl _) _
  have hk0 := Blk.new w 43 (skA x)
  obtain ⟨W, hW⟩ : ∃ y, w.alloc (.cells (skA x) 43) = y := ⟨_, rfl⟩
  obtain ⟨X, hB⟩ : ∃ y, w.heap.size = y := ⟨_, rfl⟩
  rw [hW] at hk0 hb0
  unfold skA at hW
  rw [hB] at hk0 hb0 ⊢
  rw [hW]
  have HV0 := Lib.hid (HV.out.grow (by rw [hB]; exact hb0))
  clear hW HV
  refine (awake_any _).mono ?_
  rintro e w1 ⟨rfl, hb1⟩
  have HK1 := Lib.hid (hk0.only (Only.nothing hb1) (fun h => h))
  have HB1 := Lib.hid (hb0.trans (hb1.mono (by rw [← hB]; rw [← hB] at hb0; exact hb0.size)))
  have HV1 := Lib.hid (HV0.out.grow hb1)
  clear hk0 hb1 hb0 HV0
  by_cases h300 : 300 < l.length
  · have t3 : decide (300 < (l.length : Int)) = true := by rw [decide_eq_true_eq]; omega
    go_wp2_with fail
    go_ret
    rw [hB]
    exact ⟨rfl, HB1.out⟩
  · have t3 : decide (300 < (l.length : Int)) = false := by rw [decide_eq_false_iff_not]; omega
    go_upto_region 5 with fail
    have h2 : Env w1 w1 [KS.ob (.slice none 0 0) []] := (Env.start w1).pushNil KS
    have H2 := Lib.hid h2
    clear h2
    go_wp2_with fail
    go_loopw [6, 7] (fun mv iv wx => ∃ j : Nat, j ≤ l.length ∧ iv = .int .i64 (j : Int) ∧ Hid (Env w1 wx [KS.ob mv (usesTo l x j)])) (fun _ iv _ => l.length - (intOf iv).toNat)
    case atStart => exact ⟨0, Nat.zero_le _, rfl, H2⟩
    case round =>
      obtain ⟨j, hj, rfl, HL⟩ := hrel
      clear H2
      by_cases hlt : j < l.length
      · obtain ⟨s, hs⟩ : ∃ s, l[j]? = some s := ⟨_, List.getElem?_eq_getElem hlt⟩
        have t4 : decide ((j : Int) < (l.length : Int)) = true := by rw [decide_eq_true_eq]; omega
        have bj : 0 ≤ (j : Int) ∧ (j : Int) < (l.length : Int) := by omega
        obtain ⟨b, off, hao, hbl, _⟩ := KS.elem (HV1.out) hs
        subst hao
        have hks := HK1.out.only (Only.nothing HL.out.base) (fun h => h)
        unfold skA at hks
        have x0 := hks.cellAt 0 rfl
        have x1 := hks.cellAt 1 rfl
        have x2 := hks.cellAt 2 rfl
        have x3 := hks.cellAt 3 rfl
        have x4 := hks.cellAt 4 rfl
        have x5 := hks.cellAt 5 rfl
        have x6 := hks.cellAt 6 rfl
        have hxw : X < wr.heap.size := hks.lt
        have hx3 : X ≠ wr.heap.size := by omega
        have HSS := Lib.hid hs
        clear hs hks
        obtain ⟨_, _, e9, _, hsk⟩ := KS.elem (HL.out.oldK HV1.out) HSS.out
        injection e9 with e9
        injection e9 with e9a e9b
        subst e9a e9b
        have c0 := hsk.c0
        have c1 := hsk.c1
        have c2 := hsk.c2
        have c3 := hsk.c3
        have c4 := hsk.c4
        have c5 := hsk.c5
        have c6 := hsk.c6
        clear hsk
        have hbw : b < wr.heap.size := Nat.lt_of_lt_of_le hbl HL.out.base.size
        have hb3 : b ≠ wr.heap.size := by omega
        go_upto_block 2 with fail
        go_cut [] from 29 to 107 (fun wx => Hid (Env w1 wx [KS.ob u6 (usesTo l x j), obK wr.heap.size 43 (skA (useS s x))]))
        case first =>
          by_cases k1 : s.kind = 1
          · have q1 : (s.kind == (1 : Int)) = true := by rw [k1]; rfl
            have hu : skA (useS s x) = skA { x with kind := s.kind, data := s.data } := by unfold useS; simp [k1]
            clear k1
            --[k1
            go_wp2_with fail
            go_meet
            refine Lib.hid ?_
            rw [hu]
            exact HL.out.newK _ _
            --]k1
          have q1 : (s.kind == (1 : Int)) = false := by rw [beq_eq_false_iff_ne]; exact k1
          by_cases k2 : s.kind = 2
          · have q2 : (s.kind == (2 : Int)) = true := by rw [k2]; rfl
            have hu : skA (useS s x) = skA { x with kind := s.kind, handle := s.handle, alg := s.alg, data := s.data, out := s.out } := by unfold useS; simp [k2]
            clear k2
            --[k2
            go_upto_region 14 with fail
            have h0 := HL.out.newK 43 (skA { x with kind := s.kind })
            unfold skA at h0
            obtain ⟨B, hBB⟩ : ∃ y, wr.heap.size = y := ⟨_, rfl⟩
            obtain ⟨wa, hwa⟩ : ∃ y, wr.alloc (.cells #[.int .u8 s.kind, .int .i64 x.handle, .int .u8 x.alg, .int .i64 x.count, .int .i64 x.out, .int .i64 x.data, .int .i64 x.more] 43) = y := ⟨_, rfl⟩
            have h0 : Env w1 wa [KS.ob u6 (usesTo l x j), obK B 43 #[.int .u8 s.kind, .int .i64 x.handle, .int .u8 x.alg, .int .i64 x.count, .int .i64 x.out, .int .i64 x.data, .int .i64 x.more]] := by rw [← hwa, ← hBB]; exact h0
            try rw [hwa]
            rw [hBB]
            rw [hBB] at hb3 hbw
            have H0 := Lib.hid h0
            have HBJ := Lib.hid hBB
            have HHU := Lib.hid hu
            clear h0 hwa hBB hu c0 c1 c2 c3 c4 c5 c6 x0 x1 x2 x3 x4 x5 x6
            have hSE : Hid (∀ W (L : List Ob), Env w1 W L → SkAt W b (off + j * 7) s) := Lib.hid fun W L hW => elemAt (hW.oldK HV1.out) HSS.out
            refine hd_start (SEl b (off + j * 7) s) (by kernel_rfl) ?_
            intro w3 hw'
            have H3 := Lib.hid (H0.out.draw 1)
            rw [← hw'] at H3
            clear hw' H0
            have S3 : SEl b (off + j * 7) s w3 := hSE.out _ _ H3.out
            refine hd_take (v := ?_) 0 rfl (by kernel_rfl) (fun _ _ d _ _ h => (by cases d <;> exact h)) (by kernel_rfl) S3 (fun w' hS => ?_) ?_
            rotate_left
            focus (have q0 := SEl.f1 w' hS; have q1 := SEl.f2 w' hS; have q2 := SEl.f4 w' hS; have q3 := SEl.f5 w' hS; clear hS; go_simp; try rfl; done)
            simp only [List.getElem_toArray, List.getElem_cons_succ, List.getElem_cons_zero, Act.put, List.setIfInBounds_toArray, List.set_cons_zero, List.set_cons_succ]
            refine hd_take (v := ?_) 1 rfl (by kernel_rfl) (fun _ _ d _ _ h => (by cases d <;> exact h)) (by kernel_rfl) S3 (fun w' hS => ?_) ?_
            rotate_left
            focus (have q0 := SEl.f1 w' hS; have q1 := SEl.f2 w' hS; have q2 := SEl.f4 w' hS; have q3 := SEl.f5 w' hS; clear hS; go_simp; try rfl; done)
            simp only [List.getElem_toArray, List.getElem_cons_succ, List.getElem_cons_zero, Act.put, List.setIfInBounds_toArray, List.set_cons_zero, List.set_cons_succ]
            refine hd_take (v := ?_) 2 rfl (by kernel_rfl) (fun _ _ d _ _ h => (by cases d <;> exact h)) (by kernel_rfl) S3 (fun w' hS => ?_) ?_
            rotate_left
            focus (have q0 := SEl.f1 w' hS; have q1 := SEl.f2 w' hS; have q2 := SEl.f4 w' hS; have q3 := SEl.f5 w' hS; clear hS; go_simp; try rfl; done)
            simp only [List.getElem_toArray, List.getElem_cons_succ, List.getElem_cons_zero, Act.put, List.setIfInBounds_toArray, List.set_cons_zero, List.set_cons_succ]
            refine hd_take (v := ?_) 3 rfl (by kernel_rfl) (fun _ _ d _ _ h => (by cases d <;> exact h)) (by kernel_rfl) S3 (fun w' hS => ?_) ?_
            rotate_left
            focus (have q0 := SEl.f1 w' hS; have q1 := SEl.f2 w' hS; have q2 := SEl.f4 w' hS; have q3 := SEl.f5 w' hS; clear hS; go_simp; try rfl; done)
            simp only [List.getElem_toArray, List.getElem_cons_succ, List.getElem_cons_zero, Act.put, List.setIfInBounds_toArray, List.set_cons_zero, List.set_cons_succ]
            refine hd_take (v := ?_) 4 rfl (by kernel_rfl) (fun _ _ d _ _ h => (by cases d <;> exact h)) (by kernel_rfl) S3 (fun w' hS => ?_) ?_
            rotate_left
            focus (have q0 := SEl.f1 w' hS; have q1 := SEl.f2 w' hS; have q2 := SEl.f4 w' hS; have q3 := SEl.f5 w' hS; clear hS; go_simp; try rfl; done)
            simp only [List.getElem_toArray, List.getElem_cons_succ, List.getElem_cons_zero, Act.put, List.setIfInBounds_toArray, List.set_cons_zero, List.set_cons_succ]
            refine hd_take (v := ?_) 5 rfl (by kernel_rfl) (fun _ _ d _ _ h => (by cases d <;> exact h)) (by kernel_rfl) S3 (fun w' hS => ?_) ?_
            rotate_left
            focus (have q0 := SEl.f1 w' hS; have q1 := SEl.f2 w' hS; have q2 := SEl.f4 w' hS; have q3 := SEl.f5 w' hS; clear hS; go_simp; try rfl; done)
            simp only [List.getElem_toArray, List.getElem_cons_succ, List.getElem_cons_zero, Act.put, List.setIfInBounds_toArray, List.set_cons_zero, List.set_cons_succ]
            refine hd_take (v := ?_) 6 rfl (by kernel_rfl) (fun _ _ d _ _ h => (by cases d <;> exact h)) (by kernel_rfl) S3 (fun w' hS => ?_) ?_
            rotate_left
            focus (have q0 := SEl.f1 w' hS; have q1 := SEl.f2 w' hS; have q2 := SEl.f4 w' hS; have q3 := SEl.f5 w' hS; clear hS; go_simp; try rfl; done)
            simp only [List.getElem_toArray, List.getElem_cons_succ, List.getElem_cons_zero, Act.put, List.setIfInBounds_toArray, List.set_cons_zero, List.set_cons_succ]
            refine hd_take (v := ?_) 7 rfl (by kernel_rfl) (fun _ _ d _ _ h => (by cases d <;> exact h)) (by kernel_rfl) S3 (fun w' hS => ?_) ?_
            rotate_left
            focus (have q0 := SEl.f1 w' hS; have q1 := SEl.f2 w' hS; have q2 := SEl.f4 w' hS; have q3 := SEl.f5 w' hS; clear hS; go_simp; try rfl; done)
            simp only [List.getElem_toArray, List.getElem_cons_succ, List.getElem_cons_zero, Act.put, List.setIfInBounds_toArray, List.set_cons_zero, List.set_cons_succ]
            refine hd_take (v := ?_) 8 rfl (by kernel_rfl) (fun _ _ d _ _ h => (by cases d <;> exact h)) (by kernel_rfl) S3 (fun w' hS => ?_) ?_
            rotate_left
            focus (have q0 := SEl.f1 w' hS; have q1 := SEl.f2 w' hS; have q2 := SEl.f4 w' hS; have q3 := SEl.f5 w' hS; clear hS; go_simp; try rfl; done)
            simp only [List.getElem_toArray, List.getElem_cons_succ, List.getElem_cons_zero, Act.put, List.setIfInBounds_toArray, List.set_cons_zero, List.set_cons_succ]
            refine hd_take (v := ?_) 9 rfl (by kernel_rfl) (fun _ _ d _ _ h => (by cases d <;> exact h)) (by kernel_rfl) S3 (fun w' hS => ?_) ?_
            rotate_left
            focus (have q0 := SEl.f1 w' hS; have q1 := SEl.f2 w' hS; have q2 := SEl.f4 w' hS; have q3 := SEl.f5 w' hS; clear hS; go_simp; try rfl; done)
            simp only [List.getElem_toArray, List.getElem_cons_succ, List.getElem_cons_zero, Act.put, List.setIfInBounds_toArray, List.set_cons_zero, List.set_cons_succ]
            refine hd_take (v := ?_) 10 rfl (by kernel_rfl) (fun _ _ d _ _ h => (by cases d <;> exact h)) (by kernel_rfl) S3 (fun w' hS => ?_) ?_
            rotate_left
            focus (have q0 := SEl.f1 w' hS; have q1 := SEl.f2 w' hS; have q2 := SEl.f4 w' hS; have q3 := SEl.f5 w' hS; clear hS; go_simp; try rfl; done)
            simp only [List.getElem_toArray, List.getElem_cons_succ, List.getElem_cons_zero, Act.put, List.setIfInBounds_toArray, List.set_cons_zero, List.set_cons_succ]
            refine hd_take (v := ?_) 11 rfl (by kernel_rfl) (fun _ _ d _ _ h => (by cases d <;> exact h)) (by kernel_rfl) S3 (fun w' hS => ?_) ?_
            rotate_left
            focus (have q0 := SEl.f1 w' hS; have q1 := SEl.f2 w' hS; have q2 := SEl.f4 w' hS; have q3 := SEl.f5 w' hS; clear hS; go_simp; try rfl; done)
            simp only [List.getElem_toArray, List.getElem_cons_succ, List.getElem_cons_zero, Act.put, List.setIfInBounds_toArray, List.set_cons_zero, List.set_cons_succ]
            refine hd_take (v := ?_) 12 rfl (by kernel_rfl) (fun _ _ d _ _ h => (by cases d <;> exact h)) (by kernel_rfl) S3 (fun w' hS => ?_) ?_
            rotate_left
            focus (have q0 := SEl.f1 w' hS; have q1 := SEl.f2 w' hS; have q2 := SEl.f4 w' hS; have q3 := SEl.f5 w' hS; clear hS; go_simp; try rfl; done)
            simp only [List.getElem_toArray, List.getElem_cons_succ, List.getElem_cons_zero, Act.put, List.setIfInBounds_toArray, List.set_cons_zero, List.set_cons_succ]
            refine hd_take (v := ?_) 13 rfl (by kernel_rfl) (fun _ _ d _ _ h => (by cases d <;> exact h)) (by kernel_rfl) S3 (fun w' hS => ?_) ?_
            rotate_left
            focus (have q0 := SEl.f1 w' hS; have q1 := SEl.f2 w' hS; have q2 := SEl.f4 w' hS; have q3 := SEl.f5 w' hS; clear hS; go_simp; try rfl; done)
            simp only [List.getElem_toArray, List.getElem_cons_succ, List.getElem_cons_zero, Act.put, List.setIfInBounds_toArray, List.set_cons_zero, List.set_cons_succ]
            refine hd_take (v := ?_) 14 rfl (by kernel_rfl) (fun _ _ d _ _ h => (by cases d <;> exact h)) (by kernel_rfl) S3 (fun w' hS => ?_) ?_
            rotate_left
            focus (have q0 := SEl.f1 w' hS; have q1 := SEl.f2 w' hS; have q2 := SEl.f4 w' hS; have q3 := SEl.f5 w' hS; clear hS; go_simp; try rfl; done)
            simp only [List.getElem_toArray, List.getElem_cons_succ, List.getElem_cons_zero, Act.put, List.setIfInBounds_toArray, List.set_cons_zero, List.set_cons_succ]
            refine hd_take (v := ?_) 15 rfl (by kernel_rfl) (fun _ _ d _ _ h => (by cases d <;> exact h)) (by kernel_rfl) S3 (fun w' hS => ?_) ?_
            rotate_left
            focus (have q0 := SEl.f1 w' hS; have q1 := SEl.f2 w' hS; have q2 := SEl.f4 w' hS; have q3 := SEl.f5 w' hS; clear hS; go_simp; try rfl; done)
            simp only [List.getElem_toArray, List.getElem_cons_succ, List.getElem_cons_zero, Act.put, List.setIfInBounds_toArray, List.set_cons_zero, List.set_cons_succ]
            refine hd_take (v := ?_) 16 rfl (by kernel_rfl) (fun _ _ d _ _ h => (by cases d <;> exact h)) (by kernel_rfl) S3 (fun w' hS => ?_) ?_
            rotate_left
            focus (have q0 := SEl.f1 w' hS; have q1 := SEl.f2 w' hS; have q2 := SEl.f4 w' hS; have q3 := SEl.f5 w' hS; clear hS; go_simp; try rfl; done)
            simp only [List.getElem_toArray, List.getElem_cons_succ, List.getElem_cons_zero, Act.put, List.setIfInBounds_toArray, List.set_cons_zero, List.set_cons_succ]
            refine hd_take (v := ?_) 17 rfl (by kernel_rfl) (fun _ _ d _ _ h => (by cases d <;> exact h)) (by kernel_rfl) S3 (fun w' hS => ?_) ?_
            rotate_left
            focus (have q0 := SEl.f1 w' hS; have q1 := SEl.f2 w' hS; have q2 := SEl.f4 w' hS; have q3 := SEl.f5 w' hS; clear hS; go_simp; try rfl; done)
            simp only [List.getElem_toArray, List.getElem_cons_succ, List.getElem_cons_zero, Act.put, List.setIfInBounds_toArray, List.set_cons_zero, List.set_cons_succ]
            refine hd_take (v := ?_) 18 rfl (by kernel_rfl) (fun _ _ d _ _ h => (by cases d <;> exact h)) (by kernel_rfl) S3 (fun w' hS => ?_) ?_
            rotate_left
            focus (have q0 := SEl.f1 w' hS; have q1 := SEl.f2 w' hS; have q2 := SEl.f4 w' hS; have q3 := SEl.f5 w' hS; clear hS; go_simp; try rfl; done)
            simp only [List.getElem_toArray, List.getElem_cons_succ, List.getElem_cons_zero, Act.put, List.setIfInBounds_toArray, List.set_cons_zero, List.set_cons_succ]
            refine hd_take (v := ?_) 19 rfl (by kernel_rfl) (fun _ _ d _ _ h => (by cases d <;> exact h)) (by kernel_rfl) S3 (fun w' hS => ?_) ?_
            rotate_left
            focus (have q0 := SEl.f1 w' hS; have q1 := SEl.f2 w' hS; have q2 := SEl.f4 w' hS; have q3 := SEl.f5 w' hS; clear hS; go_simp; try rfl; done)
            simp only [List.getElem_toArray, List.getElem_cons_succ, List.getElem_cons_zero, Act.put, List.setIfInBounds_toArray, List.set_cons_zero, List.set_cons_succ]
            refine hd_take (v := ?_) 20 rfl (by kernel_rfl) (fun _ _ d _ _ h => (by cases d <;> exact h)) (by kernel_rfl) S3 (fun w' hS => ?_) ?_
            rotate_left
            focus (have q0 := SEl.f1 w' hS; have q1 := SEl.f2 w' hS; have q2 := SEl.f4 w' hS; have q3 := SEl.f5 w' hS; clear hS; go_simp; try rfl; done)
            simp only [List.getElem_toArray, List.getElem_cons_succ, List.getElem_cons_zero, Act.put, List.setIfInBounds_toArray, List.set_cons_zero, List.set_cons_succ]
            have kb0 := Env.blk H3.out 1 (b := B) rfl
            have g0 : w3.cell? ⟨B, 1, none⟩ = some (.int .i64 x.handle) := kb0.cellAt 1 rfl
            have f0 := kb0.unfrozen 1
            have h4 := Env.turnBlk H3.out 1 (b := B) rfl (kb0.set 1 (.int .i64 s.handle)) ((Only.refl (fun x => x = B) _).set (p := ⟨B, 1, none⟩) (.inl rfl) _)
            have S4 : SEl b (off + j * 7) s _ := hSE.out _ _ h4
            refine hd_one 21 (by kernel_rfl) ?_
            refine op_skip rfl (by kernel_rfl) (by go_simp; first | done | rfl) ?_
            refine ⟨S4, ?_⟩
            simp only [List.getElem_toArray, List.getElem_cons_succ, List.getElem_cons_zero, Act.put, List.setIfInBounds_toArray, List.set_cons_zero, List.set_cons_succ]
            refine hd_take (v := ?_) 22 rfl (by kernel_rfl) (fun _ _ d _ _ h => (by cases d <;> exact h)) (by kernel_rfl) S4 (fun w' hS => ?_) ?_
            rotate_left
            focus (clear hS; go_simp; try rfl; done)
            simp only [List.getElem_toArray, List.getElem_cons_succ, List.getElem_cons_zero, Act.put, List.setIfInBounds_toArray, List.set_cons_zero, List.set_cons_succ]
            clear kb0 g0 f0
            have kb1 := Env.blk h4 1 (b := B) rfl
            have g1 : (w3.setCell ⟨B, 1, none⟩ (.int .i64 s.handle)).cell? ⟨B, 2, none⟩ = some (.int .u8 x.alg) := kb1.cellAt 2 rfl
            have f1 := kb1.unfrozen 2
            have h5 := Env.turnBlk h4 1 (b := B) rfl (kb1.set 2 (.int .u8 s.alg)) ((Only.refl (fun x => x = B) _).set (p := ⟨B, 2, none⟩) (.inl rfl) _)
            have S5 : SEl b (off + j * 7) s _ := hSE.out _ _ h5
            refine hd_one 23 (by kernel_rfl) ?_
            refine op_skip rfl (by kernel_rfl) (by go_simp; first | done | rfl) ?_
            refine ⟨S5, ?_⟩
            simp only [List.getElem_toArray, List.getElem_cons_succ, List.getElem_cons_zero, Act.put, List.setIfInBounds_toArray, List.set_cons_zero, List.set_cons_succ]
            refine hd_take (v := ?_) 24 rfl (by kernel_rfl) (fun _ _ d _ _ h => (by cases d <;> exact h)) (by kernel_rfl) S5 (fun w' hS => ?_) ?_
            rotate_left
            focus (clear hS; go_simp; try rfl; done)
            simp only [List.getElem_toArray, List.getElem_cons_succ, List.getElem_cons_zero, Act.put, List.setIfInBounds_toArray, List.set_cons_zero, List.set_cons_succ]
            clear kb1 g1 f1
            have kb2 := Env.blk h5 1 (b := B) rfl
            have g2 : ((w3.setCell ⟨B, 1, none⟩ (.int .i64 s.handle)).setCell ⟨B, 2, none⟩ (.int .u8 s.alg)).cell? ⟨B, 5, none⟩ = some (.int .i64 x.data) := kb2.cellAt 5 rfl
            have f2 := kb2.unfrozen 5
            have h6 := Env.turnBlk h5 1 (b := B) rfl (kb2.set 5 (.int .i64 s.data)) ((Only.refl (fun x => x = B) _).set (p := ⟨B, 5, none⟩) (.inl rfl) _)
            have S6 : SEl b (off + j * 7) s _ := hSE.out _ _ h6
            refine hd_one 25 (by kernel_rfl) ?_
            refine op_skip rfl (by kernel_rfl) (by go_simp; first | done | rfl) ?_
            refine ⟨S6, ?_⟩
            simp only [List.getElem_toArray, List.getElem_cons_succ, List.getElem_cons_zero, Act.put, List.setIfInBounds_toArray, List.set_cons_zero, List.set_cons_succ]
            refine hd_take (v := ?_) 26 rfl (by kernel_rfl) (fun _ _ d _ _ h => (by cases d <;> exact h)) (by kernel_rfl) S6 (fun w' hS => ?_) ?_
            rotate_left
            focus (clear hS; go_simp; try rfl; done)
            simp only [List.getElem_toArray, List.getElem_cons_succ, List.getElem_cons_zero, Act.put, List.setIfInBounds_toArray, List.set_cons_zero, List.set_cons_succ]
            clear kb2 g2 f2
            have kb3 := Env.blk h6 1 (b := B) rfl
            have g3 : (((w3.setCell ⟨B, 1, none⟩ (.int .i64 s.handle)).setCell ⟨B, 2, none⟩ (.int .u8 s.alg)).setCell ⟨B, 5, none⟩ (.int .i64 s.data)).cell? ⟨B, 4, none⟩ = some (.int .i64 x.out) := kb3.cellAt 4 rfl
            have f3 := kb3.unfrozen 4
            have h7 := Env.turnBlk h6 1 (b := B) rfl (kb3.set 4 (.int .i64 s.out)) ((Only.refl (fun x => x = B) _).set (p := ⟨B, 4, none⟩) (.inl rfl) _)
            have S7 : SEl b (off + j * 7) s _ := hSE.out _ _ h7
            refine hd_one 27 (by kernel_rfl) ?_
            refine op_skip rfl (by kernel_rfl) (by go_simp; first | done | rfl) ?_
            refine ⟨S7, ?_⟩
            simp only [List.getElem_toArray, List.getElem_cons_succ, List.getElem_cons_zero, Act.put, List.setIfInBounds_toArray, List.set_cons_zero, List.set_cons_succ]
            clear kb3 g3 f3
            refine hd_done (by kernel_rfl) ?_
            have HE := Lib.hid h7
            clear h4 S4 h5 S5 h6 S6 h7 S7 S3 hSE
            have hBB := HBJ.out
            clear HBJ
            subst hBB
            go_wp2_with fail
            go_meet
            refine Lib.hid ?_
            rw [HHU.out]
            exact HE.out
            --]k2
          have q2 : (s.kind == (2 : Int)) = false := by rw [beq_eq_false_iff_ne]; exact k2
          by_cases k3 : s.kind = 3
          · have q3 : (s.kind == (3 : Int)) = true := by rw [k3]; rfl
            have hu : skA (useS s x) = skA { x with kind := s.kind, handle := s.handle, data := s.data } := by unfold useS; simp [k3]
            clear k3
            --[k3
            go_upto_region 17 with fail
            have h0 := HL.out.newK 43 (skA { x with kind := s.kind })
            unfold skA at h0
            obtain ⟨B, hBB⟩ : ∃ y, wr.heap.size = y := ⟨_, rfl⟩
            obtain ⟨wa, hwa⟩ : ∃ y, wr.alloc (.cells #[.int .u8 s.kind, .int .i64 x.handle, .int .u8 x.alg, .int .i64 x.count, .int .i64 x.out, .int .i64 x.data, .int .i64 x.more] 43) = y := ⟨_, rfl⟩
            have h0 : Env w1 wa [KS.ob u6 (usesTo l x j), obK B 43 #[.int .u8 s.kind, .int .i64 x.handle, .int .u8 x.alg, .int .i64 x.count, .int .i64 x.out, .int .i64 x.data, .int .i64 x.more]] := by rw [← hwa, ← hBB]; exact h0
            try rw [hwa]
            rw [hBB]
            rw [hBB] at hb3 hbw
            have H0 := Lib.hid h0
            have HBJ := Lib.hid hBB
            have HHU := Lib.hid hu
            clear h0 hwa hBB hu c0 c1 c2 c3 c4 c5 c6 x0 x1 x2 x3 x4 x5 x6
            have hSE : Hid (∀ W (L : List Ob), Env w1 W L → SkAt W b (off + j * 7) s) := Lib.hid fun W L hW => elemAt (hW.oldK HV1.out) HSS.out
            refine hd_start (SEl b (off + j * 7) s) (by kernel_rfl) ?_
            intro w3 hw'
            have H3 := Lib.hid (H0.out.draw 1)
            rw [← hw'] at H3
            clear hw' H0
            have S3 : SEl b (off + j * 7) s w3 := hSE.out _ _ H3.out
            refine hd_take (v := ?_) 0 rfl (by kernel_rfl) (fun _ _ d _ _ h => (by cases d <;> exact h)) (by kernel_rfl) S3 (fun w' hS => ?_) ?_
            rotate_left
            focus (have q0 := SEl.f1 w' hS; have q1 := SEl.f2 w' hS; have q2 := SEl.f4 w' hS; have q3 := SEl.f5 w' hS; clear hS; go_simp; try rfl; done)
            simp only [List.getElem_toArray, List.getElem_cons_succ, List.getElem_cons_zero, Act.put, List.setIfInBounds_toArray, List.set_cons_zero, List.set_cons_succ]
            refine hd_take (v := ?_) 1 rfl (by kernel_rfl) (fun _ _ d _ _ h => (by cases d <;> exact h)) (by kernel_rfl) S3 (fun w' hS => ?_) ?_
            rotate_left
            focus (have q0 := SEl.f1 w' hS; have q1 := SEl.f2 w' hS; have q2 := SEl.f4 w' hS; have q3 := SEl.f5 w' hS; clear hS; go_simp; try rfl; done)
            simp only [List.getElem_toArray, List.getElem_cons_succ, List.getElem_cons_zero, Act.put, List.setIfInBounds_toArray, List.set_cons_zero, List.set_cons_succ]
            refine hd_take (v := ?_) 2 rfl (by kernel_rfl) (fun _ _ d _ _ h => (by cases d <;> exact h)) (by kernel_rfl) S3 (fun w' hS => ?_) ?_
            rotate_left
            focus (have q0 := SEl.f1 w' hS; have q1 := SEl.f2 w' hS; have q2 := SEl.f4 w' hS; have q3 := SEl.f5 w' hS; clear hS; go_simp; try rfl; done)
            simp only [List.getElem_toArray, List.getElem_cons_succ, List.getElem_cons_zero, Act.put, List.setIfInBounds_toArray, List.set_cons_zero, List.set_cons_succ]
            refine hd_take (v := ?_) 3 rfl (by kernel_rfl) (fun _ _ d _ _ h => (by cases d <;> exact h)) (by kernel_rfl) S3 (fun w' hS => ?_) ?_
            rotate_left
            focus (have q0 := SEl.f1 w' hS; have q1 := SEl.f2 w' hS; have q2 := SEl.f4 w' hS; have q3 := SEl.f5 w' hS; clear hS; go_simp; try rfl; done)
            simp only [List.getElem_toArray, List.getElem_cons_succ, List.getElem_cons_zero, Act.put, List.setIfInBounds_toArray, List.set_cons_zero, List.set_cons_succ]
            refine hd_take (v := ?_) 4 rfl (by kernel_rfl) (fun _ _ d _ _ h => (by cases d <;> exact h)) (by kernel_rfl) S3 (fun w' hS => ?_) ?_
            rotate_left
            focus (have q0 := SEl.f1 w' hS; have q1 := SEl.f2 w' hS; have q2 := SEl.f4 w' hS; have q3 := SEl.f5 w' hS; clear hS; go_simp; try rfl; done)
            simp only [List.getElem_toArray, List.getElem_cons_succ, List.getElem_cons_zero, Act.put, List.setIfInBounds_toArray, List.set_cons_zero, List.set_cons_succ]
            refine hd_take (v := ?_) 5 rfl (by kernel_rfl) (fun _ _ d _ _ h => (by cases d <;> exact h)) (by kernel_rfl) S3 (fun w' hS => ?_) ?_
            rotate_left
            focus (have q0 := SEl.f1 w' hS; have q1 := SEl.f2 w' hS; have q2 := SEl.f4 w' hS; have q3 := SEl.f5 w' hS; clear hS; go_simp; try rfl; done)
            simp only [List.getElem_toArray, List.getElem_cons_succ, List.getElem_cons_zero, Act.put, List.setIfInBounds_toArray, List.set_cons_zero, List.set_cons_succ]
            refine hd_take (v := ?_) 6 rfl (by kernel_rfl) (fun _ _ d _ _ h => (by cases d <;> exact h)) (by kernel_rfl) S3 (fun w' hS => ?_) ?_
            rotate_left
            focus (have q0 := SEl.f1 w' hS; have q1 := SEl.f2 w' hS; have q2 := SEl.f4 w' hS; have q3 := SEl.f5 w' hS; clear hS; go_simp; try rfl; done)
            simp only [List.getElem_toArray, List.getElem_cons_succ, List.getElem_cons_zero, Act.put, List.setIfInBounds_toArray, List.set_cons_zero, List.set_cons_succ]
            refine hd_take (v := ?_) 7 rfl (by kernel_rfl) (fun _ _ d _ _ h => (by cases d <;> exact h)) (by kernel_rfl) S3 (fun w' hS => ?_) ?_
            rotate_left
            focus (have q0 := SEl.f1 w' hS; have q1 := SEl.f2 w' hS; have q2 := SEl.f4 w' hS; have q3 := SEl.f5 w' hS; clear hS; go_simp; try rfl; done)
            simp only [List.getElem_toArray, List.getElem_cons_succ, List.getElem_cons_zero, Act.put, List.setIfInBounds_toArray, List.set_cons_zero, List.set_cons_succ]
            refine hd_take (v := ?_) 8 rfl (by kernel_rfl) (fun _ _ d _ _ h => (by cases d <;> exact h)) (by kernel_rfl) S3 (fun w' hS => ?_) ?_
            rotate_left
            focus (have q0 := SEl.f1 w' hS; have q1 := SEl.f2 w' hS; have q2 := SEl.f4 w' hS; have q3 := SEl.f5 w' hS; clear hS; go_simp; try rfl; done)
            simp only [List.getElem_toArray, List.getElem_cons_succ, List.getElem_cons_zero, Act.put, List.setIfInBounds_toArray, List.set_cons_zero, List.set_cons_succ]
            refine hd_take (v := ?_) 9 rfl (by kernel_rfl) (fun _ _ d _ _ h => (by cases d <;> exact h)) (by kernel_rfl) S3 (fun w' hS => ?_) ?_
            rotate_left
            focus (have q0 := SEl.f1 w' hS; have q1 := SEl.f2 w' hS; have q2 := SEl.f4 w' hS; have q3 := SEl.f5 w' hS; clear hS; go_simp; try rfl; done)
            simp only [List.getElem_toArray, List.getElem_cons_succ, List.getElem_cons_zero, Act.put, List.setIfInBounds_toArray, List.set_cons_zero, List.set_cons_succ]
            refine hd_take (v := ?_) 10 rfl (by kernel_rfl) (fun _ _ d _ _ h => (by cases d <;> exact h)) (by kernel_rfl) S3 (fun w' hS => ?_) ?_
            rotate_left
            focus (have q0 := SEl.f1 w' hS; have q1 := SEl.f2 w' hS; have q2 := SEl.f4 w' hS; have q3 := SEl.f5 w' hS; clear hS; go_simp; try rfl; done)
            simp only [List.getElem_toArray, List.getElem_cons_succ, List.getElem_cons_zero, Act.put, List.setIfInBounds_toArray, List.set_cons_zero, List.set_cons_succ]
            have kb0 := Env.blk H3.out 1 (b := B) rfl
            have g0 : w3.cell? ⟨B, 1, none⟩ = some (.int .i64 x.handle) := kb0.cellAt 1 rfl
            have f0 := kb0.unfrozen 1
            have h4 := Env.turnBlk H3.out 1 (b := B) rfl (kb0.set 1 (.int .i64 s.handle)) ((Only.refl (fun x => x = B) _).set (p := ⟨B, 1, none⟩) (.inl rfl) _)
            have S4 : SEl b (off + j * 7) s _ := hSE.out _ _ h4
            refine hd_one 11 (by kernel_rfl) ?_
            refine op_skip rfl (by kernel_rfl) (by go_simp; first | done | rfl) ?_
            refine ⟨S4, ?_⟩
            simp only [List.getElem_toArray, List.getElem_cons_succ, List.getElem_cons_zero, Act.put, List.setIfInBounds_toArray, List.set_cons_zero, List.set_cons_succ]
            refine hd_take (v := ?_) 12 rfl (by kernel_rfl) (fun _ _ d _ _ h => (by cases d <;> exact h)) (by kernel_rfl) S4 (fun w' hS => ?_) ?_
            rotate_left
            focus (clear hS; go_simp; try rfl; done)
            simp only [List.getElem_toArray, List.getElem_cons_succ, List.getElem_cons_zero, Act.put, List.setIfInBounds_toArray, List.set_cons_zero, List.set_cons_succ]
            clear kb0 g0 f0
            have kb1 := Env.blk h4 1 (b := B) rfl
            have g1 : (w3.setCell ⟨B, 1, none⟩ (.int .i64 s.handle)).cell? ⟨B, 5, none⟩ = some (.int .i64 x.data) := kb1.cellAt 5 rfl
            have f1 := kb1.unfrozen 5
            have h5 := Env.turnBlk h4 1 (b := B) rfl (kb1.set 5 (.int .i64 s.data)) ((Only.refl (fun x => x = B) _).set (p := ⟨B, 5, none⟩) (.inl rfl) _)
            have S5 : SEl b (off + j * 7) s _ := hSE.out _ _ h5
            refine hd_one 13 (by kernel_rfl) ?_
            refine op_skip rfl (by kernel_rfl) (by go_simp; first | done | rfl) ?_
            refine ⟨S5, ?_⟩
            simp only [List.getElem_toArray, List.getElem_cons_succ, List.getElem_cons_zero, Act.put, List.setIfInBounds_toArray, List.set_cons_zero, List.set_cons_succ]
            clear kb1 g1 f1
            refine hd_done (by kernel_rfl) ?_
            have HE := Lib.hid h5
            clear h4 S4 h5 S5 S3 hSE
            have hBB := HBJ.out
            clear HBJ
            subst hBB
            go_wp2_with fail
            go_meet
            refine Lib.hid ?_
            rw [HHU.out]
            exact HE.out
            --]k3
          have q3 : (s.kind == (3 : Int)) = false := by rw [beq_eq_false_iff_ne]; exact k3
          by_cases k5 : s.kind = 5
          · have q5 : (s.kind == (5 : Int)) = true := by rw [k5]; rfl
            have hu : skA (useS s x) = skA { x with kind := s.kind, handle := s.handle, data := s.data } := by unfold useS; simp [k5]
            clear k5
            --[k5
            go_upto_region 17 with fail
            have h0 := HL.out.newK 43 (skA { x with kind := s.kind })
            unfold skA at h0
            obtain ⟨B, hBB⟩ : ∃ y, wr.heap.size = y := ⟨_, rfl⟩
            obtain ⟨wa, hwa⟩ : ∃ y, wr.alloc (.cells #[.int .u8 s.kind, .int .i64 x.handle, .int .u8 x.alg, .int .i64 x.count, .int .i64 x.out, .int .i64 x.data, .int .i64 x.more] 43) = y := ⟨_, rfl⟩
            have h0 : Env w1 wa [KS.ob u6 (usesTo l x j), obK B 43 #[.int .u8 s.kind, .int .i64 x.handle, .int .u8 x.alg, .int .i64 x.count, .int .i64 x.out, .int .i64 x.data, .int .i64 x.more]] := by rw [← hwa, ← hBB]; exact h0
            try rw [hwa]
            rw [hBB]
            rw [hBB] at hb3 hbw
            have H0 := Lib.hid h0
            have HBJ := Lib.hid hBB
            have HHU := Lib.hid hu
            clear h0 hwa hBB hu c0 c1 c2 c3 c4 c5 c6 x0 x1 x2 x3 x4 x5 x6
            have hSE : Hid (∀ W (L : List Ob), Env w1 W L → SkAt W b (off + j * 7) s) := Lib.hid fun W L hW => elemAt (hW.oldK HV1.out) HSS.out
            refine hd_start (SEl b (off + j * 7) s) (by kernel_rfl) ?_
            intro w3 hw'
            have H3 := Lib.hid (H0.out.draw 1)
            rw [← hw'] at H3
            clear hw' H0
            have S3 : SEl b (off + j * 7) s w3 := hSE.out _ _ H3.out
            refine hd_take (v := ?_) 0 rfl (by kernel_rfl) (fun _ _ d _ _ h => (by cases d <;> exact h)) (by kernel_rfl) S3 (fun w' hS => ?_) ?_
            rotate_left
            focus (have q0 := SEl.f1 w' hS; have q1 := SEl.f2 w' hS; have q2 := SEl.f4 w' hS; have q3 := SEl.f5 w' hS; clear hS; go_simp; try rfl; done)
            simp only [List.getElem_toArray, List.getElem_cons_succ, List.getElem_cons_zero, Act.put, List.setIfInBounds_toArray, List.set_cons_zero, List.set_cons_succ]
            refine hd_take (v := ?_) 1 rfl (by kernel_rfl) (fun _ _ d _ _ h => (by cases d <;> exact h)) (by kernel_rfl) S3 (fun w' hS => ?_) ?_
            rotate_left
            focus (have q0 := SEl.f1 w' hS; have q1 := SEl.f2 w' hS; have q2 := SEl.f4 w' hS; have q3 := SEl.f5 w' hS; clear hS; go_simp; try rfl; done)
            simp only [List.getElem_toArray, List.getElem_cons_succ, List.getElem_cons_zero, Act.put, List.setIfInBounds_toArray, List.set_cons_zero, List.set_cons_succ]
            refine hd_take (v := ?_) 2 rfl (by kernel_rfl) (fun _ _ d _ _ h => (by cases d <;> exact h)) (by kernel_rfl) S3 (fun w' hS => ?_) ?_
            rotate_left
            focus (have q0 := SEl.f1 w' hS; have q1 := SEl.f2 w' hS; have q2 := SEl.f4 w' hS; have q3 := SEl.f5 w' hS; clear hS; go_simp; try rfl; done)
            simp only [List.getElem_toArray, List.getElem_cons_succ, List.getElem_cons_zero, Act.put, List.setIfInBounds_toArray, List.set_cons_zero, List.set_cons_succ]
            refine hd_take (v := ?_) 3 rfl (by kernel_rfl) (fun _ _ d _ _ h => (by cases d <;> exact h)) (by kernel_rfl) S3 (fun w' hS => ?_) ?_
            rotate_left
            focus (have q0 := SEl.f1 w' hS; have q1 := SEl.f2 w' hS; have q2 := SEl.f4 w' hS; have q3 := SEl.f5 w' hS; clear hS; go_simp; try rfl; done)
            simp only [List.getElem_toArray, List.getElem_cons_succ, List.getElem_cons_zero, Act.put, List.setIfInBounds_toArray, List.set_cons_zero, List.set_cons_succ]
            refine hd_take (v := ?_) 4 rfl (by kernel_rfl) (fun _ _ d _ _ h => (by cases d <;> exact h)) (by kernel_rfl) S3 (fun w' hS => ?_) ?_
            rotate_left
            focus (have q0 := SEl.f1 w' hS; have q1 := SEl.f2 w' hS; have q2 := SEl.f4 w' hS; have q3 := SEl.f5 w' hS; clear hS; go_simp; try rfl; done)
            simp only [List.getElem_toArray, List.getElem_cons_succ, List.getElem_cons_zero, Act.put, List.setIfInBounds_toArray, List.set_cons_zero, List.set_cons_succ]
            refine hd_take (v := ?_) 5 rfl (by kernel_rfl) (fun _ _ d _ _ h => (by cases d <;> exact h)) (by kernel_rfl) S3 (fun w' hS => ?_) ?_
            rotate_left
            focus (have q0 := SEl.f1 w' hS; have q1 := SEl.f2 w' hS; have q2 := SEl.f4 w' hS; have q3 := SEl.f5 w' hS; clear hS; go_simp; try rfl; done)
            simp only [List.getElem_toArray, List.getElem_cons_succ, List.getElem_cons_zero, Act.put, List.setIfInBounds_toArray, List.set_cons_zero, List.set_cons_succ]
            refine hd_take (v := ?_) 6 rfl (by kernel_rfl) (fun _ _ d _ _ h => (by cases d <;> exact h)) (by kernel_rfl) S3 (fun w' hS => ?_) ?_
            rotate_left
            focus (have q0 := SEl.f1 w' hS; have q1 := SEl.f2 w' hS; have q2 := SEl.f4 w' hS; have q3 := SEl.f5 w' hS; clear hS; go_simp; try rfl; done)
            simp only [List.getElem_toArray, List.getElem_cons_succ, List.getElem_cons_zero, Act.put, List.setIfInBounds_toArray, List.set_cons_zero, List.set_cons_succ]
            refine hd_take (v := ?_) 7 rfl (by kernel_rfl) (fun _ _ d _ _ h => (by cases d <;> exact h)) (by kernel_rfl) S3 (fun w' hS => ?_) ?_
            rotate_left
            focus (have q0 := SEl.f1 w' hS; have q1 := SEl.f2 w' hS; have q2 := SEl.f4 w' hS; have q3 := SEl.f5 w' hS; clear hS; go_simp; try rfl; done)
            simp only [List.getElem_toArray, List.getElem_cons_succ, List.getElem_cons_zero, Act.put, List.setIfInBounds_toArray, List.set_cons_zero, List.set_cons_succ]
            refine hd_take (v := ?_) 8 rfl (by kernel_rfl) (fun _ _ d _ _ h => (by cases d <;> exact h)) (by kernel_rfl) S3 (fun w' hS => ?_) ?_
            rotate_left
            focus (have q0 := SEl.f1 w' hS; have q1 := SEl.f2 w' hS; have q2 := SEl.f4 w' hS; have q3 := SEl.f5 w' hS; clear hS; go_simp; try rfl; done)
            simp only [List.getElem_toArray, List.getElem_cons_succ, List.getElem_cons_zero, Act.put, List.setIfInBounds_toArray, List.set_cons_zero, List.set_cons_succ]
            refine hd_take (v := ?_) 9 rfl (by kernel_rfl) (fun _ _ d _ _ h => (by cases d <;> exact h)) (by kernel_rfl) S3 (fun w' hS => ?_) ?_
            rotate_left
            focus (have q0 := SEl.f1 w' hS; have q1 := SEl.f2 w' hS; have q2 := SEl.f4 w' hS; have q3 := SEl.f5 w' hS; clear hS; go_simp; try rfl; done)
            simp only [List.getElem_toArray, List.getElem_cons_succ, List.getElem_cons_zero, Act.put, List.setIfInBounds_toArray, List.set_cons_zero, List.set_cons_succ]
            refine hd_take (v := ?_) 10 rfl (by kernel_rfl) (fun _ _ d _ _ h => (by cases d <;> exact h)) (by kernel_rfl) S3 (fun w' hS => ?_) ?_
            rotate_left
            focus (have q0 := SEl.f1 w' hS; have q1 := SEl.f2 w' hS; have q2 := SEl.f4 w' hS; have q3 := SEl.f5 w' hS; clear hS; go_simp; try rfl; done)
            simp only [List.getElem_toArray, List.getElem_cons_succ, List.getElem_cons_zero, Act.put, List.setIfInBounds_toArray, List.set_cons_zero, List.set_cons_succ]
            have kb0 := Env.blk H3.out 1 (b := B) rfl
            have g0 : w3.cell? ⟨B, 1, none⟩ = some (.int .i64 x.handle) := kb0.cellAt 1 rfl
            have f0 := kb0.unfrozen 1
            have h4 := Env.turnBlk H3.out 1 (b := B) rfl (kb0.set 1 (.int .i64 s.handle)) ((Only.refl (fun x => x = B) _).set (p := ⟨B, 1, none⟩) (.inl rfl) _)
            have S4 : SEl b (off + j * 7) s _ := hSE.out _ _ h4
            refine hd_one 11 (by kernel_rfl) ?_
            refine op_skip rfl (by kernel_rfl) (by go_simp; first | done | rfl) ?_
            refine ⟨S4, ?_⟩
            simp only [List.getElem_toArray, List.getElem_cons_succ, List.getElem_cons_zero, Act.put, List.setIfInBounds_toArray, List.set_cons_zero, List.set_cons_succ]
            refine hd_take (v := ?_) 12 rfl (by kernel_rfl) (fun _ _ d _ _ h => (by cases d <;> exact h)) (by kernel_rfl) S4 (fun w' hS => ?_) ?_
            rotate_left
            focus (clear hS; go_simp; try rfl; done)
            simp only [List.getElem_toArray, List.getElem_cons_succ, List.getElem_cons_zero, Act.put, List.setIfInBounds_toArray, List.set_cons_zero, List.set_cons_succ]
            clear kb0 g0 f0
            have kb1 := Env.blk h4 1 (b := B) rfl
            have g1 : (w3.setCell ⟨B, 1, none⟩ (.int .i64 s.handle)).cell? ⟨B, 5, none⟩ = some (.int .i64 x.data) := kb1.cellAt 5 rfl
            have f1 := kb1.unfrozen 5
            have h5 := Env.turnBlk h4 1 (b := B) rfl (kb1.set 5 (.int .i64 s.data)) ((Only.refl (fun x => x = B) _).set (p := ⟨B, 5, none⟩) (.inl rfl) _)
            have S5 : SEl b (off + j * 7) s _ := hSE.out _ _ h5
            refine hd_one 13 (by kernel_rfl) ?_
            refine op_skip rfl (by kernel_rfl) (by go_simp; first | done | rfl) ?_
            refine ⟨S5, ?_⟩
            simp only [List.getElem_toArray, List.getElem_cons_succ, List.getElem_cons_zero, Act.put, List.setIfInBounds_toArray, List.set_cons_zero, List.set_cons_succ]
            clear kb1 g1 f1
            refine hd_done (by kernel_rfl) ?_
            have HE := Lib.hid h5
            clear h4 S4 h5 S5 S3 hSE
            have hBB := HBJ.out
            clear HBJ
            subst hBB
            go_wp2_with fail
            go_meet
            refine Lib.hid ?_
            rw [HHU.out]
            exact HE.out
            --]k5
          have q5 : (s.kind == (5 : Int)) = false := by rw [beq_eq_false_iff_ne]; exact k5
          by_cases k4 : s.kind = 4
          · have q4 : (s.kind == (4 : Int)) = true := by rw [k4]; rfl
            have hu : skA (useS s x) = skA { x with kind := s.kind, handle := s.handle } := by unfold useS; simp [k4]
            clear k4
            --[k4
            go_wp2_with fail
            go_meet
            refine Lib.hid ?_
            rw [hu]
            exact HL.out.newK _ _
            --]k4
          have q4 : (s.kind == (4 : Int)) = false := by rw [beq_eq_false_iff_ne]; exact k4
          by_cases k6 : s.kind = 6
          · have q6 : (s.kind == (6 : Int)) = true := by rw [k6]; rfl
            have hu : skA (useS s x) = skA { x with kind := s.kind, handle := s.handle } := by unfold useS; simp [k6]
            clear k6
            --[k6
            go_wp2_with fail
            go_meet
            refine Lib.hid ?_
            rw [hu]
            exact HL.out.newK _ _
            --]k6
          have q6 : (s.kind == (6 : Int)) = false := by rw [beq_eq_false_iff_ne]; exact k6
          by_cases k9 : s.kind = 9
          · have q9 : (s.kind == (9 : Int)) = true := by rw [k9]; rfl
            have hu : skA (useS s x) = skA { x with kind := s.kind, handle := s.handle } := by unfold useS; simp [k9]
            clear k9
            --[k9
            go_wp2_with fail
            go_meet
            refine Lib.hid ?_
            rw [hu]
            exact HL.out.newK _ _
            --]k9
          have q9 : (s.kind == (9 : Int)) = false := by rw [beq_eq_false_iff_ne]; exact k9
          by_cases k10 : s.kind = 10
          · have q10 : (s.kind == (10 : Int)) = true := by rw [k10]; rfl
            have hu : skA (useS s x) = skA { x with kind := s.kind, handle := s.handle } := by unfold useS; simp [k10]
            clear k10
            --[k10
            go_wp2_with fail
            go_meet
            refine Lib.hid ?_
            rw [hu]
            exact HL.out.newK _ _
            --]k10
          have q10 : (s.kind == (10 : Int)) = false := by rw [beq_eq_false_iff_ne]; exact k10
          by_cases k7 : s.kind = 7
          · have q7 : (s.kind == (7 : Int)) = true := by rw [k7]; rfl
            have hu : skA (useS s x) = skA { s with count := x.count } := by unfold useS; simp [k7]
            clear k7
            --[k7
            go_wp2_with fail
            go_meet
            refine Lib.hid ?_
            rw [hu]
            exact HL.out.newK _ _
            --]k7
          have q7 : (s.kind == (7 : Int)) = false := by rw [beq_eq_false_iff_ne]; exact k7
          by_cases k8 : s.kind = 8
          · have q8 : (s.kind == (8 : Int)) = true := by rw [k8]; rfl
            have hu : skA (useS s x) = skA { s with more := x.more } := by unfold useS; simp [k8]
            clear k8
            --[k8
            go_wp2_with fail
            go_meet
            refine Lib.hid ?_
            rw [hu]
            exact HL.out.newK _ _
            --]k8
          have q8 : (s.kind == (8 : Int)) = false := by rw [beq_eq_false_iff_ne]; exact k8
          have hu : skA (useS s x) = skA { x with kind := s.kind } := by unfold useS; simp only [k1, k2, k3, k4, k5, k6, k7, k8, k9, k10, if_false, or_self]
          go_wp2_with fail
          go_meet
          refine Lib.hid ?_
          rw [hu]
          exact HL.out.newK _ _
        case rest =>
          --[rest
          have HC := hcut
          clear hcut
          have kb := HC.out.blk 1 (b := wr.heap.size) rfl
          obtain ⟨y, hy⟩ : ∃ y, useS s x = y := ⟨_, rfl⟩
          rw [hy] at HC kb
          have hst := usesTo_step l x HSS.out
          rw [hy] at hst
          have HST := Lib.hid hst
          unfold skA at kb
          clear x0 x1 x2 x3 x4 x5 x6 c0 c1 c2 c3 c4 c5 c6 hst
          have d0 := kb.cellAt 0 rfl
          have d1 := kb.cellAt 1 rfl
          have d2 := kb.cellAt 2 rfl
          have d3 := kb.cellAt 3 rfl
          have d4 := kb.cellAt 4 rfl
          have d5 := kb.cellAt 5 rfl
          have d6 := kb.cellAt 6 rfl
          clear kb hy
          have hown0 := Env.row (HC.out.below ((Below.refl _ _).alloc (Nat.le_refl _) (.cells (skA y) 43))) 0 rfl
          rw [usesTo_len l x (by omega)] at hown0
          have HOWN := Lib.hid hown0
          have hjm : j ≤ 300 := by omega
          obtain ⟨i0, hi, hz0, hz1, hz2⟩ := info_parts infoS
          clear hown0
          go_wp2_with (at_builtin; refine wpList_append_lies _ rfl _ _ 22 rfl 0 43 i0 _ 7 56 Try.underlying22 hi hz0 hz1 hz2 rfl (by decide) u6 j (KS.fl (usesTo l x j)) rfl HOWN.out ⟨wc.heap.size, 0, none⟩ 1 1 (KS.cv y) rfl rfl (World.news_of_block (heap_alloc_new _ _)) (KS.one y) (by decide) (max_len (by omega)) (by omega) (Nat.zero_le _) _ rfl ?_)
          intro g cg w7 k1 k2 k3 k4
          clear hi hz0 hz1 hz2
          have h8 : Env w1 w7 ([KS.ob (.slice (some ⟨g, 0, none⟩) (j + 1) cg) (usesTo l x (j + 1))] ++ [obK wr.heap.size 43 (skA y)]) := by
            have hb := HC.out.below ((Below.refl _ _).alloc (Nat.le_refl _) (.cells (skA y) 43))
            refine hb.rowUp 0 rfl ?_ k2 ?_
            · rw [HST.out]
              show w7.ownsRow 0 KS.e KS.sz _ (usesTo l x j ++ [y]).length (KS.fl (usesTo l x j ++ [y]))
              rw [KS.fl_app, KS.fl_one, List.length_append, usesTo_len l x (by omega)]
              exact k1
            · rcases k3 with k3 | k3
              · exact .inl (by rw [k3]; rfl)
              · exact .inr (by rw [k3]; simp [Value.ownBlock])
          have H9 := Lib.hid h8.keepL
          clear h8 k1 k2 k3 k4 HOWN HC
          have hw1 : IntKind.i64.wrap ((j : Int) + 1) = ((j + 1 : Nat) : Int) := by rw [IntWalk.i64_in _ (by omega)]; omega
          go_wp2_with fail
          refine ⟨⟨j + 1, by omega, rfl, H9⟩, ?_⟩
          have q9 : l.length - ((j : Int) + 1).toNat < l.length - ((j : Int)).toNat := by omega
          exact q9
          --]rest
      · have t4 : decide ((j : Int) < (l.length : Int)) = false := by rw [decide_eq_false_iff_not]; omega
        have hjl : j = l.length := by omega
        rw [hjl] at HL
        obtain ⟨m, hm⟩ : ∃ m, usesTo l x l.length = m := ⟨_, rfl⟩
        have hml : m.length = l.length := by rw [← hm]; exact usesTo_len l x (Nat.le_refl _)
        obtain ⟨_, he1, he2, he3⟩ := uses_all l m x hml (fun i s h => by rw [← hm]; exact usesTo_get l x i s h) l.length (Nat.le_refl _)
        have hmo : ∀ y ∈ m, OKsk y := by
          intro y hy
          rw [← hm] at hy
          unfold usesTo at hy
          rw [List.take_length] at hy
          obtain ⟨s, hs, rfl⟩ := List.mem_map.1 hy
          exact useS_ok (HOK.out s hs) HX.out
        rw [hm] at HL
        have HM := Lib.hid (And.intro hml (And.intro he2 (And.intro he3 hmo)))
        have HRD : Hid (∀ L, RdS w1 ([KS.ob u6 m] ++ L) u6 m) := Lib.hid fun L wx L2 h => Env.kR h 0 rfl
        clear hjl hm hml he1 he2 he3 hmo
        go_wp2_with fail
        refine (runs_env HL.out (RdS.old HV1.out) HOK.out (by omega)).mono ?_
        rintro e w2 ⟨r, rfl, h2⟩
        have H2 := Lib.hid h2
        clear h2
        go_wp2_with fail
        refine (runs_env H2.out (HRD.out _) HM.out.2.2.2 (by rw [HM.out.1]; omega)).mono ?_
        rintro e w3 ⟨r', rfl, h3⟩
        have H3 := Lib.hid h3
        clear h3 H2
        have ra : RunsRd w3 r (allTo l l.length) := (H3.out.runs 1 rfl).rd
        have rb : RunsRd w3 r' (allTo l l.length) := by
          have := (H3.out.runs (v := r') (l := allTo m m.length) 2 rfl).rd
          rw [HM.out.1, HM.out.2.2.1] at this
          exact this
        have HRR := Lib.hid (And.intro ra rb)
        clear ra rb
        go_wp2_with fail
        refine (sameRuns_env' H3.out HRR.out.1 HRR.out.2).mono ?_
        rintro e w4 ⟨he, h4⟩
        rw [decide_eq_true rfl] at he
        subst he
        have H4 := Lib.hid h4
        clear h4 H3 HRR
        go_wp2_with fail
        refine (codes_env H4.out (RdS.old HV1.out) HOK.out (by omega)).mono ?_
        rintro e w5 ⟨c, rfl, h5⟩
        have H5 := Lib.hid h5
        clear h5 H4
        go_wp2_with fail
        refine (codes_env H5.out (HRD.out _) HM.out.2.2.2 (by rw [HM.out.1]; omega)).mono ?_
        rintro e w6 ⟨c', rfl, h6⟩
        have ra : KC.R w6 c (codesL l) := h6.kR 3 rfl
        have rb : KC.R w6 c' (codesL l) := by
          have := h6.kR 4 (v := c') (l := codesL m) rfl
          unfold codesL at this ⊢
          rw [HM.out.1, HM.out.2.1] at this
          exact this
        have HRR := Lib.hid (And.intro ra rb)
        have H6 := Lib.hid h6
        clear ra rb h6 H5
        go_wp2_with fail
        refine (sameC_any _ _ _ _ _ HRR.out.1 HRR.out.2).mono ?_
        rintro e w7 ⟨he, n, hn⟩
        rw [sameL_refl eqC (fun x => by simp [eqC])] at he
        subst he
        have h7 := H6.out.draw n
        rw [← hn] at h7
        have H7 := Lib.hid h7
        clear h7 hn HRR H6
        go_wp2_with fail
        go_ret
        rw [hB]
        exact ⟨rfl, HB1.out.trans (H7.out.base.mono (by have := HB1.out.size; omega))⟩
end costUses
end Go.Proofs.Ytkidijjhedjifaa
namespace Go.Proofs.Ytkidijjhedjifaa.costUses
open Go.ChangeShapes Go.WideShapes Go.ChangeAt Go.RowKit
set_option linter.unusedVariables false

set_option maxRecDepth 100000 in
theorem lifted (os : Os) (started : os.Started) (H : Type) (enc : TypeId × Value → H) :
    ReturnsInHanded {} Try.checked os 5 .any (Rows.costUsesSpec.pre6 enc Try.prog Try.f5 Rows.costUsesRow.domain false) (Rows.costUsesSpec.post enc Try.prog Try.f5 false true false false) := by
  refine returnsInHanded_of_change (C := Try.checked) own started (by kernel_rfl) Try.func5
    (ChangeSpec.witness6 (enc := enc) (C := Try.checked) false ⟨#[], #[.slice none 0 0, .agg #[.int .u8 0, .int .i64 0, .int .u8 0, .int .i64 0, .int .i64 0, .int .i64 0, .int .i64 0]], []⟩ 8 (by kernel_rfl) (by kernel_rfl) (by kernel_rfl) (by kernel_rfl)) ?_
  intro W base args ds gs before hval0 hW hcnd _
  have hval : ∀ (j : Nat) t v, Try.f5.params[j]? = some t → args[j]? = some v → Value.okWide Try.prog W .any base t v := hval0
  have hW' := hW
  obtain ⟨p, q, hA0, hV, rfl, hfz, hnd⟩ := hW
  have hA : DataW.TrodAll enc Try.prog W 0 (fun _ => true) true Try.f5.params.toList args.toList ds p := hA0
  rw [Try.params5] at hA hval
  obtain ⟨v0, vs0, d0, ds0, p0, q0, hargs, rfl, rfl, h0, r0⟩ := trodAll_cons hA
  obtain ⟨v1, vs1, d1, ds1, p1, q1, rfl, rfl, rfl, h1, r1⟩ := trodAll_cons r0
  obtain ⟨rfl, rfl, rfl⟩ := trodAll_nil r1
  obtain rfl : args = #[v0, v1] := by cases args; simp_all
  obtain ⟨rfl, rfl⟩ := trodVars_none hV
  obtain ⟨a0, e0⟩ := openSks (hval 0 22 v0 rfl rfl) h0
  obtain ⟨n1_0, e1⟩ := openSk (hval 1 43 v1 rfl rfl) h1
  clear hA0 hval0
  simp only [List.append_nil] at hW'
  refine (walk v0 a0 e0 v1 n1_0 e1).mono fun e W' ⟨he, hg⟩ => ?_
  subst he
  exact ⟨_, rfl, law_post laidOut (by kernel_rfl) rfl rfl Try.underlying4 hW' hg rfl rfl rfl⟩

theorem over : Rows.costUsesRow.holds Try.pinned (OpenSpec.ofChange Rows.costUsesSpec) :=
  OpenClaim.holds_of_wide 5 Try.f5 rfl rfl rfl rfl rfl rfl rfl ⟨rfl, rfl, rfl, rfl, rfl⟩ rfl rfl rfl rfl rfl (by kernel_rfl) Try.func5 (by kernel_rfl)
    (of_decide_eq_true (by kernel_rfl)) (by unfold Func.isWrapper; rw [if_neg (of_decide_eq_false (by kernel_rfl))]; exact ⟨rfl, rfl⟩)
    (fun os started H enc _ => lifted os started H enc)

theorem proved : Rows.CostUsesSaid := over
end Go.Proofs.Ytkidijjhedjifaa.costUses
