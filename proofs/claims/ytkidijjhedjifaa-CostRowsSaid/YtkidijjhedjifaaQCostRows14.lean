/- The statement CostRows: for every input turnkey/turnkeylaw22.CostRows returns true, and each argument reads as it did. Its walk is proved in CostRows; here is the step from the walk to the row. -/
import Derived.Test.YtkidijjhedjifaaRows
import Derived.Test.YtkidijjhedjifaaQCostRows0
import Derived.Test.YtkidijjhedjifaaQCostRows1
import Derived.Test.YtkidijjhedjifaaQCostRows13
import Derived.Test.YtkidijjhedjifaaQCostRows8
import Derived.Test.YtkidijjhedjifaaQCostRows9
/- The document's Each, Codes, Runs, Held. -/
namespace Go.Proofs.Ytkidijjhedjifaa
open Go.RowKit
set_option maxRecDepth 100000
set_option linter.unusedVariables false
set_option linter.unusedSimpArgs false
attribute [local go_sem] Oper.semAt_some
section
variable {w0 w : World} {obs : List Ob}
set_option maxHeartbeats 4000000 in
theorem reach_env (h : Env w0 w obs) {v : Value} {l : List Sk} (hv : RdS w0 obs v l) (hok : ∀ s ∈ l, OKsk s) (hl : l.length ≤ 300) :
    Calls Try.prog 17 #[v] w fun e w' => ∃ u ts, e = .returned u ∧ ts.map (·.2) = eachL l ∧ Env w0 w' (obs ++ [obTR u ts]) := by
  have HE := Lib.hid h
  have HV := Lib.hid hv
  have HOK := Lib.hid hok
  obtain ⟨ao, cap, hvf, hc1, hc2, _⟩ := (hv w [] (by rw [List.append_nil]; exact h)).any
  subst hvf
  clear h hv hok
  go_enter Try.func17, Try.ntmps17
  go_wp2_with fail
  refine (rnew_env HE.out).mono ?_
  rintro e w1 ⟨P, rfl, h1⟩
  have h2 : Env w0 w1 (obs ++ [obRP P hs0] ++ [obTR (.slice none 0 0) []]) := h1.llNil (st := 31) (e := 51) (sz := 3)
  rw [List.append_assoc] at h2
  have H2 := Lib.hid h2
  clear h1 h2
  unfold rpV
  go_wp2_with fail
  go_loopw [4, 5] (fun ov iv wx => ∃ j : Nat, j ≤ l.length ∧ iv = .int .i64 (j : Int) ∧ ∃ ts, Hid (ts.map (·.2) = eachTo l j) ∧ Hid (Env w0 wx (obs ++ [obRP P (stTo l j), obTR ov ts]))) (fun _ iv _ => l.length - (RowKit.intOf iv).toNat)
  case atStart => exact ⟨0, Nat.zero_le _, rfl, [], Lib.hid rfl, H2⟩
  case round =>
    obtain ⟨j, hj, rfl, ts, HT, HL⟩ := hrel
    clear H2
    by_cases hlt : j < l.length
    · obtain ⟨s, hs⟩ : ∃ s, l[j]? = some s := ⟨_, List.getElem?_eq_getElem hlt⟩
      have t3 : decide ((j : Int) < (l.length : Int)) = true := by rw [decide_eq_true_eq]; omega
      obtain ⟨b, off, hao, hbl, hsk⟩ := KS.elem (HV.out wr _ HL.out) hs
      subst hao
      have c0 := hsk.c0
      have c1 := hsk.c1
      have c2 := hsk.c2
      have c3 := hsk.c3
      have c4 := hsk.c4
      have c5 := hsk.c5
      have c6 := hsk.c6
      have bj : 0 ≤ (j : Int) ∧ (j : Int) < (l.length : Int) := by omega
      have HSS := Lib.hid hs
      clear hsk hs
      go_wp2_with fail
      clear c0 c1 c2 c3 c4 c5 c6
      refine (rdo_env HL.out obs.length (atR 0) (stTo_ok l j) (by omega) s (HOK.out s (List.mem_of_getElem? HSS.out))).mono ?_
      rintro e w2 ⟨v, rfl, h2⟩
      obtain ⟨rs, hrs⟩ : ∃ rs, runsD (stTo l j) s = rs := ⟨_, rfl⟩
      rw [hrs, ← stTo_step l HSS.out] at h2
      have h3 : Env w0 w2 ((obs ++ [obRP P (stTo l (j + 1)), obTR u4 ts]) ++ [obRuns v rs]) := by
        rw [List.set_append_right _ _ (Nat.le_refl _), Nat.sub_self] at h2
        exact h2
      obtain ⟨vo, vc, hvv⟩ := (h3.runs (obs ++ [obRP P (stTo l (j + 1)), obTR u4 ts]).length (atR 0)).any
      subst hvv
      have H3 := Lib.hid h3
      have HRS := Lib.hid hrs
      have hlen : ts.length = j := by
        have := congrArg List.length HT.out
        rw [List.length_map, eachTo_len] at this
        exact this
      have hI : (obs ++ [obRP P (stTo l (j + 1)), obTR u4 ts])[obs.length + 1]? = some (obTR u4 ts) := atR 1
      have HI := Lib.hid hI
      have htl : ts.length ≤ 5000000000000 := by omega
      clear h2 h3 hrs hI
      go_wp2_with (at_builtin; refine wpList_append_TR (obs := obs ++ [obRP P (stTo l (j + 1)), obTR u4 ts]) H3.out (obs.length + 1) HI.out _ _ rfl rfl rfl rfl htl ?_)
      intro u8 w7 h7
      have h8 : Env w0 w7 (obs ++ [obRP P (stTo l (j + 1)), obTR u8 (ts ++ [(.slice vo rs.length vc, rs)])]) := by
        first
        | exact h7
        | (rw [List.set_append_right _ _ (by omega), show obs.length + 1 - obs.length = 1 from by omega] at h7; exact h7)
        | (have e9 : (obs ++ [obRP P (stTo l (j + 1)), obTR u4 ts]).set (obs.length + 1) (obTR u8 (ts ++ [(.slice vo rs.length vc, rs)])) = obs ++ [obRP P (stTo l (j + 1)), obTR u8 (ts ++ [(.slice vo rs.length vc, rs)])] := by
            rw [List.set_append_right _ _ (by omega), show obs.length + 1 - obs.length = 1 from by omega]
            rfl
           rw [e9] at h7
           exact h7)
      have H8 := Lib.hid h8
      have HT8 : Hid ((ts ++ [((Value.slice vo rs.length vc), rs)]).map (·.2) = eachTo l (j + 1)) := by
        rw [List.map_append, HT.out, eachTo_step l HSS.out, HRS.out]
        exact Lib.hid rfl
      clear h7 h8 H3 HI htl hlen
      have hw1 : IntKind.i64.wrap ((j : Int) + 1) = ((j + 1 : Nat) : Int) := by rw [IntWalk.i64_in _ (by omega)]; omega
      go_wp2_with fail
      refine ⟨⟨j + 1, by omega, rfl, _, HT8, H8⟩, ?_⟩
      simp only [RowKit.intOf]
      omega
    · have t3 : decide ((j : Int) < (l.length : Int)) = false := by rw [decide_eq_false_iff_not]; omega
      have hjl : j = l.length := by omega
      go_wp2_with fail
      go_ret
      rw [hjl] at HT HL
      refine ⟨_, ts, rfl, HT.out, ?_⟩
      exact Env.omit (A := obs) (x := obRP P (stTo l l.length)) (B := [obTR u4 ts]) (by simpa using HL.out)
set_option maxHeartbeats 4000000 in
theorem rcodes_env (h : Env w0 w obs) {v : Value} {l : List Sk} (hv : RdS w0 obs v l) (hok : ∀ s ∈ l, OKsk s) (hl : l.length ≤ 300) :
    Calls Try.prog 19 #[v] w fun e w' => ∃ u, e = .returned u ∧ Env w0 w' (obs ++ [KC.ob u (codesL l)]) := by
  obtain ⟨i0, hi, hz0, hz1, hz2⟩ := info_parts infoC
  have HII := Lib.hid (And.intro hi (And.intro hz0 (And.intro hz1 hz2)))
  clear hi hz0 hz1 hz2
  have HE := Lib.hid h
  have HV := Lib.hid hv
  have HOK := Lib.hid hok
  obtain ⟨ao, cap, hvf, hc1, hc2, _⟩ := (hv w [] (by rw [List.append_nil]; exact h)).any
  subst hvf
  clear h hv hok
  go_enter Try.func19, Try.ntmps19
  go_wp2_with fail
  refine (rnew_env HE.out).mono ?_
  rintro e w1 ⟨P, rfl, h1⟩
  have h2 : Env w0 w1 (obs ++ [obRP P hs0] ++ [KC.ob (.slice none 0 0) []]) := h1.pushNil KC
  rw [List.append_assoc] at h2
  have H2 := Lib.hid h2
  clear h1 h2
  unfold rpV
  go_wp2_with fail
  go_loopw [4, 5] (fun ov iv wx => ∃ j : Nat, j ≤ l.length ∧ iv = .int .i64 (j : Int) ∧ Hid (Env w0 wx (obs ++ [obRP P (stTo l j), KC.ob ov (codesTo l j)]))) (fun _ iv _ => l.length - (RowKit.intOf iv).toNat)
  case atStart => exact ⟨0, Nat.zero_le _, rfl, H2⟩
  case round =>
    obtain ⟨j, hj, rfl, HL⟩ := hrel
    clear H2
    by_cases hlt : j < l.length
    · obtain ⟨s, hs⟩ : ∃ s, l[j]? = some s := ⟨_, List.getElem?_eq_getElem hlt⟩
      have t3 : decide ((j : Int) < (l.length : Int)) = true := by rw [decide_eq_true_eq]; omega
      obtain ⟨b, off, hao, hbl, hsk⟩ := KS.elem (HV.out wr _ HL.out) hs
      subst hao
      have c0 := hsk.c0
      have c1 := hsk.c1
      have c2 := hsk.c2
      have c3 := hsk.c3
      have c4 := hsk.c4
      have c5 := hsk.c5
      have c6 := hsk.c6
      have bj : 0 ≤ (j : Int) ∧ (j : Int) < (l.length : Int) := by omega
      have HSS := Lib.hid hs
      clear hsk hs
      go_wp2_with fail
      clear c0 c1 c2 c3 c4 c5 c6
      refine (rdo_env HL.out obs.length (atR 0) (stTo_ok l j) (by omega) s (HOK.out s (List.mem_of_getElem? HSS.out))).mono ?_
      rintro e w2 ⟨v, rfl, h2⟩
      obtain ⟨cd, hcd⟩ : ∃ cd, codeD (stTo l j) s = cd := ⟨_, rfl⟩
      rw [hcd]
      rw [← stTo_step l HSS.out] at h2
      have h3 : Env w0 w2 (obs ++ [obRP P (stTo l (j + 1)), KC.ob u4 (codesTo l j)]) := by
        rw [List.set_append_right _ _ (Nat.le_refl _), Nat.sub_self] at h2
        exact h2.keepL
      have H3 := Lib.hid h3
      have HCD := Lib.hid hcd
      have hlen : (codesTo l j).length = j := codesTo_len l j
      have hown0 := Env.row (H3.out.below ((Below.refl _ _).alloc (Nat.le_refl _) (.cells #[.int .i64 cd] 45))) (obs.length + 1) (atR 1)
      rw [hlen] at hown0
      have HOWN := Lib.hid hown0
      have hjm : j ≤ 300 := by omega
      clear h2 h3 hcd hlen hown0
      obtain ⟨hi, hz0, hz1, hz2⟩ := HII.out
      go_wp2_with (at_builtin; refine wpList_append_lies _ rfl _ _ 27 rfl 0 45 i0 _ 1 8 Try.underlying27 hi hz0 hz1 hz2 rfl (by decide) u4 j (KC.fl (codesTo l j)) rfl HOWN.out ⟨w2.heap.size, 0, none⟩ 1 1 [.int .i64 cd] rfl rfl (World.news_of_block (heap_alloc_new _ _)) one_int (by decide) (max_len (by omega)) (by omega) (Nat.zero_le _) _ rfl ?_)
      intro g cg w7 k1 k2 k3 k4
      clear hi hz0 hz1 hz2
      have h8 : Env w0 w7 ((obs ++ [obRP P (stTo l (j + 1)), KC.ob u4 (codesTo l j)]).set (obs.length + 1) (KC.ob (.slice (some ⟨g, 0, none⟩) (j + 1) cg) (codesTo l (j + 1)))) := by
        have hb := H3.out.below ((Below.refl _ _).alloc (Nat.le_refl _) (.cells #[.int .i64 cd] 45))
        refine hb.rowUp (obs.length + 1) (atR 1) ?_ k2 ?_
        · rw [codesTo_step l HSS.out, HCD.out]
          show w7.ownsRow 0 KC.e KC.sz _ (codesTo l j ++ [cd]).length (KC.fl (codesTo l j ++ [cd]))
          rw [KC.fl_app, KC.fl_one, List.length_append, codesTo_len]
          exact k1
        · rcases k3 with k3 | k3
          · exact .inl (by rw [k3]; rfl)
          · exact .inr (by rw [k3]; simp [Value.ownBlock])
      have h9 : Env w0 w7 (obs ++ [obRP P (stTo l (j + 1)), KC.ob (.slice (some ⟨g, 0, none⟩) (j + 1) cg) (codesTo l (j + 1))]) := by
        rw [List.set_append_right _ _ (by omega), show obs.length + 1 - obs.length = 1 from by omega] at h8
        exact h8
      have H9 := Lib.hid h9
      clear h8 h9 k1 k2 k3 k4 HOWN H3
      have hw1 : IntKind.i64.wrap ((j : Int) + 1) = ((j + 1 : Nat) : Int) := by rw [IntWalk.i64_in _ (by omega)]; omega
      go_wp2_with fail
      refine ⟨⟨j + 1, by omega, rfl, H9⟩, ?_⟩
      simp only [RowKit.intOf]
      omega
    · have t3 : decide ((j : Int) < (l.length : Int)) = false := by rw [decide_eq_false_iff_not]; omega
      have hjl : j = l.length := by omega
      go_wp2_with fail
      go_ret
      rw [hjl] at HL
      refine ⟨_, rfl, ?_⟩
      unfold codesL
      exact Env.omit (A := obs) (x := obRP P (stTo l l.length)) (B := [KC.ob u4 (codesTo l l.length)]) (by simpa using HL.out)
theorem cnt_le {l : List Rn} (hp : Posi l) {T : Int} (ht : tot l ≤ T) : ∀ r ∈ l, 0 ≤ r.c ∧ r.c ≤ T := fun r hr => by
  have h1 := hp r hr
  obtain ⟨a, b, rfl⟩ := List.append_of_mem hr
  have h2 := tot_nonneg a (fun x hx => hp x (by simp [hx]))
  have h3 := tot_nonneg b (fun x hx => hp x (by simp [hx]))
  have e : tot (a ++ r :: b) = tot a + (r.c + tot b) := by simp [tot]
  omega
structure SRr (g j : Nat) (rv : Value) (b o : Nat) (x : Rn) (W : World) : Prop where
  r : W.cell? ⟨g, j, none⟩ = some rv
  c0 : W.cell? ⟨b, o, none⟩ = some (.int .u8 x.k)
  c1 : W.cell? ⟨b, o + 1, none⟩ = some (.int .i64 x.s)
  c2 : W.cell? ⟨b, o + 2, none⟩ = some (.int .i64 x.c)
theorem SRr.f {g j : Nat} {rv : Value} {b o : Nat} {x : Rn} (W : World) (h : SRr g j rv b o x W) : W.cell? ⟨g, j, none⟩ = some rv := h.r
theorem SRr.f0 {g j : Nat} {rv : Value} {b o : Nat} {x : Rn} (W : World) (h : SRr g j rv b o x W) : W.cell? ⟨b, o, none⟩ = some (.int .u8 x.k) := h.c0
theorem SRr.f1 {g j : Nat} {rv : Value} {b o : Nat} {x : Rn} (W : World) (h : SRr g j rv b o x W) : W.cell? ⟨b, o + 1, none⟩ = some (.int .i64 x.s) := h.c1
theorem SRr.f2 {g j : Nat} {rv : Value} {b o : Nat} {x : Rn} (W : World) (h : SRr g j rv b o x W) : W.cell? ⟨b, o + 2, none⟩ = some (.int .i64 x.c) := h.c2
set_option maxHeartbeats 8000000 in
theorem rruns_env (h : Env w0 w obs) {v : Value} {l : List Sk} (hv : RdS w0 obs v l) (hok : ∀ s ∈ l, OKsk s) (hl : l.length ≤ 300) :
    Calls Try.prog 20 #[v] w fun e w' => ∃ u, e = .returned u ∧ Env w0 w' (obs ++ [obRuns u (allTo l l.length)]) := by
  have HE := Lib.hid h
  have HV := Lib.hid hv
  have HOK := Lib.hid hok
  obtain ⟨ao, cap, hvf, hc1, hc2, _⟩ := (hv w [] (by rw [List.append_nil]; exact h)).any
  subst hvf
  clear h hv hok
  go_enter Try.func20, Try.ntmps20
  go_wp2_with fail
  refine (reach_env HE.out HV.out HOK.out hl).mono ?_
  rintro e w2 ⟨u, ts, rfl, hts, h2⟩
  have htl : ts.length = l.length := by
    have := congrArg List.length hts
    rw [List.length_map] at this
    rw [this]
    exact eachTo_len l _
  obtain ⟨uo, uc, hu, hu1, hu2⟩ := obTR_form h2 obs.length (u := u) (ts := ts) at0
  rw [htl] at hu hu1
  subst hu
  have h3 := h2.pushNil KN
  rw [List.append_assoc] at h3
  have H3 : Hid (Env w0 w2 (obs ++ [obTR (.slice uo l.length uc) ts, obRuns (.slice none 0 0) []])) := Lib.hid h3
  have HT := Lib.hid hts
  have HTL := Lib.hid htl
  clear h2 h3 hts htl
  go_wp2_with fail
  go_loopw [4, 5] (fun ov iv wx => ∃ j : Nat, j ≤ l.length ∧ iv = .int .i64 (j : Int) ∧ Hid (Env w0 wx (obs ++ [obTR (.slice uo l.length uc) ts, obRuns ov (allTo l j)]))) (fun _ iv _ => l.length - (RowKit.intOf iv).toNat)
  case atStart => exact ⟨0, Nat.zero_le _, rfl, H3⟩
  case round =>
    obtain ⟨j, hj, rfl, HL⟩ := hrel
    clear H3
    by_cases hlt : j < l.length
    · obtain ⟨s, hs⟩ : ∃ s, l[j]? = some s := ⟨_, List.getElem?_eq_getElem hlt⟩
      have t3 : decide ((j : Int) < (l.length : Int)) = true := by rw [decide_eq_true_eq]; omega
      have bj : 0 ≤ (j : Int) ∧ (j : Int) < (l.length : Int) := by omega
      obtain ⟨⟨rv, r⟩, hr⟩ : ∃ y, ts[j]? = some y := ⟨_, List.getElem?_eq_getElem (by rw [HTL.out]; exact hlt)⟩
      have hrr : r = runsD (stTo l j) s := by
        have e1 := congrArg (fun z => z[j]?) HT.out
        simp only [List.getElem?_map, hr, Option.map_some] at e1
        unfold eachL at e1
        rw [eachTo_get l _ j hlt, List.getD_eq_getElem?_getD, hs] at e1
        injection e1
      have hnr := runsD_ok (stTo_ok l j) s
      have hlr := runsD_lenB (stTo l j) s
      rw [← hrr] at hnr hlr
      have hna := allTo_ok l j
      have hla := allTo_lenB l j
      have hst := allTo_step l hs
      rw [← hrr] at hst
      have HR := Lib.hid (And.intro hr (And.intro hnr (And.intro hna (And.intro hst (And.intro hlr hla)))))
      obtain ⟨ug, ucc, hug, _, _⟩ := obTR_slice HL.out obs.length (u := .slice uo l.length uc) (ts := ts) at0 (by rw [HTL.out]; omega)
      injection hug with q1 q2 q3
      subst q1
      subst q3
      obtain ⟨ro, rc, rfl, hrl1, hrl2, _⟩ := (obTR_get HL.out obs.length at0 hr).any
      have hrlen : r.length ≤ 5 := hlr
      clear hr hrr hnr hna hst hs q2 hlr hla
      go_wp2_with fail
      go_loopw [4, 6] (fun ov kv wx => ∃ k : Nat, k ≤ r.length ∧ kv = .int .i64 (k : Int) ∧ Hid (Env w0 wx (obs ++ [obTR (.slice (some ⟨ug, 0, none⟩) l.length uc) ts, obRuns ov (noteAll (allTo l j) (r.take k))]))) (fun _ kv _ => r.length - (RowKit.intOf kv).toNat)
      case atStart => exact ⟨0, Nat.zero_le _, rfl, HL⟩
      case round =>
        obtain ⟨k, hk, rfl, HK⟩ := hrel
        clear HL
        have d0 := obTR_cell (n := l.length) (c := uc) HK.out obs.length at0 HR.out.1
        by_cases hkl : k < r.length
        · obtain ⟨x, hx⟩ : ∃ x, r[k]? = some x := ⟨_, List.getElem?_eq_getElem hkl⟩
          have t4 : decide ((k : Int) < (r.length : Int)) = true := by rw [decide_eq_true_eq]; omega
          have bk : 0 ≤ (k : Int) ∧ (k : Int) < (r.length : Int) := by omega
          obtain ⟨b, off, hao, hbl, _⟩ := Knd.R.get (obTR_get HK.out obs.length at0 HR.out.1) hx
          subst hao
          have hS : Hid (∀ W ov rs, Env w0 W (obs ++ [obTR (.slice (some ⟨ug, 0, none⟩) l.length uc) ts, obRuns ov rs]) → SRr ug j (.slice (some ⟨b, off, none⟩) r.length rc) b (off + k * 3) x W) := Lib.hid fun W ov rs hW => by
            have c := rnCellsP (obTR_get hW obs.length at0 HR.out.1) hx
            exact ⟨obTR_cell (n := l.length) (c := uc) hW obs.length at0 HR.out.1, c.1, c.2.1, c.2.2⟩
          have p1 := part_ok HR.out.2.2.1.1 HR.out.2.1.1.nrm k
          have hst := noteAll_step (allTo l j) r hx
          have hxp : 1 ≤ x.c ∧ x.c ≤ 200000000 := ⟨HR.out.2.1.1.nrm.posi x (List.mem_of_getElem? hx), (cnt_le HR.out.2.1.1.nrm.posi HR.out.2.1.2.2.2 x (List.mem_of_getElem? hx)).2⟩
          have b1 := HR.out.2.2.1.2.2
          have b2 := HR.out.2.1.2.2.2
          have hcn : ∀ y ∈ noteAll (allTo l j) (r.take k), 0 ≤ y.c ∧ y.c ≤ 2000000000000 := cnt_le p1.1.posi (by omega)
          have hln : (noteAll (allTo l j) (r.take k)).length ≤ 100000 := by
            have h1 := noteAll_lenB (r.take k) (allTo l j)
            have h2 := HR.out.2.2.2.2.2
            rw [List.length_take] at h1
            omega
          have HCN := Lib.hid (And.intro hcn (And.intro hln (And.intro hst hxp)))
          clear p1 hst hxp b1 b2 hcn hln hx
          go_upto_region 9 with fail
          clear d0
          refine hd_start (SRr ug j (.slice (some ⟨b, off, none⟩) r.length rc) b (off + k * 3) x) (by kernel_rfl) ?_
          intro w5 hw'
          have H5 := Lib.hid (HK.out.draw 1)
          rw [← hw'] at H5
          clear hw' HK
          have S5 := hS.out _ _ _ H5.out
          refine hd_take (v := ?_) 0 rfl (by kernel_rfl) (fun _ _ d _ _ h => (by cases d <;> exact h)) (by kernel_rfl) S5 (fun w' hS => ?_) ?_
          rotate_left
          focus (have q0 := SRr.f w' hS; have q1 := SRr.f0 w' hS; have q2 := SRr.f1 w' hS; have q3 := SRr.f2 w' hS; clear hS; go_simp; try rfl; done)
          simp only [List.getElem_toArray, List.getElem_cons_succ, List.getElem_cons_zero, Act.put, List.setIfInBounds_toArray, List.set_cons_zero, List.set_cons_succ]
          refine hd_take (v := ?_) 1 rfl (by kernel_rfl) (fun _ _ d _ _ h => (by cases d <;> exact h)) (by kernel_rfl) S5 (fun w' hS => ?_) ?_
          rotate_left
          focus (have q0 := SRr.f w' hS; have q1 := SRr.f0 w' hS; have q2 := SRr.f1 w' hS; have q3 := SRr.f2 w' hS; clear hS; go_simp; try rfl; done)
          simp only [List.getElem_toArray, List.getElem_cons_succ, List.getElem_cons_zero, Act.put, List.setIfInBounds_toArray, List.set_cons_zero, List.set_cons_succ]
          refine hd_take (v := ?_) 2 rfl (by kernel_rfl) (fun _ _ d _ _ h => (by cases d <;> exact h)) (by kernel_rfl) S5 (fun w' hS => ?_) ?_
          rotate_left
          focus (have q0 := SRr.f w' hS; have q1 := SRr.f0 w' hS; have q2 := SRr.f1 w' hS; have q3 := SRr.f2 w' hS; clear hS; go_simp; try rfl; done)
          simp only [List.getElem_toArray, List.getElem_cons_succ, List.getElem_cons_zero, Act.put, List.setIfInBounds_toArray, List.set_cons_zero, List.set_cons_succ]
          refine hd_take (v := ?_) 3 rfl (by kernel_rfl) (fun _ _ d _ _ h => (by cases d <;> exact h)) (by kernel_rfl) S5 (fun w' hS => ?_) ?_
          rotate_left
          focus (have q0 := SRr.f w' hS; have q1 := SRr.f0 w' hS; have q2 := SRr.f1 w' hS; have q3 := SRr.f2 w' hS; clear hS; go_simp; try rfl; done)
          simp only [List.getElem_toArray, List.getElem_cons_succ, List.getElem_cons_zero, Act.put, List.setIfInBounds_toArray, List.set_cons_zero, List.set_cons_succ]
          refine hd_take (v := ?_) 4 rfl (by kernel_rfl) (fun _ _ d _ _ h => (by cases d <;> exact h)) (by kernel_rfl) S5 (fun w' hS => ?_) ?_
          rotate_left
          focus (have q0 := SRr.f w' hS; have q1 := SRr.f0 w' hS; have q2 := SRr.f1 w' hS; have q3 := SRr.f2 w' hS; clear hS; go_simp; try rfl; done)
          simp only [List.getElem_toArray, List.getElem_cons_succ, List.getElem_cons_zero, Act.put, List.setIfInBounds_toArray, List.set_cons_zero, List.set_cons_succ]
          refine hd_take (v := ?_) 5 rfl (by kernel_rfl) (fun _ _ d _ _ h => (by cases d <;> exact h)) (by kernel_rfl) S5 (fun w' hS => ?_) ?_
          rotate_left
          focus (have q0 := SRr.f w' hS; have q1 := SRr.f0 w' hS; have q2 := SRr.f1 w' hS; have q3 := SRr.f2 w' hS; clear hS; go_simp; try rfl; done)
          simp only [List.getElem_toArray, List.getElem_cons_succ, List.getElem_cons_zero, Act.put, List.setIfInBounds_toArray, List.set_cons_zero, List.set_cons_succ]
          refine hd_take (v := ?_) 6 rfl (by kernel_rfl) (fun _ _ d _ _ h => (by cases d <;> exact h)) (by kernel_rfl) S5 (fun w' hS => ?_) ?_
          rotate_left
          focus (have q0 := SRr.f w' hS; have q1 := SRr.f0 w' hS; have q2 := SRr.f1 w' hS; have q3 := SRr.f2 w' hS; clear hS; go_simp; try rfl; done)
          simp only [List.getElem_toArray, List.getElem_cons_succ, List.getElem_cons_zero, Act.put, List.setIfInBounds_toArray, List.set_cons_zero, List.set_cons_succ]
          refine hd_take (v := ?_) 7 rfl (by kernel_rfl) (fun _ _ d _ _ h => (by cases d <;> exact h)) (by kernel_rfl) S5 (fun w' hS => ?_) ?_
          rotate_left
          focus (have q0 := SRr.f w' hS; have q1 := SRr.f0 w' hS; have q2 := SRr.f1 w' hS; have q3 := SRr.f2 w' hS; clear hS; go_simp; try rfl; done)
          simp only [List.getElem_toArray, List.getElem_cons_succ, List.getElem_cons_zero, Act.put, List.setIfInBounds_toArray, List.set_cons_zero, List.set_cons_succ]
          refine hd_take (v := ?_) 8 rfl (by kernel_rfl) (fun _ _ d _ _ h => (by cases d <;> exact h)) (by kernel_rfl) S5 (fun w' hS => ?_) ?_
          rotate_left
          focus (have q0 := SRr.f w' hS; have q1 := SRr.f0 w' hS; have q2 := SRr.f1 w' hS; have q3 := SRr.f2 w' hS; clear hS; go_simp; try rfl; done)
          simp only [List.getElem_toArray, List.getElem_cons_succ, List.getElem_cons_zero, Act.put, List.setIfInBounds_toArray, List.set_cons_zero, List.set_cons_succ]
          refine hd_take (v := ?_) 9 rfl (by kernel_rfl) (fun _ _ d _ _ h => (by cases d <;> exact h)) (by kernel_rfl) S5 (fun w' hS => ?_) ?_
          rotate_left
          focus (have q0 := SRr.f w' hS; have q1 := SRr.f0 w' hS; have q2 := SRr.f1 w' hS; have q3 := SRr.f2 w' hS; clear hS; go_simp; try rfl; done)
          simp only [List.getElem_toArray, List.getElem_cons_succ, List.getElem_cons_zero, Act.put, List.setIfInBounds_toArray, List.set_cons_zero, List.set_cons_succ]
          refine hd_take (v := ?_) 10 rfl (by kernel_rfl) (fun _ _ d _ _ h => (by cases d <;> exact h)) (by kernel_rfl) S5 (fun w' hS => ?_) ?_
          rotate_left
          focus (have q0 := SRr.f w' hS; have q1 := SRr.f0 w' hS; have q2 := SRr.f1 w' hS; have q3 := SRr.f2 w' hS; clear hS; go_simp; try rfl; done)
          simp only [List.getElem_toArray, List.getElem_cons_succ, List.getElem_cons_zero, Act.put, List.setIfInBounds_toArray, List.set_cons_zero, List.set_cons_succ]
          refine hd_take (v := ?_) 11 rfl (by kernel_rfl) (fun _ _ d _ _ h => (by cases d <;> exact h)) (by kernel_rfl) S5 (fun w' hS => ?_) ?_
          rotate_left
          focus (have q0 := SRr.f w' hS; have q1 := SRr.f0 w' hS; have q2 := SRr.f1 w' hS; have q3 := SRr.f2 w' hS; clear hS; go_simp; try rfl; done)
          simp only [List.getElem_toArray, List.getElem_cons_succ, List.getElem_cons_zero, Act.put, List.setIfInBounds_toArray, List.set_cons_zero, List.set_cons_succ]
          refine hd_take (v := ?_) 12 rfl (by kernel_rfl) (fun _ _ d _ _ h => (by cases d <;> exact h)) (by kernel_rfl) S5 (fun w' hS => ?_) ?_
          rotate_left
          focus (have q0 := SRr.f w' hS; have q1 := SRr.f0 w' hS; have q2 := SRr.f1 w' hS; have q3 := SRr.f2 w' hS; clear hS; go_simp; try rfl; done)
          simp only [List.getElem_toArray, List.getElem_cons_succ, List.getElem_cons_zero, Act.put, List.setIfInBounds_toArray, List.set_cons_zero, List.set_cons_succ]
          refine hd_take (v := ?_) 13 rfl (by kernel_rfl) (fun _ _ d _ _ h => (by cases d <;> exact h)) (by kernel_rfl) S5 (fun w' hS => ?_) ?_
          rotate_left
          focus (have q0 := SRr.f w' hS; have q1 := SRr.f0 w' hS; have q2 := SRr.f1 w' hS; have q3 := SRr.f2 w' hS; clear hS; go_simp; try rfl; done)
          simp only [List.getElem_toArray, List.getElem_cons_succ, List.getElem_cons_zero, Act.put, List.setIfInBounds_toArray, List.set_cons_zero, List.set_cons_succ]
          refine hd_take (v := ?_) 14 rfl (by kernel_rfl) (fun _ _ d _ _ h => (by cases d <;> exact h)) (by kernel_rfl) S5 (fun w' hS => ?_) ?_
          rotate_left
          focus (have q0 := SRr.f w' hS; have q1 := SRr.f0 w' hS; have q2 := SRr.f1 w' hS; have q3 := SRr.f2 w' hS; clear hS; go_simp; try rfl; done)
          simp only [List.getElem_toArray, List.getElem_cons_succ, List.getElem_cons_zero, Act.put, List.setIfInBounds_toArray, List.set_cons_zero, List.set_cons_succ]
          refine hd_take (v := ?_) 15 rfl (by kernel_rfl) (fun _ _ d _ _ h => (by cases d <;> exact h)) (by kernel_rfl) S5 (fun w' hS => ?_) ?_
          rotate_left
          focus (have q0 := SRr.f w' hS; have q1 := SRr.f0 w' hS; have q2 := SRr.f1 w' hS; have q3 := SRr.f2 w' hS; clear hS; go_simp; try rfl; done)
          simp only [List.getElem_toArray, List.getElem_cons_succ, List.getElem_cons_zero, Act.put, List.setIfInBounds_toArray, List.set_cons_zero, List.set_cons_succ]
          refine hd_take (v := ?_) 16 rfl (by kernel_rfl) (fun _ _ d _ _ h => (by cases d <;> exact h)) (by kernel_rfl) S5 (fun w' hS => ?_) ?_
          rotate_left
          focus (have q0 := SRr.f w' hS; have q1 := SRr.f0 w' hS; have q2 := SRr.f1 w' hS; have q3 := SRr.f2 w' hS; clear hS; go_simp; try rfl; done)
          simp only [List.getElem_toArray, List.getElem_cons_succ, List.getElem_cons_zero, Act.put, List.setIfInBounds_toArray, List.set_cons_zero, List.set_cons_succ]
          refine hd_take (v := ?_) 17 rfl (by kernel_rfl) (fun _ _ d _ _ h => (by cases d <;> exact h)) (by kernel_rfl) S5 (fun w' hS => ?_) ?_
          rotate_left
          focus (have q0 := SRr.f w' hS; have q1 := SRr.f0 w' hS; have q2 := SRr.f1 w' hS; have q3 := SRr.f2 w' hS; clear hS; go_simp; try rfl; done)
          simp only [List.getElem_toArray, List.getElem_cons_succ, List.getElem_cons_zero, Act.put, List.setIfInBounds_toArray, List.set_cons_zero, List.set_cons_succ]
          refine hd_take (v := ?_) 18 rfl (by kernel_rfl) (fun _ _ d _ _ h => (by cases d <;> exact h)) (by kernel_rfl) S5 (fun w' hS => ?_) ?_
          rotate_left
          focus (have q0 := SRr.f w' hS; have q1 := SRr.f0 w' hS; have q2 := SRr.f1 w' hS; have q3 := SRr.f2 w' hS; clear hS; go_simp; try rfl; done)
          simp only [List.getElem_toArray, List.getElem_cons_succ, List.getElem_cons_zero, Act.put, List.setIfInBounds_toArray, List.set_cons_zero, List.set_cons_succ]
          refine hd_take (v := ?_) 19 rfl (by kernel_rfl) (fun _ _ d _ _ h => (by cases d <;> exact h)) (by kernel_rfl) S5 (fun w' hS => ?_) ?_
          rotate_left
          focus (have q0 := SRr.f w' hS; have q1 := SRr.f0 w' hS; have q2 := SRr.f1 w' hS; have q3 := SRr.f2 w' hS; clear hS; go_simp; try rfl; done)
          simp only [List.getElem_toArray, List.getElem_cons_succ, List.getElem_cons_zero, Act.put, List.setIfInBounds_toArray, List.set_cons_zero, List.set_cons_succ]
          refine hd_take (v := ?_) 20 rfl (by kernel_rfl) (fun _ _ d _ _ h => (by cases d <;> exact h)) (by kernel_rfl) S5 (fun w' hS => ?_) ?_
          rotate_left
          focus (have q0 := SRr.f w' hS; have q1 := SRr.f0 w' hS; have q2 := SRr.f1 w' hS; have q3 := SRr.f2 w' hS; clear hS; go_simp; try rfl; done)
          simp only [List.getElem_toArray, List.getElem_cons_succ, List.getElem_cons_zero, Act.put, List.setIfInBounds_toArray, List.set_cons_zero, List.set_cons_succ]
          refine hd_take (v := ?_) 21 rfl (by kernel_rfl) (fun _ _ d _ _ h => (by cases d <;> exact h)) (by kernel_rfl) S5 (fun w' hS => ?_) ?_
          rotate_left
          focus (have q0 := SRr.f w' hS; have q1 := SRr.f0 w' hS; have q2 := SRr.f1 w' hS; have q3 := SRr.f2 w' hS; clear hS; go_simp; try rfl; done)
          simp only [List.getElem_toArray, List.getElem_cons_succ, List.getElem_cons_zero, Act.put, List.setIfInBounds_toArray, List.set_cons_zero, List.set_cons_succ]
          refine hd_take (v := ?_) 22 rfl (by kernel_rfl) (fun _ _ d _ _ h => (by cases d <;> exact h)) (by kernel_rfl) S5 (fun w' hS => ?_) ?_
          rotate_left
          focus (have q0 := SRr.f w' hS; have q1 := SRr.f0 w' hS; have q2 := SRr.f1 w' hS; have q3 := SRr.f2 w' hS; clear hS; go_simp; try rfl; done)
          simp only [List.getElem_toArray, List.getElem_cons_succ, List.getElem_cons_zero, Act.put, List.setIfInBounds_toArray, List.set_cons_zero, List.set_cons_succ]
          refine hd_take (v := ?_) 23 rfl (by kernel_rfl) (fun _ _ d _ _ h => (by cases d <;> exact h)) (by kernel_rfl) S5 (fun w' hS => ?_) ?_
          rotate_left
          focus (have q0 := SRr.f w' hS; have q1 := SRr.f0 w' hS; have q2 := SRr.f1 w' hS; have q3 := SRr.f2 w' hS; clear hS; go_simp; try rfl; done)
          simp only [List.getElem_toArray, List.getElem_cons_succ, List.getElem_cons_zero, Act.put, List.setIfInBounds_toArray, List.set_cons_zero, List.set_cons_succ]
          refine hd_take (v := ?_) 24 rfl (by kernel_rfl) (fun _ _ d _ _ h => (by cases d <;> exact h)) (by kernel_rfl) S5 (fun w' hS => ?_) ?_
          rotate_left
          focus (have q0 := SRr.f w' hS; have q1 := SRr.f0 w' hS; have q2 := SRr.f1 w' hS; have q3 := SRr.f2 w' hS; clear hS; go_simp; try rfl; done)
          simp only [List.getElem_toArray, List.getElem_cons_succ, List.getElem_cons_zero, Act.put, List.setIfInBounds_toArray, List.set_cons_zero, List.set_cons_succ]
          refine hd_take (v := ?_) 25 rfl (by kernel_rfl) (fun _ _ d _ _ h => (by cases d <;> exact h)) (by kernel_rfl) S5 (fun w' hS => ?_) ?_
          rotate_left
          focus (have q0 := SRr.f w' hS; have q1 := SRr.f0 w' hS; have q2 := SRr.f1 w' hS; have q3 := SRr.f2 w' hS; clear hS; go_simp; try rfl; done)
          simp only [List.getElem_toArray, List.getElem_cons_succ, List.getElem_cons_zero, Act.put, List.setIfInBounds_toArray, List.set_cons_zero, List.set_cons_succ]
          refine hd_take (v := ?_) 26 rfl (by kernel_rfl) (fun _ _ d _ _ h => (by cases d <;> exact h)) (by kernel_rfl) S5 (fun w' hS => ?_) ?_
          rotate_left
          focus (have q0 := SRr.f w' hS; have q1 := SRr.f0 w' hS; have q2 := SRr.f1 w' hS; have q3 := SRr.f2 w' hS; clear hS; go_simp; try rfl; done)
          simp only [List.getElem_toArray, List.getElem_cons_succ, List.getElem_cons_zero, Act.put, List.setIfInBounds_toArray, List.set_cons_zero, List.set_cons_succ]
          refine hd_one 27 (by kernel_rfl) ?_
          refine op_call rfl (by kernel_rfl) (by go_simp; first | exact ⟨rfl, rfl⟩ | rfl) ?_
          refine (rput_env H5.out (obs.length + 1) at1 x.k x.s x.c HCN.out.2.1 HCN.out.1 (by have := HCN.out.2.2.2.2; omega)).mono ?_
          rintro e w6 ⟨v6, rfl, h6⟩
          rw [set1] at h6
          have hS2 := hS.out _ _ _ h6
          have S6 := hS2
          have H6 := Lib.hid h6
          clear h6
          refine ⟨_, rfl, hS2, ?_⟩
          simp only [List.getElem_toArray, List.getElem_cons_succ, List.getElem_cons_zero, Act.put, List.setIfInBounds_toArray, List.set_cons_zero, List.set_cons_succ]
          refine hd_take (v := ?_) 28 rfl (by kernel_rfl) (fun _ _ d _ _ h => (by cases d <;> exact h)) (by kernel_rfl) S6 (fun w' hS => ?_) ?_
          rotate_left
          focus (clear hS; go_simp; try rfl; done)
          simp only [List.getElem_toArray, List.getElem_cons_succ, List.getElem_cons_zero, Act.put, List.setIfInBounds_toArray, List.set_cons_zero, List.set_cons_succ]
          refine hd_done (by kernel_rfl) ?_
          have h7 : Env w0 w6 (obs ++ [obTR (.slice (some ⟨ug, 0, none⟩) l.length uc) ts, obRuns v6 (noteAll (allTo l j) (r.take (k + 1)))]) := by
            rw [HCN.out.2.2.1]
            exact H6.out
          have H7 := Lib.hid h7
          clear h7 H6 H5 S5 S6 hS
          have hw1 : IntKind.i64.wrap ((k : Int) + 1) = ((k + 1 : Nat) : Int) := by rw [IntWalk.i64_in _ (by omega)]; omega
          go_wp2_with fail
          refine ⟨⟨k + 1, by omega, rfl, H7⟩, ?_⟩
          have q9 : r.length - ((k : Int) + 1).toNat < r.length - ((k : Int)).toNat := by omega
          exact q9
        · have t4 : decide ((k : Int) < (r.length : Int)) = false := by rw [decide_eq_false_iff_not]; omega
          have hkr : k = r.length := by omega
          have h6 : Env w0 wr (obs ++ [obTR (.slice (some ⟨ug, 0, none⟩) l.length uc) ts, obRuns u4 (allTo l (j + 1))]) := by
            rw [HR.out.2.2.2.1]
            have := HK.out
            rw [hkr, List.take_length] at this
            exact this
          have H6 := Lib.hid h6
          clear h6 HK
          have hw1 : IntKind.i64.wrap ((j : Int) + 1) = ((j + 1 : Nat) : Int) := by rw [IntWalk.i64_in _ (by omega)]; omega
          go_wp2_with fail
          refine ⟨⟨j + 1, by omega, rfl, H6⟩, ?_⟩
          have q9 : l.length - ((j : Int) + 1).toNat < l.length - ((j : Int)).toNat := by omega
          exact q9
    · have t3 : decide ((j : Int) < (l.length : Int)) = false := by rw [decide_eq_false_iff_not]; omega
      have hjl : j = l.length := by omega
      rw [hjl] at HL
      go_wp2_with fail
      go_ret
      exact ⟨_, rfl, Env.omit (A := obs) (x := obTR (.slice uo l.length uc) ts) (by simpa using HL.out)⟩
end
end Go.Proofs.Ytkidijjhedjifaa
/- The kit's functions on lists (Skeletons). Conditions: a list and six more fit into 2^47 bytes. -/
namespace Go.Proofs.Ytkidijjhedjifaa
open Go.RowKit
set_option maxRecDepth 100000
set_option linter.unusedVariables false
set_option linter.unusedSimpArgs false
theorem infoSK : (Try.prog.info? 43).map (fun i => (i.zero, i.size, i.bytes)) = some (some (.agg #[.int .u8 0, .int .i64 0, .int .u8 0, .int .i64 0, .int .i64 0, .int .i64 0, .int .i64 0]), 7, 56) := by kernel_rfl
def mkS (k i : Int) : Sk := ⟨0, -1000 * k - i - 7, 0, 0, 0, 0, 0⟩
theorem markS_any (k i : Int) (w : World) (hk : 0 ≤ k) (hk' : k ≤ 1000000) (hi : 0 ≤ i) (hi' : i ≤ 1000000000000000) :
    Calls Try.prog 34 #[.int .i64 k, .int .i64 i] w fun e w' => e = .returned (.agg #[.int .u8 (mkS k i).kind, .int .i64 (mkS k i).handle, .int .u8 (mkS k i).alg, .int .i64 (mkS k i).count, .int .i64 (mkS k i).out, .int .i64 (mkS k i).data, .int .i64 (mkS k i).more]) ∧ Below w.heap.size w w' := by
  show Calls _ _ _ _ fun e w' => e = .returned (.agg #[.int .u8 0, .int .i64 (-1000 * k - i - 7), .int .u8 0, .int .i64 0, .int .i64 0, .int .i64 0, .int .i64 0]) ∧ Below w.heap.size w w'
  go_enter Try.func34, Try.ntmps34
  go_wp2
  exact bodyPost_ret (v := .agg #[.int .u8 0, .int .i64 (-1000 * k - i - 7), .int .u8 0, .int .i64 0, .int .i64 0, .int .i64 0, .int .i64 0]) (by simp [results, Try.results34, go_sem]) rfl ⟨rfl, (Below.refl _ _).alloc (Nat.le_refl _) _⟩
set_option maxHeartbeats 400000 in
theorem copyS_any (u : Value) (l : List Sk) (w : World) (hu : KS.R w u l) (hl : l.length ≤ 2513169434916) : Calls Try.prog 33 #[u] w (KS.New l w) := by
  obtain ⟨i0, hi, hz0, hz1, hz2⟩ := info_parts infoSK
  have hown0 : w.ownsRow 0 43 7 (.slice none 0 0) 0 [] := World.ownsRow_nil w 0 _ _
  obtain ⟨ao, cap, rfl, _, _, _⟩ := hu.any
  go_enter Try.func33, Try.ntmps33
  go_wp2_with (at_builtin; refine wpList_append_sl _ rfl _ _ 22 rfl 43 i0 _ 7 56 Try.underlying22 hi hz0 hz1 hz2 rfl (by decide) (.slice none 0 0) 0 [] rfl hown0 (.slice ao l.length cap) l.length (KS.fl l) rfl hu (by unfold maxLen; omega) (by omega) ?_)
  intro v' w1 hown hgrow hat
  have HN := Lib.hid ((Knd.Mk.nil KS w).whole (m := l) (N := l.length) (by simp) hown hgrow hat).new
  clear hown hgrow hat hown0 hi hz0 hz1 hz2
  go_wp2
  go_ret
  simpa using HN.out
set_option maxHeartbeats 1000000 in
theorem lentS_any (u : Value) (l : List Sk) (w : World) (hu : KS.R w u l) (hl : l.length ≤ 2513169434910) : Calls Try.prog 15 #[u] w (KS.New (lentM mkS l) w) := by
  obtain ⟨i0, hi, hz0, hz1, hz2⟩ := info_parts infoSK
  have HI := Lib.hid (And.intro hi (And.intro hz0 (And.intro hz1 hz2)))
  clear hi hz0 hz1 hz2
  go_enter Try.func15, Try.ntmps15
  go_wp2_with fail
  refine (copyS_any u l w hu (by omega)).mono ?_
  rintro e w0 ⟨v0, rfl, hr0⟩
  have HR0 : Hid (KS.Mk (l ++ mks mkS 7 0) w v0 w0) := Lib.hid (by rw [show l ++ mks mkS 7 0 = l from by simp [mks]]; exact hr0)
  clear hr0
  go_wp2_with fail
  go_loopw [3, 4] (fun o i w1 => ∃ k : Nat, k ≤ 6 ∧ i = .int .i64 (k : Int) ∧ Hid (KS.Mk (l ++ mks mkS 7 k) w o w1)) (fun _ i _ => 6 - (intOf i).toNat)
  case atStart => exact ⟨0, by omega, rfl, HR0⟩
  case round =>
    clear HR0
    obtain ⟨k, hk, rfl, HR⟩ := hrel
    by_cases hlt : k < 6
    · go_wp2_with fail
      refine (markS_any _ _ _ (by omega) (by omega) (by omega) (by omega)).mono ?_
      rintro e wm ⟨he, hbm⟩
      replace HR := Lib.hid (HR.out.below hbm)
      clear hbm
      obtain ⟨x, hx⟩ : ∃ x, mkS 7 (k : Int) = x := ⟨_, rfl⟩
      rw [hx] at he
      subst he
      have HX := Lib.hid hx
      clear hx
      have HOWN := HR.out.alloc (.cells #[.int .u8 x.kind, .int .i64 x.handle, .int .u8 x.alg, .int .i64 x.count, .int .i64 x.out, .int .i64 x.data, .int .i64 x.more] 43) (N := l.length + k) (by rw [List.length_append, mks_len])
      obtain ⟨hi, hz0, hz1, hz2⟩ := HI.out
      go_wp2_with (at_builtin; refine wpList_append_lies _ rfl _ _ 22 rfl 0 43 i0 _ 7 56 Try.underlying22 hi hz0 hz1 hz2 rfl (by decide) u3 (l.length + k) (KS.fl (l ++ mks mkS 7 k)) rfl HOWN ⟨wm.heap.size, 0, none⟩ 1 1 [.int .u8 x.kind, .int .i64 x.handle, .int .u8 x.alg, .int .i64 x.count, .int .i64 x.out, .int .i64 x.data, .int .i64 x.more] rfl rfl (World.news_of_block (heap_alloc_new _ _)) (KS.one x) (by decide) (by unfold maxLen; omega) (by omega) (Nat.zero_le _) _ rfl ?_)
      intro g' cap' w2 hown hgrow hat hlt2
      have HN : Hid (KS.Mk (l ++ mks mkS 7 (k + 1)) w (.slice (some ⟨g', 0, none⟩) (l.length + k + 1) cap') w2) := by
        rw [mks_succ, HX.out, ← List.append_assoc]
        exact Lib.hid (HR.out.more (by rw [List.length_append, mks_len]) rfl hown hgrow (by
          rcases hat with hat | hat
          · exact .inl hat.symm
          · exact .inr (by simp [Value.ownBlock, hat])))
      clear hown hgrow hat hlt2 HOWN hi hz0 hz1 hz2
      go_wp2
      go_roundw
      case rel => exact ⟨k + 1, by omega, by go_num, HN⟩
      case measure => simp [intOf]; omega
    · obtain rfl : k = 6 := by omega
      have HN := Lib.hid HR.out.new
      clear HR
      go_wp2
      go_ret
      exact HN.out
def eqS (x y : Sk) : Bool := (x.kind == y.kind) && (x.handle == y.handle) && (x.alg == y.alg) && (x.count == y.count) && (x.out == y.out) && (x.data == y.data) && (x.more == y.more)
theorem eqcS (x y : Sk) : ((x.kind == y.kind) = true ∧ (x.handle == y.handle) = true ∧ (x.alg == y.alg) = true ∧ (x.count == y.count) = true ∧ (x.out == y.out) = true ∧ (x.data == y.data) = true ∧ (x.more == y.more) = true ∧ eqS x y = true) ∨ ((x.kind == y.kind) = false ∧ eqS x y = false) ∨ ((x.kind == y.kind) = true ∧ (x.handle == y.handle) = false ∧ eqS x y = false) ∨ ((x.kind == y.kind) = true ∧ (x.handle == y.handle) = true ∧ (x.alg == y.alg) = false ∧ eqS x y = false) ∨ ((x.kind == y.kind) = true ∧ (x.handle == y.handle) = true ∧ (x.alg == y.alg) = true ∧ (x.count == y.count) = false ∧ eqS x y = false) ∨ ((x.kind == y.kind) = true ∧ (x.handle == y.handle) = true ∧ (x.alg == y.alg) = true ∧ (x.count == y.count) = true ∧ (x.out == y.out) = false ∧ eqS x y = false) ∨ ((x.kind == y.kind) = true ∧ (x.handle == y.handle) = true ∧ (x.alg == y.alg) = true ∧ (x.count == y.count) = true ∧ (x.out == y.out) = true ∧ (x.data == y.data) = false ∧ eqS x y = false) ∨ ((x.kind == y.kind) = true ∧ (x.handle == y.handle) = true ∧ (x.alg == y.alg) = true ∧ (x.count == y.count) = true ∧ (x.out == y.out) = true ∧ (x.data == y.data) = true ∧ (x.more == y.more) = false ∧ eqS x y = false) := by
  unfold eqS
  cases h0 : (x.kind == y.kind) <;> cases h1 : (x.handle == y.handle) <;> cases h2 : (x.alg == y.alg) <;> cases h3 : (x.count == y.count) <;> cases h4 : (x.out == y.out) <;> cases h5 : (x.data == y.data) <;> cases h6 : (x.more == y.more) <;> simp
theorem eqS_iff (x y : Sk) : eqS x y = true ↔ x = y := by
  unfold eqS
  cases x; cases y; simp [and_assoc]
set_option maxHeartbeats 2000000 in
theorem sameS_any (u v : Value) (xs ys : List Sk) (w : World) (hu : KS.R w u xs) (hv : KS.R w v ys) :
    Calls Try.prog 40 #[u, v] w fun e w' => e = .returned (.bool (sameL eqS xs ys)) ∧ ∃ m, w' = w.drewN m := by
  have HU := Lib.hid hu
  have HV := Lib.hid hv
  obtain ⟨ao, cap, rfl, h1, h2, _⟩ := hu.any
  obtain ⟨bo, dap, rfl, h3, h4, _⟩ := hv.any
  clear hu hv
  have hla : xs.length ≤ 9223372036854775807 := by omega
  have hlb : ys.length ≤ 9223372036854775807 := by omega
  obtain ⟨b, hb⟩ : ∃ b, sameL eqS xs ys = b := ⟨_, rfl⟩
  rw [hb]
  unfold sameL at hb
  by_cases hl : xs.length = ys.length
  · rw [if_pos hl] at hb
    have HS := Lib.hid hb
    have hlI : ((xs.length : Int) != (ys.length : Int)) = false := by rw [hl]; simp
    have HL := Lib.hid hl
    clear hl hb
    go_enter Try.func40, Try.ntmps40
    go_wp2_with fail
    go_loopw [5] (fun i w1 => ∃ k : Nat, k ≤ xs.length ∧ i = .int .i64 (k : Int) ∧ Hid (sameTo' eqS xs ys (xs.length - k) k = b) ∧ ∃ m, w1 = w.drewN m) (fun i _ => xs.length - (intOf i).toNat)
    case atStart => exact ⟨0, Nat.zero_le _, rfl, HS, 0, rfl⟩
    case round =>
      obtain ⟨k, hk, rfl, HE, m, rfl⟩ := hrel
      by_cases hlt : k < xs.length
      · have hlt2 : k < ys.length := by rw [← HL.out]; exact hlt
        obtain ⟨x, hx⟩ : ∃ x, xs[k]? = some x := ⟨_, List.getElem?_eq_getElem hlt⟩
        obtain ⟨y, hy⟩ : ∃ y, ys[k]? = some y := ⟨_, List.getElem?_eq_getElem hlt2⟩
        obtain ⟨g, off, rfl, _, dd⟩ := HU.out.get hx
        obtain ⟨g2, off2, rfl, _, ee⟩ := HV.out.get hy
        have HE2 : Hid ((if eqS x y then sameTo' eqS xs ys (xs.length - (k + 1)) (k + 1) else false) = b) := by
          have h := HE.out
          rw [show xs.length - k = (xs.length - (k + 1)) + 1 from by omega] at h
          exact Lib.hid (sameTo_step hx hy h)
        clear HE hx hy
        obtain ⟨kindx, handlex, algx, countx, outx, datax, morex⟩ := x
        obtain ⟨kindy, handley, algy, county, outy, datay, morey⟩ := y
        have d0 : w.cell? ⟨g, off + k * 7, none⟩ = some (.int .u8 kindx) := by have h := dd 0 _ rfl; rw [show off + (k * KS.sz + 0) = off + k * 7 from by show off + (k * 7 + 0) = _; omega] at h; exact h
        have d1 : w.cell? ⟨g, off + k * 7 + 1, none⟩ = some (.int .i64 handlex) := by have h := dd 1 _ rfl; rw [show off + (k * KS.sz + 1) = off + k * 7 + 1 from by show off + (k * 7 + 1) = _; omega] at h; exact h
        have d2 : w.cell? ⟨g, off + k * 7 + 2, none⟩ = some (.int .u8 algx) := by have h := dd 2 _ rfl; rw [show off + (k * KS.sz + 2) = off + k * 7 + 2 from by show off + (k * 7 + 2) = _; omega] at h; exact h
        have d3 : w.cell? ⟨g, off + k * 7 + 3, none⟩ = some (.int .i64 countx) := by have h := dd 3 _ rfl; rw [show off + (k * KS.sz + 3) = off + k * 7 + 3 from by show off + (k * 7 + 3) = _; omega] at h; exact h
        have d4 : w.cell? ⟨g, off + k * 7 + 4, none⟩ = some (.int .i64 outx) := by have h := dd 4 _ rfl; rw [show off + (k * KS.sz + 4) = off + k * 7 + 4 from by show off + (k * 7 + 4) = _; omega] at h; exact h
        have d5 : w.cell? ⟨g, off + k * 7 + 5, none⟩ = some (.int .i64 datax) := by have h := dd 5 _ rfl; rw [show off + (k * KS.sz + 5) = off + k * 7 + 5 from by show off + (k * 7 + 5) = _; omega] at h; exact h
        have d6 : w.cell? ⟨g, off + k * 7 + 6, none⟩ = some (.int .i64 morex) := by have h := dd 6 _ rfl; rw [show off + (k * KS.sz + 6) = off + k * 7 + 6 from by show off + (k * 7 + 6) = _; omega] at h; exact h
        have e0 : w.cell? ⟨g2, off2 + k * 7, none⟩ = some (.int .u8 kindy) := by have h := ee 0 _ rfl; rw [show off2 + (k * KS.sz + 0) = off2 + k * 7 from by show off2 + (k * 7 + 0) = _; omega] at h; exact h
        have e1 : w.cell? ⟨g2, off2 + k * 7 + 1, none⟩ = some (.int .i64 handley) := by have h := ee 1 _ rfl; rw [show off2 + (k * KS.sz + 1) = off2 + k * 7 + 1 from by show off2 + (k * 7 + 1) = _; omega] at h; exact h
        have e2 : w.cell? ⟨g2, off2 + k * 7 + 2, none⟩ = some (.int .u8 algy) := by have h := ee 2 _ rfl; rw [show off2 + (k * KS.sz + 2) = off2 + k * 7 + 2 from by show off2 + (k * 7 + 2) = _; omega] at h; exact h
        have e3 : w.cell? ⟨g2, off2 + k * 7 + 3, none⟩ = some (.int .i64 county) := by have h := ee 3 _ rfl; rw [show off2 + (k * KS.sz + 3) = off2 + k * 7 + 3 from by show off2 + (k * 7 + 3) = _; omega] at h; exact h
        have e4 : w.cell? ⟨g2, off2 + k * 7 + 4, none⟩ = some (.int .i64 outy) := by have h := ee 4 _ rfl; rw [show off2 + (k * KS.sz + 4) = off2 + k * 7 + 4 from by show off2 + (k * 7 + 4) = _; omega] at h; exact h
        have e5 : w.cell? ⟨g2, off2 + k * 7 + 5, none⟩ = some (.int .i64 datay) := by have h := ee 5 _ rfl; rw [show off2 + (k * KS.sz + 5) = off2 + k * 7 + 5 from by show off2 + (k * 7 + 5) = _; omega] at h; exact h
        have e6 : w.cell? ⟨g2, off2 + k * 7 + 6, none⟩ = some (.int .i64 morey) := by have h := ee 6 _ rfl; rw [show off2 + (k * KS.sz + 6) = off2 + k * 7 + 6 from by show off2 + (k * 7 + 6) = _; omega] at h; exact h
        clear dd ee
        have hq := eqcS ⟨kindx, handlex, algx, countx, outx, datax, morex⟩ ⟨kindy, handley, algy, county, outy, datay, morey⟩
        dsimp only at hq
        rcases hq with ⟨h0, h1, h2, h3, h4, h5, h6, he⟩ | ⟨h0, he⟩ | ⟨h0, h1, he⟩ | ⟨h0, h1, h2, he⟩ | ⟨h0, h1, h2, h3, he⟩ | ⟨h0, h1, h2, h3, h4, he⟩ | ⟨h0, h1, h2, h3, h4, h5, he⟩ | ⟨h0, h1, h2, h3, h4, h5, h6, he⟩
        · have HE3 : Hid (sameTo' eqS xs ys (xs.length - (k + 1)) (k + 1) = b) := by
            have h := HE2.out
            rw [if_pos he] at h
            exact Lib.hid h
          clear HE2
          go_wp2_with fail
          go_quiet ((fail))
          go_wp2_with fail
          go_roundw
          case rel => exact ⟨k + 1, by omega, by go_num, HE3, m + nq, rfl⟩
          case measure => simp [intOf]; omega
        all_goals
          have HE3 : Hid (b = false) := by
            have h := HE2.out
            rw [he] at h
            exact Lib.hid h.symm
          clear HE2
          go_wp2_with fail
          go_quiet ((fail))
          go_wp2
          go_ret
          exact ⟨by rw [HE3.out]; rfl, m + nq, by simp⟩
      · obtain rfl : k = xs.length := by omega
        have HF : Hid (b = true) := by
          have h := HE.out
          rw [Nat.sub_self] at h
          exact Lib.hid h.symm
        go_wp2
        go_ret
        exact ⟨by rw [HF.out]; rfl, m, rfl⟩
  · rw [if_neg hl] at hb
    have hlI : ((xs.length : Int) != (ys.length : Int)) = true := by simp; omega
    have HF := Lib.hid hb
    clear hl hb
    go_enter Try.func40, Try.ntmps40
    go_wp2
    go_ret
    exact ⟨by rw [← HF.out]; rfl, 0, rfl⟩
set_option maxHeartbeats 400000 in
theorem keptS_any (u v : Value) (xs l : List Sk) (w : World) (hu : KS.R w u xs) (hv : KS.R w v l) (hl : l.length ≤ 2513169434910) :
    Calls Try.prog 18 #[u, v] w fun e w' => e = .returned (.bool (sameL eqS xs (lentM mkS l))) ∧ Below w.heap.size w w' := by
  have HU := Lib.hid hu
  clear hu
  go_enter Try.func18, Try.ntmps18
  go_wp2_with fail
  refine (lentS_any v l w hv hl).mono ?_
  rintro e w1 ⟨v1, rfl, h1, h2, h3⟩
  have HB := Lib.hid h2
  have h4 := HU.out.grow h2
  clear h2
  go_wp2_with fail
  refine (sameS_any u v1 xs (lentM mkS l) w1 h4 h1.rd).mono ?_
  rintro e w2 ⟨rfl, m, rfl⟩
  go_wp2
  go_ret
  exact ⟨rfl, HB.out.os, HB.out.tape, HB.out.output, HB.out.size, HB.out.block⟩
end Go.Proofs.Ytkidijjhedjifaa
/- Lists of runs: two that lie by themselves and two lists of lists, all their values in one row: handed to ApartRuns they lie apart. -/
namespace Go.Proofs.Ytkidijjhedjifaa
open Go.RowKit
set_option maxRecDepth 100000
set_option linter.unusedVariables false
set_option linter.unusedSimpArgs false
/-- two neighbouring parts change places -/
theorem Env.moveT {w0 w : World} (A B C D : List Ob) (h : Env w0 w (A ++ (B ++ (C ++ D)))) : Env w0 w (A ++ (C ++ (B ++ D))) := by
  refine h.pick (fun j => if j < A.length then j else if j < A.length + C.length then j + B.length else if j < A.length + C.length + B.length then j - C.length else j) ?_ ?_
  · intro i j _ _ e
    by_cases a1 : i < A.length <;> by_cases a2 : i < A.length + C.length <;> by_cases a3 : i < A.length + C.length + B.length <;> by_cases b1 : j < A.length <;> by_cases b2 : j < A.length + C.length <;> by_cases b3 : j < A.length + C.length + B.length <;> simp only [a1, a2, a3, b1, b2, b3, if_true, if_false] at e <;> omega
  · intro j ob hj
    show (A ++ (B ++ (C ++ D)))[if j < A.length then j else if j < A.length + C.length then j + B.length else if j < A.length + C.length + B.length then j - C.length else j]? = some ob
    by_cases h1 : j < A.length
    · rw [if_pos h1, List.getElem?_append_left h1]
      rw [List.getElem?_append_left h1] at hj
      exact hj
    · rw [if_neg h1]
      rw [List.getElem?_append_right (by omega)] at hj
      by_cases h2 : j < A.length + C.length
      · rw [if_pos h2, List.getElem?_append_right (by omega), List.getElem?_append_right (by omega), List.getElem?_append_left (by omega)]
        rw [List.getElem?_append_left (by omega)] at hj
        rw [show j + B.length - A.length - B.length = j - A.length from by omega]
        exact hj
      · rw [if_neg h2]
        rw [List.getElem?_append_right (by omega)] at hj
        by_cases h3 : j < A.length + C.length + B.length
        · rw [if_pos h3, List.getElem?_append_right (by omega), List.getElem?_append_left (by omega)]
          rw [List.getElem?_append_left (by omega)] at hj
          rw [show j - C.length - A.length = j - A.length - C.length from by omega]
          exact hj
        · rw [if_neg h3, List.getElem?_append_right (by omega), List.getElem?_append_right (by omega), List.getElem?_append_right (by omega)]
          rw [List.getElem?_append_right (by omega)] at hj
          rw [show j - A.length - B.length - C.length = j - A.length - C.length - B.length from by omega]
          exact hj
def trXN (l : List (Value × List Rn)) (j : Nat) : Nat := (l[j]?.map (fun p => p.2.length)).getD 0
def trXC (l : List (Value × List Rn)) (j : Nat) : List Value := (l[j]?.map (fun p => KN.fl p.2)).getD []
def trXT (l : List (Value × List Rn)) (j : Nat) : Ob := obE 51 3 (Tv (l.map (·.1)) j) (trXN l j) (trXC l j)
theorem obTR_outX {w0 w : World} {u : Value} {ts : List (Value × List Rn)} {rest : List Ob} (h : Env w0 w (obTR u ts :: rest)) : Env w0 w (obE 31 1 u (ts.map (·.1)).length (ts.map (·.1)) :: ((List.range ts.length).map (trXT ts) ++ rest)) := by
  have h1 := h.llOut (trXT ts) (by
    intro j p hp
    rw [List.getElem?_map] at hp
    unfold trXT trXN trXC
    rcases hq : ts[j]? with _ | q
    · rw [hq] at hp; cases hp
    · rw [hq] at hp
      injection hp with hp
      subst hp
      have e : Tv (ts.map (·.1)) j = q.1 := by unfold Tv; rw [List.getD_eq_getElem?_getD, List.getElem?_map, hq]; rfl
      rw [e]
      rfl)
  rw [show (ts.map mkMR).length = ts.length from List.length_map _] at h1
  exact h1
theorem trXT_app (a b : List (Value × List Rn)) : (List.range a.length).map (trXT a) ++ (List.range b.length).map (trXT b) = (List.range ((a ++ b).map (·.1)).length).map (trXT (a ++ b)) := by
  apply List.ext_getElem?
  intro j
  rw [List.length_map, List.length_append]
  by_cases h : j < a.length
  · rw [List.getElem?_append_left (by simpa using h), List.getElem?_map, List.getElem?_map, List.getElem?_range h, List.getElem?_range (by omega)]
    unfold trXT trXN trXC Tv
    simp only [Option.map_some, List.getD_eq_getElem?_getD, List.getElem?_map, List.getElem?_append_left h]
  · rw [List.getElem?_append_right (by simp; omega), List.length_map, List.length_range]
    by_cases h2 : j < a.length + b.length
    · rw [List.getElem?_map, List.getElem?_map, List.getElem?_range (by omega), List.getElem?_range h2]
      unfold trXT trXN trXC Tv
      simp only [Option.map_some, List.getD_eq_getElem?_getD, List.getElem?_map, List.getElem?_append_right (show a.length ≤ j by omega)]
    · rw [List.getElem?_eq_none (by simp; omega), List.getElem?_eq_none (by simp; omega)]

theorem trX_two (p q : Value × List Rn) : (List.range [p, q].length).map (trXT [p, q]) = [obRuns p.1 p.2, obRuns q.1 q.2] := rfl
theorem apart_rows {w0 w : World} {u0 u1 told : Value} {a b : Value × List Rn} {l0 l1 : List (Value × List Rn)} {rest : List Ob} (h : Env w0 w (obTR u0 l0 :: obTR u1 l1 :: obRuns a.1 a.2 :: obRuns b.1 b.2 :: obE 31 1 told (([a, b] ++ l0 ++ l1).map (·.1)).length (([a, b] ++ l0 ++ l1).map (·.1)) :: rest))
    (hs : ∀ p ∈ [a, b] ++ l0 ++ l1, p.2.length ≤ 5864062014799) (hl : l0.length + l1.length ≤ 800000) :
    Calls Try.prog 22 #[told] w fun e w' => e = .returned (.bool true) ∧ ∃ obs', Env w0 w' obs' := by
  obtain ⟨R0, hR0⟩ : ∃ x, obE 31 1 u0 (l0.map (·.1)).length (l0.map (·.1)) = x := ⟨_, rfl⟩
  obtain ⟨R1, hR1⟩ : ∃ x, obE 31 1 u1 (l1.map (·.1)).length (l1.map (·.1)) = x := ⟨_, rfl⟩
  obtain ⟨TO, hTO⟩ : ∃ x, obE 31 1 told (([a, b] ++ l0 ++ l1).map (·.1)).length (([a, b] ++ l0 ++ l1).map (·.1)) = x := ⟨_, rfl⟩
  rw [hTO] at h
  have h1 := obTR_outX h
  rw [hR0] at h1
  obtain ⟨D0, hD0⟩ : ∃ x, (List.range l0.length).map (trXT l0) = x := ⟨_, rfl⟩
  obtain ⟨D1, hD1⟩ : ∃ x, (List.range l1.length).map (trXT l1) = x := ⟨_, rfl⟩
  rw [hD0] at h1
  obtain ⟨A1, hA1⟩ : ∃ x, obRuns a.1 a.2 = x := ⟨_, rfl⟩
  obtain ⟨A2, hA2⟩ : ∃ x, obRuns b.1 b.2 = x := ⟨_, rfl⟩
  rw [hA1, hA2] at h1
  have h2 := Env.moveT [] (R0 :: D0) [obTR u1 l1] (A1 :: A2 :: TO :: rest) (by simpa using h1)
  have h3 := obTR_outX (rest := R0 :: (D0 ++ (A1 :: A2 :: TO :: rest))) (by simpa using h2)
  rw [hR1, hD1] at h3
  have h4 := Env.moveT [] (R1 :: (D1 ++ (R0 :: D0))) [A1, A2] (TO :: rest) (by simpa using h3)
  have h5 := Env.moveT [] (A1 :: A2 :: R1 :: (D1 ++ (R0 :: D0))) [TO] rest (by simpa using h4)
  have h6 := Env.moveT [TO, A1, A2] (R1 :: (D1 ++ [R0])) D0 rest (by simpa using h5)
  have h7 := Env.moveT (TO :: A1 :: A2 :: D0) [R1] D1 (R0 :: rest) (by simpa using h6)
  have h8 : Env w0 w (TO :: ((([A1, A2] ++ D0) ++ D1) ++ R1 :: R0 :: rest)) := by simpa using h7
  rw [← hA1, ← hA2, ← trX_two a b, ← hD0, ← hD1, trXT_app, List.length_map, trXT_app, ← hTO] at h8
  refine (apartRuns_any told (([a, b] ++ l0 ++ l1).map (·.1)) (trXN ([a, b] ++ l0 ++ l1)) (trXC ([a, b] ++ l0 ++ l1)) (R1 :: R0 :: rest) h8 ?_ (by simp; omega)).mono ?_
  · intro j hj
    have hj2 : j < ([a, b] ++ l0 ++ l1).length := by simpa using hj
    unfold trXN
    rw [List.getElem?_eq_getElem hj2]
    exact hs _ (List.getElem_mem hj2)
  · rintro e w' ⟨rfl, h9⟩
    exact ⟨rfl, _, h9⟩
end Go.Proofs.Ytkidijjhedjifaa
/- The law CostRows: each, codes, all, beside the document's; memory. -/
namespace Go.Proofs.Ytkidijjhedjifaa
open Go.RowKit
set_option maxRecDepth 100000
set_option linter.unusedVariables false
set_option linter.unusedSimpArgs false
attribute [local go_sem] Oper.semAt_some
def SAr (g1 g2 g3 j : Nat) (r1 r2 r3 : Value) (W : World) : Prop := W.cell? ⟨g1, j, none⟩ = some r1 ∧ W.cell? ⟨g2, j, none⟩ = some r2 ∧ W.cell? ⟨g3, j, none⟩ = some r3
theorem SAr.id {g1 g2 g3 j : Nat} {r1 r2 r3 : Value} (W : World) (h : SAr g1 g2 g3 j r1 r2 r3 W) : W.cell? ⟨g1, j, none⟩ = some r1 ∧ W.cell? ⟨g2, j, none⟩ = some r2 ∧ W.cell? ⟨g3, j, none⟩ = some r3 := h
theorem eqS_refl (x : Sk) : eqS x x = true := (eqS_iff x x).2 rfl
theorem obTR_row {w0 w : World} {obs : List Ob} (h : Env w0 w obs) (i : Nat) {u : Value} {ts : List (Value × List Rn)} (hi : obs[i]? = some (obTR u ts)) : Sl w 1 u ts.length (ts.map (·.1)) := by
  have hr := (h.ll i hi).row
  rw [List.length_map] at hr
  refine Sl.of_own hr (fun x hx => ?_)
  obtain ⟨⟨v, l⟩, hm, rfl⟩ := List.mem_map.1 hx
  obtain ⟨j, hj⟩ := List.getElem?_of_mem hm
  obtain ⟨ao, cap, hv, _⟩ := (obTR_get h i hi hj).any
  show v.oneCell' = true
  rw [hv]
  rfl
namespace costRows
set_option maxHeartbeats 16000000 in
theorem walk (v : Value) (l : List Sk) {w : World} (hin : InSk w v l) :
    Calls Try.prog 4 #[v] w fun e w' => e = .returned (.bool true) ∧ Below w.heap.size w w' := by
  obtain ⟨hv, hok⟩ := hin
  obtain ⟨ao, cap, rfl, hc1, hc2, hc3⟩ := hv.any
  have HV := Lib.hid hv
  have HOK := Lib.hid hok
  clear hv hok
  go_enter Try.func4, Try.ntmps4
  by_cases h300 : 300 < l.length
  · have t3 : decide (300 < (l.length : Int)) = true := by rw [decide_eq_true_eq]; omega
    go_wp2_with fail
    go_ret
    exact ⟨rfl, Below.refl _ _⟩
  · have t3 : decide (300 < (l.length : Int)) = false := by rw [decide_eq_false_iff_not]; omega
    go_wp2_with fail
    refine (lentS_any _ l w HV.out (by omega)).mono ?_
    intro e w1 hn1
    obtain ⟨fv, rfl, h1⟩ := Knd.New.env (Env.start w) hn1
    rw [List.nil_append] at h1
    obtain ⟨fg, fcap, rfl, hf1, hf2⟩ := h1.lentF 0 rfl
    have hfl : (lentM mkS l).length = l.length + 6 := lentM_len _ _
    have h1 : Env w w1 [KS.ob (.slice (some ⟨fg, 0, none⟩) (l.length + 6) fcap) (lentM mkS l)] := by
      rw [hfl] at h1
      exact h1
    rw [hfl]
    have hcap : l.length ≤ fcap := by omega
    have H1 := Lib.hid h1
    have HRD : Hid (∀ L, RdS w ([KS.ob (.slice (some ⟨fg, 0, none⟩) (l.length + 6) fcap) (lentM mkS l)] ++ L) (.slice (some ⟨fg, 0, none⟩) l.length fcap) l) := Lib.hid fun L wx L2 h => by
      have hk : KS.R wx (.slice (some ⟨fg, 0, none⟩) (l.length + 6) fcap) (lentM mkS l) := Env.kR h 0 rfl
      exact Knd.R.lent hk
    clear h1 hn1
    go_wp2_with fail
    refine (each_env H1.out (HRD.out []) HOK.out (by omega)).mono ?_
    rintro e w2 ⟨u0, t0, rfl, ht0, h2⟩
    have hl0 : t0.length = l.length := by
      have := congrArg List.length ht0
      rw [List.length_map] at this
      rw [this]
      exact eachTo_len l _
    have h2 : Env w w2 [KS.ob (.slice (some ⟨fg, 0, none⟩) (l.length + 6) fcap) (lentM mkS l), obTR u0 t0] := h2
    obtain ⟨uo0, uc0, rfl, hu1, hu2⟩ := obTR_form h2 1 rfl
    rw [hl0] at h2 hu1 ⊢
    have H2 := Lib.hid h2
    have HT0 := Lib.hid (And.intro ht0 hl0)
    clear h2 H1 ht0 hl0
    go_wp2_with fail
    refine (each_env H2.out (HRD.out [_]) HOK.out (by omega)).mono ?_
    rintro e w3 ⟨u1, t1, rfl, ht1, h3⟩
    have hl1 : t1.length = l.length := by
      have := congrArg List.length ht1
      rw [List.length_map] at this
      rw [this]
      exact eachTo_len l _
    have h3 : Env w w3 [KS.ob (.slice (some ⟨fg, 0, none⟩) (l.length + 6) fcap) (lentM mkS l), obTR (.slice uo0 l.length uc0) t0, obTR u1 t1] := h3
    obtain ⟨uo1, uc1, rfl, hv1, hv2⟩ := obTR_form h3 2 rfl
    rw [hl1] at h3 hv1 ⊢
    have H3 := Lib.hid h3
    have HT1 := Lib.hid (And.intro ht1 hl1)
    clear h3 H2 ht1 hl1
    go_wp2_with fail
    refine (codes_env H3.out (HRD.out [_, _]) HOK.out (by omega)).mono ?_
    rintro e w4 ⟨c0, rfl, h4⟩
    have H4 : Hid (Env w w4 [KS.ob (.slice (some ⟨fg, 0, none⟩) (l.length + 6) fcap) (lentM mkS l), obTR (.slice uo0 l.length uc0) t0, obTR (.slice uo1 l.length uc1) t1, KC.ob c0 (codesL l)]) := Lib.hid h4
    clear h4 H3
    go_wp2_with fail
    refine (codes_env H4.out (HRD.out [_, _, _]) HOK.out (by omega)).mono ?_
    rintro e w5 ⟨c1, rfl, h5⟩
    have H5 : Hid (Env w w5 [KS.ob (.slice (some ⟨fg, 0, none⟩) (l.length + 6) fcap) (lentM mkS l), obTR (.slice uo0 l.length uc0) t0, obTR (.slice uo1 l.length uc1) t1, KC.ob c0 (codesL l), KC.ob c1 (codesL l)]) := Lib.hid h5
    clear h5 H4
    go_wp2_with fail
    refine (runs_env H5.out (HRD.out [_, _, _, _]) HOK.out (by omega)).mono ?_
    rintro e w6 ⟨r0, rfl, h6⟩
    have H6 : Hid (Env w w6 [KS.ob (.slice (some ⟨fg, 0, none⟩) (l.length + 6) fcap) (lentM mkS l), obTR (.slice uo0 l.length uc0) t0, obTR (.slice uo1 l.length uc1) t1, KC.ob c0 (codesL l), KC.ob c1 (codesL l), obRuns r0 (allTo l l.length)]) := Lib.hid h6
    clear h6 H5
    go_wp2_with fail
    refine (runs_env H6.out (HRD.out [_, _, _, _, _]) HOK.out (by omega)).mono ?_
    rintro e w7 ⟨r1, rfl, h7⟩
    have H7 : Hid (Env w w7 [KS.ob (.slice (some ⟨fg, 0, none⟩) (l.length + 6) fcap) (lentM mkS l), obTR (.slice uo0 l.length uc0) t0, obTR (.slice uo1 l.length uc1) t1, KC.ob c0 (codesL l), KC.ob c1 (codesL l), obRuns r0 (allTo l l.length), obRuns r1 (allTo l l.length)]) := Lib.hid h7
    clear h7 H6
    go_wp2_with fail
    refine (reach_env H7.out (RdS.old HV.out) HOK.out (by omega)).mono ?_
    rintro e w8 ⟨u2, t2, rfl, ht2, h8⟩
    have hl2 : t2.length = l.length := by
      have := congrArg List.length ht2
      rw [List.length_map] at this
      rw [this]
      exact eachTo_len l _
    have h8 : Env w w8 [KS.ob (.slice (some ⟨fg, 0, none⟩) (l.length + 6) fcap) (lentM mkS l), obTR (.slice uo0 l.length uc0) t0, obTR (.slice uo1 l.length uc1) t1, KC.ob c0 (codesL l), KC.ob c1 (codesL l), obRuns r0 (allTo l l.length), obRuns r1 (allTo l l.length), obTR u2 t2] := h8
    obtain ⟨uo2, uc2, rfl, hx1, hx2⟩ := obTR_form h8 7 rfl
    rw [hl2] at h8 hx1 ⊢
    have H8 := Lib.hid h8
    have HT2 := Lib.hid (And.intro ht2 hl2)
    clear h8 H7 ht2 hl2
    go_wp2_with fail
    have kr : KS.R w8 (.slice (some ⟨fg, 0, none⟩) (l.length + 6) fcap) (lentM mkS l) := H8.out.kR 0 rfl
    have HKR := Lib.hid kr
    clear kr
    refine (keptS_any _ _ (lentM mkS l) l w8 HKR.out (H8.out.oldK HV.out) (by omega)).mono ?_
    rintro e w9 ⟨he, hb9⟩
    rw [sameL_refl eqS eqS_refl] at he
    subst he
    have H9 := Lib.hid (H8.out.below hb9)
    clear hb9 H8 HKR
    go_wp2_with fail
    go_loopw [12] (fun iv wx => ∃ j : Nat, j ≤ l.length ∧ iv = .int .i64 (j : Int) ∧ Hid (Env w wx [KS.ob (.slice (some ⟨fg, 0, none⟩) (l.length + 6) fcap) (lentM mkS l), obTR (.slice uo0 l.length uc0) t0, obTR (.slice uo1 l.length uc1) t1, KC.ob c0 (codesL l), KC.ob c1 (codesL l), obRuns r0 (allTo l l.length), obRuns r1 (allTo l l.length), obTR (.slice uo2 l.length uc2) t2])) (fun iv _ => l.length - (RowKit.intOf iv).toNat)
    case atStart => exact ⟨0, Nat.zero_le _, rfl, H9⟩
    case round =>
      obtain ⟨j, hj, rfl, HK⟩ := hrel
      clear H9
      by_cases hlt : j < l.length
      · have t4 : decide ((j : Int) < (l.length : Int)) = true := by rw [decide_eq_true_eq]; omega
        have bj : 0 ≤ (j : Int) ∧ (j : Int) < (l.length : Int) := by omega
        obtain ⟨⟨x1, y1⟩, hx1⟩ : ∃ y, t0[j]? = some y := ⟨_, List.getElem?_eq_getElem (by rw [HT0.out.2]; omega)⟩
        obtain ⟨⟨x2, y2⟩, hx2⟩ : ∃ y, t1[j]? = some y := ⟨_, List.getElem?_eq_getElem (by rw [HT1.out.2]; omega)⟩
        obtain ⟨⟨x3, y3⟩, hx3⟩ : ∃ y, t2[j]? = some y := ⟨_, List.getElem?_eq_getElem (by rw [HT2.out.2]; omega)⟩
        have e1 := congrArg (fun z => z[j]?) HT0.out.1
        have e2 := congrArg (fun z => z[j]?) HT1.out.1
        have e3 := congrArg (fun z => z[j]?) HT2.out.1
        simp only [List.getElem?_map, hx1, hx2, hx3, Option.map_some] at e1 e2 e3
        rw [← e3] at e1 e2
        injection e1 with e1
        injection e2 with e2
        subst e1
        subst e2
        clear e3
        obtain ⟨g1, k1, q1, _, _⟩ := obTR_slice HK.out 1 rfl (by rw [HT0.out.2]; omega)
        obtain ⟨g2, k2, q2, _, _⟩ := obTR_slice HK.out 2 rfl (by rw [HT1.out.2]; omega)
        obtain ⟨g3, k3, q3, _, _⟩ := obTR_slice HK.out 7 rfl (by rw [HT2.out.2]; omega)
        injection q1 with q1 q1b q1c
        injection q2 with q2 q2b q2c
        injection q3 with q3 q3b q3c
        subst q1 q2 q3
        clear q1b q1c q2b q2c q3b q3c
        have HX := Lib.hid (And.intro hx1 (And.intro hx2 hx3))
        have hS : Hid (∀ W, Env w W [KS.ob (.slice (some ⟨fg, 0, none⟩) (l.length + 6) fcap) (lentM mkS l), obTR (.slice (some ⟨g1, 0, none⟩) l.length uc0) t0, obTR (.slice (some ⟨g2, 0, none⟩) l.length uc1) t1, KC.ob c0 (codesL l), KC.ob c1 (codesL l), obRuns r0 (allTo l l.length), obRuns r1 (allTo l l.length), obTR (.slice (some ⟨g3, 0, none⟩) l.length uc2) t2] → SAr g1 g2 g3 j x1 x2 x3 W ∧ RunsRd W x1 y2 ∧ RunsRd W x2 y2 ∧ RunsRd W x3 y2) := Lib.hid fun W hW => ⟨⟨obTR_cell hW 1 rfl HX.out.1, obTR_cell hW 2 rfl HX.out.2.1, obTR_cell hW 7 rfl HX.out.2.2⟩, obTR_get hW 1 rfl HX.out.1, obTR_get hW 2 rfl HX.out.2.1, obTR_get hW 7 rfl HX.out.2.2⟩
        clear hx1 hx2 hx3
        go_upto_region 17 with fail
        refine hd_start (SAr g1 g2 g3 j x1 x2 x3) (by kernel_rfl) ?_
        intro wa hw'
        have Ha := Lib.hid (HK.out.draw 1)
        rw [← hw'] at Ha
        clear hw' HK
        have Sa := (hS.out _ Ha.out).1
        refine hd_take (v := ?_) 0 rfl (by kernel_rfl) (fun _ _ d _ _ h => (by cases d <;> exact h)) (by kernel_rfl) Sa (fun w' hS => ?_) ?_
        rotate_left
        focus (have q0 := SAr.id w' hS; clear hS; go_simp; try rfl; done)
        simp only [List.getElem_toArray, List.getElem_cons_succ, List.getElem_cons_zero, Act.put, List.setIfInBounds_toArray, List.set_cons_zero, List.set_cons_succ]
        refine hd_take (v := ?_) 1 rfl (by kernel_rfl) (fun _ _ d _ _ h => (by cases d <;> exact h)) (by kernel_rfl) Sa (fun w' hS => ?_) ?_
        rotate_left
        focus (have q0 := SAr.id w' hS; clear hS; go_simp; try rfl; done)
        simp only [List.getElem_toArray, List.getElem_cons_succ, List.getElem_cons_zero, Act.put, List.setIfInBounds_toArray, List.set_cons_zero, List.set_cons_succ]
        refine hd_take (v := ?_) 2 rfl (by kernel_rfl) (fun _ _ d _ _ h => (by cases d <;> exact h)) (by kernel_rfl) Sa (fun w' hS => ?_) ?_
        rotate_left
        focus (have q0 := SAr.id w' hS; clear hS; go_simp; try rfl; done)
        simp only [List.getElem_toArray, List.getElem_cons_succ, List.getElem_cons_zero, Act.put, List.setIfInBounds_toArray, List.set_cons_zero, List.set_cons_succ]
        refine hd_take (v := ?_) 3 rfl (by kernel_rfl) (fun _ _ d _ _ h => (by cases d <;> exact h)) (by kernel_rfl) Sa (fun w' hS => ?_) ?_
        rotate_left
        focus (have q0 := SAr.id w' hS; clear hS; go_simp; try rfl; done)
        simp only [List.getElem_toArray, List.getElem_cons_succ, List.getElem_cons_zero, Act.put, List.setIfInBounds_toArray, List.set_cons_zero, List.set_cons_succ]
        refine hd_take (v := ?_) 4 rfl (by kernel_rfl) (fun _ _ d _ _ h => (by cases d <;> exact h)) (by kernel_rfl) Sa (fun w' hS => ?_) ?_
        rotate_left
        focus (have q0 := SAr.id w' hS; clear hS; go_simp; try rfl; done)
        simp only [List.getElem_toArray, List.getElem_cons_succ, List.getElem_cons_zero, Act.put, List.setIfInBounds_toArray, List.set_cons_zero, List.set_cons_succ]
        refine hd_take (v := ?_) 5 rfl (by kernel_rfl) (fun _ _ d _ _ h => (by cases d <;> exact h)) (by kernel_rfl) Sa (fun w' hS => ?_) ?_
        rotate_left
        focus (have q0 := SAr.id w' hS; clear hS; go_simp; try rfl; done)
        simp only [List.getElem_toArray, List.getElem_cons_succ, List.getElem_cons_zero, Act.put, List.setIfInBounds_toArray, List.set_cons_zero, List.set_cons_succ]
        refine hd_take (v := ?_) 6 rfl (by kernel_rfl) (fun _ _ d _ _ h => (by cases d <;> exact h)) (by kernel_rfl) Sa (fun w' hS => ?_) ?_
        rotate_left
        focus (have q0 := SAr.id w' hS; clear hS; go_simp; try rfl; done)
        simp only [List.getElem_toArray, List.getElem_cons_succ, List.getElem_cons_zero, Act.put, List.setIfInBounds_toArray, List.set_cons_zero, List.set_cons_succ]
        refine hd_take (v := ?_) 7 rfl (by kernel_rfl) (fun _ _ d _ _ h => (by cases d <;> exact h)) (by kernel_rfl) Sa (fun w' hS => ?_) ?_
        rotate_left
        focus (have q0 := SAr.id w' hS; clear hS; go_simp; try rfl; done)
        simp only [List.getElem_toArray, List.getElem_cons_succ, List.getElem_cons_zero, Act.put, List.setIfInBounds_toArray, List.set_cons_zero, List.set_cons_succ]
        refine hd_one 8 (by kernel_rfl) ?_
        refine op_call rfl (by kernel_rfl) (by go_simp; first | exact ⟨rfl, rfl⟩ | rfl) ?_
        refine (sameRuns_env' Ha.out (hS.out _ Ha.out).2.1 (hS.out _ Ha.out).2.2.2).mono ?_
        rintro e wb ⟨he, hb⟩
        rw [decide_eq_true rfl] at he
        subst he
        have hS2 := (hS.out _ hb).1
        have Sb := hS2
        have Hb := Lib.hid hb
        clear hb
        refine ⟨_, rfl, hS2, ?_⟩
        simp only [List.getElem_toArray, List.getElem_cons_succ, List.getElem_cons_zero, Act.put, List.setIfInBounds_toArray, List.set_cons_zero, List.set_cons_succ]
        refine hd_take (v := ?_) 9 rfl (by kernel_rfl) (fun _ _ d _ _ h => (by cases d <;> exact h)) (by kernel_rfl) Sb (fun w' hS => ?_) ?_
        rotate_left
        focus (have q0 := SAr.id w' hS; clear hS; go_simp; try rfl; done)
        simp only [List.getElem_toArray, List.getElem_cons_succ, List.getElem_cons_zero, Act.put, List.setIfInBounds_toArray, List.set_cons_zero, List.set_cons_succ]
        refine hd_take (v := ?_) 10 rfl (by kernel_rfl) (fun _ _ d _ _ h => (by cases d <;> exact h)) (by kernel_rfl) Sb (fun w' hS => ?_) ?_
        rotate_left
        focus (have q0 := SAr.id w' hS; clear hS; go_simp; try rfl; done)
        simp only [List.getElem_toArray, List.getElem_cons_succ, List.getElem_cons_zero, Act.put, List.setIfInBounds_toArray, List.set_cons_zero, List.set_cons_succ]
        refine hd_take (v := ?_) 11 rfl (by kernel_rfl) (fun _ _ d _ _ h => (by cases d <;> exact h)) (by kernel_rfl) Sb (fun w' hS => ?_) ?_
        rotate_left
        focus (have q0 := SAr.id w' hS; clear hS; go_simp; try rfl; done)
        simp only [List.getElem_toArray, List.getElem_cons_succ, List.getElem_cons_zero, Act.put, List.setIfInBounds_toArray, List.set_cons_zero, List.set_cons_succ]
        refine hd_take (v := ?_) 12 rfl (by kernel_rfl) (fun _ _ d _ _ h => (by cases d <;> exact h)) (by kernel_rfl) Sb (fun w' hS => ?_) ?_
        rotate_left
        focus (have q0 := SAr.id w' hS; clear hS; go_simp; try rfl; done)
        simp only [List.getElem_toArray, List.getElem_cons_succ, List.getElem_cons_zero, Act.put, List.setIfInBounds_toArray, List.set_cons_zero, List.set_cons_succ]
        refine hd_take (v := ?_) 13 rfl (by kernel_rfl) (fun _ _ d _ _ h => (by cases d <;> exact h)) (by kernel_rfl) Sb (fun w' hS => ?_) ?_
        rotate_left
        focus (have q0 := SAr.id w' hS; clear hS; go_simp; try rfl; done)
        simp only [List.getElem_toArray, List.getElem_cons_succ, List.getElem_cons_zero, Act.put, List.setIfInBounds_toArray, List.set_cons_zero, List.set_cons_succ]
        refine hd_take (v := ?_) 14 rfl (by kernel_rfl) (fun _ _ d _ _ h => (by cases d <;> exact h)) (by kernel_rfl) Sb (fun w' hS => ?_) ?_
        rotate_left
        focus (have q0 := SAr.id w' hS; clear hS; go_simp; try rfl; done)
        simp only [List.getElem_toArray, List.getElem_cons_succ, List.getElem_cons_zero, Act.put, List.setIfInBounds_toArray, List.set_cons_zero, List.set_cons_succ]
        refine hd_take (v := ?_) 15 rfl (by kernel_rfl) (fun _ _ d _ _ h => (by cases d <;> exact h)) (by kernel_rfl) Sb (fun w' hS => ?_) ?_
        rotate_left
        focus (have q0 := SAr.id w' hS; clear hS; go_simp; try rfl; done)
        simp only [List.getElem_toArray, List.getElem_cons_succ, List.getElem_cons_zero, Act.put, List.setIfInBounds_toArray, List.set_cons_zero, List.set_cons_succ]
        refine hd_take (v := ?_) 16 rfl (by kernel_rfl) (fun _ _ d _ _ h => (by cases d <;> exact h)) (by kernel_rfl) Sb (fun w' hS => ?_) ?_
        rotate_left
        focus (have q0 := SAr.id w' hS; clear hS; go_simp; try rfl; done)
        simp only [List.getElem_toArray, List.getElem_cons_succ, List.getElem_cons_zero, Act.put, List.setIfInBounds_toArray, List.set_cons_zero, List.set_cons_succ]
        refine hd_take (v := ?_) 17 rfl (by kernel_rfl) (fun _ _ d _ _ h => (by cases d <;> exact h)) (by kernel_rfl) Sb (fun w' hS => ?_) ?_
        rotate_left
        focus (have q0 := SAr.id w' hS; clear hS; go_simp; try rfl; done)
        simp only [List.getElem_toArray, List.getElem_cons_succ, List.getElem_cons_zero, Act.put, List.setIfInBounds_toArray, List.set_cons_zero, List.set_cons_succ]
        refine hd_take (v := ?_) 18 rfl (by kernel_rfl) (fun _ _ d _ _ h => (by cases d <;> exact h)) (by kernel_rfl) Sb (fun w' hS => ?_) ?_
        rotate_left
        focus (have q0 := SAr.id w' hS; clear hS; go_simp; try rfl; done)
        simp only [List.getElem_toArray, List.getElem_cons_succ, List.getElem_cons_zero, Act.put, List.setIfInBounds_toArray, List.set_cons_zero, List.set_cons_succ]
        refine hd_one 19 (by kernel_rfl) ?_
        refine op_call rfl (by kernel_rfl) (by go_simp; first | exact ⟨rfl, rfl⟩ | rfl) ?_
        refine (sameRuns_env' Hb.out (hS.out _ Hb.out).2.2.1 (hS.out _ Hb.out).2.2.2).mono ?_
        rintro e wc ⟨he, hb⟩
        rw [decide_eq_true rfl] at he
        subst he
        have hS2 := (hS.out _ hb).1
        have Sc := hS2
        have Hc := Lib.hid hb
        clear hb
        refine ⟨_, rfl, hS2, ?_⟩
        simp only [List.getElem_toArray, List.getElem_cons_succ, List.getElem_cons_zero, Act.put, List.setIfInBounds_toArray, List.set_cons_zero, List.set_cons_succ]
        refine hd_take (v := ?_) 20 rfl (by kernel_rfl) (fun _ _ d _ _ h => (by cases d <;> exact h)) (by kernel_rfl) Sc (fun w' hS => ?_) ?_
        rotate_left
        focus (clear hS; go_simp; try rfl; done)
        simp only [List.getElem_toArray, List.getElem_cons_succ, List.getElem_cons_zero, Act.put, List.setIfInBounds_toArray, List.set_cons_zero, List.set_cons_succ]
        refine hd_take (v := ?_) 21 rfl (by kernel_rfl) (fun _ _ d _ _ h => (by cases d <;> exact h)) (by kernel_rfl) Sc (fun w' hS => ?_) ?_
        rotate_left
        focus (clear hS; go_simp; try rfl; done)
        simp only [List.getElem_toArray, List.getElem_cons_succ, List.getElem_cons_zero, Act.put, List.setIfInBounds_toArray, List.set_cons_zero, List.set_cons_succ]
        refine hd_done (by kernel_rfl) ?_
        clear Sa Sb Sc hS Ha Hb
        have hw1 : IntKind.i64.wrap ((j : Int) + 1) = ((j + 1 : Nat) : Int) := by rw [IntWalk.i64_in _ (by omega)]; omega
        go_wp2_with fail
        refine ⟨⟨j + 1, by omega, rfl, Hc⟩, ?_⟩
        have q9 : l.length - ((j : Int) + 1).toNat < l.length - ((j : Int)).toNat := by omega
        exact q9
      · have t4 : decide ((j : Int) < (l.length : Int)) = false := by rw [decide_eq_false_iff_not]; omega
        go_wp2_with fail
        refine (rcodes_env HK.out (RdS.old HV.out) HOK.out (by omega)).mono ?_
        rintro e wa ⟨c2, rfl, ha⟩
        have ha : Env w wa [KS.ob (.slice (some ⟨fg, 0, none⟩) (l.length + 6) fcap) (lentM mkS l), obTR (.slice uo0 l.length uc0) t0, obTR (.slice uo1 l.length uc1) t1, KC.ob c0 (codesL l), KC.ob c1 (codesL l), obRuns r0 (allTo l l.length), obRuns r1 (allTo l l.length), obTR (.slice uo2 l.length uc2) t2, KC.ob c2 (codesL l)] := ha
        have ra : KC.R wa c0 (codesL l) := ha.kR 3 rfl
        have rb : KC.R wa c1 (codesL l) := ha.kR 4 rfl
        have rc : KC.R wa c2 (codesL l) := ha.kR 8 rfl
        have HRR := Lib.hid (And.intro ra (And.intro rb rc))
        have Ha := Lib.hid ha
        clear ha ra rb rc HK
        go_wp2_with fail
        refine (sameC_any _ _ _ _ _ HRR.out.1 HRR.out.2.2).mono ?_
        rintro e wb ⟨he, n, hn⟩
        rw [sameL_refl eqC (fun x => by simp [eqC])] at he
        subst he
        have hb := Ha.out.draw n
        rw [← hn] at hb
        have ra : KC.R wb c0 (codesL l) := hb.kR 3 rfl
        have rb : KC.R wb c1 (codesL l) := hb.kR 4 rfl
        have HRS := Lib.hid (And.intro ra rb)
        have Hb := Lib.hid hb
        clear hb hn HRR Ha ra rb
        go_wp2_with fail
        refine (sameC_any _ _ _ _ _ HRS.out.2 HRS.out.1).mono ?_
        rintro e wc ⟨he, n, hn⟩
        rw [sameL_refl eqC (fun x => by simp [eqC])] at he
        subst he
        have hb := Hb.out.draw n
        rw [← hn] at hb
        have Hc := Lib.hid hb
        clear hb hn HRS Hb
        go_wp2_with fail
        refine (rruns_env Hc.out (RdS.old HV.out) HOK.out (by omega)).mono ?_
        rintro e wd ⟨r2, rfl, hd⟩
        have hd : Env w wd [KS.ob (.slice (some ⟨fg, 0, none⟩) (l.length + 6) fcap) (lentM mkS l), obTR (.slice uo0 l.length uc0) t0, obTR (.slice uo1 l.length uc1) t1, KC.ob c0 (codesL l), KC.ob c1 (codesL l), obRuns r0 (allTo l l.length), obRuns r1 (allTo l l.length), obTR (.slice uo2 l.length uc2) t2, KC.ob c2 (codesL l), obRuns r2 (allTo l l.length)] := hd
        have Hd := Lib.hid hd
        clear hd Hc
        go_wp2_with fail
        refine (sameRuns_env' Hd.out (Hd.out.runs 5 rfl).rd (Hd.out.runs 9 rfl).rd).mono ?_
        rintro e we ⟨he, hd⟩
        rw [decide_eq_true rfl] at he
        subst he
        have He := Lib.hid hd
        clear hd Hd
        go_wp2_with fail
        refine (sameRuns_env' He.out (He.out.runs 6 rfl).rd (He.out.runs 5 rfl).rd).mono ?_
        rintro e wf ⟨he, hd⟩
        rw [decide_eq_true rfl] at he
        subst he
        have hf : Env w wf [obTR (.slice uo0 l.length uc0) t0, obTR (.slice uo1 l.length uc1) t1, obRuns r0 (allTo l l.length), obRuns r1 (allTo l l.length), KC.ob c0 (codesL l), KC.ob c1 (codesL l)] := by
          refine Env.pick hd (fun j => [1, 2, 5, 6, 3, 4].getD j 0) ?_ ?_
          · intro i j hi hj
            simp at hi hj
            exact (by decide : ∀ i, i < 6 → ∀ j, j < 6 → [1, 2, 5, 6, 3, 4].getD i 0 = [1, 2, 5, 6, 3, 4].getD j 0 → i = j) i hi j hj
          · intro j ob hj
            match j, hj with
            | 0, hj => exact hj
            | 1, hj => exact hj
            | 2, hj => exact hj
            | 3, hj => exact hj
            | 4, hj => exact hj
            | 5, hj => exact hj
            | n + 6, hj => simp at hj
        obtain ⟨a0, d0, hr0, _, _, _⟩ := (show KN.R wf r0 (allTo l l.length) from hf.kR 2 rfl).any
        obtain ⟨a1, d1, hr1, _, _, _⟩ := (show KN.R wf r1 (allTo l l.length) from hf.kR 3 rfl).any
        obtain ⟨b0, e0, hs0, _, _, _⟩ := (show KC.R wf c0 (codesL l) from hf.kR 4 rfl).any
        obtain ⟨b1, e1, hs1, _, _, _⟩ := (show KC.R wf c1 (codesL l) from hf.kR 5 rfl).any
        rw [show (codesL l).length = l.length from codesTo_len _ _] at hs0 hs1
        obtain ⟨N, hN⟩ : ∃ N, (allTo l l.length).length = N := ⟨_, rfl⟩
        have hN2 : N ≤ 1500 := by have := allTo_lenB l l.length; omega
        rw [hN] at hr0 hr1
        subst hr0 hr1 hs0 hs1
        have Hf := Lib.hid hf
        have HNN := Lib.hid (And.intro hN hN2)
        clear hd He hf hN hN2
        have hrow : (wf.alloc (.cells #[.slice a0 N d0, .slice a1 N d1] 31)).ownsRow 0 31 1 (.slice (some ⟨wf.heap.size, 0, none⟩) 2 2) 2 [.slice a0 N d0, .slice a1 N d1] := by
          have := World.ownsRow_lit (base := 0) (e := 31) (size := 1) wf #[.slice a0 N d0, .slice a1 N d1] 2 (Nat.zero_le _) (by unfold maxLen; omega) (by simp)
          simpa using this
        have hg0 := Hf.out.pushE hrow ((Below.refl _ _).alloc (Nat.le_refl _) _) (fun x hx => by
          have hx' : wf.heap.size = x := by simpa [fpv, Value.ownBlock] using hx
          omega)
        have hg0 : Env w (wf.alloc (.cells #[.slice a0 N d0, .slice a1 N d1] 31)) [obTR (.slice uo0 l.length uc0) t0, obTR (.slice uo1 l.length uc1) t1, obRuns (.slice a0 N d0) (allTo l l.length), obRuns (.slice a1 N d1) (allTo l l.length), KC.ob (.slice b0 l.length e0) (codesL l), KC.ob (.slice b1 l.length e1) (codesL l), obE 31 1 (.slice (some ⟨wf.heap.size, 0, none⟩) 2 2) 2 [.slice a0 N d0, .slice a1 N d1]] := hg0
        have hsl0 : Sl (wf.alloc (.cells #[.slice a0 N d0, .slice a1 N d1] 31)) 1 (.slice uo0 l.length uc0) l.length (t0.map (·.1)) := by
          have := obTR_row hg0 0 rfl
          rw [HT0.out.2] at this
          exact this
        have HG0 := Lib.hid (And.intro hg0 (And.intro hrow hsl0))
        obtain ⟨i0, hi0, hz0, hz1, hz2⟩ := info_parts infoNs
        have HII := Lib.hid (And.intro hi0 (And.intro hz0 (And.intro hz1 hz2)))
        clear hrow hg0 hsl0 hi0 hz0 hz1 hz2
        go_upto_region 21 with fail
        go_wp2_with (at_builtin; refine wpList_append_sl _ rfl _ _ 25 rfl 31 i0 _ 1 24 Try.underlying25 HII.out.1 HII.out.2.1 HII.out.2.2.1 HII.out.2.2.2 rfl (by decide) (.slice (some ⟨wf.heap.size, 0, none⟩) 2 2) 2 [.slice a0 N d0, .slice a1 N d1] rfl HG0.out.2.1 (.slice uo0 l.length uc0) l.length (t0.map (·.1)) rfl HG0.out.2.2 (by unfold maxLen; omega) (by omega) ?_)
        intro v1 wg k1 k2 k3 _
        have hg1 := HG0.out.1.rowUp 6 rfl k1 k2 (by
          have e : (wf.alloc (.cells #[.slice a0 N d0, .slice a1 N d1] 31)).heap.size = wf.heap.size + 1 := by simp
          rw [e]
          exact k3)
        have hg1 : Env w wg [obTR (.slice uo0 l.length uc0) t0, obTR (.slice uo1 l.length uc1) t1, obRuns (.slice a0 N d0) (allTo l l.length), obRuns (.slice a1 N d1) (allTo l l.length), KC.ob (.slice b0 l.length e0) (codesL l), KC.ob (.slice b1 l.length e1) (codesL l), obE 31 1 v1 (2 + l.length) ([.slice a0 N d0, .slice a1 N d1] ++ t0.map (·.1))] := hg1
        have hsl1 : Sl wg 1 (.slice uo1 l.length uc1) l.length (t1.map (·.1)) := by
          have := obTR_row hg1 1 rfl
          rw [HT1.out.2] at this
          exact this
        have HG1 := Lib.hid (And.intro hg1 (And.intro k1 hsl1))
        clear hg1 k1 k2 k3 hsl1 HG0
        go_wp2_with (at_builtin; refine wpList_append_sl _ rfl _ _ 25 rfl 31 i0 _ 1 24 Try.underlying25 HII.out.1 HII.out.2.1 HII.out.2.2.1 HII.out.2.2.2 rfl (by decide) v1 (2 + l.length) ([.slice a0 N d0, .slice a1 N d1] ++ t0.map (·.1)) rfl HG1.out.2.1 (.slice uo1 l.length uc1) l.length (t1.map (·.1)) rfl HG1.out.2.2 (by unfold maxLen; omega) (by omega) ?_)
        intro v2 wh k1 k2 k3 _
        have hg2 : Env w wh [obTR (.slice uo0 l.length uc0) t0, obTR (.slice uo1 l.length uc1) t1, obRuns (.slice a0 N d0) (allTo l l.length), obRuns (.slice a1 N d1) (allTo l l.length), KC.ob (.slice b0 l.length e0) (codesL l), KC.ob (.slice b1 l.length e1) (codesL l), obE 31 1 v2 (2 + l.length + l.length) (([.slice a0 N d0, .slice a1 N d1] ++ t0.map (·.1)) ++ t1.map (·.1))] := HG1.out.1.rowUp 6 rfl k1 k2 k3
        have hvs : ([.slice a0 N d0, .slice a1 N d1] ++ t0.map (·.1)) ++ t1.map (·.1) = (([((.slice a0 N d0 : Value), allTo l l.length), ((.slice a1 N d1 : Value), allTo l l.length)] ++ t0 ++ t1).map (·.1)) := by simp
        have hln : 2 + l.length + l.length = (([((.slice a0 N d0 : Value), allTo l l.length), ((.slice a1 N d1 : Value), allTo l l.length)] ++ t0 ++ t1).map (·.1)).length := by
          have h0 := HT0.out.2
          have h1 := HT1.out.2
          simp
          omega
        rw [hvs, hln] at hg2
        obtain ⟨TO, hTO⟩ : ∃ x, obE 31 1 v2 (([((.slice a0 N d0 : Value), allTo l l.length), ((.slice a1 N d1 : Value), allTo l l.length)] ++ t0 ++ t1).map (·.1)).length (([((.slice a0 N d0 : Value), allTo l l.length), ((.slice a1 N d1 : Value), allTo l l.length)] ++ t0 ++ t1).map (·.1)) = x := ⟨_, rfl⟩
        have hg2 : Env w wh [obTR (.slice uo0 l.length uc0) t0, obTR (.slice uo1 l.length uc1) t1, obRuns (.slice a0 N d0) (allTo l l.length), obRuns (.slice a1 N d1) (allTo l l.length), KC.ob (.slice b0 l.length e0) (codesL l), KC.ob (.slice b1 l.length e1) (codesL l), TO] := by rw [← hTO]; exact hg2
        have hg3 : Env w wh [KC.ob (.slice b0 l.length e0) (codesL l), KC.ob (.slice b1 l.length e1) (codesL l), obTR (.slice uo0 l.length uc0) t0, obTR (.slice uo1 l.length uc1) t1, obRuns (.slice a0 N d0) (allTo l l.length), obRuns (.slice a1 N d1) (allTo l l.length), TO] := by
          refine Env.pick hg2 (fun j => [4, 5, 0, 1, 2, 3, 6].getD j 0) ?_ ?_
          · intro i j hi hj
            simp at hi hj
            exact (by decide : ∀ i, i < 7 → ∀ j, j < 7 → [4, 5, 0, 1, 2, 3, 6].getD i 0 = [4, 5, 0, 1, 2, 3, 6].getD j 0 → i = j) i hi j hj
          · intro j ob hj
            match j, hj with
            | 0, hj => exact hj
            | 1, hj => exact hj
            | 2, hj => exact hj
            | 3, hj => exact hj
            | 4, hj => exact hj
            | 5, hj => exact hj
            | 6, hj => exact hj
            | n + 7, hj => simp at hj
        have HG3 := Lib.hid hg3
        have HTO := Lib.hid hTO
        clear hg2 hg3 k1 k2 k3 HG1 hTO hvs hln
        go_wp2_with fail
        refine (apartCodes_any (w0 := w) (.slice (some ⟨wh.heap.size, 0, none⟩) 2 2) [.slice b0 l.length e0, .slice b1 l.length e1] (fun j => (codesL l).length) (fun j => KC.fl (codesL l)) [obTR (.slice uo0 l.length uc0) t0, obTR (.slice uo1 l.length uc1) t1, obRuns (.slice a0 N d0) (allTo l l.length), obRuns (.slice a1 N d1) (allTo l l.length), TO]
          (AEnv.lit HG3.out wh.heap.size rfl (fun j => j) (fun i j _ _ he => he) (by simp) (fun j hj => ?_) (fun j ob hj => ?_)) (fun j hj => ?_) (by simp)).mono ?_
        · have hj2 : j < 2 := hj
          match j, hj2 with
          | 0, _ => rfl
          | 1, _ => rfl
        · match j, hj with
          | 0, hj => exact hj
          | 1, hj => exact hj
          | 2, hj => exact hj
          | 3, hj => exact hj
          | 4, hj => exact hj
          | n + 5, hj => simp at hj
        · have : (codesL l).length = l.length := codesTo_len _ _
          omega
        rintro e wi ⟨rfl, hi⟩
        rw [← HTO.out] at hi
        have HI := Lib.hid hi
        clear hi HG3
        go_wp2_with fail
        refine (apart_rows (a := ((.slice a0 N d0 : Value), allTo l l.length)) (b := ((.slice a1 N d1 : Value), allTo l l.length)) HI.out ?_ ?_).mono ?_
        · intro p hp
          have hea : ∀ q : Value × List Rn, q ∈ t0 ∨ q ∈ t1 → q.2.length ≤ 5 := by
            intro q hq
            have hm : q.2 ∈ eachL l := by
              rcases hq with hq | hq
              · rw [← HT0.out.1]; exact List.mem_map_of_mem hq
              · rw [← HT1.out.1]; exact List.mem_map_of_mem hq
            obtain ⟨j, hj⟩ := List.getElem?_of_mem hm
            have hjl : j < l.length := by
              have := (List.getElem?_eq_some_iff.1 hj).1
              rwa [show (eachL l).length = l.length from eachTo_len l _] at this
            unfold eachL at hj
            rw [eachTo_get l _ j hjl] at hj
            injection hj with hj
            rw [← hj]
            exact runsD_lenB _ _
          have hN1 := HNN.out.1
          have hN2 := HNN.out.2
          rcases List.mem_append.1 hp with hp | hp
          · rcases List.mem_append.1 hp with hp | hp
            · simp at hp
              rcases hp with rfl | rfl
              · show (allTo l l.length).length ≤ _; omega
              · show (allTo l l.length).length ≤ _; omega
            · have := hea p (.inl hp); omega
          · have := hea p (.inr hp); omega
        · have h0 := HT0.out.2
          have h1 := HT1.out.2
          omega
        rintro e wj ⟨rfl, obs', hj⟩
        have HJ := Lib.hid hj.base
        clear hj
        go_wp2_with fail
        go_ret
        exact ⟨rfl, HJ.out⟩
end costRows
end Go.Proofs.Ytkidijjhedjifaa
namespace Go.Proofs.Ytkidijjhedjifaa.costRows
open Go.ChangeShapes Go.WideShapes Go.ChangeAt Go.RowKit
set_option linter.unusedVariables false

set_option maxRecDepth 100000 in
theorem lifted (os : Os) (started : os.Started) (H : Type) (enc : TypeId × Value → H) :
    ReturnsInHanded {} Try.checked os 4 .any (Rows.costRowsSpec.pre6 enc Try.prog Try.f4 Rows.costRowsRow.domain false) (Rows.costRowsSpec.post enc Try.prog Try.f4 false true false false) := by
  refine returnsInHanded_of_change (C := Try.checked) own started (by kernel_rfl) Try.func4
    (ChangeSpec.witness6 (enc := enc) (C := Try.checked) false ⟨#[], #[.slice none 0 0], []⟩ 8 (by kernel_rfl) (by kernel_rfl) (by kernel_rfl) (by kernel_rfl)) ?_
  intro W base args ds gs before hval0 hW hcnd _
  have hval : ∀ (j : Nat) t v, Try.f4.params[j]? = some t → args[j]? = some v → Value.okWide Try.prog W .any base t v := hval0
  have hW' := hW
  obtain ⟨p, q, hA0, hV, rfl, hfz, hnd⟩ := hW
  have hA : DataW.TrodAll enc Try.prog W 0 (fun _ => true) true Try.f4.params.toList args.toList ds p := hA0
  rw [Try.params4] at hA hval
  obtain ⟨v0, vs0, d0, ds0, p0, q0, hargs, rfl, rfl, h0, r0⟩ := trodAll_cons hA
  obtain ⟨rfl, rfl, rfl⟩ := trodAll_nil r0
  obtain rfl : args = #[v0] := by cases args; simp_all
  obtain ⟨rfl, rfl⟩ := trodVars_none hV
  obtain ⟨a0, e0⟩ := openSks (hval 0 22 v0 rfl rfl) h0
  clear hA0 hval0
  simp only [List.append_nil] at hW'
  refine (walk v0 a0 e0).mono fun e W' ⟨he, hg⟩ => ?_
  subst he
  exact ⟨_, rfl, law_post laidOut (by kernel_rfl) rfl rfl Try.underlying4 hW' hg rfl rfl rfl⟩

theorem over : Rows.costRowsRow.holds Try.pinned (OpenSpec.ofChange Rows.costRowsSpec) :=
  OpenClaim.holds_of_wide 4 Try.f4 rfl rfl rfl rfl rfl rfl rfl ⟨rfl, rfl, rfl, rfl, rfl⟩ rfl rfl rfl rfl rfl (by kernel_rfl) Try.func4 (by kernel_rfl)
    (of_decide_eq_true (by kernel_rfl)) (by unfold Func.isWrapper; rw [if_neg (of_decide_eq_false (by kernel_rfl))]; exact ⟨rfl, rfl⟩)
    (fun os started H enc _ => lifted os started H enc)

theorem proved : Rows.CostRowsSaid := over
end Go.Proofs.Ytkidijjhedjifaa.costRows
