/- The walk of LedgerLists. Conditions: each list has at most 1048576 runs. -/
import Derived.Test.YtmdfmkdhfhbkjaaRows
import Derived.Test.YtmdfmkdhfhbkjaaLives
import Derived.Test.YtmdfmkdhfhbkjaaJoin
import Derived.Test.YtmdfmkdhfhbkjaaOpenR
namespace Go.Proofs.Ytmdfmkdhfhbkjaa
open Go.RowKit
set_option maxRecDepth 100000
set_option linter.unusedVariables false
set_option linter.unusedSimpArgs false
theorem bool_self (b : Bool) : (b == b) = true := by cases b <;> rfl
set_option maxHeartbeats 4000000 in
theorem lists_any (u v p q : Value) (a b : List Rn) (w : World) (hu : KN.R w u a) (hv : KN.R w v b) (hp : KN.R w p a) (hq : KN.R w q b) (ha : okC a) (hb : okC b) :
    Calls Try.prog 28 #[u, v, p, q] w fun e w' => e = .returned (.bool true) ∧ Below w.heap.size w w' := by
  have HU := Lib.hid hu
  have HV := Lib.hid hv
  have HP := Lib.hid hp
  have HQ := Lib.hid hq
  have HA := Lib.hid ha
  have HB := Lib.hid hb
  obtain ⟨s1, hs1⟩ : ∃ s, sameL eqN a b = s := ⟨_, rfl⟩
  obtain ⟨s2, hs2⟩ : ∃ s, sameL eqN b a = s := ⟨_, rfl⟩
  obtain ⟨t1, ht1⟩ : ∃ s, totL a = s := ⟨_, rfl⟩
  obtain ⟨t2, ht2⟩ : ∃ s, totL b = s := ⟨_, rfl⟩
  obtain ⟨c1, hc1⟩ : ∃ s, chkL a = s := ⟨_, rfl⟩
  obtain ⟨c2, hc2⟩ : ∃ s, chkL b = s := ⟨_, rfl⟩
  have S1 := Lib.hid hs1
  have S2 := Lib.hid hs2
  have T1 := Lib.hid ht1
  have T2 := Lib.hid ht2
  have C1 := Lib.hid hc1
  have C2 := Lib.hid hc2
  have b1 := bool_self s1
  have b2 := bool_self s2
  have b3 : (t1 == t1) = true := by simp
  have b4 : (t2 == t2) = true := by simp
  have b5 : (c1 == c1) = true := by simp
  have b6 : (c2 == c2) = true := by simp
  clear hu hv hp hq ha hb hs1 hs2 ht1 ht2 hc1 hc2
  go_enter Try.func28, Try.ntmps28
  go_wp2_with fail
  refine (samePN_any _ _ a b w HU.out HV.out).mono ?_
  rintro e w1 ⟨he, m, hw⟩
  rw [S1.out] at he
  subst he
  have h5 := (Env.start w).draw m
  rw [← hw] at h5
  clear hw
  have H1 := Lib.hid h5
  clear h5
  go_wp2_with fail
  refine (sameRN_any _ _ a b w1 (H1.out.oldK HP.out) (H1.out.oldK HQ.out)).mono ?_
  rintro e w2 ⟨he, m, hw⟩
  rw [S1.out] at he
  subst he
  have h5 := H1.out.draw m
  rw [← hw] at h5
  clear hw
  have H2 := Lib.hid h5
  clear h5 H1
  go_wp2_with fail
  refine (samePN_any _ _ b a w2 (H2.out.oldK HV.out) (H2.out.oldK HU.out)).mono ?_
  rintro e w3 ⟨he, m, hw⟩
  rw [S2.out] at he
  subst he
  have h5 := H2.out.draw m
  rw [← hw] at h5
  clear hw
  have H3 := Lib.hid h5
  clear h5 H2
  go_wp2_with fail
  refine (sameRN_any _ _ b a w3 (H3.out.oldK HQ.out) (H3.out.oldK HP.out)).mono ?_
  rintro e w4 ⟨he, m, hw⟩
  rw [S2.out] at he
  subst he
  have h5 := H3.out.draw m
  rw [← hw] at h5
  clear hw
  have H4 := Lib.hid h5
  clear h5 H3
  go_wp2_with fail
  refine (samePN_any _ _ a a w4 (H4.out.oldK HU.out) (H4.out.oldK HU.out)).mono ?_
  rintro e w5 ⟨he, m, hw⟩
  rw [sameL_refl eqN (fun x => by simp [eqN])] at he
  subst he
  have h5 := H4.out.draw m
  rw [← hw] at h5
  clear hw
  have H5 := Lib.hid h5
  clear h5 H4
  go_wp2_with fail
  refine (total_any _ a w5 (H5.out.oldK HU.out) HA.out).mono ?_
  rintro e w6 ⟨he, hb⟩
  rw [T1.out] at he
  subst he
  have h5 := H5.out.below hb
  clear hb
  have H6 := Lib.hid h5
  clear h5 H5
  go_wp2_with fail
  refine (rtotal_any _ a w6 (H6.out.oldK HP.out) HA.out).mono ?_
  rintro e w7 ⟨he, hb⟩
  rw [T1.out] at he
  subst he
  have h5 := H6.out.below hb
  clear hb
  have H7 := Lib.hid h5
  clear h5 H6
  go_wp2_with fail
  refine (total_any _ b w7 (H7.out.oldK HV.out) HB.out).mono ?_
  rintro e w8 ⟨he, hb⟩
  rw [T2.out] at he
  subst he
  have h5 := H7.out.below hb
  clear hb
  have H8 := Lib.hid h5
  clear h5 H7
  go_wp2_with fail
  refine (rtotal_any _ b w8 (H8.out.oldK HQ.out) HB.out).mono ?_
  rintro e w9 ⟨he, hb⟩
  rw [T2.out] at he
  subst he
  have h5 := H8.out.below hb
  clear hb
  have H9 := Lib.hid h5
  clear h5 H8
  go_wp2_with fail
  refine (check_any _ a w9 (H9.out.oldK HU.out)).mono ?_
  rintro e w10 ⟨he, hb⟩
  rw [C1.out] at he
  subst he
  have h5 := H9.out.below hb
  clear hb
  have H10 := Lib.hid h5
  clear h5 H9
  go_wp2_with fail
  refine (rcheck_any _ a w10 (H10.out.oldK HP.out)).mono ?_
  rintro e w11 ⟨he, hb⟩
  rw [C1.out] at he
  subst he
  have h5 := H10.out.below hb
  clear hb
  have H11 := Lib.hid h5
  clear h5 H10
  go_wp2_with fail
  refine (check_any _ b w11 (H11.out.oldK HV.out)).mono ?_
  rintro e w12 ⟨he, hb⟩
  rw [C2.out] at he
  subst he
  have h5 := H11.out.below hb
  clear hb
  have H12 := Lib.hid h5
  clear h5 H11
  go_wp2_with fail
  refine (rcheck_any _ b w12 (H12.out.oldK HQ.out)).mono ?_
  rintro e w13 ⟨he, hb⟩
  rw [C2.out] at he
  subst he
  have h5 := H12.out.below hb
  clear hb
  have H13 := Lib.hid h5
  clear h5 H12
  go_wp2
  go_ret
  exact ⟨rfl, H13.out.base⟩
theorem apart5N {w0 w : World} {v1 v2 v3 v4 v5 : Value} {l1 l2 l3 l4 l5 : List Rn} (h : Env w0 w [KN.ob v1 l1, KN.ob v2 l2, KN.ob v3 l3, KN.ob v4 l4, KN.ob v5 l5]) (h1 : l1.length ≤ 4000000) (h2 : l2.length ≤ 4000000) (h3 : l3.length ≤ 4000000) (h4 : l4.length ≤ 4000000) (h5 : l5.length ≤ 4000000) (g : Nat) (hg : g = w.heap.size) :
    Calls Try.prog 15 #[.slice (some ⟨g, 0, none⟩) 5 5] (w.alloc (.cells #[v1, v2, v3, v4, v5] 32)) fun e w' => e = .returned (.bool true) ∧ Env w0 w' [] := by
  refine apartRuns_any (w0 := w0) (.slice (some ⟨g, 0, none⟩) 5 5) [v1, v2, v3, v4, v5] (fun j => if j = 0 then l1.length else if j = 1 then l2.length else if j = 2 then l3.length else if j = 3 then l4.length else l5.length) (fun j => if j = 0 then KN.fl l1 else if j = 1 then KN.fl l2 else if j = 2 then KN.fl l3 else if j = 3 then KN.fl l4 else KN.fl l5) []
    (AEnv.lit h g hg (fun j => j) (fun i j _ _ he => he) (by simp) (fun j hj => ?_) (fun j ob hj => by simp at hj)) (fun j hj => ?_) (by simp)
  · have hj4 : j < 5 := hj
    match j, hj4 with
    | 0, _ => rfl
    | 1, _ => rfl
    | 2, _ => rfl
    | 3, _ => rfl
    | 4, _ => rfl
  · repeat' split
    all_goals omega
theorem mks_split {α : Type} (mk : Int → Int → α) (k : Int) (n : Nat) : ∀ m, ∃ r, mks mk k (n + m) = mks mk k n ++ r
  | 0 => ⟨[], by simp⟩
  | m + 1 => by
    obtain ⟨r, hr⟩ := mks_split mk k n m
    exact ⟨r ++ [mk k ((n + m : Nat) : Int)], by rw [← Nat.add_assoc, mks_succ, hr, List.append_assoc]⟩
theorem okC_mks (n : Nat) (hn : n ≤ 4000000) : okC (mks mkN 9 n) := by
  intro r hr
  unfold mks at hr
  obtain ⟨i, hi, rfl⟩ := List.mem_map.1 hr
  rw [List.mem_range] at hi
  simp only [mkN]
  omega
theorem joinL_len (a b : List Rn) : (joinL a b).length ≤ a.length + b.length := by
  have h := fold_len (a ++ b) []
  rw [List.length_append, List.length_nil] at h
  unfold joinL
  omega
set_option maxHeartbeats 4000000 in
theorem ledgerLists.walk {w : World} (va : Value) (a : List Rn) (ha : KN.R w va a ∧ (∀ r ∈ a, okRn r) ∧ a.length ≤ 1048576) (vb : Value) (b : List Rn) (hb : KN.R w vb b ∧ (∀ r ∈ b, okRn r) ∧ b.length ≤ 1048576) :
    Calls Try.prog 5 #[va, vb] w fun e w' => e = .returned (.bool true) ∧ Below w.heap.size w w' := by
  have la := ha.2.2
  have lb := hb.2.2
  have HA := Lib.hid ha.1
  have HB := Lib.hid hb.1
  have OA : Hid (okC a) := Lib.hid (fun r hr => (ha.2.1 r hr).2.2)
  have OB : Hid (okC b) := Lib.hid (fun r hr => (hb.2.1 r hr).2.2)
  obtain ⟨ao, acap, rfl, _, _, _⟩ := ha.1.any
  obtain ⟨bo, bcap, rfl, _, _, _⟩ := hb.1.any
  clear ha hb
  go_enter Try.func5, Try.ntmps5
  go_wp2_with fail
  refine (lives_any w).mono ?_
  rintro e w1 ⟨rfl, hb⟩
  have h5 := (Env.start w).below hb
  clear hb
  have H1 := Lib.hid h5
  clear h5
  go_wp2_with fail
  refine (lentN_any _ a w1 (H1.out.oldK HA.out) (by omega)).mono ?_
  rintro e w2 hn
  obtain ⟨x, rfl, h5⟩ := Knd.New.env H1.out hn
  clear hn
  have H2 := Lib.hid h5
  clear h5 H1
  obtain ⟨g, cg, rfl, x1, x2⟩ := H2.out.lentF 0 rfl
  go_wp2_with fail
  refine (lentN_any _ b w2 (H2.out.oldK HB.out) (by omega)).mono ?_
  rintro e w3 hn
  obtain ⟨y, rfl, h5⟩ := Knd.New.env H2.out hn
  clear hn
  have H3 := Lib.hid h5
  clear h5 H2
  obtain ⟨g2, cg2, rfl, y1, y2⟩ := H3.out.lentF 1 rfl
  have hwa : IntKind.i64.wrap (a.length : Int) = a.length := IntWalk.i64_in _ (by omega)
  have hwb : IntKind.i64.wrap (b.length : Int) = b.length := IntWalk.i64_in _ (by omega)
  have na : a.length ≤ cg := by omega
  have nb : b.length ≤ cg2 := by omega
  go_wp2_with fail
  refine (join_any _ _ a b w3 (H3.out.kR 0 rfl).lent (H3.out.kR 1 rfl).lent OA.out OB.out (by omega)).mono ?_
  rintro e w4 hn
  obtain ⟨j, rfl, h5⟩ := Knd.New.env H3.out hn
  clear hn
  have H4 := Lib.hid h5
  clear h5 H3
  go_wp2_with fail
  refine (join_any _ _ a b w4 (H4.out.kR 0 rfl).lent (H4.out.kR 1 rfl).lent OA.out OB.out (by omega)).mono ?_
  rintro e w5 hn
  obtain ⟨k, rfl, h5⟩ := Knd.New.env H4.out hn
  clear hn
  have H5 := Lib.hid h5
  clear h5 H4
  go_wp2_with fail
  refine (rjoin_any _ _ a b w5 (H5.out.oldK HA.out) (H5.out.oldK HB.out) OA.out OB.out (by omega)).mono ?_
  rintro e w6 hn
  obtain ⟨wt, rfl, h5⟩ := Knd.New.env H5.out hn
  clear hn
  have H6 := Lib.hid h5
  clear h5 H5
  go_wp2_with fail
  refine (sameN_any _ _ (joinL a b) (joinL a b) w6 (H6.out.kR 2 rfl) (H6.out.kR 4 rfl)).mono ?_
  rintro e w7 ⟨he, m, hw⟩
  rw [sameL_refl eqN (fun x => by simp [eqN])] at he
  subst he
  have h5 := H6.out.draw m
  rw [← hw] at h5
  clear hw
  have H7 := Lib.hid h5
  clear h5 H6
  go_wp2_with fail
  refine (sameN_any _ _ (joinL a b) (joinL a b) w7 (H7.out.kR 3 rfl) (H7.out.kR 4 rfl)).mono ?_
  rintro e w8 ⟨he, m, hw⟩
  rw [sameL_refl eqN (fun x => by simp [eqN])] at he
  subst he
  have h5 := H7.out.draw m
  rw [← hw] at h5
  clear hw
  have H8 := Lib.hid h5
  clear h5 H7
  go_wp2_with fail
  refine (lists_any _ _ _ _ a b w8 (H8.out.kR 0 rfl).lent (H8.out.kR 1 rfl).lent (H8.out.oldK HA.out) (H8.out.oldK HB.out) OA.out OB.out).mono ?_
  rintro e w9 ⟨rfl, hb⟩
  have h5 := H8.out.below hb
  clear hb
  have H9 := Lib.hid h5
  clear h5 H8
  go_wp2_with fail
  refine (keptN_any _ _ (lentM mkN a) a w9 (H9.out.kR 0 rfl) (H9.out.oldK HA.out) (by omega)).mono ?_
  rintro e w10 ⟨he, hb⟩
  rw [sameL_refl eqN (fun x => by simp [eqN])] at he
  subst he
  have h5 := H9.out.below hb
  clear hb
  have H10 := Lib.hid h5
  clear h5 H9
  go_wp2_with fail
  refine (keptN_any _ _ (lentM mkN b) b w10 (H10.out.kR 1 rfl) (H10.out.oldK HB.out) (by omega)).mono ?_
  rintro e w11 ⟨he, hb⟩
  rw [sameL_refl eqN (fun x => by simp [eqN])] at he
  subst he
  have h5 := H10.out.below hb
  clear hb
  have H11 := Lib.hid h5
  clear h5 H10
  go_wp2_with fail
  refine (overN_any _ (lentM mkN a) w11 (H11.out.kO 0 rfl) (by rw [lentM_len]; omega)).mono ?_
  rintro e w12 ⟨rfl, ho, hf⟩
  have h5 := H11.out.turnK 0 rfl ho hf
  clear ho hf
  have H12 := Lib.hid h5
  clear h5 H11
  go_wp2_with fail
  refine (overN_any _ (lentM mkN b) w12 (H12.out.kO 1 rfl) (by rw [lentM_len]; omega)).mono ?_
  rintro e w13 ⟨rfl, ho, hf⟩
  have h5 := H12.out.turnK 1 rfl ho hf
  clear ho hf
  have H13 := Lib.hid h5
  clear h5 H12
  have RX : Hid (∀ w', KN.R w' (.slice (some ⟨g, 0, none⟩) (lentM mkN a).length cg) (mks mkN 9 (lentM mkN a).length) → KN.R w' (.slice (some ⟨g, 0, none⟩) a.length cg) (mks mkN 9 a.length)) := by
    refine Lib.hid fun w' h => ?_
    obtain ⟨r, hr⟩ := mks_split mkN 9 a.length 6
    rw [lentM_len] at h
    rw [hr] at h
    have h2 := Knd.R.begin h
    rwa [mks_len] at h2
  have RY : Hid (∀ w', KN.R w' (.slice (some ⟨g2, 0, none⟩) (lentM mkN b).length cg2) (mks mkN 9 (lentM mkN b).length) → KN.R w' (.slice (some ⟨g2, 0, none⟩) b.length cg2) (mks mkN 9 b.length)) := by
    refine Lib.hid fun w' h => ?_
    obtain ⟨r, hr⟩ := mks_split mkN 9 b.length 6
    rw [lentM_len] at h
    rw [hr] at h
    have h2 := Knd.R.begin h
    rwa [mks_len] at h2
  obtain ⟨A2, hA2⟩ : ∃ l, mks mkN 9 a.length = l := ⟨_, rfl⟩
  obtain ⟨B2, hB2⟩ : ∃ l, mks mkN 9 b.length = l := ⟨_, rfl⟩
  have OA2 : Hid (okC A2 ∧ A2.length = a.length) := by rw [← hA2]; exact Lib.hid ⟨okC_mks _ (by omega), mks_len _ _ _⟩
  have OB2 : Hid (okC B2 ∧ B2.length = b.length) := by rw [← hB2]; exact Lib.hid ⟨okC_mks _ (by omega), mks_len _ _ _⟩
  rw [hA2] at RX
  rw [hB2] at RY
  have la2 : A2.length ≤ 1048576 := by rw [OA2.out.2]; exact la
  have lb2 : B2.length ≤ 1048576 := by rw [OB2.out.2]; exact lb
  clear hA2 hB2
  go_wp2_with fail
  refine (copyN_any _ A2 w13 (by have h := RX.out _ (H13.out.kR 0 rfl); exact h) (by omega)).mono ?_
  rintro e w14 hn
  obtain ⟨nw, rfl, h5⟩ := Knd.New.env H13.out hn
  clear hn
  have H14 := Lib.hid h5
  clear h5 H13
  go_wp2_with fail
  refine (copyN_any _ B2 w14 (by have h := RY.out _ (H14.out.kR 1 rfl); exact h) (by omega)).mono ?_
  rintro e w15 hn
  obtain ⟨th, rfl, h5⟩ := Knd.New.env H14.out hn
  clear hn
  have H15 := Lib.hid h5
  clear h5 H14
  go_wp2_with fail
  refine (join_any _ _ A2 B2 w15 (by have h := RX.out _ (H15.out.kR 0 rfl); exact h) (by have h := RY.out _ (H15.out.kR 1 rfl); exact h) OA2.out.1 OB2.out.1 (by omega)).mono ?_
  rintro e w16 hn
  obtain ⟨mm, rfl, h5⟩ := Knd.New.env H15.out hn
  clear hn
  have H16 := Lib.hid h5
  clear h5 H15
  go_wp2_with fail
  refine (sameN_any _ _ (joinL a b) (joinL a b) w16 (H16.out.kR 2 rfl) (H16.out.kR 4 rfl)).mono ?_
  rintro e w17 ⟨he, m, hw⟩
  rw [sameL_refl eqN (fun x => by simp [eqN])] at he
  subst he
  have h5 := H16.out.draw m
  rw [← hw] at h5
  clear hw
  have H17 := Lib.hid h5
  clear h5 H16
  go_wp2_with fail
  refine (rjoin_any _ _ A2 B2 w17 (H17.out.kR 5 rfl) (H17.out.kR 6 rfl) OA2.out.1 OB2.out.1 (by omega)).mono ?_
  rintro e w18 hn
  obtain ⟨w2t, rfl, h5⟩ := Knd.New.env H17.out hn
  clear hn
  have H18 := Lib.hid h5
  clear h5 H17
  go_wp2_with fail
  refine (sameN_any _ _ (joinL A2 B2) (joinL A2 B2) w18 (H18.out.kR 7 rfl) (H18.out.kR 8 rfl)).mono ?_
  rintro e w19 ⟨he, m, hw⟩
  rw [sameL_refl eqN (fun x => by simp [eqN])] at he
  subst he
  have h5 := H18.out.draw m
  rw [← hw] at h5
  clear hw
  have H19 := Lib.hid h5
  clear h5 H18
  go_wp2_with fail
  refine (lists_any _ _ _ _ A2 B2 w19 (by have h := RX.out _ (H19.out.kR 0 rfl); exact h) (by have h := RY.out _ (H19.out.kR 1 rfl); exact h) (H19.out.kR 5 rfl) (H19.out.kR 6 rfl) OA2.out.1 OB2.out.1).mono ?_
  rintro e w20 ⟨rfl, hb⟩
  have h5 := H19.out.below hb
  clear hb
  have H20 := Lib.hid h5
  clear h5 H19
  have H21 : Hid (Env w w20 [KN.ob j (joinL a b), KN.ob k (joinL a b), KN.ob mm (joinL A2 B2), KN.ob (.slice (some ⟨g, 0, none⟩) (lentM mkN a).length cg) (mks mkN 9 (lentM mkN a).length), KN.ob (.slice (some ⟨g2, 0, none⟩) (lentM mkN b).length cg2) (mks mkN 9 (lentM mkN b).length)]) := by
    refine Lib.hid (Env.pick H20.out (fun j => [2, 3, 7, 0, 1].getD j 0) (fun i j hi hj => (by decide : ∀ i, i < 5 → ∀ j, j < 5 → [2, 3, 7, 0, 1].getD i 0 = [2, 3, 7, 0, 1].getD j 0 → i = j) i hi j hj) (fun i ob hi => ?_))
    match i, hi with
    | 0, hi => exact hi
    | 1, hi => exact hi
    | 2, hi => exact hi
    | 3, hi => exact hi
    | 4, hi => exact hi
    | i + 5, hi => simp at hi
  have l1 := joinL_len a b
  have l2 := joinL_len A2 B2
  obtain ⟨o3, c3, rfl⟩ := H21.out.any 0 (K := KN) rfl
  obtain ⟨o4, c4, rfl⟩ := H21.out.any 1 (K := KN) rfl
  obtain ⟨o5, c5, rfl⟩ := H21.out.any 2 (K := KN) rfl
  clear H20
  go_wp2_with fail
  refine (apart5N H21.out (by omega) (by omega) (by omega) (by rw [mks_len, lentM_len]; omega) (by rw [mks_len, lentM_len]; omega) w20.heap.size rfl).mono ?_
  rintro e w22 ⟨rfl, h5⟩
  have H22 := Lib.hid h5
  clear h5 H21
  go_wp2
  go_ret
  exact ⟨rfl, H22.out.base⟩
end Go.Proofs.Ytmdfmkdhfhbkjaa
