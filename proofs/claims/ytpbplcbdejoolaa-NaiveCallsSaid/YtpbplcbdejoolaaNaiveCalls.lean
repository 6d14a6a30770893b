/- The walk of NaiveCalls. -/
import Derived.Test.YtpbplcbdejoolaaRows
import Derived.Test.YtpbplcbdejoolaaNaiveEnv
import Derived.Test.YtpbplcbdejoolaaNrefEnv
import Derived.Test.YtpbplcbdejoolaaHeld
import Derived.Test.YtpbplcbdejoolaaOpenAsk
import Derived.Test.YtpbplcbdejoolaaApartBytes
import Derived.Deep.DeepCutAuto
namespace Go.Proofs.Ytpbplcbdejoolaa
open Go.RowKit
set_option maxRecDepth 100000
set_option linter.unusedVariables false
set_option linter.unusedSimpArgs false

/-- the cells of an Ask -/
def askCells (va vb : Value) (x : UInt8) (base ex m : Nat) : Array Value := #[va, vb, .int .u8 (x.toNat : Int), .int .u64 (base : Int), .int .u64 (ex : Int), .int .u64 (m : Int)]
set_option maxHeartbeats 1000000 in
theorem large_any (va vb : Value) (A B : List UInt8) (x : UInt8) (base ex m : Nat) (w : World) (hA : Bs w va A) (hB : Bs w vb B) (b1 b2 : Bool) (hb1 : decide ((200 : Int) < (A.length : Int)) = b1) (hb2 : decide ((200 : Int) < (B.length : Int)) = b2) :
    Calls Try.prog 15 #[.agg #[va, vb, .int .u8 (x.toNat : Int), .int .u64 (base : Int), .int .u64 (ex : Int), .int .u64 (m : Int)]] w fun e w' => e = .returned (.bool (b1 || b2)) ∧ Below w.heap.size w w' := by
  obtain ⟨ao, cap, rfl, h1, h2, _, _⟩ := hA.form
  obtain ⟨bo, dap, rfl, h3, h4, _, _⟩ := hB.form
  have hla : A.length ≤ 9223372036854775807 := by omega
  have hlb : B.length ≤ 9223372036854775807 := by omega
  clear hA hB
  have hbl : Below w.heap.size w (w.alloc (.cells #[.slice ao A.length cap, .slice bo B.length dap, .int .u8 (x.toNat : Int), .int .u64 (base : Int), .int .u64 (ex : Int), .int .u64 (m : Int)] 43)) := (Below.refl _ _).alloc (Nat.le_refl _) _
  have HBL := Lib.hid hbl
  clear hbl
  cases b1 <;> cases b2
  all_goals
    go_enter Try.func15, Try.ntmps15
    go_wp2_with fail
    go_ret
    exact ⟨rfl, HBL.out⟩
theorem apart4n_env {w0 w : World} {v1 v2 v3 v4 : Value} {l1 l2 l3 l4 : List UInt8} (h : Env w0 w [obB v1 l1, obB v2 l2, obB v3 l3, obB v4 l4]) (h1 : l1.length ≤ 140737488355000) (h2 : l2.length ≤ 140737488355000) (h3 : l3.length ≤ 140737488355000) (h4 : l4.length ≤ 140737488355000) (g : Nat) (hg : g = w.heap.size) :
    Calls Try.prog 34 #[.slice (some ⟨g, 0, none⟩) 4 4] (w.alloc (.cells #[v1, v2, v3, v4] 41)) fun e w' => e = .returned (.bool true) ∧ Env w0 w' [] := by
  refine apartBytes_any (w0 := w0) (.slice (some ⟨g, 0, none⟩) 4 4) [v1, v2, v3, v4] (fun j => if j = 0 then l1.length else if j = 1 then l2.length else if j = 2 then l3.length else l4.length) (fun j => if j = 0 then l1.map B else if j = 1 then l2.map B else if j = 2 then l3.map B else l4.map B) []
    (AEnv.lit h g hg (fun j => j) (fun i j _ _ he => by simpa using he) (by simp) (fun j hj => ?_) (fun j ob hj => by simp at hj)) (fun j hj => ?_) (by simp)
  · have hj4 : j < 4 := hj
    match j, hj4 with
    | 0, _ => rfl
    | 1, _ => rfl
    | 2, _ => rfl
    | 3, _ => rfl
  · split
    · exact h1
    · split
      · exact h2
      · split
        · exact h3
        · exact h4
def nObs (ga ca gb cb : Nat) (A B : List UInt8) (l q : Value) (o o' : Option (List Rn)) : List Ob := [obB (.slice (some ⟨ga, 0, none⟩) (lent A).length ca) (lent A), obB (.slice (some ⟨gb, 0, none⟩) (lent B).length cb) (lent B), obP l o, obR q o']
set_option maxHeartbeats 8000000 in
theorem naiveCalls.walk {w : World} (v : Value) (A B : List UInt8) (x : UInt8) (base ex m : Nat) (h : AskIs w v A B x base ex m) :
    Calls Try.prog 6 #[v] w fun e w' => e = .returned (.bool true) ∧ Below w.heap.size w w' := by
  obtain ⟨⟨va, vb, rfl, hA, hB⟩, l1, l2, l3⟩ := h
  obtain ⟨ao, cap, rfl, h1, h2, _, _⟩ := hA.form
  obtain ⟨bo, dap, rfl, h3, h4, _, _⟩ := hB.form
  have hla : A.length ≤ 9223372036854775807 := by omega
  have hlb : B.length ≤ 9223372036854775807 := by omega
  have HL := Lib.hid (And.intro l1 (And.intro l2 l3))
  clear l1 l2 l3
  go_enter Try.func6, Try.ntmps6
  go_wp2_with fail
  obtain ⟨wA, hwA⟩ : ∃ wA, wA = w.alloc (.cells #[.slice ao A.length cap, .slice bo B.length dap, .int .u8 (x.toNat : Int), .int .u64 (base : Int), .int .u64 (ex : Int), .int .u64 (m : Int)] 43) := ⟨_, rfl⟩
  rw [← hwA]
  have hbA : Below w.heap.size w wA := by rw [hwA]; exact (Below.refl _ _).alloc (Nat.le_refl _) _
  have HA := Lib.hid (hA.grow hbA)
  have HB := Lib.hid (hB.grow hbA)
  have blk : Blk wA w.heap.size 43 #[.slice ao A.length cap, .slice bo B.length dap, .int .u8 (x.toNat : Int), .int .u64 (base : Int), .int .u64 (ex : Int), .int .u64 (m : Int)] := by rw [hwA]; exact Blk.new w _ _
  have CA : Hid (∀ w', Below wA.heap.size wA w' → w'.cell? ⟨w.heap.size, 0, none⟩ = some (.slice ao A.length cap) ∧ w'.cell? ⟨w.heap.size, 1, none⟩ = some (.slice bo B.length dap) ∧ w'.cell? ⟨w.heap.size, 2, none⟩ = some (.int .u8 (x.toNat : Int)) ∧ w'.cell? ⟨w.heap.size, 3, none⟩ = some (.int .u64 (base : Int)) ∧ w'.cell? ⟨w.heap.size, 4, none⟩ = some (.int .u64 (ex : Int)) ∧ w'.cell? ⟨w.heap.size, 5, none⟩ = some (.int .u64 (m : Int))) :=
    Lib.hid fun w' hb => by
      have hlt := blk.lt
      exact ⟨(hb.cell hlt).trans (blk.cellAt 0 rfl), (hb.cell hlt).trans (blk.cellAt 1 rfl), (hb.cell hlt).trans (blk.cellAt 2 rfl), (hb.cell hlt).trans (blk.cellAt 3 rfl), (hb.cell hlt).trans (blk.cellAt 4 rfl), (hb.cell hlt).trans (blk.cellAt 5 rfl)⟩
  have HBA := Lib.hid hbA
  clear hA hB blk hbA hwA
  refine (naiveLives_any wA).mono ?_
  rintro e w1 ⟨rfl, hb1⟩
  have H1 := Lib.hid ((Env.start wA).below hb1)
  clear hb1
  obtain ⟨a0, a1, a2, a3, a4, a5⟩ := CA.out w1 H1.out.base
  go_wp2_with fail
  obtain ⟨b1, hbb1⟩ : ∃ b : Bool, decide ((200 : Int) < (A.length : Int)) = b := ⟨_, rfl⟩
  obtain ⟨b2, hbb2⟩ : ∃ b : Bool, decide ((200 : Int) < (B.length : Int)) = b := ⟨_, rfl⟩
  refine (large_any _ _ A B x base ex m _ (H1.out.old HA.out) (H1.out.old HB.out) b1 b2 hbb1 hbb2).mono ?_
  rintro e w2 ⟨rfl, hb2⟩
  have H2 := Lib.hid (H1.out.below hb2)
  have HBB := Lib.hid (And.intro hbb1 hbb2)
  clear hb2 a0 a1 a2 a3 a4 a5 H1 hbb1 hbb2
  obtain ⟨c, hc⟩ : ∃ c, (b1 || b2) = c := ⟨_, rfl⟩
  rw [hc]
  have HC := Lib.hid hc
  clear hc
  cases c with
  | true =>
    go_wp2_with fail
    go_ret
    exact ⟨rfl, HBA.out.trans (H2.out.base.mono HBA.out.size)⟩
  | false =>
    have hA200 : A.length ≤ 200 := by
      have h1 := HC.out
      have h2 := HBB.out.1
      cases b1 <;> cases b2 <;> simp at h1
      simp at h2
      omega
    have hB200 : B.length ≤ 200 := by
      have h1 := HC.out
      have h2 := HBB.out.2
      cases b1 <;> cases b2 <;> simp at h1
      simp at h2
      omega
    have hlA : (lent A).length = A.length + 6 := lent_length A
    have hlB : (lent B).length = B.length + 6 := lent_length B
    have HLA := Lib.hid hlA
    have HLB := Lib.hid hlB
    clear HC HBB hlA hlB
    obtain ⟨a0, a1, a2, a3, a4, a5⟩ := CA.out w2 H2.out.base
    go_wp2_with fail
    refine (lent_env H2.out (H2.out.old HA.out) (by omega)).mono ?_
    rintro e w3 ⟨ga, ca, rfl, h5⟩
    have H3 := Lib.hid h5
    clear h5 a0 a1 a2 a3 a4 a5 H2
    obtain ⟨a0, a1, a2, a3, a4, a5⟩ := CA.out w3 H3.out.base
    go_wp2_with fail
    refine (lent_env H3.out (H3.out.old HB.out) (by omega)).mono ?_
    rintro e w4 ⟨gb, cb, rfl, h5⟩
    have H4 := Lib.hid h5
    clear h5 a0 a1 a2 a3 a4 a5 H3
    obtain ⟨a0, a1, a2, a3, a4, a5⟩ := CA.out w4 H4.out.base
    have k1 := (H4.out.bytes 0 rfl).caps
    have k2 := (H4.out.bytes 1 rfl).caps
    rw [HLA.out] at k1
    rw [HLB.out] at k2
    rw [HLA.out, HLB.out]
    go_wp2_with fail
    refine (newP_env H4.out).mono ?_
    rintro e w5 ⟨l, rfl, h5⟩
    have H5 := Lib.hid h5
    clear h5 a0 a1 a2 a3 a4 a5 H4 k1 k2
    go_wp2_with fail
    refine (newR_env H5.out).mono ?_
    rintro e w6 ⟨q, rfl, h5⟩
    have H6 : Hid (Env wA w6 (nObs ga ca gb cb A B l q (some []) (some []))) := Lib.hid h5
    clear h5 H5
    obtain ⟨S, hS⟩ : ∃ S : World → Prop, S = fun w' => Below wA.heap.size wA w' := ⟨_, rfl⟩
    have HS : Hid (∀ w', Below wA.heap.size wA w' → S w') := Lib.hid (fun w' h => by rw [hS]; exact h)
    have G0 : ∀ w', S w' → w'.cell? ⟨w.heap.size, 0, none⟩ = some (.slice ao A.length cap) := fun w' h => (CA.out w' (by rw [hS] at h; exact h)).1
    have G1 : ∀ w', S w' → w'.cell? ⟨w.heap.size, 1, none⟩ = some (.slice bo B.length dap) := fun w' h => (CA.out w' (by rw [hS] at h; exact h)).2.1
    have G2 : ∀ w', S w' → w'.cell? ⟨w.heap.size, 2, none⟩ = some (.int .u8 (x.toNat : Int)) := fun w' h => (CA.out w' (by rw [hS] at h; exact h)).2.2.1
    clear hS
    have F0 : FewS (some []) 0 := ⟨[], rfl, Few.nil⟩
    obtain ⟨r1, o1, hq1⟩ : ∃ r1 o1, nEq A B (some []) = (r1, o1) := ⟨_, _, rfl⟩
    have F1 := nEq_few A B _ _ F0
    rw [hq1] at F1
    obtain ⟨r2, o2, hq2⟩ : ∃ r2 o2, nEq A A o1 = (r2, o2) := ⟨_, _, rfl⟩
    have F2 := nEq_few A A _ _ F1
    rw [hq2] at F2
    have F3 := F2.note 10 (x.toNat : Int)
    obtain ⟨o3, hq3⟩ : ∃ o3, noteO o2 10 (x.toNat : Int) 1 = o3 := ⟨_, rfl⟩
    rw [hq3] at F3
    obtain ⟨P, E, hp⟩ : ∃ P E : Int, pwN base ex m = .tuple #[.int .u64 P, .int .i64 E] := by
      unfold pwN
      by_cases h : m = 0
      · rw [if_pos h]
        exact ⟨_, _, rfl⟩
      · rw [if_neg h]
        exact ⟨_, _, rfl⟩
    obtain ⟨o4, hq4⟩ : ∃ o4, (if m = 0 then o3 else powO ex 64 o3) = o4 := ⟨_, rfl⟩
    have F4 : FewS o4 (0 + A.length + A.length + 1 + 64) := by
      rw [← hq4]
      by_cases h : m = 0
      · rw [if_pos h]
        exact F3.le (by omega)
      · rw [if_neg h]
        exact powO_few ex 64 _ _ F3
    obtain ⟨r5, o5, hq5⟩ : ∃ r5 o5, fdN x A 0 o4 = (r5, o5) := ⟨_, _, rfl⟩
    have F5 := fdN_few x A 0 _ _ F4
    rw [hq5] at F5
    obtain ⟨T, hT⟩ : ∃ T, (sortN B none).1 = T := ⟨_, rfl⟩
    have hTl : T.length = B.length := by rw [← hT, sortN_len]
    obtain ⟨o6, hq6⟩ : ∃ o6, sortN B o5 = (T, o6) := ⟨(sortN B o5).2, Prod.ext (by rw [sortN_any, hT]) rfl⟩
    have F6 := sortN_few B hB200 _ _ F5
    rw [hq6] at F6
    obtain ⟨rs, hrs, hfr⟩ := F6
    have FF0 := Lib.hid F0
    have FF1 := Lib.hid F1
    have FF2 := Lib.hid F2
    have FF3 := Lib.hid F3
    have FF4 := Lib.hid F4
    have FF5 := Lib.hid F5
    have FF6 := Lib.hid hfr
    have Q1 := Lib.hid hq1
    have Q2 := Lib.hid hq2
    have Q3 := Lib.hid hq3
    have Q4 := Lib.hid hq4
    have Q5 := Lib.hid hq5
    have Q6 := Lib.hid hq6
    have QP := Lib.hid hp
    have QT := Lib.hid (And.intro hT hTl)
    have QR := Lib.hid hrs
    clear F0 F1 F2 F3 F4 F5 hfr hq1 hq2 hq3 hq4 hq5 hq6 hp hT hTl hrs
    go_upto_region 11 with fail
    refine hd_start S (by kernel_rfl) ?_
    intro w7 hw'
    have H7 := Lib.hid (H6.out.draw 1)
    rw [← hw'] at H7
    clear hw' H6
    have S7 : S w7 := HS.out w7 H7.out.base
    refine hd_take (v := ?_) 0 rfl (by kernel_rfl) (fun _ _ d _ _ h => (by cases d <;> exact h)) (by kernel_rfl) S7 (fun w' hS => ?_) ?_
    rotate_left
    focus (clear hS; go_simp; try rfl; done)
    simp only [List.getElem_toArray, List.getElem_cons_succ, List.getElem_cons_zero, Act.put, List.setIfInBounds_toArray, List.set_cons_zero, List.set_cons_succ]
    refine hd_take (v := ?_) 1 rfl (by kernel_rfl) (fun _ _ d _ _ h => (by cases d <;> exact h)) (by kernel_rfl) S7 (fun w' hS => ?_) ?_
    rotate_left
    focus (clear hS; go_simp; try rfl; done)
    simp only [List.getElem_toArray, List.getElem_cons_succ, List.getElem_cons_zero, Act.put, List.setIfInBounds_toArray, List.set_cons_zero, List.set_cons_succ]
    refine hd_take (v := ?_) 2 rfl (by kernel_rfl) (fun _ _ d _ _ h => (by cases d <;> exact h)) (by kernel_rfl) S7 (fun w' hS => ?_) ?_
    rotate_left
    focus (clear hS; go_simp; try rfl; done)
    simp only [List.getElem_toArray, List.getElem_cons_succ, List.getElem_cons_zero, Act.put, List.setIfInBounds_toArray, List.set_cons_zero, List.set_cons_succ]
    refine hd_take (v := ?_) 4 rfl (by kernel_rfl) (fun _ _ d _ _ h => (by cases d <;> exact h)) (by kernel_rfl) S7 (fun w' hS => ?_) ?_
    rotate_left
    focus (clear hS; go_simp; try rfl; done)
    simp only [List.getElem_toArray, List.getElem_cons_succ, List.getElem_cons_zero, Act.put, List.setIfInBounds_toArray, List.set_cons_zero, List.set_cons_succ]
    refine hd_take (v := ?_) 5 rfl (by kernel_rfl) (fun _ _ d _ _ h => (by cases d <;> exact h)) (by kernel_rfl) S7 (fun w' hS => ?_) ?_
    rotate_left
    focus (clear hS; go_simp; try rfl; done)
    simp only [List.getElem_toArray, List.getElem_cons_succ, List.getElem_cons_zero, Act.put, List.setIfInBounds_toArray, List.set_cons_zero, List.set_cons_succ]
    refine hd_take (v := ?_) 7 rfl (by kernel_rfl) (fun _ _ d _ _ h => (by cases d <;> exact h)) (by kernel_rfl) S7 (fun w' hS => ?_) ?_
    rotate_left
    focus (clear hS; go_simp; try rfl; done)
    simp only [List.getElem_toArray, List.getElem_cons_succ, List.getElem_cons_zero, Act.put, List.setIfInBounds_toArray, List.set_cons_zero, List.set_cons_succ]
    refine hd_take (v := ?_) 6 rfl (by kernel_rfl) (fun _ _ d _ _ h => (by cases d <;> exact h)) (by kernel_rfl) S7 (fun w' hS => ?_) ?_
    rotate_left
    focus (have q0 := G0 w' hS; have q1 := G1 w' hS; clear hS; go_simp; try rfl; done)
    simp only [List.getElem_toArray, List.getElem_cons_succ, List.getElem_cons_zero, Act.put, List.setIfInBounds_toArray, List.set_cons_zero, List.set_cons_succ]
    refine hd_take (v := ?_) 8 rfl (by kernel_rfl) (fun _ _ d _ _ h => (by cases d <;> exact h)) (by kernel_rfl) S7 (fun w' hS => ?_) ?_
    rotate_left
    focus (have q0 := G0 w' hS; have q1 := G1 w' hS; clear hS; go_simp; try rfl; done)
    simp only [List.getElem_toArray, List.getElem_cons_succ, List.getElem_cons_zero, Act.put, List.setIfInBounds_toArray, List.set_cons_zero, List.set_cons_succ]
    refine hd_one 3 (by kernel_rfl) ?_
    refine op_call rfl (by kernel_rfl) (by go_simp; first | exact ⟨rfl, rfl⟩ | rfl) ?_
    refine (nEqual_env H7.out 2 rfl FF0.out.few (by omega) (Src.lent H7.out 2 0 (by decide) rfl) (Src.lent H7.out 2 1 (by decide) rfl)).mono ?_
    rintro e w8 ⟨he, h5⟩
    rw [Q1.out] at he h5
    subst he
    have H8 : Hid (Env wA w8 (nObs ga ca gb cb A B l q o1 (some []))) := Lib.hid h5
    have hS2 : S w8 := HS.out w8 h5.base
    have S8 := hS2
    clear h5 H7
    refine ⟨_, rfl, hS2, ?_⟩
    simp only [List.getElem_toArray, List.getElem_cons_succ, List.getElem_cons_zero, Act.put, List.setIfInBounds_toArray, List.set_cons_zero, List.set_cons_succ]
    refine hd_one 9 (by kernel_rfl) ?_
    refine op_call rfl (by kernel_rfl) (by go_simp; first | exact ⟨rfl, rfl⟩ | rfl) ?_
    refine (rEqual_env H8.out 3 rfl FF0.out.few (by omega) (Src.old H8.out 3 HA.out) (Src.old H8.out 3 HB.out)).mono ?_
    rintro e w9 ⟨he, h5⟩
    rw [Q1.out] at he h5
    subst he
    have H9 : Hid (Env wA w9 (nObs ga ca gb cb A B l q o1 o1)) := Lib.hid h5
    have hS2 : S w9 := HS.out w9 h5.base
    have S9 := hS2
    clear h5 H8
    refine ⟨_, rfl, hS2, ?_⟩
    simp only [List.getElem_toArray, List.getElem_cons_succ, List.getElem_cons_zero, Act.put, List.setIfInBounds_toArray, List.set_cons_zero, List.set_cons_succ]
    refine hd_take (v := ?_) 10 rfl (by kernel_rfl) (fun _ _ d _ _ h => (by cases d <;> exact h)) (by kernel_rfl) S9 (fun w' hS => ?_) ?_
    rotate_left
    focus (clear hS; go_simp; try rfl; done)
    simp only [List.getElem_toArray, List.getElem_cons_succ, List.getElem_cons_zero, Act.put, List.setIfInBounds_toArray, List.set_cons_zero, List.set_cons_succ]
    refine hd_take (v := ?_) 11 rfl (by kernel_rfl) (fun _ _ d _ _ h => (by cases d <;> exact h)) (by kernel_rfl) S9 (fun w' hS => ?_) ?_
    rotate_left
    focus (clear hS; go_simp; try rfl; done)
    simp only [List.getElem_toArray, List.getElem_cons_succ, List.getElem_cons_zero, Act.put, List.setIfInBounds_toArray, List.set_cons_zero, List.set_cons_succ]
    refine hd_take (v := ?_) 12 rfl (by kernel_rfl) (fun _ _ d _ _ h => (by cases d <;> exact h)) (by kernel_rfl) S9 (fun w' hS => ?_) ?_
    rotate_left
    focus (clear hS; go_simp; try rfl; done)
    simp only [List.getElem_toArray, List.getElem_cons_succ, List.getElem_cons_zero, Act.put, List.setIfInBounds_toArray, List.set_cons_zero, List.set_cons_succ]
    refine hd_take (v := ?_) 13 rfl (by kernel_rfl) (fun _ _ d _ _ h => (by cases d <;> exact h)) (by kernel_rfl) S9 (fun w' hS => ?_) ?_
    rotate_left
    focus (clear hS; go_simp; try rfl; done)
    simp only [List.getElem_toArray, List.getElem_cons_succ, List.getElem_cons_zero, Act.put, List.setIfInBounds_toArray, List.set_cons_zero, List.set_cons_succ]
    refine hd_take (v := ?_) 14 rfl (by kernel_rfl) (fun _ _ d _ _ h => (by cases d <;> exact h)) (by kernel_rfl) S9 (fun w' hS => ?_) ?_
    rotate_left
    focus (clear hS; go_simp; try rfl; done)
    simp only [List.getElem_toArray, List.getElem_cons_succ, List.getElem_cons_zero, Act.put, List.setIfInBounds_toArray, List.set_cons_zero, List.set_cons_succ]
    refine hd_take (v := ?_) 16 rfl (by kernel_rfl) (fun _ _ d _ _ h => (by cases d <;> exact h)) (by kernel_rfl) S9 (fun w' hS => ?_) ?_
    rotate_left
    focus (clear hS; go_simp; try rfl; done)
    simp only [List.getElem_toArray, List.getElem_cons_succ, List.getElem_cons_zero, Act.put, List.setIfInBounds_toArray, List.set_cons_zero, List.set_cons_succ]
    refine hd_take (v := ?_) 17 rfl (by kernel_rfl) (fun _ _ d _ _ h => (by cases d <;> exact h)) (by kernel_rfl) S9 (fun w' hS => ?_) ?_
    rotate_left
    focus (clear hS; go_simp; try rfl; done)
    simp only [List.getElem_toArray, List.getElem_cons_succ, List.getElem_cons_zero, Act.put, List.setIfInBounds_toArray, List.set_cons_zero, List.set_cons_succ]
    refine hd_take (v := ?_) 19 rfl (by kernel_rfl) (fun _ _ d _ _ h => (by cases d <;> exact h)) (by kernel_rfl) S9 (fun w' hS => ?_) ?_
    rotate_left
    focus (clear hS; go_simp; try rfl; done)
    simp only [List.getElem_toArray, List.getElem_cons_succ, List.getElem_cons_zero, Act.put, List.setIfInBounds_toArray, List.set_cons_zero, List.set_cons_succ]
    refine hd_take (v := ?_) 18 rfl (by kernel_rfl) (fun _ _ d _ _ h => (by cases d <;> exact h)) (by kernel_rfl) S9 (fun w' hS => ?_) ?_
    rotate_left
    focus (have q0 := G0 w' hS; have q1 := G1 w' hS; clear hS; go_simp; try rfl; done)
    simp only [List.getElem_toArray, List.getElem_cons_succ, List.getElem_cons_zero, Act.put, List.setIfInBounds_toArray, List.set_cons_zero, List.set_cons_succ]
    refine hd_take (v := ?_) 20 rfl (by kernel_rfl) (fun _ _ d _ _ h => (by cases d <;> exact h)) (by kernel_rfl) S9 (fun w' hS => ?_) ?_
    rotate_left
    focus (have q0 := G0 w' hS; have q1 := G1 w' hS; clear hS; go_simp; try rfl; done)
    simp only [List.getElem_toArray, List.getElem_cons_succ, List.getElem_cons_zero, Act.put, List.setIfInBounds_toArray, List.set_cons_zero, List.set_cons_succ]
    refine hd_one 15 (by kernel_rfl) ?_
    refine op_call rfl (by kernel_rfl) (by go_simp; first | exact ⟨rfl, rfl⟩ | rfl) ?_
    refine (nEqual_env H9.out 2 rfl FF1.out.few (by omega) (Src.lent H9.out 2 0 (by decide) rfl) (Src.lent H9.out 2 0 (by decide) rfl)).mono ?_
    rintro e w10 ⟨he, h5⟩
    rw [Q2.out] at he h5
    subst he
    have H10 : Hid (Env wA w10 (nObs ga ca gb cb A B l q o2 o1)) := Lib.hid h5
    have hS2 : S w10 := HS.out w10 h5.base
    have S10 := hS2
    clear h5 H9
    refine ⟨_, rfl, hS2, ?_⟩
    simp only [List.getElem_toArray, List.getElem_cons_succ, List.getElem_cons_zero, Act.put, List.setIfInBounds_toArray, List.set_cons_zero, List.set_cons_succ]
    refine hd_one 21 (by kernel_rfl) ?_
    refine op_call rfl (by kernel_rfl) (by go_simp; first | exact ⟨rfl, rfl⟩ | rfl) ?_
    refine (rEqual_env H10.out 3 rfl FF1.out.few (by omega) (Src.old H10.out 3 HA.out) (Src.old H10.out 3 HA.out)).mono ?_
    rintro e w11 ⟨he, h5⟩
    rw [Q2.out] at he h5
    subst he
    have H11 : Hid (Env wA w11 (nObs ga ca gb cb A B l q o2 o2)) := Lib.hid h5
    have hS2 : S w11 := HS.out w11 h5.base
    have S11 := hS2
    clear h5 H10
    refine ⟨_, rfl, hS2, ?_⟩
    simp only [List.getElem_toArray, List.getElem_cons_succ, List.getElem_cons_zero, Act.put, List.setIfInBounds_toArray, List.set_cons_zero, List.set_cons_succ]
    refine hd_take (v := ?_) 22 rfl (by kernel_rfl) (fun _ _ d _ _ h => (by cases d <;> exact h)) (by kernel_rfl) S11 (fun w' hS => ?_) ?_
    rotate_left
    focus (clear hS; go_simp; try rfl; done)
    simp only [List.getElem_toArray, List.getElem_cons_succ, List.getElem_cons_zero, Act.put, List.setIfInBounds_toArray, List.set_cons_zero, List.set_cons_succ]
    refine hd_take (v := ?_) 23 rfl (by kernel_rfl) (fun _ _ d _ _ h => (by cases d <;> exact h)) (by kernel_rfl) S11 (fun w' hS => ?_) ?_
    rotate_left
    focus (clear hS; go_simp; try rfl; done)
    simp only [List.getElem_toArray, List.getElem_cons_succ, List.getElem_cons_zero, Act.put, List.setIfInBounds_toArray, List.set_cons_zero, List.set_cons_succ]
    refine hd_take (v := ?_) 24 rfl (by kernel_rfl) (fun _ _ d _ _ h => (by cases d <;> exact h)) (by kernel_rfl) S11 (fun w' hS => ?_) ?_
    rotate_left
    focus (clear hS; go_simp; try rfl; done)
    simp only [List.getElem_toArray, List.getElem_cons_succ, List.getElem_cons_zero, Act.put, List.setIfInBounds_toArray, List.set_cons_zero, List.set_cons_succ]
    refine hd_done (by kernel_rfl) ?_
    clear S7 S8 S9 S10 S11 hS2
    have hx0 : 0 ≤ (x.toNat : Int) := by omega
    have hx1 : (x.toNat : Int) < 256 := by have := x.toNat_lt; omega
    have HX := Lib.hid (And.intro hx0 hx1)
    clear hx0 hx1
    go_upto_region 12 with fail
    refine hd_start S (by kernel_rfl) ?_
    intro w12 hw'
    have H12 := Lib.hid (H11.out.draw 1)
    rw [← hw'] at H12
    clear hw' H11
    have S12 : S w12 := HS.out w12 H12.out.base
    refine hd_take (v := ?_) 0 rfl (by kernel_rfl) (fun _ _ d _ _ h => (by cases d <;> exact h)) (by kernel_rfl) S12 (fun w' hS => ?_) ?_
    rotate_left
    focus (clear hS; go_simp; try rfl; done)
    simp only [List.getElem_toArray, List.getElem_cons_succ, List.getElem_cons_zero, Act.put, List.setIfInBounds_toArray, List.set_cons_zero, List.set_cons_succ]
    refine hd_take (v := ?_) 1 rfl (by kernel_rfl) (fun _ _ d _ _ h => (by cases d <;> exact h)) (by kernel_rfl) S12 (fun w' hS => ?_) ?_
    rotate_left
    focus (clear hS; go_simp; try rfl; done)
    simp only [List.getElem_toArray, List.getElem_cons_succ, List.getElem_cons_zero, Act.put, List.setIfInBounds_toArray, List.set_cons_zero, List.set_cons_succ]
    refine hd_take (v := ?_) 4 rfl (by kernel_rfl) (fun _ _ d _ _ h => (by cases d <;> exact h)) (by kernel_rfl) S12 (fun w' hS => ?_) ?_
    rotate_left
    focus (clear hS; go_simp; try rfl; done)
    simp only [List.getElem_toArray, List.getElem_cons_succ, List.getElem_cons_zero, Act.put, List.setIfInBounds_toArray, List.set_cons_zero, List.set_cons_succ]
    refine hd_take (v := ?_) 5 rfl (by kernel_rfl) (fun _ _ d _ _ h => (by cases d <;> exact h)) (by kernel_rfl) S12 (fun w' hS => ?_) ?_
    rotate_left
    focus (clear hS; go_simp; try rfl; done)
    simp only [List.getElem_toArray, List.getElem_cons_succ, List.getElem_cons_zero, Act.put, List.setIfInBounds_toArray, List.set_cons_zero, List.set_cons_succ]
    refine hd_take (v := ?_) 2 rfl (by kernel_rfl) (fun _ _ d _ _ h => (by cases d <;> exact h)) (by kernel_rfl) S12 (fun w' hS => ?_) ?_
    rotate_left
    focus (have q0 := G2 w' hS; clear hS; go_simp; try rfl; done)
    simp only [List.getElem_toArray, List.getElem_cons_succ, List.getElem_cons_zero, Act.put, List.setIfInBounds_toArray, List.set_cons_zero, List.set_cons_succ]
    refine hd_take (v := ?_) 6 rfl (by kernel_rfl) (fun _ _ d _ _ h => (by cases d <;> exact h)) (by kernel_rfl) S12 (fun w' hS => ?_) ?_
    rotate_left
    focus (have q0 := G2 w' hS; clear hS; go_simp; try rfl; done)
    simp only [List.getElem_toArray, List.getElem_cons_succ, List.getElem_cons_zero, Act.put, List.setIfInBounds_toArray, List.set_cons_zero, List.set_cons_succ]
    refine hd_one 3 (by kernel_rfl) ?_
    refine op_call rfl (by kernel_rfl) (by go_simp; first | exact ⟨rfl, rfl⟩ | rfl) ?_
    refine (box_env H12.out 2 rfl (FF2.out.few.room (by omega)) _ HX.out.1 HX.out.2).mono ?_
    rintro e w13 ⟨rfl, h5⟩
    rw [Q3.out] at h5
    have H13 : Hid (Env wA w13 (nObs ga ca gb cb A B l q o3 o2)) := Lib.hid h5
    have hS2 : S w13 := HS.out w13 h5.base
    have S13 := hS2
    clear h5 H12
    refine ⟨_, rfl, hS2, ?_⟩
    simp only [List.getElem_toArray, List.getElem_cons_succ, List.getElem_cons_zero, Act.put, List.setIfInBounds_toArray, List.set_cons_zero, List.set_cons_succ]
    refine hd_one 7 (by kernel_rfl) ?_
    refine op_call rfl (by kernel_rfl) (by go_simp; first | exact ⟨rfl, rfl⟩ | rfl) ?_
    refine (rbox_env H13.out 3 rfl (FF2.out.few.room (by omega)) _ HX.out.1 HX.out.2).mono ?_
    rintro e w14 ⟨rfl, h5⟩
    rw [Q3.out] at h5
    have H14 : Hid (Env wA w14 (nObs ga ca gb cb A B l q o3 o3)) := Lib.hid h5
    have hS2 : S w14 := HS.out w14 h5.base
    have S14 := hS2
    clear h5 H13
    refine ⟨_, rfl, hS2, ?_⟩
    simp only [List.getElem_toArray, List.getElem_cons_succ, List.getElem_cons_zero, Act.put, List.setIfInBounds_toArray, List.set_cons_zero, List.set_cons_succ]
    generalize gboxI (x.toNat : Int) = G
    refine hd_take (v := ?_) 8 rfl (by kernel_rfl) (fun _ _ d _ _ h => (by cases d <;> exact h)) (by kernel_rfl) S14 (fun w' hS => ?_) ?_
    rotate_left
    focus (clear hS; go_simp; try rfl; done)
    simp only [List.getElem_toArray, List.getElem_cons_succ, List.getElem_cons_zero, Act.put, List.setIfInBounds_toArray, List.set_cons_zero, List.set_cons_succ]
    refine hd_take (v := ?_) 9 rfl (by kernel_rfl) (fun _ _ d _ _ h => (by cases d <;> exact h)) (by kernel_rfl) S14 (fun w' hS => ?_) ?_
    rotate_left
    focus (clear hS; go_simp; try rfl; done)
    simp only [List.getElem_toArray, List.getElem_cons_succ, List.getElem_cons_zero, Act.put, List.setIfInBounds_toArray, List.set_cons_zero, List.set_cons_succ]
    refine hd_done (by kernel_rfl) ?_
    clear S12 S13 S14 hS2
    obtain ⟨a0, a1, a2, a3, a4, a5⟩ := CA.out w14 H14.out.base
    go_wp2_with fail
    refine (power_env H14.out 2 rfl FF3.out.few (by omega) base ex m HL.out.1 HL.out.2.1 HL.out.2.2).mono ?_
    rintro e w15 ⟨he, h5⟩
    rw [QP.out] at he
    subst he
    rw [Q4.out] at h5
    have H15 : Hid (Env wA w15 (nObs ga ca gb cb A B l q o4 o3)) := Lib.hid h5
    clear h5 H14 a0 a1 a2 a3 a4 a5
    obtain ⟨a0, a1, a2, a3, a4, a5⟩ := CA.out w15 H15.out.base
    go_wp2_with fail
    refine (rpower_env H15.out 3 rfl FF3.out.few (by omega) base ex m HL.out.1 HL.out.2.1 HL.out.2.2).mono ?_
    rintro e w16 ⟨he, h5⟩
    rw [QP.out] at he
    subst he
    rw [Q4.out] at h5
    have H16 : Hid (Env wA w16 (nObs ga ca gb cb A B l q o4 o4)) := Lib.hid h5
    clear h5 H15 a0 a1 a2 a3 a4 a5
    go_upto_region 15 with fail
    refine hd_start S (by kernel_rfl) ?_
    intro w17 hw'
    have H17 := Lib.hid (H16.out.draw 1)
    rw [← hw'] at H17
    clear hw' H16
    have S17 : S w17 := HS.out w17 H17.out.base
    refine hd_take (v := ?_) 0 rfl (by kernel_rfl) (fun _ _ d _ _ h => (by cases d <;> exact h)) (by kernel_rfl) S17 (fun w' hS => ?_) ?_
    rotate_left
    focus (clear hS; go_simp; try rfl; done)
    simp only [List.getElem_toArray, List.getElem_cons_succ, List.getElem_cons_zero, Act.put, List.setIfInBounds_toArray, List.set_cons_zero, List.set_cons_succ]
    refine hd_take (v := ?_) 1 rfl (by kernel_rfl) (fun _ _ d _ _ h => (by cases d <;> exact h)) (by kernel_rfl) S17 (fun w' hS => ?_) ?_
    rotate_left
    focus (clear hS; go_simp; try rfl; done)
    simp only [List.getElem_toArray, List.getElem_cons_succ, List.getElem_cons_zero, Act.put, List.setIfInBounds_toArray, List.set_cons_zero, List.set_cons_succ]
    refine hd_take (v := ?_) 2 rfl (by kernel_rfl) (fun _ _ d _ _ h => (by cases d <;> exact h)) (by kernel_rfl) S17 (fun w' hS => ?_) ?_
    rotate_left
    focus (clear hS; go_simp; try rfl; done)
    simp only [List.getElem_toArray, List.getElem_cons_succ, List.getElem_cons_zero, Act.put, List.setIfInBounds_toArray, List.set_cons_zero, List.set_cons_succ]
    refine hd_take (v := ?_) 5 rfl (by kernel_rfl) (fun _ _ d _ _ h => (by cases d <;> exact h)) (by kernel_rfl) S17 (fun w' hS => ?_) ?_
    rotate_left
    focus (clear hS; go_simp; try rfl; done)
    simp only [List.getElem_toArray, List.getElem_cons_succ, List.getElem_cons_zero, Act.put, List.setIfInBounds_toArray, List.set_cons_zero, List.set_cons_succ]
    refine hd_take (v := ?_) 6 rfl (by kernel_rfl) (fun _ _ d _ _ h => (by cases d <;> exact h)) (by kernel_rfl) S17 (fun w' hS => ?_) ?_
    rotate_left
    focus (clear hS; go_simp; try rfl; done)
    simp only [List.getElem_toArray, List.getElem_cons_succ, List.getElem_cons_zero, Act.put, List.setIfInBounds_toArray, List.set_cons_zero, List.set_cons_succ]
    refine hd_take (v := ?_) 8 rfl (by kernel_rfl) (fun _ _ d _ _ h => (by cases d <;> exact h)) (by kernel_rfl) S17 (fun w' hS => ?_) ?_
    rotate_left
    focus (clear hS; go_simp; try rfl; done)
    simp only [List.getElem_toArray, List.getElem_cons_succ, List.getElem_cons_zero, Act.put, List.setIfInBounds_toArray, List.set_cons_zero, List.set_cons_succ]
    refine hd_take (v := ?_) 3 rfl (by kernel_rfl) (fun _ _ d _ _ h => (by cases d <;> exact h)) (by kernel_rfl) S17 (fun w' hS => ?_) ?_
    rotate_left
    focus (have q0 := G2 w' hS; clear hS; go_simp; try rfl; done)
    simp only [List.getElem_toArray, List.getElem_cons_succ, List.getElem_cons_zero, Act.put, List.setIfInBounds_toArray, List.set_cons_zero, List.set_cons_succ]
    refine hd_take (v := ?_) 9 rfl (by kernel_rfl) (fun _ _ d _ _ h => (by cases d <;> exact h)) (by kernel_rfl) S17 (fun w' hS => ?_) ?_
    rotate_left
    focus (have q0 := G2 w' hS; clear hS; go_simp; try rfl; done)
    simp only [List.getElem_toArray, List.getElem_cons_succ, List.getElem_cons_zero, Act.put, List.setIfInBounds_toArray, List.set_cons_zero, List.set_cons_succ]
    refine hd_take (v := ?_) 7 rfl (by kernel_rfl) (fun _ _ d _ _ h => (by cases d <;> exact h)) (by kernel_rfl) S17 (fun w' hS => ?_) ?_
    rotate_left
    focus (have q0 := G0 w' hS; clear hS; go_simp; try rfl; done)
    simp only [List.getElem_toArray, List.getElem_cons_succ, List.getElem_cons_zero, Act.put, List.setIfInBounds_toArray, List.set_cons_zero, List.set_cons_succ]
    refine hd_one 4 (by kernel_rfl) ?_
    refine op_call rfl (by kernel_rfl) (by go_simp; first | exact ⟨rfl, rfl⟩ | rfl) ?_
    refine (nFind_env H17.out 2 rfl FF4.out.few x (by omega) (Src.lent H17.out 2 0 (by decide) rfl)).mono ?_
    rintro e w18 ⟨he, h5⟩
    rw [Q5.out] at he h5
    subst he
    have H18 : Hid (Env wA w18 (nObs ga ca gb cb A B l q o5 o4)) := Lib.hid h5
    have hS2 : S w18 := HS.out w18 h5.base
    have S18 := hS2
    clear h5 H17
    refine ⟨_, rfl, hS2, ?_⟩
    simp only [List.getElem_toArray, List.getElem_cons_succ, List.getElem_cons_zero, Act.put, List.setIfInBounds_toArray, List.set_cons_zero, List.set_cons_succ]
    refine hd_one 10 (by kernel_rfl) ?_
    refine op_call rfl (by kernel_rfl) (by go_simp; first | exact ⟨rfl, rfl⟩ | rfl) ?_
    refine (rFind_env H18.out 3 rfl FF4.out.few x (by omega) (Src.old H18.out 3 HA.out)).mono ?_
    rintro e w19 ⟨he, h5⟩
    rw [Q5.out] at he h5
    subst he
    have H19 : Hid (Env wA w19 (nObs ga ca gb cb A B l q o5 o5)) := Lib.hid h5
    have hS2 : S w19 := HS.out w19 h5.base
    have S19 := hS2
    clear h5 H18
    refine ⟨_, rfl, hS2, ?_⟩
    simp only [List.getElem_toArray, List.getElem_cons_succ, List.getElem_cons_zero, Act.put, List.setIfInBounds_toArray, List.set_cons_zero, List.set_cons_succ]
    refine hd_take (v := ?_) 11 rfl (by kernel_rfl) (fun _ _ d _ _ h => (by cases d <;> exact h)) (by kernel_rfl) S19 (fun w' hS => ?_) ?_
    rotate_left
    focus (clear hS; go_simp; try rfl; done)
    simp only [List.getElem_toArray, List.getElem_cons_succ, List.getElem_cons_zero, Act.put, List.setIfInBounds_toArray, List.set_cons_zero, List.set_cons_succ]
    refine hd_take (v := ?_) 12 rfl (by kernel_rfl) (fun _ _ d _ _ h => (by cases d <;> exact h)) (by kernel_rfl) S19 (fun w' hS => ?_) ?_
    rotate_left
    focus (clear hS; go_simp; try rfl; done)
    simp only [List.getElem_toArray, List.getElem_cons_succ, List.getElem_cons_zero, Act.put, List.setIfInBounds_toArray, List.set_cons_zero, List.set_cons_succ]
    refine hd_done (by kernel_rfl) ?_
    clear S17 S18 S19 hS2
    go_wp2_with fail
    refine (sort_env H19.out 2 rfl FF5.out.few (Src.lent H19.out 3 1 (by decide) rfl).1 hB200 (by omega)).mono ?_
    rintro e w20 ⟨s, rfl, h5⟩
    rw [Q6.out] at h5
    have H20 : Hid (Env wA w20 (nObs ga ca gb cb A B l q o6 o5 ++ [obB s T])) := Lib.hid h5
    clear h5 H19
    obtain ⟨a0, a1, a2, a3, a4, a5⟩ := CA.out w20 H20.out.base
    go_wp2_with fail
    refine (rsort_env H20.out 3 rfl FF5.out.few (H20.out.old HB.out) hB200 (by omega)).mono ?_
    rintro e w21 ⟨tt, rfl, h5⟩
    rw [Q6.out] at h5
    have H21 : Hid (Env wA w21 (nObs ga ca gb cb A B l q o6 o6 ++ [obB s T, obB tt T])) := Lib.hid h5
    clear h5 H20 a0 a1 a2 a3 a4 a5
    go_wp2_with fail
    refine (sort_off H21.out (Src.lent H21.out 3 1 (by decide) rfl).1 hB200).mono ?_
    rintro e w22 ⟨uu, rfl, h5⟩
    rw [QT.out.1] at h5
    have H22 : Hid (Env wA w22 (nObs ga ca gb cb A B l q o6 o6 ++ [obB s T, obB tt T, obB uu T])) := Lib.hid h5
    clear h5 H21
    obtain ⟨a0, a1, a2, a3, a4, a5⟩ := CA.out w22 H22.out.base
    go_wp2_with fail
    refine (power_off H22.out base ex m HL.out.1 HL.out.2.1 HL.out.2.2).mono ?_
    rintro e w23 ⟨he, h5⟩
    rw [QP.out] at he
    subst he
    have H23 := Lib.hid h5
    clear h5 H22 a0 a1 a2 a3 a4 a5
    go_wp2_with fail
    refine (sameBytes_env H23.out (H23.out.bytes 4 rfl).rd (H23.out.bytes 5 rfl).rd).mono ?_
    rintro e w24 ⟨he, h5⟩
    rw [decide_eq_true rfl] at he
    subst he
    have H24 := Lib.hid h5
    clear h5 H23
    go_wp2_with fail
    refine (sameBytes_env H24.out (H24.out.bytes 6 rfl).rd (H24.out.bytes 5 rfl).rd).mono ?_
    rintro e w25 ⟨he, h5⟩
    rw [decide_eq_true rfl] at he
    subst he
    have H25 := Lib.hid h5
    clear h5 H24
    obtain ⟨y1, hy1⟩ : ∃ y, (nEq A B none).1 = y := ⟨_, rfl⟩
    obtain ⟨y2, hy2⟩ : ∃ y, gboxI (x.toNat : Int) = y := ⟨_, rfl⟩
    obtain ⟨y3, hy3⟩ : ∃ y, (fdN x A 0 none).1 = y := ⟨_, rfl⟩
    have Y1 := Lib.hid hy1
    have Y2 := Lib.hid hy2
    have Y3 := Lib.hid hy3
    clear hy1 hy2 hy3
    go_upto_region 21 with fail
    refine hd_start S (by kernel_rfl) ?_
    intro w26 hw'
    have H26 := Lib.hid (H25.out.draw 1)
    rw [← hw'] at H26
    clear hw' H25
    have S26 : S w26 := HS.out w26 H26.out.base
    refine hd_take (v := ?_) 0 rfl (by kernel_rfl) (fun _ _ d _ _ h => (by cases d <;> exact h)) (by kernel_rfl) S26 (fun w' hS => ?_) ?_
    rotate_left
    focus (clear hS; go_simp; try rfl; done)
    simp only [List.getElem_toArray, List.getElem_cons_succ, List.getElem_cons_zero, Act.put, List.setIfInBounds_toArray, List.set_cons_zero, List.set_cons_succ]
    refine hd_take (v := ?_) 1 rfl (by kernel_rfl) (fun _ _ d _ _ h => (by cases d <;> exact h)) (by kernel_rfl) S26 (fun w' hS => ?_) ?_
    rotate_left
    focus (clear hS; go_simp; try rfl; done)
    simp only [List.getElem_toArray, List.getElem_cons_succ, List.getElem_cons_zero, Act.put, List.setIfInBounds_toArray, List.set_cons_zero, List.set_cons_succ]
    refine hd_take (v := ?_) 3 rfl (by kernel_rfl) (fun _ _ d _ _ h => (by cases d <;> exact h)) (by kernel_rfl) S26 (fun w' hS => ?_) ?_
    rotate_left
    focus (clear hS; go_simp; try rfl; done)
    simp only [List.getElem_toArray, List.getElem_cons_succ, List.getElem_cons_zero, Act.put, List.setIfInBounds_toArray, List.set_cons_zero, List.set_cons_succ]
    refine hd_take (v := ?_) 5 rfl (by kernel_rfl) (fun _ _ d _ _ h => (by cases d <;> exact h)) (by kernel_rfl) S26 (fun w' hS => ?_) ?_
    rotate_left
    focus (clear hS; go_simp; try rfl; done)
    simp only [List.getElem_toArray, List.getElem_cons_succ, List.getElem_cons_zero, Act.put, List.setIfInBounds_toArray, List.set_cons_zero, List.set_cons_succ]
    refine hd_take (v := ?_) 4 rfl (by kernel_rfl) (fun _ _ d _ _ h => (by cases d <;> exact h)) (by kernel_rfl) S26 (fun w' hS => ?_) ?_
    rotate_left
    focus (have q0 := G0 w' hS; have q1 := G1 w' hS; clear hS; go_simp; try rfl; done)
    simp only [List.getElem_toArray, List.getElem_cons_succ, List.getElem_cons_zero, Act.put, List.setIfInBounds_toArray, List.set_cons_zero, List.set_cons_succ]
    refine hd_take (v := ?_) 6 rfl (by kernel_rfl) (fun _ _ d _ _ h => (by cases d <;> exact h)) (by kernel_rfl) S26 (fun w' hS => ?_) ?_
    rotate_left
    focus (have q0 := G0 w' hS; have q1 := G1 w' hS; clear hS; go_simp; try rfl; done)
    simp only [List.getElem_toArray, List.getElem_cons_succ, List.getElem_cons_zero, Act.put, List.setIfInBounds_toArray, List.set_cons_zero, List.set_cons_succ]
    refine hd_one 2 (by kernel_rfl) ?_
    refine op_call rfl (by kernel_rfl) (by go_simp; first | exact ⟨rfl, rfl⟩ | rfl) ?_
    refine (nEqual_off H26.out (by omega) (Src.lent H26.out 3 0 (by decide) rfl).1 (Src.lent H26.out 3 1 (by decide) rfl).1).mono ?_
    rintro e w27 ⟨he, h5⟩
    rw [Y1.out] at he
    subst he
    have H27 := Lib.hid h5
    have hS2 : S w27 := HS.out w27 h5.base
    have S27 := hS2
    clear h5 H26
    refine ⟨_, rfl, hS2, ?_⟩
    simp only [List.getElem_toArray, List.getElem_cons_succ, List.getElem_cons_zero, Act.put, List.setIfInBounds_toArray, List.set_cons_zero, List.set_cons_succ]
    refine hd_one 7 (by kernel_rfl) ?_
    refine op_call rfl (by kernel_rfl) (by go_simp; first | exact ⟨rfl, rfl⟩ | rfl) ?_
    refine (rEqual_off H27.out (by omega) (H27.out.old HA.out) (H27.out.old HB.out)).mono ?_
    rintro e w28 ⟨he, h5⟩
    rw [Y1.out] at he
    subst he
    have H28 := Lib.hid h5
    have hS2 : S w28 := HS.out w28 h5.base
    have S28 := hS2
    clear h5 H27
    refine ⟨_, rfl, hS2, ?_⟩
    simp only [List.getElem_toArray, List.getElem_cons_succ, List.getElem_cons_zero, Act.put, List.setIfInBounds_toArray, List.set_cons_zero, List.set_cons_succ]
    refine hd_take (v := ?_) 8 rfl (by kernel_rfl) (fun _ _ d _ _ h => (by cases d <;> exact h)) (by kernel_rfl) S28 (fun w' hS => ?_) ?_
    rotate_left
    focus (clear hS; go_simp; try rfl; done)
    simp only [List.getElem_toArray, List.getElem_cons_succ, List.getElem_cons_zero, Act.put, List.setIfInBounds_toArray, List.set_cons_zero, List.set_cons_succ]
    refine hd_take (v := ?_) 9 rfl (by kernel_rfl) (fun _ _ d _ _ h => (by cases d <;> exact h)) (by kernel_rfl) S28 (fun w' hS => ?_) ?_
    rotate_left
    focus (clear hS; go_simp; try rfl; done)
    simp only [List.getElem_toArray, List.getElem_cons_succ, List.getElem_cons_zero, Act.put, List.setIfInBounds_toArray, List.set_cons_zero, List.set_cons_succ]
    refine hd_take (v := ?_) 10 rfl (by kernel_rfl) (fun _ _ d _ _ h => (by cases d <;> exact h)) (by kernel_rfl) S28 (fun w' hS => ?_) ?_
    rotate_left
    focus (clear hS; go_simp; try rfl; done)
    simp only [List.getElem_toArray, List.getElem_cons_succ, List.getElem_cons_zero, Act.put, List.setIfInBounds_toArray, List.set_cons_zero, List.set_cons_succ]
    refine hd_take (v := ?_) 13 rfl (by kernel_rfl) (fun _ _ d _ _ h => (by cases d <;> exact h)) (by kernel_rfl) S28 (fun w' hS => ?_) ?_
    rotate_left
    focus (clear hS; go_simp; try rfl; done)
    simp only [List.getElem_toArray, List.getElem_cons_succ, List.getElem_cons_zero, Act.put, List.setIfInBounds_toArray, List.set_cons_zero, List.set_cons_succ]
    refine hd_take (v := ?_) 11 rfl (by kernel_rfl) (fun _ _ d _ _ h => (by cases d <;> exact h)) (by kernel_rfl) S28 (fun w' hS => ?_) ?_
    rotate_left
    focus (have q0 := G2 w' hS; clear hS; go_simp; try rfl; done)
    simp only [List.getElem_toArray, List.getElem_cons_succ, List.getElem_cons_zero, Act.put, List.setIfInBounds_toArray, List.set_cons_zero, List.set_cons_succ]
    refine hd_take (v := ?_) 14 rfl (by kernel_rfl) (fun _ _ d _ _ h => (by cases d <;> exact h)) (by kernel_rfl) S28 (fun w' hS => ?_) ?_
    rotate_left
    focus (have q0 := G2 w' hS; clear hS; go_simp; try rfl; done)
    simp only [List.getElem_toArray, List.getElem_cons_succ, List.getElem_cons_zero, Act.put, List.setIfInBounds_toArray, List.set_cons_zero, List.set_cons_succ]
    refine hd_one 12 (by kernel_rfl) ?_
    refine op_call rfl (by kernel_rfl) (by go_simp; first | exact ⟨rfl, rfl⟩ | rfl) ?_
    refine (box_off H28.out _ HX.out.1 HX.out.2).mono ?_
    rintro e w29 ⟨he, h5⟩
    rw [Y2.out] at he
    subst he
    have H29 := Lib.hid h5
    have hS2 : S w29 := HS.out w29 h5.base
    have S29 := hS2
    clear h5 H28
    refine ⟨_, rfl, hS2, ?_⟩
    simp only [List.getElem_toArray, List.getElem_cons_succ, List.getElem_cons_zero, Act.put, List.setIfInBounds_toArray, List.set_cons_zero, List.set_cons_succ]
    refine hd_one 15 (by kernel_rfl) ?_
    refine op_call rfl (by kernel_rfl) (by go_simp; first | exact ⟨rfl, rfl⟩ | rfl) ?_
    refine (rbox_off H29.out _ HX.out.1 HX.out.2).mono ?_
    rintro e w30 ⟨he, h5⟩
    rw [Y2.out] at he
    subst he
    have H30 := Lib.hid h5
    have hS2 : S w30 := HS.out w30 h5.base
    have S30 := hS2
    clear h5 H29
    refine ⟨_, rfl, hS2, ?_⟩
    simp only [List.getElem_toArray, List.getElem_cons_succ, List.getElem_cons_zero, Act.put, List.setIfInBounds_toArray, List.set_cons_zero, List.set_cons_succ]
    refine hd_take (v := ?_) 16 rfl (by kernel_rfl) (fun _ _ d _ _ h => (by cases d <;> exact h)) (by kernel_rfl) S30 (fun w' hS => ?_) ?_
    rotate_left
    focus (clear hS; go_simp; try rfl; done)
    simp only [List.getElem_toArray, List.getElem_cons_succ, List.getElem_cons_zero, Act.put, List.setIfInBounds_toArray, List.set_cons_zero, List.set_cons_succ]
    refine hd_take (v := ?_) 17 rfl (by kernel_rfl) (fun _ _ d _ _ h => (by cases d <;> exact h)) (by kernel_rfl) S30 (fun w' hS => ?_) ?_
    rotate_left
    focus (clear hS; go_simp; try rfl; done)
    simp only [List.getElem_toArray, List.getElem_cons_succ, List.getElem_cons_zero, Act.put, List.setIfInBounds_toArray, List.set_cons_zero, List.set_cons_succ]
    refine hd_take (v := ?_) 18 rfl (by kernel_rfl) (fun _ _ d _ _ h => (by cases d <;> exact h)) (by kernel_rfl) S30 (fun w' hS => ?_) ?_
    rotate_left
    focus (clear hS; go_simp; try rfl; done)
    simp only [List.getElem_toArray, List.getElem_cons_succ, List.getElem_cons_zero, Act.put, List.setIfInBounds_toArray, List.set_cons_zero, List.set_cons_succ]
    refine hd_take (v := ?_) 19 rfl (by kernel_rfl) (fun _ _ d _ _ h => (by cases d <;> exact h)) (by kernel_rfl) S30 (fun w' hS => ?_) ?_
    rotate_left
    focus (clear hS; go_simp; try rfl; done)
    simp only [List.getElem_toArray, List.getElem_cons_succ, List.getElem_cons_zero, Act.put, List.setIfInBounds_toArray, List.set_cons_zero, List.set_cons_succ]
    refine hd_take (v := ?_) 20 rfl (by kernel_rfl) (fun _ _ d _ _ h => (by cases d <;> exact h)) (by kernel_rfl) S30 (fun w' hS => ?_) ?_
    rotate_left
    focus (clear hS; go_simp; try rfl; done)
    simp only [List.getElem_toArray, List.getElem_cons_succ, List.getElem_cons_zero, Act.put, List.setIfInBounds_toArray, List.set_cons_zero, List.set_cons_succ]
    refine hd_take (v := ?_) 23 rfl (by kernel_rfl) (fun _ _ d _ _ h => (by cases d <;> exact h)) (by kernel_rfl) S30 (fun w' hS => ?_) ?_
    rotate_left
    focus (clear hS; go_simp; try rfl; done)
    simp only [List.getElem_toArray, List.getElem_cons_succ, List.getElem_cons_zero, Act.put, List.setIfInBounds_toArray, List.set_cons_zero, List.set_cons_succ]
    refine hd_take (v := ?_) 25 rfl (by kernel_rfl) (fun _ _ d _ _ h => (by cases d <;> exact h)) (by kernel_rfl) S30 (fun w' hS => ?_) ?_
    rotate_left
    focus (clear hS; go_simp; try rfl; done)
    simp only [List.getElem_toArray, List.getElem_cons_succ, List.getElem_cons_zero, Act.put, List.setIfInBounds_toArray, List.set_cons_zero, List.set_cons_succ]
    refine hd_take (v := ?_) 21 rfl (by kernel_rfl) (fun _ _ d _ _ h => (by cases d <;> exact h)) (by kernel_rfl) S30 (fun w' hS => ?_) ?_
    rotate_left
    focus (have q0 := G2 w' hS; clear hS; go_simp; try rfl; done)
    simp only [List.getElem_toArray, List.getElem_cons_succ, List.getElem_cons_zero, Act.put, List.setIfInBounds_toArray, List.set_cons_zero, List.set_cons_succ]
    refine hd_take (v := ?_) 26 rfl (by kernel_rfl) (fun _ _ d _ _ h => (by cases d <;> exact h)) (by kernel_rfl) S30 (fun w' hS => ?_) ?_
    rotate_left
    focus (have q0 := G2 w' hS; clear hS; go_simp; try rfl; done)
    simp only [List.getElem_toArray, List.getElem_cons_succ, List.getElem_cons_zero, Act.put, List.setIfInBounds_toArray, List.set_cons_zero, List.set_cons_succ]
    refine hd_take (v := ?_) 24 rfl (by kernel_rfl) (fun _ _ d _ _ h => (by cases d <;> exact h)) (by kernel_rfl) S30 (fun w' hS => ?_) ?_
    rotate_left
    focus (have q0 := G0 w' hS; clear hS; go_simp; try rfl; done)
    simp only [List.getElem_toArray, List.getElem_cons_succ, List.getElem_cons_zero, Act.put, List.setIfInBounds_toArray, List.set_cons_zero, List.set_cons_succ]
    refine hd_one 22 (by kernel_rfl) ?_
    refine op_call rfl (by kernel_rfl) (by go_simp; first | exact ⟨rfl, rfl⟩ | rfl) ?_
    refine (nFind_off H30.out x (by omega) (Src.lent H30.out 3 0 (by decide) rfl).1).mono ?_
    rintro e w31 ⟨he, h5⟩
    rw [Y3.out] at he
    subst he
    have H31 := Lib.hid h5
    have hS2 : S w31 := HS.out w31 h5.base
    have S31 := hS2
    clear h5 H30
    refine ⟨_, rfl, hS2, ?_⟩
    simp only [List.getElem_toArray, List.getElem_cons_succ, List.getElem_cons_zero, Act.put, List.setIfInBounds_toArray, List.set_cons_zero, List.set_cons_succ]
    refine hd_one 27 (by kernel_rfl) ?_
    refine op_call rfl (by kernel_rfl) (by go_simp; first | exact ⟨rfl, rfl⟩ | rfl) ?_
    refine (rFind_off H31.out x (by omega) (H31.out.old HA.out)).mono ?_
    rintro e w32 ⟨he, h5⟩
    rw [Y3.out] at he
    subst he
    have H32 := Lib.hid h5
    have hS2 : S w32 := HS.out w32 h5.base
    have S32 := hS2
    clear h5 H31
    refine ⟨_, rfl, hS2, ?_⟩
    simp only [List.getElem_toArray, List.getElem_cons_succ, List.getElem_cons_zero, Act.put, List.setIfInBounds_toArray, List.set_cons_zero, List.set_cons_succ]
    refine hd_take (v := ?_) 28 rfl (by kernel_rfl) (fun _ _ d _ _ h => (by cases d <;> exact h)) (by kernel_rfl) S32 (fun w' hS => ?_) ?_
    rotate_left
    focus (clear hS; go_simp; try rfl; done)
    simp only [List.getElem_toArray, List.getElem_cons_succ, List.getElem_cons_zero, Act.put, List.setIfInBounds_toArray, List.set_cons_zero, List.set_cons_succ]
    refine hd_take (v := ?_) 29 rfl (by kernel_rfl) (fun _ _ d _ _ h => (by cases d <;> exact h)) (by kernel_rfl) S32 (fun w' hS => ?_) ?_
    rotate_left
    focus (clear hS; go_simp; try rfl; done)
    simp only [List.getElem_toArray, List.getElem_cons_succ, List.getElem_cons_zero, Act.put, List.setIfInBounds_toArray, List.set_cons_zero, List.set_cons_succ]
    refine hd_take (v := ?_) 30 rfl (by kernel_rfl) (fun _ _ d _ _ h => (by cases d <;> exact h)) (by kernel_rfl) S32 (fun w' hS => ?_) ?_
    rotate_left
    focus (clear hS; go_simp; try rfl; done)
    simp only [List.getElem_toArray, List.getElem_cons_succ, List.getElem_cons_zero, Act.put, List.setIfInBounds_toArray, List.set_cons_zero, List.set_cons_succ]
    refine hd_done (by kernel_rfl) ?_
    clear S26 S27 S28 S29 S30 S31 S32 hS2
    rw [QR.out] at H32
    have hlen := FF6.out.len (by omega)
    go_wp2_with fail
    refine (runsP_env H32.out 2 rfl hlen).mono ?_
    rintro e w33 ⟨v1, rfl, h5⟩
    have H33 := Lib.hid h5
    clear h5 H32
    go_wp2_with fail
    refine (runsR_env H33.out 3 rfl hlen).mono ?_
    rintro e w34 ⟨v2, rfl, h5⟩
    have H34 := Lib.hid h5
    clear h5 H33 hlen
    go_wp2_with fail
    refine (sameRuns_env H34.out (H34.out.runs 7 rfl).rd (H34.out.runs 8 rfl).rd).mono ?_
    rintro e w35 ⟨he, h5⟩
    rw [decide_eq_true rfl] at he
    subst he
    have H35 := Lib.hid h5
    clear h5 H34
    obtain ⟨a0, a1, a2, a3, a4, a5⟩ := CA.out w35 H35.out.base
    have bA := (H35.out.bytes 0 rfl).rd
    rw [HLA.out] at bA
    have BA := Lib.hid bA
    clear bA
    go_wp2_with fail
    refine (kept_env H35.out BA.out (H35.out.old HA.out) (by omega)).mono ?_
    rintro e w36 ⟨he, h5⟩
    rw [decide_eq_true rfl] at he
    subst he
    have H36 := Lib.hid h5
    clear h5 H35 a0 a1 a2 a3 a4 a5 BA
    obtain ⟨a0, a1, a2, a3, a4, a5⟩ := CA.out w36 H36.out.base
    have bB := (H36.out.bytes 1 rfl).rd
    rw [HLB.out] at bB
    have BB := Lib.hid bB
    clear bB
    go_wp2_with fail
    refine (kept_env H36.out BB.out (H36.out.old HB.out) (by omega)).mono ?_
    rintro e w37 ⟨he, h5⟩
    rw [decide_eq_true rfl] at he
    subst he
    have H37 := Lib.hid h5
    clear h5 H36 a0 a1 a2 a3 a4 a5 BB
    have H38 : Hid (Env wA w37 [obB s T, obB uu T, obB (.slice (some ⟨ga, 0, none⟩) (lent A).length ca) (lent A), obB (.slice (some ⟨gb, 0, none⟩) (lent B).length cb) (lent B)]) :=
      Lib.hid (H37.out.pick (fun j => if j = 0 then 4 else if j = 1 then 6 else if j = 2 then 0 else 1) (fun i j hi hj hh => by
        have hi4 : i < 4 := hi
        have hj4 : j < 4 := hj
        exact (by decide : ∀ i, i < 4 → ∀ j, j < 4 → (if i = 0 then 4 else if i = 1 then 6 else if i = 2 then 0 else 1) = (if j = 0 then 4 else if j = 1 then 6 else if j = 2 then 0 else 1) → i = j) i hi4 j hj4 hh) (fun j ob hj => by
        match j, hj with
        | 0, hj => exact hj
        | 1, hj => exact hj
        | 2, hj => exact hj
        | 3, hj => exact hj))
    clear H37
    obtain ⟨so, sc, rfl⟩ := (H38.out.bytes 0 rfl).any
    obtain ⟨uo, uc, rfl⟩ := (H38.out.bytes 1 rfl).any
    go_wp2_with fail
    rw [← HLA.out, ← HLB.out]
    refine (apart4n_env H38.out (by have := QT.out.2; omega) (by have := QT.out.2; omega) (by have := HLA.out; omega) (by have := HLB.out; omega) _ rfl).mono ?_
    rintro e w38 ⟨rfl, h5⟩
    have H39 := Lib.hid h5.base
    clear h5 H38
    go_wp2_with fail
    go_ret
    exact ⟨rfl, HBA.out.trans (H39.out.mono HBA.out.size)⟩
end Go.Proofs.Ytpbplcbdejoolaa
