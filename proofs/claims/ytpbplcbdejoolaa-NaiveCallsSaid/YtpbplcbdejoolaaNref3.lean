/- The contract of the document's answer for naive: Sort. -/
import Derived.Test.YtpbplcbdejoolaaRows
import Derived.Test.YtpbplcbdejoolaaNref2
import Derived.Test.YtpbplcbdejoolaaSort
import Derived.Test.YtpbplcbdejoolaaHeld
namespace Go.Proofs.Ytpbplcbdejoolaa
open Go.RowKit
set_option maxRecDepth 100000
set_option linter.unusedVariables false
set_option linter.unusedSimpArgs false

theorem rbranch_env {w0 w : World} {obs : List Ob} (h : Env w0 w obs) (i : Nat) {p : Value} {o : Option (List Rn)} (hi : obs[i]? = some (obR p o)) (hb : Room o 1) (b : Bool) :
    Calls Try.prog 43 #[p, .bool b] w fun e w' => e = .returned (.bool b) ∧ Env w0 w' (obs.set i (obR p (noteB o b))) := by
  obtain ⟨F, f1, f2, f3, f4⟩ := h.ledR i hi
  exact (rbranch_any p F o b w f1 hb).mono fun e w' ⟨he, hl⟩ => ⟨he, f4 w' _ hl⟩
set_option maxHeartbeats 2000000 in
theorem rsort_env {w0 w : World} {obs : List Ob} (h : Env w0 w obs) (i : Nat) {p : Value} {o : Option (List Rn)} (hi : obs[i]? = some (obR p o)) {N : Nat} (hf : FewO o N) {u : Value} {xs : List UInt8} (hu : Bs w u xs) (hx : xs.length ≤ 200) (hN : N ≤ 100000) :
    Calls Try.prog 30 #[p, u] w fun e w' => ∃ v, e = .returned v ∧ Env w0 w' (obs.set i (obR p (sortN xs o).2) ++ [obB v (sortN xs o).1]) := by
  have H := Lib.hid h
  have HU := Lib.hid hu
  have HI := Lib.hid hi
  obtain ⟨ao, cap, rfl, h1, h2, _, _⟩ := hu.form
  clear h hu hi
  go_enter Try.func30, Try.ntmps30
  obtain ⟨i0, hi0, hz0, hz1, hz2⟩ := info_parts info8
  have hy := Sl.of_bytes HU.out
  have hown0 : w.ownsRow 0 5 1 (.slice none 0 0) 0 [] := World.ownsRow_nil w 0 _ 1
  have hxl : xs.length ≤ 140737488355328 := by omega
  go_wp2_with (at_builtin; refine wpList_append_sl _ rfl _ _ 41 rfl 5 i0 _ 1 1 Try.underlying41 hi0 hz0 hz1 hz2 rfl (by decide) (.slice none 0 0) 0 [] rfl hown0 (.slice ao xs.length cap) xs.length (xs.map B) rfl hy (bl0 hxl) (bb0 hxl) ?_)
  intro v' w1 hown hgrow hat
  have hOB : OB w1 v' xs := by
    unfold OB
    simpa using hown
  have HE : Hid (Env w0 w1 (obs ++ [obB v' xs])) := by
    refine Lib.hid (H.out.pushB hOB ((Below.refl w.heap.size w).grown hgrow (Nat.le_refl _) (fun k hk => by simp [Value.ownBlock] at hk)) (fun x hx => ?_))
    have hx' : v'.ownBlock = some x := hx
    rcases hat with hat | hat
    · rw [hat] at hx'; simp [Value.ownBlock] at hx'
    · rw [hat] at hx'; simp at hx'; omega
  obtain ⟨ao2, cap2, rfl⟩ := hOB.any
  clear hown hgrow hat hown0 hy hi0 hz0 hz1 hz2 hOB
  have HE2 : Hid (Env w0 w1 (obs.set i (obR p o) ++ [obB (.slice ao2 xs.length cap2) xs])) := by rw [set_same obs i _ HI.out]; exact HE
  clear HE
  go_wp2_with fail
  go_loopw [6] (fun iv w2 => ∃ (i1 : Nat) (zs : List UInt8) (o1 : Option (List Rn)), 1 ≤ i1 ∧ (i1 ≤ xs.length ∨ i1 = 1) ∧ iv = .int .i64 (i1 : Int) ∧ Hid (zs.length = xs.length) ∧ Hid (srN (xs.length - i1) i1 zs o1 = sortN xs o) ∧ Hid (FewO o1 (N + i1 * 200)) ∧ Hid (Env w0 w2 (obs.set i (obR p o1) ++ [obB (.slice ao2 xs.length cap2) zs]))) (fun i _ => xs.length - (intOf i).toNat)
  case atStart => exact ⟨1, xs, o, Nat.le_refl _, Or.inr rfl, rfl, Lib.hid rfl, Lib.hid rfl, Lib.hid (hf.le (by omega)), HE2⟩
  case round =>
    obtain ⟨i1, zs, o1, hi1, hi2, rfl, HZ, HS, HF, HE⟩ := hrel
    by_cases hlt : i1 < xs.length
    · have hOB := HE.out.bytes (obs.set i (obR p o1)).length (v := .slice ao2 xs.length cap2) (l := zs) (by simp)
      rw [← HZ.out] at hOB
      obtain ⟨g, c3, hv⟩ := hOB.form (by rw [HZ.out]; omega)
      injection hv with e1 _ e3
      subst e1; subst e3
      clear hOB
      go_wp2_with fail
      go_loopw [7] (fun kv w3 => ∃ (k : Nat) (ys : List UInt8) (o2 : Option (List Rn)), k ≤ i1 ∧ kv = .int .i64 (k : Int) ∧ Hid (ys.length = xs.length) ∧ Hid (dnN k ys o2 = dnN i1 zs o1) ∧ Hid (FewO o2 (N + i1 * 200 + (i1 - k))) ∧ Hid (Env w0 w3 (obs.set i (obR p o2) ++ [obB (.slice (some ⟨g, 0, none⟩) xs.length cap2) ys]))) (fun k _ => (intOf k).toNat)
      case atStart => exact ⟨i1, zs, o1, Nat.le_refl _, rfl, HZ, Lib.hid rfl, Lib.hid (HF.out.le (by omega)), HE⟩
      case round =>
        obtain ⟨k, ys, o2, hk, rfl, HY, HD, HF2, HE3⟩ := hrel
        rcases k with _ | j
        · have HR : Hid (dnN i1 zs o1 = (ys, o2)) := Lib.hid HD.out.symm
          have t0 : decide ((0 : Int) < ((0 : Nat) : Int)) = false := by decide
          go_upto_region 7 with fail
          refine wp_region_tame (fun w' => w' = wr.drewN 1) 0 15 (by kernel_rfl) (by kernel_rfl) (fun _ _ d _ _ h => (by cases d <;> exact h)) rfl (by decide) ?_
          simp only [List.take_succ_cons, List.take_zero, List.drop_succ_cons, List.drop_zero]
          refine wpPre_nil ?_
          refine wpTame_run (v := ?_) (by decide) rfl (fun w' hS => ?_) ?_
          rotate_left
          focus (subst hS; go_simp; try rfl; done)
          simp only [Act.put, List.setIfInBounds_toArray, List.set_cons_zero, List.set_cons_succ]
          refine wpTame_run (v := ?_) (by decide) rfl (fun w' hS => ?_) ?_
          rotate_left
          focus (subst hS; go_simp; try rfl; done)
          simp only [Act.put, List.setIfInBounds_toArray, List.set_cons_zero, List.set_cons_succ]
          refine wpTame_run (v := ?_) (by decide) rfl (fun w' hS => ?_) ?_
          rotate_left
          focus (subst hS; go_simp; try rfl; done)
          simp only [Act.put, List.setIfInBounds_toArray, List.set_cons_zero, List.set_cons_succ]
          refine wpTame_off (by decide) rfl ?_
          simp only [Act.put, List.setIfInBounds_toArray, List.set_cons_zero, List.set_cons_succ]
          refine wpTame_off (by decide) rfl ?_
          simp only [Act.put, List.setIfInBounds_toArray, List.set_cons_zero, List.set_cons_succ]
          refine wpTame_off (by decide) rfl ?_
          simp only [Act.put, List.setIfInBounds_toArray, List.set_cons_zero, List.set_cons_succ]
          refine wpTame_off (by decide) rfl ?_
          simp only [Act.put, List.setIfInBounds_toArray, List.set_cons_zero, List.set_cons_succ]
          refine wpTame_off (by decide) rfl ?_
          simp only [Act.put, List.setIfInBounds_toArray, List.set_cons_zero, List.set_cons_succ]
          refine wpTame_off (by decide) rfl ?_
          simp only [Act.put, List.setIfInBounds_toArray, List.set_cons_zero, List.set_cons_succ]
          refine wpTame_off (by decide) rfl ?_
          simp only [Act.put, List.setIfInBounds_toArray, List.set_cons_zero, List.set_cons_succ]
          refine wpTame_off (by decide) rfl ?_
          simp only [Act.put, List.setIfInBounds_toArray, List.set_cons_zero, List.set_cons_succ]
          refine wpTame_off (by decide) rfl ?_
          simp only [Act.put, List.setIfInBounds_toArray, List.set_cons_zero, List.set_cons_succ]
          refine wpTame_off (by decide) rfl ?_
          simp only [Act.put, List.setIfInBounds_toArray, List.set_cons_zero, List.set_cons_succ]
          refine wpTame_off (by decide) rfl ?_
          simp only [Act.put, List.setIfInBounds_toArray, List.set_cons_zero, List.set_cons_succ]
          refine wpTame_off (by decide) rfl ?_
          simp only [Act.put, List.setIfInBounds_toArray, List.set_cons_zero, List.set_cons_succ]
          refine wpTame_nil ?_
          intro w5 hw'
          have H5 : Hid (Env w0 w5 (obs.set i (obR p o2) ++ [obB (.slice (some ⟨g, 0, none⟩) xs.length cap2) ys])) := by rw [hw']; exact Lib.hid (HE3.out.draw 1)
          clear hw'
          go_wp2_with fail
          go_wp2_with fail
          go_roundw
          case rel => exact ⟨i1 + 1, ys, o2, by omega, Or.inl (by omega), by go_num, HY, Lib.hid (by
            rw [← HS.out, show xs.length - i1 = xs.length - (i1 + 1) + 1 by omega]
            show _ = srN _ (i1 + 1) (dnN i1 zs o1).1 (dnN i1 zs o1).2
            rw [HR.out]), Lib.hid (HF2.out.le (by omega)), H5⟩
          case measure => simp [intOf]; omega
        · have hlen : ys.length = xs.length := HY.out
          have hOB := HE3.out.bytes (obs.set i (obR p o2)).length (v := .slice (some ⟨g, 0, none⟩) xs.length cap2) (l := ys) (by simp)
          rw [← HY.out] at hOB
          have c1 : wr.cell? ⟨g, j, none⟩ = some (.int .u8 ((ys.getD j 0).toNat : Int)) := by
            rw [World.ownsRow.cellAt hOB j (by omega), List.getElem?_map, List.getD_eq_getElem?_getD, List.getElem?_eq_getElem (by omega)]
            rfl
          have c2 : wr.cell? ⟨g, j + 1, none⟩ = some (.int .u8 ((ys.getD (j + 1) 0).toNat : Int)) := by
            rw [World.ownsRow.cellAt hOB (j + 1) (by omega), List.getElem?_map, List.getD_eq_getElem?_getD, List.getElem?_eq_getElem (by omega)]
            rfl
          clear hOB hlen
          obtain ⟨x, hx1⟩ : ∃ x, ys.getD j 0 = x := ⟨_, rfl⟩
          obtain ⟨y, hy1⟩ : ∃ y, ys.getD (j + 1) 0 = y := ⟨_, rfl⟩
          rw [hx1] at c1
          rw [hy1] at c2
          obtain ⟨b, hbb⟩ : ∃ b : Bool, decide (y < x) = b := ⟨_, rfl⟩
          have hxy : decide (y.toNat < x.toNat) = b := by rw [← hbb]; rfl
          have HXY := Lib.hid (And.intro hx1 (And.intro hy1 hbb))
          clear hx1 hy1 hbb
          have ej : ((j + 1 : Nat) : Int) = (j : Int) + 1 := by omega
          rw [ej]
          clear ej
          have bj : (j : Int) + 1 ≤ 200 := by omega
          have t1 : decide ((0 : Int) < (j : Int) + 1) = true := by rw [decide_eq_true_eq]; omega
          have bj2 : j < xs.length := by omega
          have bj3 : j + 1 < xs.length := by omega
          have bj4 : 0 ≤ (j : Int) + 1 ∧ (j : Int) + 1 < (xs.length : Int) := by omega
          have t2 : IntKind.i64.wrap (j : Int) = (j : Int) := by rw [IntKind.wrap_i64]; omega
          go_upto_region 7 with fail
          obtain ⟨S, hS⟩ : ∃ S : World → Prop, S = fun wx => OB wx (.slice (some ⟨g, 0, none⟩) xs.length cap2) ys := ⟨_, rfl⟩
          have HSS : Hid (∀ w', OB w' (.slice (some ⟨g, 0, none⟩) xs.length cap2) ys → S w') := Lib.hid (fun w' h => by rw [hS]; exact h)
          have FA1 : ∀ w', S w' → w'.cell? ⟨g, j, none⟩ = some (.int .u8 (x.toNat : Int)) := fun w' h => by
            rw [hS] at h
            have hOB : OB w' (.slice (some ⟨g, 0, none⟩) ys.length cap2) ys := by rw [HY.out]; exact h
            rw [World.ownsRow.cellAt hOB j (by have := HY.out; omega), List.getElem?_map, ← HXY.out.1, List.getD_eq_getElem?_getD, List.getElem?_eq_getElem (by have := HY.out; omega)]
            rfl
          have FA2 : ∀ w', S w' → w'.cell? ⟨g, j + 1, none⟩ = some (.int .u8 (y.toNat : Int)) := fun w' h => by
            rw [hS] at h
            have hOB : OB w' (.slice (some ⟨g, 0, none⟩) ys.length cap2) ys := by rw [HY.out]; exact h
            rw [World.ownsRow.cellAt hOB (j + 1) (by have := HY.out; omega), List.getElem?_map, ← HXY.out.2.1, List.getD_eq_getElem?_getD, List.getElem?_eq_getElem (by have := HY.out; omega)]
            rfl
          clear hS c1 c2
          refine hd_start S (by kernel_rfl) ?_
          intro w5 hw'
          have H5 := Lib.hid (HE3.out.draw 1)
          rw [← hw'] at H5
          clear hw' HE3
          have S5 : S w5 := HSS.out w5 (H5.out.bytes (obs.set i (obR p o2)).length (by simp))
          refine hd_take (v := ?_) 0 rfl (by kernel_rfl) (fun _ _ d _ _ h => (by cases d <;> exact h)) (by kernel_rfl) S5 (fun w' hS => ?_) ?_
          rotate_left
          focus (clear hS; go_simp; try rfl; done)
          simp only [List.getElem_toArray, List.getElem_cons_succ, List.getElem_cons_zero, Act.put, List.setIfInBounds_toArray, List.set_cons_zero, List.set_cons_succ]
          refine hd_take (v := ?_) 1 rfl (by kernel_rfl) (fun _ _ d _ _ h => (by cases d <;> exact h)) (by kernel_rfl) S5 (fun w' hS => ?_) ?_
          rotate_left
          focus (clear hS; go_simp; try rfl; done)
          simp only [List.getElem_toArray, List.getElem_cons_succ, List.getElem_cons_zero, Act.put, List.setIfInBounds_toArray, List.set_cons_zero, List.set_cons_succ]
          refine hd_take (v := ?_) 2 rfl (by kernel_rfl) (fun _ _ d _ _ h => (by cases d <;> exact h)) (by kernel_rfl) S5 (fun w' hS => ?_) ?_
          rotate_left
          focus (clear hS; go_simp; try rfl; done)
          simp only [List.getElem_toArray, List.getElem_cons_succ, List.getElem_cons_zero, Act.put, List.setIfInBounds_toArray, List.set_cons_zero, List.set_cons_succ]
          refine hd_take (v := ?_) 3 rfl (by kernel_rfl) (fun _ _ d _ _ h => (by cases d <;> exact h)) (by kernel_rfl) S5 (fun w' hS => ?_) ?_
          rotate_left
          focus (clear hS; go_simp; try rfl; done)
          simp only [List.getElem_toArray, List.getElem_cons_succ, List.getElem_cons_zero, Act.put, List.setIfInBounds_toArray, List.set_cons_zero, List.set_cons_succ]
          refine hd_take (v := ?_) 4 rfl (by kernel_rfl) (fun _ _ d _ _ h => (by cases d <;> exact h)) (by kernel_rfl) S5 (fun w' hS => ?_) ?_
          rotate_left
          focus (clear hS; go_simp; try rfl; done)
          simp only [List.getElem_toArray, List.getElem_cons_succ, List.getElem_cons_zero, Act.put, List.setIfInBounds_toArray, List.set_cons_zero, List.set_cons_succ]
          refine hd_take (v := ?_) 5 rfl (by kernel_rfl) (fun _ _ d _ _ h => (by cases d <;> exact h)) (by kernel_rfl) S5 (fun w' hS => ?_) ?_
          rotate_left
          focus (clear hS; go_simp; try rfl; done)
          simp only [List.getElem_toArray, List.getElem_cons_succ, List.getElem_cons_zero, Act.put, List.setIfInBounds_toArray, List.set_cons_zero, List.set_cons_succ]
          refine hd_take (v := ?_) 6 rfl (by kernel_rfl) (fun _ _ d _ _ h => (by cases d <;> exact h)) (by kernel_rfl) S5 (fun w' hS => ?_) ?_
          rotate_left
          focus (clear hS; go_simp; try rfl; done)
          simp only [List.getElem_toArray, List.getElem_cons_succ, List.getElem_cons_zero, Act.put, List.setIfInBounds_toArray, List.set_cons_zero, List.set_cons_succ]
          refine hd_take (v := ?_) 7 rfl (by kernel_rfl) (fun _ _ d _ _ h => (by cases d <;> exact h)) (by kernel_rfl) S5 (fun w' hS => ?_) ?_
          rotate_left
          focus (clear hS; go_simp; try rfl; done)
          simp only [List.getElem_toArray, List.getElem_cons_succ, List.getElem_cons_zero, Act.put, List.setIfInBounds_toArray, List.set_cons_zero, List.set_cons_succ]
          refine hd_take (v := ?_) 8 rfl (by kernel_rfl) (fun _ _ d _ _ h => (by cases d <;> exact h)) (by kernel_rfl) S5 (fun w' hS => ?_) ?_
          rotate_left
          focus (have q0 := FA1 w' hS; have q1 := FA2 w' hS; clear hS; go_simp; try rfl; done)
          simp only [List.getElem_toArray, List.getElem_cons_succ, List.getElem_cons_zero, Act.put, List.setIfInBounds_toArray, List.set_cons_zero, List.set_cons_succ]
          refine hd_take (v := ?_) 9 rfl (by kernel_rfl) (fun _ _ d _ _ h => (by cases d <;> exact h)) (by kernel_rfl) S5 (fun w' hS => ?_) ?_
          rotate_left
          focus (clear hS; go_simp; try rfl; done)
          simp only [List.getElem_toArray, List.getElem_cons_succ, List.getElem_cons_zero, Act.put, List.setIfInBounds_toArray, List.set_cons_zero, List.set_cons_succ]
          refine hd_take (v := ?_) 10 rfl (by kernel_rfl) (fun _ _ d _ _ h => (by cases d <;> exact h)) (by kernel_rfl) S5 (fun w' hS => ?_) ?_
          rotate_left
          focus (clear hS; go_simp; try rfl; done)
          simp only [List.getElem_toArray, List.getElem_cons_succ, List.getElem_cons_zero, Act.put, List.setIfInBounds_toArray, List.set_cons_zero, List.set_cons_succ]
          refine hd_take (v := ?_) 11 rfl (by kernel_rfl) (fun _ _ d _ _ h => (by cases d <;> exact h)) (by kernel_rfl) S5 (fun w' hS => ?_) ?_
          rotate_left
          focus (clear hS; go_simp; try rfl; done)
          simp only [List.getElem_toArray, List.getElem_cons_succ, List.getElem_cons_zero, Act.put, List.setIfInBounds_toArray, List.set_cons_zero, List.set_cons_succ]
          refine hd_take (v := ?_) 12 rfl (by kernel_rfl) (fun _ _ d _ _ h => (by cases d <;> exact h)) (by kernel_rfl) S5 (fun w' hS => ?_) ?_
          rotate_left
          focus (have q0 := FA1 w' hS; have q1 := FA2 w' hS; clear hS; go_simp; try rfl; done)
          simp only [List.getElem_toArray, List.getElem_cons_succ, List.getElem_cons_zero, Act.put, List.setIfInBounds_toArray, List.set_cons_zero, List.set_cons_succ]
          refine hd_take (v := ?_) 13 rfl (by kernel_rfl) (fun _ _ d _ _ h => (by cases d <;> exact h)) (by kernel_rfl) S5 (fun w' hS => ?_) ?_
          rotate_left
          focus (clear hS; go_simp; try rfl; done)
          simp only [List.getElem_toArray, List.getElem_cons_succ, List.getElem_cons_zero, Act.put, List.setIfInBounds_toArray, List.set_cons_zero, List.set_cons_succ]
          refine hd_one 14 (by kernel_rfl) ?_
          have hilt : i < obs.length := by
            rcases Nat.lt_or_ge i obs.length with h | h
            · exact h
            · have := HI.out
              rw [List.getElem?_eq_none h] at this
              cases this
          have HIL := Lib.hid hilt
          clear hilt
          refine op_call rfl (by kernel_rfl) (by go_simp; first | exact ⟨rfl, rfl⟩ | rfl) ?_
          refine (rbranch_env H5.out i (p := p) (o := o2) (by rw [List.getElem?_append_left (by rw [List.length_set]; exact HIL.out), List.getElem?_set_self HIL.out]) (HF2.out.room (by omega)) b).mono ?_
          rintro e w6 ⟨rfl, h6⟩
          rw [List.set_append_left _ _ (by rw [List.length_set]; exact HIL.out), List.set_set] at h6
          have H6 := Lib.hid h6
          have hS2 : S w6 := HSS.out w6 (h6.bytes (obs.set i (obR p (noteB o2 b))).length (by simp))
          have S6 := hS2
          clear h6
          refine ⟨_, rfl, hS2, ?_⟩
          simp only [List.getElem_toArray, List.getElem_cons_succ, List.getElem_cons_zero, Act.put, List.setIfInBounds_toArray, List.set_cons_zero, List.set_cons_succ]
          refine hd_take (v := ?_) 15 rfl (by kernel_rfl) (fun _ _ d _ _ h => (by cases d <;> exact h)) (by kernel_rfl) S6 (fun w' hS => ?_) ?_
          rotate_left
          focus (clear hS; go_simp; try rfl; done)
          simp only [List.getElem_toArray, List.getElem_cons_succ, List.getElem_cons_zero, Act.put, List.setIfInBounds_toArray, List.set_cons_zero, List.set_cons_succ]
          refine hd_done (by kernel_rfl) ?_
          have HF3 : Hid (FewO (noteB o2 b) (N + i1 * 200 + (i1 - j))) := by
            rw [show N + i1 * 200 + (i1 - j) = N + i1 * 200 + (i1 - (j + 1)) + 1 by omega]
            exact Lib.hid (HF2.out.note 9 (yesI b))
          clear FA1 FA2 S5 S6 hS2
          cases b with
          | false =>
            have HR : Hid (dnN i1 zs o1 = (ys, noteB o2 false)) := by
              rw [← HD.out]
              show Hid ((if ys.getD (j + 1) 0 < ys.getD j 0 then _ else _) = _)
              rw [HXY.out.1, HXY.out.2.1, if_neg (of_decide_eq_false HXY.out.2.2)]
              exact Lib.hid rfl
            go_wp2_with fail
            go_wp2_with fail
            go_roundw
            case rel => exact ⟨i1 + 1, ys, _, by omega, Or.inl (by omega), by go_num, HY, Lib.hid (by
              rw [← HS.out, show xs.length - i1 = xs.length - (i1 + 1) + 1 by omega]
              show _ = srN _ (i1 + 1) (dnN i1 zs o1).1 (dnN i1 zs o1).2
              rw [HR.out]), Lib.hid (HF3.out.le (by omega)), H6⟩
            case measure => simp [intOf]; omega
          | true =>
            have HR : Hid (dnN j (swapN ys j) (noteB o2 true) = dnN i1 zs o1) := by
              rw [← HD.out]
              show Hid (_ = (if ys.getD (j + 1) 0 < ys.getD j 0 then _ else _))
              rw [HXY.out.1, HXY.out.2.1, if_pos (of_decide_eq_true HXY.out.2.2)]
              exact Lib.hid rfl
            go_upto_region 8 with fail
            have hOB := H6.out.bytes (obs.set i (obR p (noteB o2 true))).length (v := .slice (some ⟨g, 0, none⟩) xs.length cap2) (l := ys) (by simp)
            rw [← HY.out] at hOB
            have hlen : ys.length = xs.length := HY.out
            have c1 : w6.cell? ⟨g, j, none⟩ = some (.int .u8 (x.toNat : Int)) := by
              rw [World.ownsRow.cellAt hOB j (by omega), List.getElem?_map, ← HXY.out.1, List.getD_eq_getElem?_getD, List.getElem?_eq_getElem (by omega)]
              rfl
            have c2 : w6.cell? ⟨g, j + 1, none⟩ = some (.int .u8 (y.toNat : Int)) := by
              rw [World.ownsRow.cellAt hOB (j + 1) (by omega), List.getElem?_map, ← HXY.out.2.1, List.getD_eq_getElem?_getD, List.getElem?_eq_getElem (by omega)]
              rfl
            have f1 := World.ownsRow.frozenAt hOB j
            have f2 := World.ownsRow.frozenAt hOB (j + 1)
            have H7 : Hid (Env w0 (((w6.setCell ⟨g, j, none⟩ (.int .u8 (y.toNat : Int))).setCell ⟨g, j + 1, none⟩ (.int .u8 (x.toNat : Int)))) (obs.set i (obR p (noteB o2 true)) ++ [obB (.slice (some ⟨g, 0, none⟩) xs.length cap2) (swapN ys j)])) := by
              have q1 : OB (w6.setCell ⟨g, j, none⟩ (.int .u8 (y.toNat : Int))) (.slice (some ⟨g, 0, none⟩) ys.length cap2) (ys.set j y) := OB.set hOB j y
              have q2 : OB ((w6.setCell ⟨g, j, none⟩ (.int .u8 (y.toNat : Int))).setCell ⟨g, j + 1, none⟩ (.int .u8 (x.toNat : Int))) (.slice (some ⟨g, 0, none⟩) xs.length cap2) (swapN ys j) := by
                have q3 := OB.set (l := ys.set j y) (by rw [List.length_set]; exact q1) (j + 1) x
                unfold swapN
                rw [List.length_set, hlen] at q3
                rw [HXY.out.1, HXY.out.2.1]
                exact q3
              have q4 := H6.out.turnB (obs.set i (obR p (noteB o2 true))).length (v := .slice (some ⟨g, 0, none⟩) xs.length cap2) (l := ys) (by simp) q2 (((Only.refl (fpv (.slice (some ⟨g, 0, none⟩) xs.length cap2)) w6).set (p := ⟨g, j, none⟩) (Or.inl rfl) _).set (p := ⟨g, j + 1, none⟩) (Or.inl rfl) _)
              rw [List.set_append_right _ _ (Nat.le_refl _), Nat.sub_self] at q4
              exact Lib.hid q4
            clear hOB hlen
            go_upto_region 11 with fail
            generalize ((w6.setCell ⟨g, j, none⟩ (.int .u8 (y.toNat : Int))).setCell ⟨g, j + 1, none⟩ (.int .u8 (x.toNat : Int))) = w7 at H7
            go_wp2_with fail
            go_roundw
            case rel => exact ⟨j, swapN ys j, _, by omega, rfl, Lib.hid (by rw [swapN_len]; exact HY.out), HR, HF3, H7⟩
            case measure => simp [intOf]
    · have t1 : decide ((i1 : Int) < (xs.length : Int)) = false := by rw [decide_eq_false_iff_not]; omega
      have HR : Hid (sortN xs o = (zs, o1)) := by
        have := HS.out
        rw [show xs.length - i1 = 0 by omega] at this
        exact Lib.hid this.symm
      go_wp2_with fail
      go_ret
      refine ⟨_, rfl, ?_⟩
      rw [HR.out]
      exact HE.out
end Go.Proofs.Ytpbplcbdejoolaa
