/- The contract of naive.Sort. -/
import Derived.Test.YtpbplcbdejoolaaRows
import Derived.Test.YtpbplcbdejoolaaNaive
import Derived.Test.YtpbplcbdejoolaaFind
import Derived.Deep.DeepCutAuto
namespace Go.Proofs.Ytpbplcbdejoolaa
open Go.RowKit
set_option maxRecDepth 100000
set_option linter.unusedVariables false
set_option linter.unusedSimpArgs false

def swapN (zs : List UInt8) (k : Nat) : List UInt8 := (zs.set k (zs.getD (k + 1) 0)).set (k + 1) (zs.getD k 0)
/-- a byte goes down as far as greater ones stand ahead of it -/
def dnN : Nat → List UInt8 → Option (List Rn) → List UInt8 × Option (List Rn)
  | 0, zs, o => (zs, o)
  | k + 1, zs, o => if zs.getD (k + 1) 0 < zs.getD k 0 then dnN k (swapN zs k) (noteB o true) else (zs, noteB o false)
/-- n bytes more, from place i on -/
def srN : Nat → Nat → List UInt8 → Option (List Rn) → List UInt8 × Option (List Rn)
  | 0, _, zs, o => (zs, o)
  | n + 1, i, zs, o => srN n (i + 1) (dnN i zs o).1 (dnN i zs o).2
def sortN (xs : List UInt8) (o : Option (List Rn)) : List UInt8 × Option (List Rn) := srN (xs.length - 1) 1 xs o
theorem swapN_len (zs : List UInt8) (k : Nat) : (swapN zs k).length = zs.length := by simp [swapN]
theorem FewO.le {o : Option (List Rn)} {n m : Nat} (h : FewO o n) (hm : n ≤ m) : FewO o m := by
  intro rs hh
  exact ⟨by have := (h rs hh).1; omega, by have := (h rs hh).2; omega⟩
theorem branch_env {w0 w : World} {obs : List Ob} (h : Env w0 w obs) (i : Nat) {p : Value} {o : Option (List Rn)} (hi : obs[i]? = some (obP p o)) (hb : Room o 1) (b : Bool) :
    Calls Try.prog 40 #[p, .bool b] w fun e w' => e = .returned (.bool b) ∧ Env w0 w' (obs.set i (obP p (noteB o b))) := by
  obtain ⟨F, f1, f2, f3, f4⟩ := h.ledP i hi
  exact (branch_any p F o b w f1 hb).mono fun e w' ⟨he, hl⟩ => ⟨he, f4 w' _ hl⟩
set_option maxHeartbeats 2000000 in
theorem sort_env {w0 w : World} {obs : List Ob} (h : Env w0 w obs) (i : Nat) {p : Value} {o : Option (List Rn)} (hi : obs[i]? = some (obP p o)) {N : Nat} (hf : FewO o N) {u : Value} {xs : List UInt8} (hu : Bs w u xs) (hx : xs.length ≤ 200) (hN : N ≤ 100000) :
    Calls Try.prog 21 #[p, u] w fun e w' => ∃ v, e = .returned v ∧ Env w0 w' (obs.set i (obP p (sortN xs o).2) ++ [obB v (sortN xs o).1]) := by
  have H := Lib.hid h
  have HU := Lib.hid hu
  have HI := Lib.hid hi
  obtain ⟨ao, cap, rfl, h1, h2, _, _⟩ := hu.form
  clear h hu hi
  go_enter Try.func21, Try.ntmps21
  obtain ⟨i0, hi0, hz0, hz1, hz2⟩ := info_parts info8
  have hb1 : Below w.heap.size w (w.alloc (.cells #[] 5)) := (Below.refl _ _).alloc (Nat.le_refl _) _
  have hy := Sl.of_bytes (HU.out.grow hb1)
  have hown0 : (w.alloc (.cells #[] 5)).ownsRow 0 5 1 (.slice (some ⟨w.heap.size, 0, none⟩) 0 0) 0 [] := World.ownsRow_lit (base := 0) (e := 5) (size := 1) w #[] 0 (Nat.zero_le _) (by unfold maxLen; omega) (by simp)
  have hxl : xs.length ≤ 140737488355328 := by omega
  go_wp2_with (at_builtin; refine wpList_append_sl _ rfl _ _ 41 rfl 5 i0 _ 1 1 Try.underlying41 hi0 hz0 hz1 hz2 rfl (by decide) (.slice (some ⟨w.heap.size, 0, none⟩) 0 0) 0 [] rfl hown0 (.slice ao xs.length cap) xs.length (xs.map B) rfl hy (bl0 hxl) (bb0 hxl) ?_)
  intro v' w1 hown hgrow hat hnn
  clear hnn
  have hOB : OB w1 v' xs := by
    unfold OB
    simpa using hown
  have HE : Hid (Env w0 w1 (obs ++ [obB v' xs])) := by
    refine Lib.hid (H.out.pushB hOB (hb1.grown hgrow (Nat.le_of_lt (by simp)) (fun k hk => ?_)) (fun x hx => ?_))
    · have e : w.heap.size = k := by simpa [Value.ownBlock] using hk
      omega
    · have hx' : v'.ownBlock = some x := hx
      rcases hat with hat | hat
      · rw [hat] at hx'
        have e : w.heap.size = x := by simpa [Value.ownBlock] using hx'
        omega
      · rw [hat] at hx'
        simp at hx'
        omega
  obtain ⟨ao2, cap2, rfl⟩ := hOB.any
  clear hown hgrow hat hown0 hy hi0 hz0 hz1 hz2 hb1 hOB
  have HE2 : Hid (Env w0 w1 (obs.set i (obP p o) ++ [obB (.slice ao2 xs.length cap2) xs])) := by rw [set_same obs i _ HI.out]; exact HE
  clear HE
  go_wp2_with fail
  go_loopw [6] (fun iv w2 => ∃ (i1 : Nat) (zs : List UInt8) (o1 : Option (List Rn)), 1 ≤ i1 ∧ (i1 ≤ xs.length ∨ i1 = 1) ∧ iv = .int .i64 (i1 : Int) ∧ Hid (zs.length = xs.length) ∧ Hid (srN (xs.length - i1) i1 zs o1 = sortN xs o) ∧ Hid (FewO o1 (N + i1 * 200)) ∧ Hid (Env w0 w2 (obs.set i (obP p o1) ++ [obB (.slice ao2 xs.length cap2) zs]))) (fun i _ => xs.length - (intOf i).toNat)
  case atStart => exact ⟨1, xs, o, Nat.le_refl _, Or.inr rfl, rfl, Lib.hid rfl, Lib.hid rfl, Lib.hid (hf.le (by omega)), HE2⟩
  case round =>
    obtain ⟨i1, zs, o1, hi1, hi2, rfl, HZ, HS, HF, HE⟩ := hrel
    by_cases hlt : i1 < xs.length
    · have hOB := HE.out.bytes (obs.set i (obP p o1)).length (v := .slice ao2 xs.length cap2) (l := zs) (by simp)
      rw [← HZ.out] at hOB
      obtain ⟨g, c3, hv⟩ := hOB.form (by rw [HZ.out]; omega)
      injection hv with e1 _ e3
      subst e1; subst e3
      clear hOB
      go_wp2_with fail
      go_step3
      go_wp2_with fail
      go_step3
      go_wp2_with fail
      go_loopw [7] (fun kv w3 => ∃ (k : Nat) (ys : List UInt8) (o2 : Option (List Rn)), k ≤ i1 ∧ kv = .int .i64 (k : Int) ∧ Hid (ys.length = xs.length) ∧ Hid (dnN k ys o2 = dnN i1 zs o1) ∧ Hid (FewO o2 (N + i1 * 200 + (i1 - k))) ∧ Hid (Env w0 w3 (obs.set i (obP p o2) ++ [obB (.slice (some ⟨g, 0, none⟩) xs.length cap2) ys]))) (fun k _ => (intOf k).toNat)
      case atStart => exact ⟨i1, zs, o1, Nat.le_refl _, rfl, HZ, Lib.hid rfl, Lib.hid (HF.out.le (by omega)), HE⟩
      case round =>
        obtain ⟨k, ys, o2, hk, rfl, HY, HD, HF2, HE3⟩ := hrel
        rcases k with _ | j
        · have HR : Hid (dnN i1 zs o1 = (ys, o2)) := Lib.hid HD.out.symm
          go_wp2_with fail
          rw [Exit.noGoto_normal]
          go_wp2_with fail
          go_roundw
          case rel => exact ⟨i1 + 1, ys, o2, by omega, Or.inl (by omega), by go_num, HY, Lib.hid (by
            rw [← HS.out, show xs.length - i1 = xs.length - (i1 + 1) + 1 by omega]
            show _ = srN _ (i1 + 1) (dnN i1 zs o1).1 (dnN i1 zs o1).2
            rw [HR.out]), Lib.hid (HF2.out.le (by omega)), HE3⟩
          case measure => simp [intOf]; omega
        · have hlen : ys.length = xs.length := HY.out
          have hOB := HE3.out.bytes (obs.set i (obP p o2)).length (v := .slice (some ⟨g, 0, none⟩) xs.length cap2) (l := ys) (by simp)
          rw [← HY.out] at hOB
          have c1 : wr.cell? ⟨g, j, none⟩ = some (.int .u8 ((ys.getD j 0).toNat : Int)) := by
            rw [World.ownsRow.cellAt hOB j (by omega), List.getElem?_map, List.getD_eq_getElem?_getD, List.getElem?_eq_getElem (by omega)]
            rfl
          have c2 : wr.cell? ⟨g, j + 1, none⟩ = some (.int .u8 ((ys.getD (j + 1) 0).toNat : Int)) := by
            rw [World.ownsRow.cellAt hOB (j + 1) (by omega), List.getElem?_map, List.getD_eq_getElem?_getD, List.getElem?_eq_getElem (by omega)]
            rfl
          clear hOB hlen
          obtain ⟨x, hx1⟩ : ∃ x, ys.getD j 0 = x := ⟨_, rfl⟩
          obtain ⟨y, hy1⟩ : ∃ y, ys.getD (j + 1) 0 = y := ⟨_, rfl⟩
          rw [hx1] at c1
          rw [hy1] at c2
          obtain ⟨b, hbb⟩ : ∃ b : Bool, decide (y < x) = b := ⟨_, rfl⟩
          have hxy : decide (y.toNat < x.toNat) = b := by rw [← hbb]; rfl
          have HXY := Lib.hid (And.intro hx1 (And.intro hy1 hbb))
          clear hx1 hy1 hbb
          have ej : ((j + 1 : Nat) : Int) = (j : Int) + 1 := by omega
          rw [ej]
          clear ej
          have bj : (j : Int) + 1 ≤ 200 := by omega
          have t1 : decide ((0 : Int) < (j : Int) + 1) = true := by rw [decide_eq_true_eq]; omega
          have bj2 : j < xs.length := by omega
          have bj3 : j + 1 < xs.length := by omega
          have bj4 : 0 ≤ (j : Int) + 1 ∧ (j : Int) + 1 < (xs.length : Int) := by omega
          have t2 : IntKind.i64.wrap (j : Int) = (j : Int) := by rw [IntKind.wrap_i64]; omega
          go_upto_region 8 with fail
          refine wp_region_call (fun w' => w' = wr.drewN 1) 11 12 _ (by kernel_rfl) (by kernel_rfl) rfl rfl (by decide) ?_
          simp only [List.take_succ_cons, List.take_zero, List.drop_succ_cons, List.drop_zero]
          refine wpTame_run (v := ?_) (by decide) rfl (fun w' hS => ?_) ?_
          rotate_left
          focus (subst hS; go_simp; try rfl; done)
          simp only [Act.put, List.setIfInBounds_toArray, List.set_cons_zero, List.set_cons_succ]
          refine wpTame_run (v := ?_) (by decide) rfl (fun w' hS => ?_) ?_
          rotate_left
          focus (subst hS; go_simp; try rfl; done)
          simp only [Act.put, List.setIfInBounds_toArray, List.set_cons_zero, List.set_cons_succ]
          refine wpTame_run (v := ?_) (by decide) rfl (fun w' hS => ?_) ?_
          rotate_left
          focus (subst hS; go_simp; try rfl; done)
          simp only [Act.put, List.setIfInBounds_toArray, List.set_cons_zero, List.set_cons_succ]
          refine wpTame_run (v := ?_) (by decide) rfl (fun w' hS => ?_) ?_
          rotate_left
          focus (subst hS; go_simp; try rfl; done)
          simp only [Act.put, List.setIfInBounds_toArray, List.set_cons_zero, List.set_cons_succ]
          refine wpTame_run (v := ?_) (by decide) rfl (fun w' hS => ?_) ?_
          rotate_left
          focus (subst hS; go_simp; try rfl; done)
          simp only [Act.put, List.setIfInBounds_toArray, List.set_cons_zero, List.set_cons_succ]
          refine wpTame_run (v := ?_) (by decide) rfl (fun w' hS => ?_) ?_
          rotate_left
          focus (subst hS; go_simp; try rfl; done)
          simp only [Act.put, List.setIfInBounds_toArray, List.set_cons_zero, List.set_cons_succ]
          refine wpTame_run (v := ?_) (by decide) rfl (fun w' hS => ?_) ?_
          rotate_left
          focus (subst hS; go_simp; try rfl; done)
          simp only [Act.put, List.setIfInBounds_toArray, List.set_cons_zero, List.set_cons_succ]
          refine wpTame_run (v := ?_) (by decide) rfl (fun w' hS => ?_) ?_
          rotate_left
          focus (subst hS; go_simp; try rfl; done)
          simp only [Act.put, List.setIfInBounds_toArray, List.set_cons_zero, List.set_cons_succ]
          refine wpTame_run (v := ?_) (by decide) rfl (fun w' hS => ?_) ?_
          rotate_left
          focus (subst hS; go_simp; try rfl; done)
          simp only [Act.put, List.setIfInBounds_toArray, List.set_cons_zero, List.set_cons_succ]
          refine wpTame_run (v := ?_) (by decide) rfl (fun w' hS => ?_) ?_
          rotate_left
          focus (subst hS; go_simp; try rfl; done)
          simp only [Act.put, List.setIfInBounds_toArray, List.set_cons_zero, List.set_cons_succ]
          refine wpTame_run (v := ?_) (by decide) rfl (fun w' hS => ?_) ?_
          rotate_left
          focus (subst hS; go_simp; try rfl; done)
          simp only [Act.put, List.setIfInBounds_toArray, List.set_cons_zero, List.set_cons_succ]
          refine wpTame_nil ?_
          intro w5 hw'
          refine wp_mid_call (by go_simp; first | exact ⟨rfl, rfl⟩ | rfl) ?_
          have H5 : Hid (Env w0 w5 (obs.set i (obP p o2) ++ [obB (.slice (some ⟨g, 0, none⟩) xs.length cap2) ys])) := by rw [hw']; exact Lib.hid (HE3.out.draw 1)
          clear hw'
          refine (branch_env H5.out i (p := p) (o := o2) (by
            have hlt2 : i < obs.length := by
              rcases Nat.lt_or_ge i obs.length with h | h
              · exact h
              · have := HI.out
                rw [List.getElem?_eq_none h] at this
                cases this
            rw [List.getElem?_append_left (by rw [List.length_set]; exact hlt2), List.getElem?_set_self hlt2]) (HF2.out.room (by omega)) b).mono ?_
          rintro e w6 ⟨rfl, h6⟩
          refine ⟨_, rfl, (fun w' => w' = w6), rfl, ?_⟩
          simp only [Act.put, List.setIfInBounds_toArray, List.set_cons_zero, List.set_cons_succ]
          refine wpTame_nil ?_
          intro w' hw'
          rw [hw']
          clear hw'
          have H6 : Hid (Env w0 w6 (obs.set i (obP p (noteB o2 b)) ++ [obB (.slice (some ⟨g, 0, none⟩) xs.length cap2) ys])) := by
            have hlt2 : i < (obs.set i (obP p o2)).length := by
              rcases Nat.lt_or_ge i (obs.set i (obP p o2)).length with h | h
              · exact h
              · have := HI.out
                rw [List.length_set] at h
                rw [List.getElem?_eq_none h] at this
                cases this
            rw [List.set_append_left _ _ hlt2, List.set_set] at h6
            exact Lib.hid h6
          have HF3 : Hid (FewO (noteB o2 b) (N + i1 * 200 + (i1 - j))) := by
            rw [show N + i1 * 200 + (i1 - j) = N + i1 * 200 + (i1 - (j + 1)) + 1 by omega]
            exact Lib.hid (HF2.out.note 9 (yesI b))
          clear h6
          cases b with
          | false =>
            have HR : Hid (dnN i1 zs o1 = (ys, noteB o2 false)) := by
              rw [← HD.out]
              show Hid ((if ys.getD (j + 1) 0 < ys.getD j 0 then _ else _) = _)
              rw [HXY.out.1, HXY.out.2.1, if_neg (of_decide_eq_false HXY.out.2.2)]
              exact Lib.hid rfl
            go_wp2_with fail
            try rw [Exit.noGoto_normal]
            go_wp2_with fail
            go_roundw
            case rel => exact ⟨i1 + 1, ys, _, by omega, Or.inl (by omega), by go_num, HY, Lib.hid (by
              rw [← HS.out, show xs.length - i1 = xs.length - (i1 + 1) + 1 by omega]
              show _ = srN _ (i1 + 1) (dnN i1 zs o1).1 (dnN i1 zs o1).2
              rw [HR.out]), Lib.hid (HF3.out.le (by omega)), H6⟩
            case measure => simp [intOf]; omega
          | true =>
            have HR : Hid (dnN j (swapN ys j) (noteB o2 true) = dnN i1 zs o1) := by
              rw [← HD.out]
              show Hid (_ = (if ys.getD (j + 1) 0 < ys.getD j 0 then _ else _))
              rw [HXY.out.1, HXY.out.2.1, if_pos (of_decide_eq_true HXY.out.2.2)]
              exact Lib.hid rfl
            go_upto_region 9 with fail
            clear c1 c2
            have hOB := H6.out.bytes (obs.set i (obP p (noteB o2 true))).length (v := .slice (some ⟨g, 0, none⟩) xs.length cap2) (l := ys) (by simp)
            rw [← HY.out] at hOB
            have hlen : ys.length = xs.length := HY.out
            have c1 : w6.cell? ⟨g, j, none⟩ = some (.int .u8 (x.toNat : Int)) := by
              rw [World.ownsRow.cellAt hOB j (by omega), List.getElem?_map, ← HXY.out.1, List.getD_eq_getElem?_getD, List.getElem?_eq_getElem (by omega)]
              rfl
            have c2 : w6.cell? ⟨g, j + 1, none⟩ = some (.int .u8 (y.toNat : Int)) := by
              rw [World.ownsRow.cellAt hOB (j + 1) (by omega), List.getElem?_map, ← HXY.out.2.1, List.getD_eq_getElem?_getD, List.getElem?_eq_getElem (by omega)]
              rfl
            have f1 := World.ownsRow.frozenAt hOB j
            have f2 := World.ownsRow.frozenAt hOB (j + 1)
            have H7 : Hid (Env w0 (((w6.setCell ⟨g, j, none⟩ (.int .u8 (y.toNat : Int))).setCell ⟨g, j + 1, none⟩ (.int .u8 (x.toNat : Int))).drew) (obs.set i (obP p (noteB o2 true)) ++ [obB (.slice (some ⟨g, 0, none⟩) xs.length cap2) (swapN ys j)])) := by
              have q1 : OB (w6.setCell ⟨g, j, none⟩ (.int .u8 (y.toNat : Int))) (.slice (some ⟨g, 0, none⟩) ys.length cap2) (ys.set j y) := OB.set hOB j y
              have q2 : OB ((w6.setCell ⟨g, j, none⟩ (.int .u8 (y.toNat : Int))).setCell ⟨g, j + 1, none⟩ (.int .u8 (x.toNat : Int))) (.slice (some ⟨g, 0, none⟩) xs.length cap2) (swapN ys j) := by
                have q3 := OB.set (l := ys.set j y) (by rw [List.length_set]; exact q1) (j + 1) x
                unfold swapN
                rw [List.length_set, hlen] at q3
                rw [HXY.out.1, HXY.out.2.1]
                exact q3
              have q4 := H6.out.turnB (obs.set i (obP p (noteB o2 true))).length (v := .slice (some ⟨g, 0, none⟩) xs.length cap2) (l := ys) (by simp) q2 (((Only.refl (fpv (.slice (some ⟨g, 0, none⟩) xs.length cap2)) w6).set (p := ⟨g, j, none⟩) (Or.inl rfl) _).set (p := ⟨g, j + 1, none⟩) (Or.inl rfl) _)
              rw [List.set_append_right _ _ (Nat.le_refl _), Nat.sub_self] at q4
              exact Lib.hid (q4.draw 1)
            clear hOB hlen
            go_region
            generalize ((w6.setCell ⟨g, j, none⟩ (.int .u8 (y.toNat : Int))).setCell ⟨g, j + 1, none⟩ (.int .u8 (x.toNat : Int))).drew = w7 at H7
            go_wp2_with fail
            go_roundw
            case rel => exact ⟨j, swapN ys j, _, by omega, rfl, Lib.hid (by rw [swapN_len]; exact HY.out), HR, HF3, H7⟩
            case measure => simp [intOf]
    · have t1 : decide ((i1 : Int) < (xs.length : Int)) = false := by rw [decide_eq_false_iff_not]; omega
      have HR : Hid (sortN xs o = (zs, o1)) := by
        have := HS.out
        rw [show xs.length - i1 = 0 by omega] at this
        exact Lib.hid this.symm
      go_wp2_with fail
      go_ret
      refine ⟨_, rfl, ?_⟩
      rw [HR.out]
      exact HE.out
end Go.Proofs.Ytpbplcbdejoolaa
