/- append of bytes to a row that is a thing of a law's world. -/
import Derived.Test.YtpampcokonicfaaRows
import Derived.Deep.AppendLies
import Derived.IntWalk
import Derived.Lib.AppendZerosOnto
import Derived.Test.YtpampcokonicfaaQB1
import Derived.Test.YtpampcokonicfaaQB2
import Derived.Test.YtpampcokonicfaaQB4
/- Mac.Write over a world that is a list of things.  -/
namespace Go.Proofs.Ytpampcokonicfaa
open Go.RowKit
set_option maxRecDepth 100000
set_option linter.unusedVariables false
set_option linter.unusedSimpArgs false
/-- the ledger behind e blocks -/
def notedN (o : Option (List Rn)) (k : Nat) : Nat → Option (List Rn)
  | 0 => o
  | e + 1 => noteO (notedN o k e) 5 k 1
def sliceLen : Value → Nat
  | .slice _ n _ => n
  | _ => 0
section
variable {w0 w : World} {obs : List Ob}
/-- the thing list when the Mac is in a state and the ledger has some runs -/
def macObs (obs : List Ob) (l j b c : Nat) (q : Value) (o : Option (List Rn)) (m : MacS) : List Ob := (obs.set l (obP q o)).set j (obK b 76 (macC (.pointer (some ⟨c, 0, none⟩)) m))
theorem macObs_j {l j b c : Nat} {q : Value} {o : Option (List Rn)} {m : MacS} (hj : j < obs.length) : (macObs obs l j b c q o m)[j]? = some (obK b 76 (macC (.pointer (some ⟨c, 0, none⟩)) m)) := by
  unfold macObs
  rw [List.getElem?_set_self (by rw [List.length_set]; exact hj)]
theorem macC_setk (c : Value) (m : MacS) (hm : m.Ok) (x : Nat) : (macC c m).setIfInBounds 65 (.int .i64 (x : Int)) = macC c ⟨m.k1, m.k2, m.ch, m.wt, x⟩ := by
  obtain ⟨h1, h2, h3, h4, h5⟩ := hm
  have e : macC c m = ((c :: (m.k1.map B ++ (m.k2.map B ++ (m.ch.map B ++ m.wt.map B)))) ++ [Value.int .i64 (m.n : Int)]).toArray := by simp [macC]
  have e2 : macC c ⟨m.k1, m.k2, m.ch, m.wt, x⟩ = ((c :: (m.k1.map B ++ (m.k2.map B ++ (m.ch.map B ++ m.wt.map B)))) ++ [Value.int .i64 (x : Int)]).toArray := by simp [macC]
  have hl : (c :: (m.k1.map B ++ (m.k2.map B ++ (m.ch.map B ++ m.wt.map B)))).length = 65 := by simp [h1, h2, h3, h4]
  rw [e, e2, List.setIfInBounds_toArray, List.set_append_right _ _ (by omega), hl]
  rfl
theorem Bs.cut {w : World} {sb so n cap : Nat} {l : List UInt8} (h : Bs w (.slice (some ⟨sb, so, none⟩) n cap) l) (kk : Nat) (hk : kk ≤ l.length) : Bs w (.slice (if cap = kk then some ⟨sb, so, none⟩ else some ⟨sb, so + kk, none⟩) (l.length - kk) (cap - kk)) (l.drop kk) := by
  obtain ⟨ao, cap', hv, h1, h2, h3, h4⟩ := h.form
  injection hv with r1 r2 r3
  subst r1 r3
  refine ⟨⟨(if cap = kk then some ⟨sb, so, none⟩ else some ⟨sb, so + kk, none⟩), cap - kk, by rw [List.length_drop], by rw [List.length_drop]; omega, by omega, fun h => by by_cases e : cap = kk <;> simp [e] at h, fun j hj => ?_⟩⟩
  rw [List.length_drop] at hj
  obtain ⟨b, off, hb, hc⟩ := h4 (kk + j) (by omega)
  injection hb with hb
  injection hb with t1 t2 _
  subst t1 t2
  refine ⟨sb, so + kk, by rw [if_neg (by omega)], ?_⟩
  rw [Nat.add_assoc, hc, List.getD_eq_getElem?_getD, List.getD_eq_getElem?_getD, List.getElem?_drop]
structure WrInv (w0 : World) (obs : List Ob) (l j b c k : Nat) (K : List UInt8) (q : Value) (o : Option (List Rn)) (m : MacS) (p : List UInt8) (d : Nat) (uv : Value) (wr : World) : Prop where
  env : Env w0 wr (macObs obs l j b c q (notedN o k (feedM (enc K (k / 4 + 6)) (m, 0) (p.take d)).2) (feedM (enc K (k / 4 + 6)) (m, 0) (p.take d)).1)
  src : ∀ wx o2 m2, Env w0 wx (macObs obs l j b c q o2 m2) → Bs wx uv (p.drop d)
set_option maxHeartbeats 4000000 in
theorem writeM_env (h : Env w0 w obs) (i j l : Nat) (hij : i ≠ j) (hil : i ≠ l) (hjl : j ≠ l) {b c k : Nat} {K : List UInt8} {m : MacS} {q : Value} {o : Option (List Rn)} (hi : obs[i]? = some (obC (.pointer (some ⟨c, 0, none⟩)) (some (k, K)))) (hj : obs[j]? = some (obK b 76 (macC (.pointer (some ⟨c, 0, none⟩)) m))) (hl : obs[l]? = some (obP q o)) (hm : m.Ok) (hk : 0 < k)
    {u : Value} {p : List UInt8} (hp : ∀ wx o2 m2, Env w0 wx ((obs.set l (obP q o2)).set j (obK b 76 (macC (.pointer (some ⟨c, 0, none⟩)) m2))) → Bs wx u p) (hb : ∀ e, e ≤ p.length → Room (notedN o k e) 1) :
    Calls Try.prog 21 #[.pointer (some ⟨b, 0, none⟩), q, u] w fun e w' => e = .returned (.int .i64 0) ∧
      Env w0 w' ((obs.set l (obP q (notedN o k (feedM (enc K (k / 4 + 6)) (m, 0) p).2))).set j (obK b 76 (macC (.pointer (some ⟨c, 0, none⟩)) (feedM (enc K (k / 4 + 6)) (m, 0) p).1))) := by
  have H := Lib.hid h
  have HP := Lib.hid hp
  have HR := Lib.hid hb
  have HI := Lib.hid hi
  have HJ := Lib.hid hj
  have HLL := Lib.hid hl
  have HM := Lib.hid hm
  have B0 := Lib.hid (h.blk j hj)
  clear h hp hb hi hj hl hm
  go_enter Try.func21, Try.ntmps21
  go_wp2_with fail
  refine (mmade_any b c m w B0.out).mono ?_
  rintro e w1 ⟨rfl, rfl⟩
  go_wp2_with fail
  go_loopw [2, 7] (fun uv _ wr => ∃ d : Nat, d ≤ p.length ∧ Hid (WrInv w0 obs l j b c k K q o m p d uv wr)) (fun uv _ _ => sliceLen uv)
  case atStart =>
    refine ⟨0, Nat.zero_le _, Lib.hid ⟨?_, fun wx o2 m2 h => HP.out wx o2 m2 h⟩⟩
    show Env w0 w ((obs.set l (obP q o)).set j (obK b 76 (macC (.pointer (some ⟨c, 0, none⟩)) m)))
    rw [set_same obs l _ HLL.out, set_same obs j _ HJ.out]
    exact H.out
  case round =>
    obtain ⟨d, hd, HV⟩ := hrel
    obtain ⟨ao, cap, rfl, hcap⟩ := (HV.out.src _ _ _ HV.out.env).form
    have hdl : (p.drop d).length = p.length - d := List.length_drop
    by_cases hlt : d < p.length
    · have hjl2 : j < obs.length := (List.getElem?_eq_some_iff.1 HJ.out).1
      have hEl : ∀ x, (enc K (k / 4 + 6) x).length = 16 := fun x => enc_len _ _ _
      have OK1 : Hid (feedM (enc K (k / 4 + 6)) (m, 0) (p.take d)).1.Ok := Lib.hid (feedM_ok hEl _ HM.out)
      obtain ⟨m1, hm1⟩ : ∃ m1, (feedM (enc K (k / 4 + 6)) (m, 0) (p.take d)).1 = m1 := ⟨_, rfl⟩
      obtain ⟨e1, he1⟩ : ∃ e1, (feedM (enc K (k / 4 + 6)) (m, 0) (p.take d)).2 = e1 := ⟨_, rfl⟩
      have HE0 := HV.out.env
      rw [hm1] at OK1
      rw [hm1, he1] at HE0
      have HE := Lib.hid HE0
      have HSR := Lib.hid HV.out.src
      have HS1 : Hid (feedM (enc K (k / 4 + 6)) (m, 0) (p.take d) = (m1, e1)) := Lib.hid (by rw [← hm1, ← he1])
      have c65 := (HE.out.blk j (macObs_j hjl2)).cellAt 65 (macC_n OK1.out)
      have hdm : (p.drop d).length = p.length - d := hdl
      obtain ⟨N, hN⟩ : ∃ N, (p.drop d).length = N := ⟨_, rfl⟩
      rw [hN] at hdm hcap ⊢
      have HNN := Lib.hid hN
      have hN0 : 0 < N := by omega
      have hd1 : decide ((0 : Int) < (N : Int)) = true := by simp; omega
      obtain ⟨n1, hn1⟩ : ∃ n1, m1.n = n1 := ⟨_, rfl⟩
      have n16 : n1 ≤ 16 := by rw [← hn1]; exact OK1.out.hn
      rw [hn1] at c65
      have HN1 := Lib.hid hn1
      have HDM := Lib.hid hdm
      clear HE0 HV hm1 he1 hdl hN hn1 hdm
      go_upto_if 18 with fail
      go_cut [] from 11 to 67 (fun wx => ∃ (m2 : MacS) (e2 : Nat), Hid (Env w0 wx (macObs obs l j b c q (notedN o k e2) m2) ∧ m2.Ok ∧ m2.n < 16 ∧ ∀ r, r ≠ [] → feedM (enc K (k / 4 + 6)) (m2, e2) r = feedM (enc K (k / 4 + 6)) (m1, e1) r))
      case first =>
        by_cases hf : n1 = 16
        · subst hf
          have hfb : ((16 : Int) == 16) = true := rfl
          obtain ⟨S, hS⟩ : ∃ S : World → Prop, S = fun wx => ∃ o2 m2, Env w0 wx (macObs obs l j b c q o2 m2) := ⟨_, rfl⟩
          have ES : Hid (∀ wx o2 m2, Env w0 wx (macObs obs l j b c q o2 m2) → S wx) := Lib.hid (fun wx o2 m2 h => by rw [hS]; exact ⟨o2, m2, h⟩)
          have F0 : ∀ wx, S wx → wx.cell? ⟨b, 0, none⟩ = some (.pointer (some ⟨c, 0, none⟩)) := fun wx h => by
            rw [hS] at h
            obtain ⟨o2, m2, h⟩ := h
            exact (h.blk j (macObs_j hjl2)).cellAt 0 (macC_c _ m2)
          have ml3 : (m1.ch.map B).length = 16 := by rw [List.length_map, OK1.out.l3]
          have ml4 : (m1.wt.map B).length = 16 := by rw [List.length_map, OK1.out.l4]
          obtain ⟨X, hX⟩ : ∃ X, xorB m1.ch m1.wt = X := ⟨_, rfl⟩
          have hXl : X.length = 16 := by rw [← hX]; exact xorB_len _ _
          obtain ⟨Y, hY⟩ : ∃ Y, enc K (k / 4 + 6) X = Y := ⟨_, rfl⟩
          have hYl : Y.length = 16 := by rw [← hY]; exact enc_len _ _ _
          have hYm : (Y.map B).length = (m1.ch.map B).length := by rw [List.length_map, hYl, ml3]
          have CX : Hid (∀ wx, Calls Try.prog 49 #[.agg (m1.ch.map B).toArray, .agg (m1.wt.map B).toArray] wx fun e w' => e = .returned (.agg (barr X)) ∧ Below wx.heap.size wx w') := Lib.hid (fun wx => by rw [← hX]; exact xored_any m1.ch m1.wt OK1.out.l3 OK1.out.l4 wx)
          have hin : (macObs obs l j b c q (notedN o k e1) m1)[i]? = some (obC (.pointer (some ⟨c, 0, none⟩)) (some (k, K))) := by
            unfold macObs
            rw [List.getElem?_set_ne (Ne.symm hij), List.getElem?_set_ne (Ne.symm hil)]
            exact HI.out
          have hll2 : l < obs.length := (List.getElem?_eq_some_iff.1 HLL.out).1
          have hln : (macObs obs l j b c q (notedN o k e1) m1)[l]? = some (obP q (notedN o k e1)) := by
            unfold macObs
            rw [List.getElem?_set_ne hjl, List.getElem?_set_self hll2]
          have hset1 : (macObs obs l j b c q (notedN o k e1) m1).set l (obP q (noteO (notedN o k e1) 5 k 1)) = macObs obs l j b c q (notedN o k (e1 + 1)) m1 := by
            unfold macObs
            rw [List.set_comm _ _ (Ne.symm hjl), List.set_set]
            exact List.set_comm _ _ hjl
          have hcnt : e1 ≤ p.length := by
            have h := (feedM_count (enc K (k / 4 + 6)) (p.take d) m 0 HM.out.hn).1
            rw [HS1.out, List.length_take] at h
            have h1 : m1.n = 16 := HN1.out
            have h2 := HM.out.hn
            simp only [h1] at h
            omega
          have HX := Lib.hid hX
          have HY := Lib.hid hY
          have HIN := Lib.hid hin
          have HLN := Lib.hid hln
          have HSET := Lib.hid hset1
          have HCNT := Lib.hid hcnt
          clear hS hX hY hin hln hset1 hcnt
          go_upto_region 5 with fail
          refine hd_start S (by kernel_rfl) ?_
          intro w3 hw'
          have HE3 := Lib.hid (HE.out.draw 1)
          rw [← hw'] at HE3
          clear hw' HE
          have S3 : S w3 := ES.out _ _ _ HE3.out
          refine hd_take (v := ?_) 0 rfl (by kernel_rfl) (fun _ _ d _ _ h => (by cases d <;> exact h)) (by kernel_rfl) S3 (fun w' hS => ?_) ?_
          rotate_left
          focus (clear hS; go_simp; try rfl; done)
          simp only [List.getElem_toArray, List.getElem_cons_succ, List.getElem_cons_zero, Act.put, List.setIfInBounds_toArray, List.set_cons_zero, List.set_cons_succ]
          refine hd_take (v := ?_) 1 rfl (by kernel_rfl) (fun _ _ d _ _ h => (by cases d <;> exact h)) (by kernel_rfl) S3 (fun w' hS => ?_) ?_
          rotate_left
          focus (clear hS; go_simp; try rfl; done)
          simp only [List.getElem_toArray, List.getElem_cons_succ, List.getElem_cons_zero, Act.put, List.setIfInBounds_toArray, List.set_cons_zero, List.set_cons_succ]
          refine hd_take (v := ?_) 2 rfl (by kernel_rfl) (fun _ _ d _ _ h => (by cases d <;> exact h)) (by kernel_rfl) S3 (fun w' hS => ?_) ?_
          rotate_left
          focus (clear hS; go_simp; try rfl; done)
          simp only [List.getElem_toArray, List.getElem_cons_succ, List.getElem_cons_zero, Act.put, List.setIfInBounds_toArray, List.set_cons_zero, List.set_cons_succ]
          refine hd_take (v := ?_) 3 rfl (by kernel_rfl) (fun _ _ d _ _ h => (by cases d <;> exact h)) (by kernel_rfl) S3 (fun w' hS => ?_) ?_
          rotate_left
          focus (clear hS; go_simp; try rfl; done)
          simp only [List.getElem_toArray, List.getElem_cons_succ, List.getElem_cons_zero, Act.put, List.setIfInBounds_toArray, List.set_cons_zero, List.set_cons_succ]
          refine hd_take (v := ?_) 4 rfl (by kernel_rfl) (fun _ _ d _ _ h => (by cases d <;> exact h)) (by kernel_rfl) S3 (fun w' hS => ?_) ?_
          rotate_left
          focus (have q0 := F0 w' hS; clear hS; go_simp; try rfl; done)
          simp only [List.getElem_toArray, List.getElem_cons_succ, List.getElem_cons_zero, Act.put, List.setIfInBounds_toArray, List.set_cons_zero, List.set_cons_succ]
          refine hd_take (v := ?_) 5 rfl (by kernel_rfl) (fun _ _ d _ _ h => (by cases d <;> exact h)) (by kernel_rfl) S3 (fun w' hS => ?_) ?_
          rotate_left
          focus (clear hS; go_simp; try rfl; done)
          simp only [List.getElem_toArray, List.getElem_cons_succ, List.getElem_cons_zero, Act.put, List.setIfInBounds_toArray, List.set_cons_zero, List.set_cons_succ]
          refine hd_take (v := ?_) 6 rfl (by kernel_rfl) (fun _ _ d _ _ h => (by cases d <;> exact h)) (by kernel_rfl) S3 (fun w' hS => ?_) ?_
          rotate_left
          focus (clear hS; go_simp; try rfl; done)
          simp only [List.getElem_toArray, List.getElem_cons_succ, List.getElem_cons_zero, Act.put, List.setIfInBounds_toArray, List.set_cons_zero, List.set_cons_succ]
          refine hd_take (v := ?_) 7 rfl (by kernel_rfl) (fun _ _ d _ _ h => (by cases d <;> exact h)) (by kernel_rfl) S3 (fun w' hS => ?_) ?_
          rotate_left
          focus (clear hS; go_simp; try rfl; done)
          simp only [List.getElem_toArray, List.getElem_cons_succ, List.getElem_cons_zero, Act.put, List.setIfInBounds_toArray, List.set_cons_zero, List.set_cons_succ]
          refine hd_take (v := ?_) 8 rfl (by kernel_rfl) (fun _ _ d _ _ h => (by cases d <;> exact h)) (by kernel_rfl) S3 (fun w' hS => ?_) ?_
          rotate_left
          focus (clear hS; go_simp; try rfl; done)
          simp only [List.getElem_toArray, List.getElem_cons_succ, List.getElem_cons_zero, Act.put, List.setIfInBounds_toArray, List.set_cons_zero, List.set_cons_succ]
          refine hd_take (v := ?_) 10 rfl (by kernel_rfl) (fun _ _ d _ _ h => (by cases d <;> exact h)) (by kernel_rfl) S3 (fun w' hS => ?_) ?_
          rotate_left
          focus (clear hS; go_simp; try rfl; done)
          simp only [List.getElem_toArray, List.getElem_cons_succ, List.getElem_cons_zero, Act.put, List.setIfInBounds_toArray, List.set_cons_zero, List.set_cons_succ]
          refine hd_take (v := ?_) 11 rfl (by kernel_rfl) (fun _ _ d _ _ h => (by cases d <;> exact h)) (by kernel_rfl) S3 (fun w' hS => ?_) ?_
          rotate_left
          focus (clear hS; go_simp; try rfl; done)
          simp only [List.getElem_toArray, List.getElem_cons_succ, List.getElem_cons_zero, Act.put, List.setIfInBounds_toArray, List.set_cons_zero, List.set_cons_succ]
          refine hd_take (v := ?_) 12 rfl (by kernel_rfl) (fun _ _ d _ _ h => (by cases d <;> exact h)) (by kernel_rfl) S3 (fun w' hS => ?_) ?_
          rotate_left
          focus (clear hS; go_simp; try rfl; done)
          simp only [List.getElem_toArray, List.getElem_cons_succ, List.getElem_cons_zero, Act.put, List.setIfInBounds_toArray, List.set_cons_zero, List.set_cons_succ]
          have R3 := Lib.hid (mac_ch (HE3.out.blk j (macObs_j hjl2)) OK1.out)
          have R4 := Lib.hid (mac_wt (HE3.out.blk j (macObs_j hjl2)) OK1.out)
          clear F0
          refine hd_two 9 13 (by kernel_rfl) ?_ ?_
          refine op_load rfl (by kernel_rfl) rfl rfl Try.underlying31 rfl size16 ml3 R3.out ?_
          refine ⟨S3, ?_⟩
          simp only [List.getElem_toArray, List.getElem_cons_succ, List.getElem_cons_zero, Act.put, List.setIfInBounds_toArray, List.set_cons_zero, List.set_cons_succ]
          refine hd_one 13 (by kernel_rfl) ?_
          refine op_load rfl (by kernel_rfl) rfl rfl Try.underlying31 rfl size16 ml4 R4.out ?_
          refine ⟨S3, ?_⟩
          simp only [List.getElem_toArray, List.getElem_cons_succ, List.getElem_cons_zero, Act.put, List.setIfInBounds_toArray, List.set_cons_zero, List.set_cons_succ]
          rotate_left
          refine op_load rfl (by kernel_rfl) rfl rfl Try.underlying31 rfl size16 ml4 R4.out ?_
          refine ⟨S3, ?_⟩
          simp only [List.getElem_toArray, List.getElem_cons_succ, List.getElem_cons_zero, Act.put, List.setIfInBounds_toArray, List.set_cons_zero, List.set_cons_succ]
          refine hd_one 9 (by kernel_rfl) ?_
          refine op_load rfl (by kernel_rfl) rfl rfl Try.underlying31 rfl size16 ml3 R3.out ?_
          refine ⟨S3, ?_⟩
          simp only [List.getElem_toArray, List.getElem_cons_succ, List.getElem_cons_zero, Act.put, List.setIfInBounds_toArray, List.set_cons_zero, List.set_cons_succ]
          all_goals
            refine hd_one 14 (by kernel_rfl) ?_
            refine op_call rfl (by kernel_rfl) (by go_simp; first | exact ⟨rfl, rfl⟩ | rfl) ?_
            refine (CX.out w3).mono ?_
            rintro e w4 ⟨rfl, hb⟩
            have h5 := HE3.out.below hb
            have hS2 := ES.out _ _ _ h5
            clear hb R3 R4
            have HE4 := Lib.hid h5
            clear h5 HE3
            refine ⟨_, rfl, hS2, ?_⟩
            simp only [List.getElem_toArray, List.getElem_cons_succ, List.getElem_cons_zero, Act.put, List.setIfInBounds_toArray, List.set_cons_zero, List.set_cons_succ]
            refine hd_one 15 (by kernel_rfl) ?_
            refine op_call rfl (by kernel_rfl) (by go_simp; first | exact ⟨rfl, rfl⟩ | rfl) ?_
            refine (encC_env HE4.out i l hil HIN.out HLN.out (HR.out e1 HCNT.out) hk X hXl).mono ?_
            rintro e w5 ⟨he, h5⟩
            rw [HY.out] at he
            subst he
            rw [HSET.out] at h5
            have hS2 := ES.out _ _ _ h5
            have HE5 := Lib.hid h5
            clear h5 HE4
            refine ⟨_, rfl, hS2, ?_⟩
            simp only [List.getElem_toArray, List.getElem_cons_succ, List.getElem_cons_zero, Act.put, List.setIfInBounds_toArray, List.set_cons_zero, List.set_cons_succ]
            refine hd_take (v := ?_) 16 rfl (by kernel_rfl) (fun _ _ d _ _ h => (by cases d <;> exact h)) (by kernel_rfl) hS2 (fun w' hS => ?_) ?_
            rotate_left
            focus (clear hS; go_simp; try rfl; done)
            simp only [List.getElem_toArray, List.getElem_cons_succ, List.getElem_cons_zero, Act.put, List.setIfInBounds_toArray, List.set_cons_zero, List.set_cons_succ]
            refine hd_take (v := ?_) 17 rfl (by kernel_rfl) (fun _ _ d _ _ h => (by cases d <;> exact h)) (by kernel_rfl) hS2 (fun w' hS => ?_) ?_
            rotate_left
            focus (clear hS; go_simp; try rfl; done)
            simp only [List.getElem_toArray, List.getElem_cons_succ, List.getElem_cons_zero, Act.put, List.setIfInBounds_toArray, List.set_cons_zero, List.set_cons_succ]
            refine hd_take (v := ?_) 18 rfl (by kernel_rfl) (fun _ _ d _ _ h => (by cases d <;> exact h)) (by kernel_rfl) hS2 (fun w' hS => ?_) ?_
            rotate_left
            focus (clear hS; go_simp; try rfl; done)
            simp only [List.getElem_toArray, List.getElem_cons_succ, List.getElem_cons_zero, Act.put, List.setIfInBounds_toArray, List.set_cons_zero, List.set_cons_succ]
            refine hd_take (v := ?_) 19 rfl (by kernel_rfl) (fun _ _ d _ _ h => (by cases d <;> exact h)) (by kernel_rfl) hS2 (fun w' hS => ?_) ?_
            rotate_left
            focus (clear hS; go_simp; try rfl; done)
            simp only [List.getElem_toArray, List.getElem_cons_succ, List.getElem_cons_zero, Act.put, List.setIfInBounds_toArray, List.set_cons_zero, List.set_cons_succ]
            refine hd_take (v := ?_) 20 rfl (by kernel_rfl) (fun _ _ d _ _ h => (by cases d <;> exact h)) (by kernel_rfl) hS2 (fun w' hS => ?_) ?_
            rotate_left
            focus (clear hS; go_simp; try rfl; done)
            simp only [List.getElem_toArray, List.getElem_cons_succ, List.getElem_cons_zero, Act.put, List.setIfInBounds_toArray, List.set_cons_zero, List.set_cons_succ]
            have HB5 := Lib.hid (HE5.out.blk j (macObs_j hjl2))
            have zs16 : (zB.map B).length = (m1.wt.map B).length := ml4.symm
            have sz : (Try.prog.info? 31).map (·.size) = some (zB.map B).length := size16
            have szY : (Try.prog.info? 31).map (·.size) = some (Y.map B).length := size16b _ hYl
            have oneY : ∀ v ∈ Y.map B, v.oneCell' = true := fun v hv => by
              obtain ⟨x, _, rfl⟩ := List.mem_map.1 hv
              rfl
            refine hd_one 21 (by kernel_rfl) ?_
            refine op_store_part b 33 (Y.map B) (Value.pointer (some ⟨c, 0, none⟩) :: (m1.k1.map B ++ m1.k2.map B)) (m1.ch.map B) (m1.wt.map B ++ [.int .i64 (m1.n : Int)]) rfl (by kernel_rfl) rfl rfl HB5.out (macC_ch _ _) (by simp [OK1.out.l1, OK1.out.l2]) szY hYm oneY ?_
            intro w6 B6 O6
            have HB6 : Hid (Blk w6 b 76 (macC (.pointer (some ⟨c, 0, none⟩)) ⟨m1.k1, m1.k2, Y, m1.wt, m1.n⟩)) := Lib.hid (by rw [macC_ch]; exact B6)
            have H6 : Hid (Env w0 w6 (macObs obs l j b c q (notedN o k (e1 + 1)) ⟨m1.k1, m1.k2, Y, m1.wt, m1.n⟩)) := by
              have h := HE5.out.turnBlk j (macObs_j hjl2) HB6.out O6
              unfold macObs at h ⊢
              rw [List.set_set] at h
              exact Lib.hid h
            have S6 := ES.out _ _ _ H6.out
            refine ⟨S6, ?_⟩
            simp only [List.getElem_toArray, List.getElem_cons_succ, List.getElem_cons_zero, Act.put, List.setIfInBounds_toArray, List.set_cons_zero, List.set_cons_succ]
            have OK6 : Hid (MacS.Ok ⟨m1.k1, m1.k2, Y, zB, m1.n⟩) := Lib.hid ⟨OK1.out.l1, OK1.out.l2, hYl, rfl, OK1.out.hn⟩
            clear B6 O6 HE5 HB5 S6 ml3 c65 CX hS2 S3
            refine hd_done (by kernel_rfl) ?_
            go_wp2_with ((with_reducible change wpList _ _ _ (Oper.mk _ (Op.store 31 _ _) _ _ _ _ :: _) _ _); refine wpList_store_part b 49 (zB.map B) rfl rfl (Value.pointer (some ⟨c, 0, none⟩) :: (m1.k1.map B ++ (m1.k2.map B ++ Y.map B))) (m1.wt.map B) [.int .i64 (m1.n : Int)] HB6.out (macC_wt _ _) (by simp [OK1.out.l1, OK1.out.l2, hYl]) sz zs16 zB_ones ?_; intro w5 B5 O5; have HB5 : Hid (Blk w5 b 76 (macC (.pointer (some ⟨c, 0, none⟩)) ⟨m1.k1, m1.k2, Y, zB, m1.n⟩)) := Lib.hid (by rw [macC_wt]; exact B5); clear B5; have c65 := HB5.out.cellAt 65 (macC_n OK6.out); have f65 := HB5.out.unfrozen 65)
            go_meet
            refine ⟨⟨m1.k1, m1.k2, Y, zB, 0⟩, e1 + 1, Lib.hid ⟨?_, ⟨OK1.out.l1, OK1.out.l2, hYl, rfl, Nat.zero_le _⟩, by show 0 < 16; omega, fun r hr => ?_⟩⟩
            · have h1 := HB5.out.set 65 (.int .i64 ((0 : Nat) : Int))
              rw [macC_setk _ _ OK6.out] at h1
              have h := H6.out.turnBlk j (macObs_j hjl2) h1 (O5.set (.inl rfl) _)
              unfold macObs at h ⊢
              rw [List.set_set] at h
              exact h
            · rw [feedM_full (enc K (k / 4 + 6)) r m1 e1 HN1.out hr]
              unfold flushM
              rw [HX.out, HY.out]
        · have hfb : ((n1 : Int) == 16) = false := by simp; omega
          go_wp2_with fail
          go_meet
          exact ⟨m1, e1, Lib.hid ⟨HE.out, OK1.out, by rw [HN1.out]; omega, fun _ _ => rfl⟩⟩
      case rest =>
        obtain ⟨m2, e2, HC⟩ := hcut
        have bM := HC.out.1.blk j (macObs_j hjl2)
        have cN := bM.cellAt 65 (macC_n HC.out.2.1)
        obtain ⟨n2, hn2⟩ : ∃ n2, m2.n = n2 := ⟨_, rfl⟩
        rw [hn2] at cN
        have n216 : n2 < 16 := by rw [← hn2]; exact HC.out.2.2.1
        have HN2 := Lib.hid hn2
        have HBM := Lib.hid bM
        have hsl : ∀ w', (Instr.sliceAt 31 (.pointer (some ⟨b, 49, none⟩)) (some (.int .i64 (n2 : Int))) none none).run Try.prog w' = .ok (.slice (some ⟨b, 49 + n2, none⟩) (16 - n2) (16 - n2)) w' := fun w' => by
          have hal : Try.prog.arrayLen 31 = 16 := by kernel_rfl
          rw [run_sliceAt_array_l w' 31 ⟨b, 49, none⟩ (by simp [Program.arrayLen, Program.elem, Try.underlying31]) .i64 (n2 : Int) (by omega) (by rw [hal]; omega)]
          have hsz : (sizeOf (Try.prog.elem 31)).run Try.prog w' = .ok 1 w' := by kernel_rfl
          rw [hsz, Result.andThen_ok, hal]
          unfold slicedAt
          rw [show ((n2 : Int)).toNat = n2 from by omega, if_neg (by omega), add_lit]
          simp
        obtain ⟨S, hS⟩ : ∃ S : World → Prop, S = fun wx => wx.cell? ⟨b, 65, none⟩ = some (.int .i64 (n2 : Int)) := ⟨_, rfl⟩
        have FN : ∀ wx, S wx → wx.cell? ⟨b, 65, none⟩ = some (.int .i64 (n2 : Int)) := fun wx h => by rw [hS] at h; exact h
        have FS : ∀ wx, S wx → (Instr.sliceAt 31 (.pointer (some ⟨b, 49, none⟩)) (some (.int .i64 (n2 : Int))) none none).run Try.prog wx = .ok (.slice (some ⟨b, 49 + n2, none⟩) (16 - n2) (16 - n2)) wx := fun wx _ => hsl wx
        have SF : Hid (∀ wx, wx.cell? ⟨b, 65, none⟩ = some (.int .i64 (n2 : Int)) → S wx) := Lib.hid (fun wx h => by rw [hS]; exact h)
        have S1 : S wc := SF.out wc cN
        clear hS hn2 bM hsl cN
        go_upto_region 7 with fail
        refine hd_start S (by kernel_rfl) ?_
        intro w3 hw'
        have S3 : S w3 := by rw [hw']; exact SF.out _ (show wc.cell? ⟨b, 65, none⟩ = _ from FN _ S1)
        refine hd_take (v := ?_) 0 rfl (by kernel_rfl) (fun _ _ d _ _ h => (by cases d <;> exact h)) (by kernel_rfl) S3 (fun w' hS => ?_) ?_
        rotate_left
        focus (clear hS; go_simp; try rfl; done)
        simp only [List.getElem_toArray, List.getElem_cons_succ, List.getElem_cons_zero, Act.put, List.setIfInBounds_toArray, List.set_cons_zero, List.set_cons_succ]
        refine hd_take (v := ?_) 1 rfl (by kernel_rfl) (fun _ _ d _ _ h => (by cases d <;> exact h)) (by kernel_rfl) S3 (fun w' hS => ?_) ?_
        rotate_left
        focus (clear hS; go_simp; try rfl; done)
        simp only [List.getElem_toArray, List.getElem_cons_succ, List.getElem_cons_zero, Act.put, List.setIfInBounds_toArray, List.set_cons_zero, List.set_cons_succ]
        refine hd_take (v := ?_) 2 rfl (by kernel_rfl) (fun _ _ d _ _ h => (by cases d <;> exact h)) (by kernel_rfl) S3 (fun w' hS => ?_) ?_
        rotate_left
        focus (clear hS; go_simp; try rfl; done)
        simp only [List.getElem_toArray, List.getElem_cons_succ, List.getElem_cons_zero, Act.put, List.setIfInBounds_toArray, List.set_cons_zero, List.set_cons_succ]
        refine hd_take (v := ?_) 3 rfl (by kernel_rfl) (fun _ _ d _ _ h => (by cases d <;> exact h)) (by kernel_rfl) S3 (fun w' hS => ?_) ?_
        rotate_left
        focus (clear hS; go_simp; try rfl; done)
        simp only [List.getElem_toArray, List.getElem_cons_succ, List.getElem_cons_zero, Act.put, List.setIfInBounds_toArray, List.set_cons_zero, List.set_cons_succ]
        refine hd_take (v := ?_) 4 rfl (by kernel_rfl) (fun _ _ d _ _ h => (by cases d <;> exact h)) (by kernel_rfl) S3 (fun w' hS => ?_) ?_
        rotate_left
        focus (clear hS; go_simp; try rfl; done)
        simp only [List.getElem_toArray, List.getElem_cons_succ, List.getElem_cons_zero, Act.put, List.setIfInBounds_toArray, List.set_cons_zero, List.set_cons_succ]
        refine hd_take (v := ?_) 5 rfl (by kernel_rfl) (fun _ _ d _ _ h => (by cases d <;> exact h)) (by kernel_rfl) S3 (fun w' hS => ?_) ?_
        rotate_left
        focus (clear hS; go_simp; try rfl; done)
        simp only [List.getElem_toArray, List.getElem_cons_succ, List.getElem_cons_zero, Act.put, List.setIfInBounds_toArray, List.set_cons_zero, List.set_cons_succ]
        refine hd_take (v := ?_) 6 rfl (by kernel_rfl) (fun _ _ d _ _ h => (by cases d <;> exact h)) (by kernel_rfl) S3 (fun w' hS => ?_) ?_
        rotate_left
        focus (have q0 := FN w' hS; clear hS; go_simp; try rfl; done)
        simp only [List.getElem_toArray, List.getElem_cons_succ, List.getElem_cons_zero, Act.put, List.setIfInBounds_toArray, List.set_cons_zero, List.set_cons_succ]
        refine hd_take (v := ?_) 7 rfl (by kernel_rfl) (fun _ _ d _ _ h => (by cases d <;> exact h)) (by kernel_rfl) S3 (fun w' hS => ?_) ?_
        rotate_left
        focus (have q0 := FS w' hS; clear hS; go_simp; try rfl; done)
        simp only [List.getElem_toArray, List.getElem_cons_succ, List.getElem_cons_zero, Act.put, List.setIfInBounds_toArray, List.set_cons_zero, List.set_cons_succ]
        refine hd_take (v := ?_) 8 rfl (by kernel_rfl) (fun _ _ d _ _ h => (by cases d <;> exact h)) (by kernel_rfl) S3 (fun w' hS => ?_) ?_
        rotate_left
        focus (clear hS; go_simp; try rfl; done)
        simp only [List.getElem_toArray, List.getElem_cons_succ, List.getElem_cons_zero, Act.put, List.setIfInBounds_toArray, List.set_cons_zero, List.set_cons_succ]
        obtain ⟨ao2, cap2, hv2, q1, q2, q3, q4⟩ := (HSR.out wc _ _ HC.out.1).form
        injection hv2 with r1 r2 r3
        subst r1 r3
        obtain ⟨sb, so, rfl, _⟩ := q4 0 (by rw [HNN.out]; omega)
        obtain ⟨kk, hkk⟩ : ∃ kk, min N (16 - n2) = kk := ⟨_, rfl⟩
        have csl : (((p.drop d).take kk).map B).length = kk := by rw [List.length_map, List.length_take, HNN.out]; omega
        have hw1 : m2.wt.length = 16 := HC.out.2.1.l4
        have hsrc : ∀ j v, (((p.drop d).take kk).map B)[j]? = some v → w3.cell? ((⟨sb, so, none⟩ : Addr).add j) = some v := by
          intro jj v hv
          have hjk : jj < kk := by have := (List.getElem?_eq_some_iff.1 hv).1; omega
          obtain ⟨b2, o2, hb2, hc2⟩ := q4 jj (by rw [HNN.out]; omega)
          injection hb2 with hb2
          injection hb2 with t1 t2 _
          subst t1 t2
          rw [hw', add_lit]
          refine (show wc.cell? ⟨sb, so + jj, none⟩ = _ from hc2).trans ?_
          rw [← hv, List.getElem?_map, List.getElem?_take_of_lt hjk]
          have hlt2 : jj < (p.drop d).length := by rw [HNN.out]; omega
          rw [List.getD_eq_getElem?_getD, List.getElem?_eq_getElem hlt2]
          rfl
        have HB3 : Blk w3 b 76 (macC (.pointer (some ⟨c, 0, none⟩)) m2) := by rw [hw']; exact HBM.out
        have hcut : macC (.pointer (some ⟨c, 0, none⟩)) m2 = ((Value.pointer (some ⟨c, 0, none⟩) :: (m2.k1.map B ++ (m2.k2.map B ++ (m2.ch.map B ++ (m2.wt.take n2).map B)))) ++ (((m2.wt.drop n2).take kk).map B ++ ((m2.wt.drop (n2 + kk)).map B ++ [Value.int .i64 (m2.n : Int)]))).toArray := by
          have e : m2.wt = m2.wt.take n2 ++ ((m2.wt.drop n2).take kk ++ m2.wt.drop (n2 + kk)) := by
            rw [← List.drop_drop, List.take_append_drop, List.take_append_drop]
          unfold macC
          conv => lhs; rw [e]
          simp
        refine hd_one 9 (by kernel_rfl) ?_
        refine op_copy rfl rfl (.tmp 54) (.tmp 55) 22 22 rfl 5 Try.underlying22 (by kernel_rfl) b (49 + n2) (16 - n2) (16 - n2) ⟨sb, so, none⟩ N cap rfl rfl _ _ _ (((p.drop d).take kk).map B) HB3 hcut (by simp [HC.out.2.1.l1, HC.out.2.1.l2, HC.out.2.1.l3, hw1]; omega) (by rw [csl, List.length_map, List.length_take, List.length_drop, hw1]; omega) (by rw [csl]; exact hkk.symm) hsrc (fun v hv => by obtain ⟨x, _, rfl⟩ := List.mem_map.1 hv; rfl) ?_
        intro w4 B4 O4
        have hset : setsU m2.wt n2 ((p.drop d).take kk) = m2.wt.take n2 ++ (p.drop d).take kk ++ m2.wt.drop (n2 + kk) := by
          have h1 : (m2.wt.take n2).length = n2 := by rw [List.length_take, hw1]; omega
          have h2 : ((p.drop d).take kk).length = kk := by rw [List.length_take, HNN.out]; omega
          have h := setsU_app ((p.drop d).take kk) (m2.wt.take n2) (m2.wt.drop n2) (by rw [h2, List.length_drop, hw1]; omega)
          rw [List.take_append_drop, h1, h2, List.drop_drop] at h
          exact h
        have B5 : Hid (Blk w4 b 76 (macC (.pointer (some ⟨c, 0, none⟩)) ⟨m2.k1, m2.k2, m2.ch, setsU m2.wt n2 ((p.drop d).take kk), m2.n⟩)) := by
          have e : macC (.pointer (some ⟨c, 0, none⟩)) ⟨m2.k1, m2.k2, m2.ch, setsU m2.wt n2 ((p.drop d).take kk), m2.n⟩ = ((Value.pointer (some ⟨c, 0, none⟩) :: (m2.k1.map B ++ (m2.k2.map B ++ (m2.ch.map B ++ (m2.wt.take n2).map B)))) ++ (((p.drop d).take kk).map B ++ ((m2.wt.drop (n2 + kk)).map B ++ [Value.int .i64 (m2.n : Int)]))).toArray := by
            unfold macC
            rw [hset]
            simp
          rw [e]
          exact Lib.hid B4
        have OK5 : Hid (MacS.Ok ⟨m2.k1, m2.k2, m2.ch, setsU m2.wt n2 ((p.drop d).take kk), m2.n⟩) := Lib.hid ⟨HC.out.2.1.l1, HC.out.2.1.l2, HC.out.2.1.l3, by show (setsU _ _ _).length = 16; rw [hset]; simp [hw1, HNN.out]; omega, HC.out.2.1.hn⟩
        have c5 := B5.out.cellAt 65 (macC_n OK5.out)
        rw [show (MacS.n ⟨m2.k1, m2.k2, m2.ch, setsU m2.wt n2 ((p.drop d).take kk), m2.n⟩) = n2 from HN2.out] at c5
        have S4 := SF.out w4 c5
        have O5 : Hid (Only (fun x => x = b) wc w4) := by
          have h := (Only.refl (fun x => x = b) wc).draw 1
          rw [← hw'] at h
          exact Lib.hid (h.trans O4 (fun x hx => .inl hx))
        refine ⟨S4, ?_⟩
        simp only [List.getElem_toArray, List.getElem_cons_succ, List.getElem_cons_zero, Act.put, List.setIfInBounds_toArray, List.set_cons_zero, List.set_cons_succ]
        rw [csl]
        clear B4 O4 hcut hsrc HB3 q1 q2 q3 q4 FN FS hset hw'
        refine hd_one 10 (by kernel_rfl) ?_
        refine op_run rfl (by kernel_rfl) (by go_simp; first | done | exact ⟨rfl, rfl⟩ | rfl) ?_
        refine ⟨S4, ?_⟩
        simp only [List.getElem_toArray, List.getElem_cons_succ, List.getElem_cons_zero, Act.put, List.setIfInBounds_toArray, List.set_cons_zero, List.set_cons_succ]
        refine hd_done (by kernel_rfl) ?_
        have f5 := B5.out.unfrozen 65
        have hwr : IntKind.i64.wrap ((n2 : Int) + (kk : Int)) = ((n2 + kk : Nat) : Int) := by rw [IntWalk.i64_in _ (by omega)]; omega
        have hkN : kk ≤ N := by omega
        have hk0 : 0 < kk := by omega
        have hNc : N ≤ cap := by have := hcap.1; omega
        have B6 : Hid (Blk (w4.setCell ⟨b, 65, none⟩ (.int .i64 ((n2 + kk : Nat) : Int))) b 76 (macC (.pointer (some ⟨c, 0, none⟩)) ⟨m2.k1, m2.k2, m2.ch, setsU m2.wt n2 ((p.drop d).take kk), n2 + kk⟩)) := by
          have h := B5.out.set 65 (.int .i64 ((n2 + kk : Nat) : Int))
          rw [macC_setk _ _ OK5.out] at h
          exact Lib.hid h
        have HENV : Hid (Env w0 (w4.setCell ⟨b, 65, none⟩ (.int .i64 ((n2 + kk : Nat) : Int))) (macObs obs l j b c q (notedN o k (feedM (enc K (k / 4 + 6)) (m, 0) (p.take (d + kk))).2) (feedM (enc K (k / 4 + 6)) (m, 0) (p.take (d + kk))).1)) := by
          have hne : (p.drop d).take kk ≠ [] := fun h => by have := congrArg List.length h; rw [List.length_take, HNN.out, List.length_nil] at this; omega
          have hfe : feedM (enc K (k / 4 + 6)) (m, 0) (p.take (d + kk)) = (⟨m2.k1, m2.k2, m2.ch, setsU m2.wt n2 ((p.drop d).take kk), n2 + kk⟩, e2) := by
            rw [List.take_add, feedM_app, HS1.out, ← HC.out.2.2.2 _ hne, feedM_room _ _ _ _ (by rw [HN2.out, List.length_take, HNN.out]; omega), HN2.out, List.length_take, HNN.out, show min kk N = kk from by omega]
          rw [hfe]
          have h := HC.out.1.turnBlk j (macObs_j hjl2) B6.out (O5.out.set (.inl rfl) _)
          unfold macObs at h ⊢
          rw [List.set_set] at h
          exact Lib.hid h
        clear O5 B6 B5
        go_wp2_with fail
        refine ⟨⟨d + kk, by have := HDM.out; omega, Lib.hid ⟨?_, fun wx o3 m3 h => ?_⟩⟩, ?_⟩
        · have h := HENV.out
          rw [Int.natCast_add] at h
          exact h
        · have h2 := HSR.out wx o3 m3 h
          have h3 := Bs.cut h2 kk (by rw [HNN.out]; exact hkN)
          rw [HNN.out, List.drop_drop] at h3
          exact h3
        · show N - kk < N
          omega
    · obtain rfl : d = p.length := by omega
      have h0 : (p.drop p.length).length = 0 := by rw [hdl]; omega
      rw [h0]
      have HE := HV.out.env
      rw [List.take_length] at HE
      have HE2 := Lib.hid HE
      clear HE HV hdl h0 hcap
      go_wp2
      go_ret
      exact ⟨rfl, HE2.out⟩
end
end Go.Proofs.Ytpampcokonicfaa
/- Mac.Wipe and Tag over a world that is a list of things; a New that is refused. -/
namespace Go.Proofs.Ytpampcokonicfaa
open Go.RowKit
set_option maxRecDepth 100000
set_option linter.unusedVariables false
set_option linter.unusedSimpArgs false
section
variable {w0 w : World} {obs : List Ob}
theorem zeroMac (w : World) : (zeroValue 76).run Try.prog w = .ok (.agg (macC (.pointer none) zM)) w := by kernel_rfl
theorem zM_ok : zM.Ok := ⟨rfl, rfl, rfl, rfl, by decide⟩
theorem formOf_len {K : List UInt8} {k : Nat} {m : MacS} (hK : K.length = 240) (hk : k ≤ 32) (hm : m.Ok) : (formOf K k m).length = 16 * (k / 4 + 6 + 1) + 65 := by
  unfold formOf MacS.tail
  rw [List.length_append, List.length_append, MacS.all_len hm, List.length_take, hK, List.length_singleton]
  omega
set_option maxHeartbeats 2000000 in
theorem wipeM_env (h : Env w0 w obs) (i j l : Nat) (hij : i ≠ j) (hil : i ≠ l) (hjl : j ≠ l) {b c k : Nat} {K : List UInt8} {m : MacS} {q : Value} {o : Option (List Rn)} (hi : obs[i]? = some (obC (.pointer (some ⟨c, 0, none⟩)) (some (k, K)))) (hj : obs[j]? = some (obK b 76 (macC (.pointer (some ⟨c, 0, none⟩)) m))) (hl : obs[l]? = some (obP q o)) (hb : Room o 1) (hm : m.Ok) (hk : 0 < k) (hk2 : k ≤ 32) (hK : K.length = 240) :
    Calls Try.prog 32 #[.pointer (some ⟨b, 0, none⟩), q] w fun e w' => e = .returned (.int .i64 0) ∧ Env w0 w' (((obs.set l (obP q (noteO o 8 ((16 * (k / 4 + 6 + 1) + 65 : Nat) : Int) 1))).set i (obC (.pointer (some ⟨c, 0, none⟩)) (some (0, zeroK)))).set j (obK b 76 (macC (.pointer none) zM))) := by
  have H := Lib.hid h
  have HI := Lib.hid hi
  have HJ := Lib.hid hj
  have HL := Lib.hid hl
  have HM := Lib.hid hm
  have B0 := Lib.hid (h.blk j hj)
  have FL := Lib.hid (formOf_len hK hk2 hm)
  have HK := Lib.hid hK
  have HB := Lib.hid hb
  have hil2 : i < obs.length := (List.getElem?_eq_some_iff.1 hi).1
  have hjl2 : j < obs.length := (List.getElem?_eq_some_iff.1 hj).1
  have hll2 : l < obs.length := (List.getElem?_eq_some_iff.1 hl).1
  clear h hi hj hl hm hK hb
  go_enter Try.func32, Try.ntmps32
  go_wp2_with fail
  refine (mmade_any b c m w B0.out).mono ?_
  rintro e w1 ⟨rfl, rfl⟩
  go_wp2_with fail
  refine (formM_env H.out i j HI.out HJ.out HM.out hk hk2 HK.out).mono ?_
  rintro e w1 ⟨v, rfl, h1⟩
  obtain ⟨ao, cap, hv⟩ := (Env.bytes h1 (obs.length + 0) (at_r rfl 0)).any
  rw [FL.out] at hv
  obtain ⟨L, hL⟩ : ∃ L, 16 * (k / 4 + 6 + 1) + 65 = L := ⟨_, rfl⟩
  rw [hL] at hv
  subst hv
  have H1 := Lib.hid h1.drop
  have HLL := Lib.hid hL
  clear h1 hL
  go_wp2_with fail
  refine (noteP_env H1.out l HL.out 8 (L : Int) HB.out).mono ?_
  rintro e w2 ⟨rfl, h2⟩
  have H2 := Lib.hid h2
  have c2 := (h2.blk j (by rw [List.getElem?_set_ne (Ne.symm hjl)]; exact HJ.out)).cellAt 0 (macC_c _ m)
  have i2 : (obs.set l (obP q (noteO o 8 (L : Int) 1)))[i]? = some (obC (.pointer (some ⟨c, 0, none⟩)) (some (k, K))) := by rw [List.getElem?_set_ne (Ne.symm hil)]; exact HI.out
  have I2 := Lib.hid i2
  clear h2 H1 i2
  go_wp2_with fail
  refine (wipeC_nil H2.out i I2.out hk).mono ?_
  rintro e w3 ⟨rfl, h3⟩
  have H3 := Lib.hid h3
  have hj3 : ((obs.set l (obP q (noteO o 8 (L : Int) 1))).set i (obC (.pointer (some ⟨c, 0, none⟩)) (some (0, zeroK))))[j]? = some (obK b 76 (macC (.pointer (some ⟨c, 0, none⟩)) m)) := by
    rw [List.getElem?_set_ne hij, List.getElem?_set_ne (Ne.symm hjl)]; exact HJ.out
  have B3 := Lib.hid (h3.blk j hj3)
  have HJ3 := Lib.hid hj3
  have hs : (macC (.pointer (some ⟨c, 0, none⟩)) m).size = 66 := macC_size HM.out
  have hz := zeroMac
  have hzs : (macC (.pointer none) zM).size = 66 := macC_size zM_ok
  have hzo := macC_one (c := .pointer none) rfl zM
  obtain ⟨Z, hZ⟩ : ∃ Z, macC (.pointer none) zM = Z := ⟨_, rfl⟩
  rw [hZ] at hz hzs hzo
  have HZ := Lib.hid hZ
  clear h3 H2 c2 hj3 hZ
  have HBN : Hid (Try.prog.built 76 [] = some Z) := by rw [← HZ.out]; exact Lib.hid built_none
  go_wp2_with (first | ((with_reducible change wpList _ _ _ (Oper.mk _ (Op.build 76 _) _ _ _ _ :: _) _ _); refine wpList_value (.agg Z) rfl (exec_build 76 #[] rfl _ HBN.out) ?_) | ((with_reducible change wpList _ _ _ (Oper.mk _ (Op.store 76 _ _) _ _ _ _ :: _) _ _); refine wpList_store_var b Z rfl rfl B3.out size66 hzs hs hzo ?_; intro w4 B4 O4; have H4 := Lib.hid (H3.out.turnBlk j HJ3.out B4 O4); clear B4 O4))
  go_ret
  refine ⟨rfl, ?_⟩
  have h := H4.out
  rw [← HLL.out, ← HZ.out] at h
  rw [HLL.out] at h ⊢
  exact h
theorem wipeM_no {p q : Value} (hm : Calls Try.prog 48 #[p] w fun e w' => e = .returned (.bool false) ∧ w = w') :
    Calls Try.prog 32 #[p, q] w fun e w' => e = .returned (.int .i64 1) ∧ w = w' := by
  have HM := Lib.hid hm
  clear hm
  go_enter Try.func32, Try.ntmps32
  go_wp2_with fail
  refine HM.out.mono ?_
  rintro e w' ⟨rfl, rfl⟩
  go_wp2
  go_ret
  exact ⟨rfl, rfl⟩
theorem resetM_no {p : Value} (hm : Calls Try.prog 48 #[p] w fun e w' => e = .returned (.bool false) ∧ w = w') :
    Calls Try.prog 26 #[p] w fun e w' => e = .returned (.int .i64 1) ∧ w = w' := by
  have HM := Lib.hid hm
  clear hm
  go_enter Try.func26, Try.ntmps26
  go_wp2_with fail
  refine HM.out.mono ?_
  rintro e w' ⟨rfl, rfl⟩
  go_wp2
  go_ret
  exact ⟨rfl, rfl⟩
theorem writeM_no {p q u : Value} (hm : Calls Try.prog 48 #[p] w fun e w' => e = .returned (.bool false) ∧ w = w') :
    Calls Try.prog 21 #[p, q, u] w fun e w' => e = .returned (.int .i64 1) ∧ w = w' := by
  have HM := Lib.hid hm
  clear hm
  go_enter Try.func21, Try.ntmps21
  go_wp2_with fail
  refine HM.out.mono ?_
  rintro e w' ⟨rfl, rfl⟩
  go_wp2
  go_ret
  exact ⟨rfl, rfl⟩
theorem cloneM_no {p : Value} (hm : Calls Try.prog 48 #[p] w fun e w' => e = .returned (.bool false) ∧ w = w') :
    Calls Try.prog 30 #[p] w fun e w' => e = .returned (.tuple #[.pointer none, .int .i64 1]) ∧ w = w' := by
  have HM := Lib.hid hm
  clear hm
  go_enter Try.func30, Try.ntmps30
  go_wp2_with fail
  refine HM.out.mono ?_
  rintro e w' ⟨rfl, rfl⟩
  go_wp2
  go_ret2
  exact ⟨rfl, rfl⟩
theorem sumM_no {p q : Value} (hm : Calls Try.prog 48 #[p] w fun e w' => e = .returned (.bool false) ∧ w = w') :
    Calls Try.prog 22 #[p, q] w fun e w' => e = .returned (.tuple #[.slice none 0 0, .int .i64 1]) ∧ w = w' := by
  have HM := Lib.hid hm
  clear hm
  go_enter Try.func22, Try.ntmps22
  go_wp2_with fail
  refine HM.out.mono ?_
  rintro e w' ⟨rfl, rfl⟩
  go_wp2
  go_ret2
  exact ⟨rfl, rfl⟩
/-- a key of a wrong length -/
theorem newM_off (q u : Value) (key : List UInt8) (w : World) (hu : Bs w u key) (hk : ¬ RightLen key.length) :
    Calls Try.prog 10 #[q, u] w fun e w' => e = .returned (.tuple #[.pointer none, .int .i64 7]) ∧ w = w' := by
  have HU := Lib.hid hu
  have HK := Lib.hid hk
  clear hu hk
  go_enter Try.func10, Try.ntmps10
  go_wp2_with fail
  refine (newC_off q u key w HU.out ⟨fun h => HK.out (.inl h), fun h => HK.out (.inr (.inl h)), fun h => HK.out (.inr (.inr h))⟩).mono ?_
  rintro e w' ⟨rfl, rfl⟩
  go_wp2
  go_ret2
  exact ⟨rfl, rfl⟩
end
end Go.Proofs.Ytpampcokonicfaa
/- cmac.Tag over a world that is a list of things; what a Mac's state is behind a message. Conditions: the key has 16, 24 or 32 bytes. -/
namespace Go.Proofs.Ytpampcokonicfaa
open Go.RowKit
set_option maxRecDepth 100000
set_option linter.unusedVariables false
set_option linter.unusedSimpArgs false
/-- the state behind a message, how many blocks were enciphered -/
def stM (key p : List UInt8) : MacS × Nat := feedM (enc (sched key) (key.length / 4 + 6)) (newM key, 0) p
def tagK (key p : List UInt8) : List UInt8 := tagOf (sched key) key.length (stM key p).1
theorem newM_ok (key : List UInt8) : (newM key).Ok := ⟨dbl_length _, dbl_length _, rfl, rfl, by show 0 ≤ 16; omega⟩
theorem stM_ok (key p : List UInt8) : (stM key p).1.Ok := feedM_ok (fun _ => enc_len _ _ _) p (newM_ok key)
theorem stM_app (key p r : List UInt8) : stM key (p ++ r) = feedM (enc (sched key) (key.length / 4 + 6)) (stM key p) r := feedM_app _ _ _ _
theorem stM_nil (key : List UInt8) : stM key [] = (newM key, 0) := rfl
theorem tagOf_len (K : List UInt8) (k : Nat) (m : MacS) : (tagOf K k m).length = 16 := enc_len _ _ _
theorem tagK_len (key p : List UInt8) : (tagK key p).length = 16 := tagOf_len _ _ _
theorem RightLen.bd {n : Nat} (h : RightLen n) : 0 < n ∧ n ≤ 32 ∧ n % 4 = 0 := by rcases h with h | h | h <;> omega
/-- so many blocks more -/
theorem feedM_add (E : List UInt8 → List UInt8) : ∀ (p : List UInt8) (m : MacS) (e : Nat), feedM E (m, e) p = ((feedM E (m, 0) p).1, e + (feedM E (m, 0) p).2)
  | [], m, e => rfl
  | x :: r, m, e => by
    show feedM E (stepM E (m, e) x) r = ((feedM E (stepM E (m, 0) x) r).1, e + (feedM E (stepM E (m, 0) x) r).2)
    unfold stepM
    by_cases hn : m.n = 16
    · simp only [if_pos hn]
      rw [feedM_add E r _ (e + 1), feedM_add E r _ (0 + 1)]
      simp only [Prod.mk.injEq, true_and]
      omega
    · simp only [if_neg hn]
      exact feedM_add E r _ e
theorem stM_count (key p : List UInt8) : 16 * (stM key p).2 + (stM key p).1.n = p.length ∧ (p ≠ [] → 1 ≤ (stM key p).1.n) ∧ (stM key p).1.n ≤ 16 := by
  have h := feedM_count (enc (sched key) (key.length / 4 + 6)) p (newM key) 0 (by show 0 ≤ 16; omega)
  refine ⟨?_, h.2.1, h.2.2⟩
  have h1 := h.1
  rw [show (newM key).n = 0 from rfl] at h1
  unfold stM
  omega
/-! ### notes -/
theorem notedN_none (k e : Nat) : notedN none k e = none := by
  induction e with
  | zero => rfl
  | succ e ih => unfold notedN; rw [ih]; rfl
theorem notedN_add (o : Option (List Rn)) (k a : Nat) : ∀ b, notedN (notedN o k a) k b = notedN o k (a + b)
  | 0 => rfl
  | b + 1 => by
    show noteO (notedN (notedN o k a) k b) 5 k 1 = noteO (notedN o k (a + b)) 5 k 1
    rw [notedN_add o k a b]
theorem notedN_room {o : Option (List Rn)} {n : Int} (h : Room o n) (k : Nat) (e : Nat) (he : (e : Int) + 1 ≤ n) (hlen : ∀ rs, o = some rs → rs.length + e ≤ 1099511627776 ) : Room (notedN o k e) 1 := by
  cases o with
  | none => rw [notedN_none]; exact Room.none 1
  | some rs =>
    have key : ∀ e : Nat, ∃ rs', notedN (some rs) k e = some rs' ∧ tot rs' = tot rs + e ∧ rs'.length ≤ rs.length + e := by
      intro e
      induction e with
      | zero => exact ⟨rs, rfl, by simp, by simp⟩
      | succ e ih =>
        obtain ⟨rs', h1, h2, h3⟩ := ih
        refine ⟨noteL rs' 5 k 1, by unfold notedN; rw [h1]; rfl, by rw [tot_note, h2]; omega, ?_⟩
        have := noteL_len rs' 5 k 1
        omega
    obtain ⟨rs', h1, h2, h3⟩ := key e
    rw [h1]
    have h4 := (h rs rfl).1
    have h5 := hlen rs rfl
    exact Room.some (by omega) (by omega)
/-- the notes of a Mac's life: the key, then so many blocks -/
theorem notedN_runs (k e : Nat) : notedN (some [⟨4, k, 1⟩]) k (e + 1) = some [⟨4, k, 1⟩, ⟨5, k, ((e + 1 : Nat) : Int)⟩] := by
  induction e with
  | zero => rfl
  | succ e ih =>
    show noteO (notedN (some [⟨4, k, 1⟩]) k (e + 1)) 5 k 1 = _
    rw [ih]
    show some (noteL ([⟨4, k, 1⟩] ++ [⟨5, k, ((e + 1 : Nat) : Int)⟩]) 5 k 1) = _
    have h := noteL_same [(⟨4, (k : Int), 1⟩ : Rn)] ⟨5, k, ((e + 1 : Nat) : Int)⟩ 1
    rw [show noteL ([⟨4, (k : Int), 1⟩] ++ [⟨5, k, ((e + 1 : Nat) : Int)⟩]) 5 k 1 = _ from h]
    simp
/-- room for all notes of a message -/
def RoomN (o : Option (List Rn)) (k : Nat) (n : Nat) : Prop := ∀ e, e ≤ n → Room (notedN o k e) 1
theorem RoomN.none (k n : Nat) : RoomN none k n := fun e _ => by rw [notedN_none]; exact Room.none 1
theorem RoomN.step {o : Option (List Rn)} {k n m a : Nat} (h : RoomN o k n) (ha : a + m ≤ n) : RoomN (notedN o k a) k m := fun e he => by
  rw [notedN_add]
  exact h _ (by omega)
theorem RoomN.room {o : Option (List Rn)} {k n : Nat} (h : RoomN o k n) : Room o 1 := h 0 (by omega)
theorem RoomN.begin (k n : Nat) (hn : n ≤ 1000000000000000) : RoomN (some [⟨4, k, 1⟩]) k n := fun e he => by
  cases e with
  | zero => exact Room.some (by simp [tot, notedN]) (by simp)
  | succ e =>
    rw [notedN_runs]
    exact Room.some (by simp [tot]; omega) (by simp)
theorem RoomN.some2 {k a : Nat} (n : Nat) (hn : a + n ≤ 1000000000000000) : RoomN (notedN (some [⟨4, k, 1⟩]) k a) k n := RoomN.step (RoomN.begin k (a + n) hn) (Nat.le_refl _)
/-! ### what is read while others turn -/
def Rd (w0 : World) (obs : List Ob) (l : Nat) (u : Value) (p : List UInt8) : Prop := ∀ wx obs', Env w0 wx obs' → (∀ x ob, x ≠ l → obs[x]? = some ob → obs'[x]? = some ob) → Bs wx u p
theorem Rd.old {w0 : World} {obs : List Ob} {l : Nat} {u : Value} {p : List UInt8} (h : Bs w0 u p) : Rd w0 obs l u p := fun wx obs' he _ => he.old h
theorem Rd.whole {w0 : World} {obs : List Ob} {l : Nat} {u : Value} {p : List UInt8} (i : Nat) (hi : i ≠ l) (h : obs[i]? = some (obB u p)) : Rd w0 obs l u p := fun wx obs' he hk => (he.bytes i (hk i _ hi h)).rd
theorem Rd.lent {w0 : World} {obs : List Ob} {l : Nat} {g cap : Nat} {p : List UInt8} (i : Nat) (hi : i ≠ l) (h : obs[i]? = some (obB (.slice (some ⟨g, 0, none⟩) (lent p).length cap) (lent p))) : Rd w0 obs l (.slice (some ⟨g, 0, none⟩) p.length cap) p := fun wx obs' he hk => by
  have := (he.bytes i (hk i _ hi h)).part 0 p.length (by rw [lent_length]; omega)
  rw [lent_take] at this
  exact this
section
variable {w0 w : World} {obs : List Ob}
/-- an array of sixteen bytes reads as a row of bytes -/
theorem Env.tagR (h : Env w0 w obs) (i : Nat) {g : Nat} {T : List UInt8} (hT : T.length = 16) (hi : obs[i]? = some (obK g 31 (barr T))) : Bs w (.slice (some ⟨g, 0, none⟩) 16 16) T := by
  have h := ((h.blk i hi).owns (by omega)).rd
  rw [hT] at h
  exact h
/-- Write of a message, the state told by the message so far -/
theorem writeK_env (h : Env w0 w obs) (i j l : Nat) (hij : i ≠ j) (hil : i ≠ l) (hjl : j ≠ l) {b c : Nat} {key p0 : List UInt8} (hk : RightLen key.length) {q : Value} {o : Option (List Rn)} (hi : obs[i]? = some (obC (.pointer (some ⟨c, 0, none⟩)) (some (key.length, sched key)))) (hj : obs[j]? = some (obK b 76 (macC (.pointer (some ⟨c, 0, none⟩)) (stM key p0).1))) (hl : obs[l]? = some (obP q o))
    {u : Value} {p : List UInt8} (hp : ∀ wx obs', Env w0 wx obs' → (∀ x ob, x ≠ l → x ≠ j → obs[x]? = some ob → obs'[x]? = some ob) → Bs wx u p) (hb : RoomN o key.length p.length) :
    Calls Try.prog 21 #[.pointer (some ⟨b, 0, none⟩), q, u] w fun e w' => e = .returned (.int .i64 0) ∧
      Env w0 w' ((obs.set l (obP q (notedN o key.length ((stM key (p0 ++ p)).2 - (stM key p0).2)))).set j (obK b 76 (macC (.pointer (some ⟨c, 0, none⟩)) (stM key (p0 ++ p)).1))) := by
  have h1 := writeM_env h i j l hij hil hjl hi hj hl (stM_ok key p0) hk.bd.1 (u := u) (p := p) (fun wx o2 m2 he => hp wx _ he (fun x ob hx hx2 hh => by rw [List.getElem?_set_ne (Ne.symm hx2), List.getElem?_set_ne (Ne.symm hx)]; exact hh)) hb
  have e : stM key (p0 ++ p) = ((feedM (enc (sched key) (key.length / 4 + 6)) ((stM key p0).1, 0) p).1, (stM key p0).2 + (feedM (enc (sched key) (key.length / 4 + 6)) ((stM key p0).1, 0) p).2) := by
    rw [stM_app, ← feedM_add]
  rw [e]
  simp only [Nat.add_sub_cancel_left]
  exact h1
theorem List.set_at {α : Type} {A : List α} {n k : Nat} (hn : A.length = n) (L : List α) (x : α) : (A ++ L).set (n + k) x = A ++ L.set k x := set_r hn k x
/-- the tag of a whole message -/
theorem tagM_env (h : Env w0 w obs) (l : Nat) {q : Value} {o : Option (List Rn)} (hl : obs[l]? = some (obP q o)) {v u : Value} {key p : List UInt8} (hk : RightLen key.length) (hv : Src w0 w obs l v key) (hu : Rd w0 obs l u p) (hb : Room o 1) (hb2 : RoomN (noteO o 4 key.length 1) key.length (p.length + 2)) :
    Calls Try.prog 18 #[q, v, u] w fun e w' => ∃ g : Nat, e = .returned (.tuple #[.slice (some ⟨g, 0, none⟩) 16 16, .int .i64 0]) ∧
      Env w0 w' (obs.set l (obP q (notedN (noteO o 4 key.length 1) key.length ((stM key p).2 + 2))) ++ [obK g 31 (barr (tagK key p))]) := by
  have H := Lib.hid h
  have HL := Lib.hid hl
  have HV := Lib.hid hv
  have HU := Lib.hid hu
  have HB := Lib.hid hb
  have HB2 := Lib.hid hb2
  have HK := Lib.hid hk
  have hll2 : l < obs.length := (List.getElem?_eq_some_iff.1 hl).1
  obtain ⟨n, hn⟩ : ∃ n, obs.length = n := ⟨_, rfl⟩
  have HNN : Hid (∀ x, (obs.set l x).length = n) := Lib.hid (fun x => by rw [List.length_set]; exact hn)
  rw [hn] at hll2
  clear h hl hv hu hb hb2 hk hn
  go_enter Try.func18, Try.ntmps18
  go_wp2_with fail
  refine (newMac_env H.out l HL.out HB.out HB2.out.room HV.out HK.out).mono ?_
  rintro e w1 ⟨b, c, rfl, h1⟩
  have hA : ∀ x, (obs.set l x)[l]? = some x := fun x => List.getElem?_set_self (by have := HNN.out x; rw [List.length_set] at this; omega)
  have h1b : Env w0 w1 (obs.set l (obP q (notedN (noteO o 4 key.length 1) key.length 1)) ++ [obC (.pointer (some ⟨c, 0, none⟩)) (some (key.length, sched key)), obK b 76 (macC (.pointer (some ⟨c, 0, none⟩)) (stM key []).1)]) := h1
  have H1 := Lib.hid h1b
  have HA := Lib.hid hA
  clear h1 h1b hA
  go_wp2_with fail
  refine (writeK_env H1.out (n + 0) (n + 1) l (by omega) (by omega) (by omega) HK.out (p0 := []) (q := q) (o := notedN (noteO o 4 key.length 1) key.length 1) (at_r (HNN.out _) 0) (at_r (HNN.out _) 1) (at_l (HA.out _)) (u := u) (p := p) (fun wx obs' he hx => HU.out wx obs' he (fun x ob hxl hxo => hx x ob hxl (by have := (List.getElem?_eq_some_iff.1 hxo).1; have h2 := HNN.out (obP q o); rw [List.length_set] at h2; omega) (at_l (by rw [List.getElem?_set_ne (Ne.symm hxl)]; exact hxo)))) (HB2.out.step (by omega))).mono ?_
  rintro e w2 ⟨rfl, h2⟩
  rw [List.nil_append, set_l (by rw [HNN.out]; exact hll2), List.set_set, set_r (HNN.out _), notedN_add] at h2
  have H2 : Hid (Env w0 w2 (obs.set l (obP q (notedN (noteO o 4 key.length 1) key.length ((stM key p).2 + 1))) ++ [obC (.pointer (some ⟨c, 0, none⟩)) (some (key.length, sched key)), obK b 76 (macC (.pointer (some ⟨c, 0, none⟩)) (stM key p).1)])) := by
    rw [Nat.add_comm]
    exact Lib.hid h2
  clear h2 H1
  go_wp2_with fail
  refine (sumM_env H2.out (n + 0) (n + 1) l (by omega) (by omega) (by omega) (at_r (HNN.out _) 0) (at_r (HNN.out _) 1) (at_l (HA.out _)) (HB2.out _ (by have := (stM_count key p).1; omega)) (stM_ok key p) HK.out.bd.1).mono ?_
  rintro e w3 ⟨g, rfl, h3⟩
  rw [set_l (by rw [HNN.out]; exact hll2), List.set_set] at h3
  have H3 : Hid (Env w0 w3 (obs.set l (obP q (notedN (noteO o 4 key.length 1) key.length ((stM key p).2 + 2))) ++ [obK g 31 (barr (tagK key p))])) := by
    rw [List.append_assoc] at h3
    exact Lib.hid (Env.last3 h3)
  clear h3 H2
  go_wp2
  go_ret2
  exact ⟨g, rfl, H3.out⟩
theorem tagM_off (q v u : Value) (key : List UInt8) (w : World) (hv : Bs w v key) (hk : ¬ RightLen key.length) :
    Calls Try.prog 18 #[q, v, u] w fun e w' => e = .returned (.tuple #[.slice none 0 0, .int .i64 7]) ∧ w = w' := by
  have HV := Lib.hid hv
  have HK := Lib.hid hk
  clear hv hk
  go_enter Try.func18, Try.ntmps18
  go_wp2_with fail
  refine (newM_off q v key w HV.out HK.out).mono ?_
  rintro e w' ⟨rfl, rfl⟩
  go_wp2
  go_ret2
  exact ⟨rfl, rfl⟩
end
end Go.Proofs.Ytpampcokonicfaa
/- The contracts of package cmac without a ledger, over a world that is a list of things. -/
namespace Go.Proofs.Ytpampcokonicfaa
open Go.RowKit
set_option maxRecDepth 100000
set_option linter.unusedVariables false
set_option linter.unusedSimpArgs false
def mcC (c : Nat) (key : List UInt8) : Ob := obC (.pointer (some ⟨c, 0, none⟩)) (some (key.length, sched key))
def mcB (b c : Nat) (m : MacS) : Ob := obK b 76 (macC (.pointer (some ⟨c, 0, none⟩)) m)
def mcT (g : Nat) (T : List UInt8) : Ob := obK g 31 (barr T)
section
variable {w0 w : World} {obs : List Ob}
/-- a thing in the middle is forgotten -/
theorem Env.cut {A B : List Ob} {x : Ob} (h : Env w0 w (A ++ [x] ++ B)) : Env w0 w (A ++ B) := by
  rw [List.append_assoc] at h
  refine h.pick (fun j => if j < A.length then j else j + 1) (fun i j _ _ he => ?_) (fun j ob hj => ?_)
  · split at he <;> split at he <;> omega
  · by_cases hlt : j < A.length
    · rw [if_pos hlt]
      rw [List.getElem?_append_left hlt] at hj ⊢
      exact hj
    · rw [if_neg hlt]
      rw [List.getElem?_append_right (by omega)] at hj ⊢
      rw [show j + 1 - A.length = (j - A.length) + 1 from by omega]
      simpa using hj
def nilP : Ob := obP (.pointer none) none
theorem Env.pushNilP (h : Env w0 w obs) : Env w0 w (obs ++ [nilP]) := h.push (F' := fun _ => False) nilP (LgP.nil w) (Below.refl _ _) (fun x hx => hx.elim)
theorem at_end {α : Type} {A : List α} {x : α} : (A ++ [x])[A.length]? = some x := by simp
theorem set_end {α : Type} {A : List α} {x y : α} : (A ++ [x]).set A.length y = A ++ [y] := by simp
theorem Src.more {i : Nat} {u : Value} {xs : List UInt8} (h : Src w0 w obs i u xs) (x : Ob) : Src w0 w (obs ++ [x]) i u xs :=
  ⟨h.1, fun h0 y hy => by
    rcases h.2 h0 y hy with hh | ⟨j, v, l, hj, hv, hvx⟩
    · exact .inl hh
    · exact .inr ⟨j, v, l, hj, at_l hv, hvx⟩⟩
theorem newM_nil (h : Env w0 w obs) {u : Value} {key : List UInt8} (hu : Src w0 w obs obs.length u key) (hk : RightLen key.length) :
    Calls Try.prog 10 #[.pointer none, u] w fun e w' => ∃ b c : Nat, e = .returned (.tuple #[.pointer (some ⟨b, 0, none⟩), .int .i64 0]) ∧ Env w0 w' (obs ++ [mcC c key, mcB b c (stM key []).1]) :=
  (newMac_env h.pushNilP obs.length at_end (Room.none 1) (Room.none 1) (hu.more _) hk).mono fun e w' ⟨b, c, he, h1⟩ => ⟨b, c, he, by
    rw [set_end] at h1
    exact h1.cut⟩
/-- New of any key -/
theorem newM_both (h : Env w0 w obs) {u : Value} {key : List UInt8} (hu : Src w0 w obs obs.length u key) :
    Calls Try.prog 10 #[.pointer none, u] w fun e w' => (RightLen key.length ∧ ∃ b c : Nat, e = .returned (.tuple #[.pointer (some ⟨b, 0, none⟩), .int .i64 0]) ∧ Env w0 w' (obs ++ [mcC c key, mcB b c (stM key []).1])) ∨
      (¬ RightLen key.length ∧ e = .returned (.tuple #[.pointer none, .int .i64 7]) ∧ Env w0 w' obs) := by
  by_cases hk : RightLen key.length
  · exact (newM_nil h hu hk).mono fun e w' hh => .inl ⟨hk, hh⟩
  · exact (newM_off _ u key w hu.1 hk).mono fun e w' ⟨he, hw⟩ => .inr ⟨hk, he, by rw [← hw]; exact h⟩
theorem writeK_nil (h : Env w0 w obs) (i j : Nat) (hij : i ≠ j) {b c : Nat} {key p0 : List UInt8} (hk : RightLen key.length) (hi : obs[i]? = some (mcC c key)) (hj : obs[j]? = some (mcB b c (stM key p0).1))
    {u : Value} {p : List UInt8} (hp : ∀ wx obs', Env w0 wx obs' → (∀ x ob, x ≠ j → obs[x]? = some ob → obs'[x]? = some ob) → Bs wx u p) :
    Calls Try.prog 21 #[.pointer (some ⟨b, 0, none⟩), .pointer none, u] w fun e w' => e = .returned (.int .i64 0) ∧ Env w0 w' (obs.set j (mcB b c (stM key (p0 ++ p)).1)) := by
  have hil : i < obs.length := (List.getElem?_eq_some_iff.1 hi).1
  have hjl : j < obs.length := (List.getElem?_eq_some_iff.1 hj).1
  refine (writeK_env h.pushNilP i j obs.length hij (by omega) (by omega) hk (at_l hi) (at_l hj) at_end (u := u) (p := p) (fun wx obs' he hx => hp wx obs' he (fun x ob hxj hxo => hx x ob (by have := (List.getElem?_eq_some_iff.1 hxo).1; omega) hxj (at_l hxo))) (RoomN.none _ _)).mono fun e w' ⟨he, h1⟩ => ⟨he, ?_⟩
  rw [notedN_none, set_end, List.set_append_left _ _ hjl] at h1
  exact h1.drop
theorem sumK_nil (h : Env w0 w obs) (i j : Nat) (hij : i ≠ j) {b c : Nat} {key p : List UInt8} (hk : RightLen key.length) (hi : obs[i]? = some (mcC c key)) (hj : obs[j]? = some (mcB b c (stM key p).1)) :
    Calls Try.prog 22 #[.pointer (some ⟨b, 0, none⟩), .pointer none] w fun e w' => ∃ g : Nat, e = .returned (.tuple #[.slice (some ⟨g, 0, none⟩) 16 16, .int .i64 0]) ∧ Env w0 w' (obs ++ [mcT g (tagK key p)]) := by
  have hil : i < obs.length := (List.getElem?_eq_some_iff.1 hi).1
  have hjl : j < obs.length := (List.getElem?_eq_some_iff.1 hj).1
  refine (sumM_env h.pushNilP i j obs.length hij (by omega) (by omega) (at_l hi) (at_l hj) at_end (Room.none 1) (stM_ok key p) hk.bd.1).mono fun e w' ⟨g, he, h1⟩ => ⟨g, he, ?_⟩
  rw [set_end] at h1
  exact h1.cut
theorem wipeK_nil (h : Env w0 w obs) (i j : Nat) (hij : i ≠ j) {b c : Nat} {key p : List UInt8} (hk : RightLen key.length) (hi : obs[i]? = some (mcC c key)) (hj : obs[j]? = some (mcB b c (stM key p).1)) :
    Calls Try.prog 32 #[.pointer (some ⟨b, 0, none⟩), .pointer none] w fun e w' => e = .returned (.int .i64 0) ∧ Env w0 w' ((obs.set i (obC (.pointer (some ⟨c, 0, none⟩)) (some (0, zeroK)))).set j (obK b 76 (macC (.pointer none) zM))) := by
  have hil : i < obs.length := (List.getElem?_eq_some_iff.1 hi).1
  have hjl : j < obs.length := (List.getElem?_eq_some_iff.1 hj).1
  refine (wipeM_env h.pushNilP i j obs.length hij (by omega) (by omega) (at_l hi) (at_l hj) at_end (Room.none 1) (stM_ok key p) hk.bd.1 hk.bd.2.1 (sched_len key (by have := hk.bd; omega))).mono fun e w' ⟨he, h1⟩ => ⟨he, ?_⟩
  rw [set_end, List.set_append_left _ _ hil, List.set_append_left _ _ (by rw [List.length_set]; exact hjl)] at h1
  exact h1.drop
theorem tagK_nil (h : Env w0 w obs) {v u : Value} {key p : List UInt8} (hk : RightLen key.length) (hv : Src w0 w obs obs.length v key) (hu : ∀ (wx : World) (obs' : List Ob), Env w0 wx obs' → (∀ (x : Nat) (ob : Ob), obs[x]? = some ob → obs'[x]? = some ob) → Bs wx u p) :
    Calls Try.prog 18 #[.pointer none, v, u] w fun e w' => ∃ g : Nat, e = .returned (.tuple #[.slice (some ⟨g, 0, none⟩) 16 16, .int .i64 0]) ∧ Env w0 w' (obs ++ [mcT g (tagK key p)]) := by
  refine (tagM_env h.pushNilP obs.length at_end hk (hv.more _) (u := u) (p := p) (fun wx obs' he hx => hu wx obs' he (fun x ob hxo => hx x ob (by have := (List.getElem?_eq_some_iff.1 hxo).1; omega) (at_l hxo))) (Room.none 1) (RoomN.none _ _)).mono fun e w' ⟨g, he, h1⟩ => ⟨g, he, ?_⟩
  rw [show noteO none 4 key.length 1 = none from rfl, notedN_none, set_end] at h1
  exact h1.cut
theorem Env.tagB (h : Env w0 w obs) (i : Nat) {g : Nat} {T : List UInt8} (hT : T.length = 16) (hi : obs[i]? = some (mcT g T)) : Bs w (.slice (some ⟨g, 0, none⟩) 16 16) T := Env.tagR h i hT hi
end
end Go.Proofs.Ytpampcokonicfaa
/- The document's examples of CMAC, reckoned. -/
namespace Go.Proofs.Ytpampcokonicfaa
set_option maxRecDepth 100000
def keyE : List UInt8 := [0x2b, 0x7e, 0x15, 0x16, 0x28, 0xae, 0xd2, 0xa6, 0xab, 0xf7, 0x15, 0x88, 0x09, 0xcf, 0x4f, 0x3c]
def textE : List UInt8 := [0x6b, 0xc1, 0xbe, 0xe2, 0x2e, 0x40, 0x9f, 0x96, 0xe9, 0x3d, 0x7e, 0x11, 0x73, 0x93, 0x17, 0x2a, 0xae, 0x2d, 0x8a, 0x57, 0x1e, 0x03, 0xac, 0x9c, 0x9e, 0xb7, 0x6f, 0xac, 0x45, 0xaf, 0x8e, 0x51, 0x30, 0xc8, 0x1c, 0x46, 0xa3, 0x5c, 0xe4, 0x11]
def tagE0 : List UInt8 := [0xbb, 0x1d, 0x69, 0x29, 0xe9, 0x59, 0x37, 0x28, 0x7f, 0xa3, 0x7d, 0x12, 0x9b, 0x75, 0x67, 0x46]
def tagE1 : List UInt8 := [0x07, 0x0a, 0x16, 0xb4, 0x6b, 0x4d, 0x41, 0x44, 0xf7, 0x9b, 0xdd, 0x9d, 0xd0, 0x4a, 0x28, 0x7c]
def tagE2 : List UInt8 := [0xdf, 0xa6, 0x67, 0x47, 0xde, 0x9a, 0xe6, 0x30, 0x30, 0xca, 0x32, 0x61, 0x14, 0x97, 0xc8, 0x27]
theorem tagged0 : tagK keyE (textE.take 0) = tagE0 := by decide +kernel
theorem tagged1 : tagK keyE (textE.take 16) = tagE1 := by decide +kernel
theorem tagged2 : tagK keyE (textE.take 40) = tagE2 := by decide +kernel
theorem keyE_right : keyE.length = 16 := rfl
/-- what the form of the example's Mac begins with: byte 176, 177 -/
theorem formE : (formOf (sched keyE) 16 (stM keyE []).1).getD 176 0 = 0xfb ∧ (formOf (sched keyE) 16 (stM keyE []).1).getD 177 0 = 0xee := by decide +kernel
end Go.Proofs.Ytpampcokonicfaa
/- What the laws on Macs begin with: the document's examples. -/
namespace Go.Proofs.Ytpampcokonicfaa
open Go.RowKit
set_option maxRecDepth 100000
set_option linter.unusedVariables false
set_option linter.unusedSimpArgs false
section
variable {w0 w : World} {obs : List Ob}
theorem keyE_env (h : Env w0 w obs) : Calls Try.prog 27 #[] w fun e w' => ∃ g : Nat, e = .returned (.slice (some ⟨g, 0, none⟩) 16 16) ∧ Env w0 w' (obs ++ [obB (.slice (some ⟨g, 0, none⟩) 16 16) keyE]) := by
  have H := Lib.hid (h.lit w.heap.size rfl keyE (by decide))
  clear h
  go_enter Try.func27, Try.ntmps27
  go_wp2
  go_ret
  exact ⟨_, rfl, H.out⟩
theorem textE_env (h : Env w0 w obs) : Calls Try.prog 28 #[] w fun e w' => ∃ g : Nat, e = .returned (.slice (some ⟨g, 0, none⟩) 40 40) ∧ Env w0 w' (obs ++ [obB (.slice (some ⟨g, 0, none⟩) 40 40) textE]) := by
  have H := Lib.hid (h.lit w.heap.size rfl textE (by decide))
  clear h
  go_enter Try.func28, Try.ntmps28
  go_wp2
  go_ret
  exact ⟨_, rfl, H.out⟩
set_option maxHeartbeats 1000000 in
theorem tagged_any (n : Nat) (hn : n ≤ 40) (u : Value) (T : List UInt8) (w : World) (hu : Bs w u T) (hT : tagK keyE (textE.take n) = T) :
    Calls Try.prog 40 #[.int .i64 (n : Int), u] w fun e w' => e = .returned (.bool true) ∧ Below w.heap.size w w' := by
  have HU := Lib.hid hu
  have HT := Lib.hid hT
  clear hu hT
  go_enter Try.func40, Try.ntmps40
  go_wp2_with fail
  refine (keyE_env (Env.start w)).mono ?_
  rintro e w1 ⟨g1, rfl, h1⟩
  have H1 := Lib.hid h1
  clear h1
  go_wp2_with fail
  refine (textE_env H1.out).mono ?_
  rintro e w2 ⟨g2, rfl, h2⟩
  have H2 : Hid (Env w w2 [obB (.slice (some ⟨g1, 0, none⟩) 16 16) keyE, obB (.slice (some ⟨g2, 0, none⟩) 40 40) textE]) := Lib.hid h2
  clear h2 H1
  have hn2 : (n : Int) ≤ 40 := by omega
  go_wp2_with fail
  refine (tagK_nil H2.out (key := keyE) (p := textE.take n) (.inl rfl) (Src.whole H2.out _ 0 (by simp) rfl) (fun wx obs' he hx => (he.bytes 1 (hx 1 _ rfl)).rd.take n (by show n ≤ 40; omega))).mono ?_
  rintro e w3 ⟨g3, rfl, h3⟩
  rw [HT.out] at h3
  have H3 : Hid (Env w w3 [obB (.slice (some ⟨g1, 0, none⟩) 16 16) keyE, obB (.slice (some ⟨g2, 0, none⟩) 40 40) textE, mcT g3 T]) := Lib.hid h3
  clear h3 H2
  go_wp2_with fail
  refine (sameBytes_env H3.out (H3.out.tagB 2 (by rw [← HT.out]; exact tagK_len _ _) rfl) (HU.out.grow H3.out.base)).mono ?_
  rintro e w4 ⟨he, h4⟩
  rw [decide_eq_true rfl] at he
  subst he
  have H4 := Lib.hid h4
  clear h4 H3
  go_wp2
  go_ret
  exact ⟨rfl, H4.out.base⟩
set_option maxHeartbeats 1000000 in
theorem macAwake_any (w : World) : Calls Try.prog 9 #[] w fun e w' => e = .returned (.bool true) ∧ Below w.heap.size w w' := by
  have H0 := Lib.hid ((Env.start w).lit w.heap.size rfl tagE0 (by decide))
  go_enter Try.func9, Try.ntmps9
  go_wp2_with fail
  refine (tagged_any 0 (by omega) _ tagE0 _ (H0.out.bytes 0 rfl).rd tagged0).mono ?_
  rintro e w1 ⟨rfl, hb⟩
  have H1 := Lib.hid ((H0.out.below hb).lit w1.heap.size rfl tagE1 (by decide))
  clear H0 hb
  go_wp2_with fail
  refine (tagged_any 16 (by omega) _ tagE1 _ (H1.out.bytes 1 rfl).rd tagged1).mono ?_
  rintro e w2 ⟨rfl, hb⟩
  have H2 := Lib.hid ((H1.out.below hb).lit w2.heap.size rfl tagE2 (by decide))
  clear H1 hb
  go_wp2_with fail
  refine (tagged_any 40 (by omega) _ tagE2 _ (H2.out.bytes 2 rfl).rd tagged2).mono ?_
  rintro e w3 ⟨rfl, hb⟩
  have H3 := Lib.hid (H2.out.below hb)
  clear H2 hb
  go_wp2
  go_ret
  exact ⟨rfl, H3.out.base⟩
end
end Go.Proofs.Ytpampcokonicfaa
/- Append onto a row of one's own: if the row moves, the old one stays as it was. -/
namespace Go.Proofs.Ytpampcokonicfaa
open Go.RowKit
section
variable {P : Program} (w : World)
theorem run_append_keep (t ty e : TypeId) (i : TypeInfo) (z : Value) (size bytes : Nat) (ht : P.underlying t = some (.slice e)) (hi : P.info? e = some i) (hz : i.zero = some z)
    (hsize : i.size = size) (hby : i.bytes = bytes) (hzs : z.cells.size = size) (hsz : 0 < size)
    (v : Value) (n : Nat) (xs : List Value) (hown : w.ownsRow 0 e size v n xs) (a : Addr) (m c : Nat) (news : List Value) (hl : news.length = m * size) (hnews : ∀ j u, news[j]? = some u → w.cell? (a.add j) = some u) (h1 : ∀ u ∈ news, u.oneCell' = true)
    (h63 : n + m ≤ maxLen) (hbytes : (n + m) * bytes ≤ 140737488355328) (hm : 0 < m) :
    ∃ v' w', (Builtin.append_ #[t, t] ty #[v, .slice (some a) m c]).run P w = .ok v' w' ∧ w'.ownsRow 0 e size v' (n + m) (xs ++ news) ∧ w.grownBy w' v.ownBlock ∧
      (v'.ownBlock = v.ownBlock ∨ v'.ownBlock = some w.heap.size ∧ ∀ b, b < w.heap.size → w'.heap[b]? = w.heap[b]?) ∧ v' ≠ .slice none 0 0 := by
  obtain ⟨v', w', hr, g1, g2, g3, g4⟩ := run_append_own_at (P := P) w 0 t ty e i z size bytes ht hi hz hsize hby hzs hsz v n xs hown a m c news hl hnews h1 h63 hbytes (Nat.zero_le _)
  refine ⟨v', w', hr, g1, g2, ?_, fun hv => by have := (g3.1 hv).2; omega⟩
  subst hsize; subst hby
  have hsmall : n + m ≤ 9223372036854775807 := by simp only [maxLen] at h63; omega
  have hown' := hown
  rcases hown.2 with ⟨rfl, rfl⟩ | ⟨g, cap, cur, rfl, hbg, hg, hnc, hcm, hcs, htake⟩
  · have hx : xs = [] := List.eq_nil_of_length_eq_zero (by simpa using hown.1)
    subst hx
    rcases g4 with g4 | g4
    · exact .inl g4
    · refine .inr ⟨g4, fun b hb => g2.block b hb (by simp [Value.ownBlock])⟩
  · by_cases hroom : n + m ≤ cap
    · have hr2 := run_append_room (P := P) w t ty e i ht hi g n cap cur hg a m c news hl hnews h1 hroom (by rw [hl, hcs, ← Nat.add_mul]; exact Nat.mul_le_mul_right _ hroom)
      rw [hr] at hr2
      injection hr2 with e1 e2
      subst e1
      exact .inl rfl
    · have hr2 := run_append_grow (P := P) w t ty e i z ht hi hz ⟨g, 0, none⟩ n cap xs hown.1 (hown'.cells (g := g) rfl) a m c news hl hnews (by omega) (by omega) (growslice_fits (by omega) hbytes)
      rw [hr] at hr2
      injection hr2 with e1 e2
      subst e1; subst e2
      exact .inr ⟨rfl, fun b hb => heap_alloc_old w.drew _ hb⟩
theorem wp_append_keep {o : Oper} {a : Act} {K : Act → World → Prop} {Q : Exit → Act → World → Prop} (s x : Operand) (t : TypeId)
    (ho : o.op = .call { callee := .builtin .append, args := #[s, x], argTypes := #[t, t] })
    (e : TypeId) (i : TypeInfo) (z : Value) (size bytes : Nat) (ht : P.underlying t = some (.slice e)) (hi : P.info? e = some i) (hz : i.zero = some z)
    (hsize : i.size = size) (hby : i.bytes = bytes) (hzs : z.cells.size = size) (hsz : 0 < size)
    (v : Value) (n : Nat) (xs : List Value) (hs : a.eval s = v) (hown : w.ownsRow 0 e size v n xs) (ad : Addr) (m c : Nat) (news : List Value) (hx : a.eval x = .slice (some ad) m c)
    (hl : news.length = m * size) (hnews : ∀ j u, news[j]? = some u → w.cell? (ad.add j) = some u) (h1 : ∀ u ∈ news, u.oneCell' = true)
    (h63 : n + m ≤ maxLen) (hbytes : (n + m) * bytes ≤ 140737488355328) (hm : 0 < m)
    (h : ∀ v' w', w'.ownsRow 0 e size v' (n + m) (xs ++ news) → w.grownBy w' v.ownBlock → (v'.ownBlock = v.ownBlock ∨ v'.ownBlock = some w.heap.size ∧ ∀ b, b < w.heap.size → w'.heap[b]? = w.heap[b]?) → v' ≠ .slice none 0 0 → K (a.put o.dst v') w') : o.wp P a w K Q := by
  obtain ⟨v', w', hr, g1, g2, g3, g4⟩ := run_append_keep (P := P) w t o.type e i z size bytes ht hi hz hsize hby hzs hsz v n xs hown ad m c news hl hnews h1 h63 hbytes hm
  unfold Oper.wp execOp
  simp only [ho, resolve, invoke, builtin, Sem.run_bind, Sem.run_pure, Result.andThen_ok, List.map_toArray, List.map_cons, List.map_nil, hs, hx, hr]
  exact h v' w' g1 g2 g3 g4
theorem wpList_append_keep {ops : Array Oper} {rest : List Oper} {o : Oper} {a : Act} {Q : Exit → Act → World → Prop} (hgd : o.guard = none) (s x : Operand) (t : TypeId)
    (ho : o.op = .call { callee := .builtin .append, args := #[s, x], argTypes := #[t, t] })
    (e : TypeId) (i : TypeInfo) (z : Value) (size bytes : Nat) (ht : P.underlying t = some (.slice e)) (hi : P.info? e = some i) (hz : i.zero = some z)
    (hsize : i.size = size) (hby : i.bytes = bytes) (hzs : z.cells.size = size) (hsz : 0 < size)
    (v : Value) (n : Nat) (xs : List Value) (hs : a.eval s = v) (hown : w.ownsRow 0 e size v n xs) (ad : Addr) (m c : Nat) (news : List Value) (hx : a.eval x = .slice (some ad) m c)
    (hl : news.length = m * size) (hnews : ∀ j u, news[j]? = some u → w.cell? (ad.add j) = some u) (h1 : ∀ u ∈ news, u.oneCell' = true)
    (h63 : n + m ≤ maxLen) (hbytes : (n + m) * bytes ≤ 140737488355328) (hm : 0 < m)
    (h : ∀ v' w', w'.ownsRow 0 e size v' (n + m) (xs ++ news) → w.grownBy w' v.ownBlock → (v'.ownBlock = v.ownBlock ∨ v'.ownBlock = some w.heap.size ∧ ∀ b, b < w.heap.size → w'.heap[b]? = w.heap[b]?) → v' ≠ .slice none 0 0 → wpList P ops Q rest (a.put o.dst v') w') : wpList P ops Q (o :: rest) a w :=
  wpList_plain hgd fun _ hK => wp_append_keep w s x t ho e i z size bytes ht hi hz hsize hby hzs hsz v n xs hs hown ad m c news hx hl hnews h1 h63 hbytes hm fun v' w' g1 g2 g3 g4 => hK _ _ (h v' w' g1 g2 g3 g4)
end
end Go.Proofs.Ytpampcokonicfaa
/- Lists of elements of any kind: their cells, rows of one's own, what is told in new memory. No program in sight. -/
namespace Go.Proofs.Ytpampcokonicfaa
open Go.RowKit
set_option maxRecDepth 100000
set_option linter.unusedVariables false

/-- a kind of elements: their type, how many cells each has, which -/
structure Knd (α : Type) where
  e : TypeId
  sz : Nat
  cv : α → List Value
  pos : 0 < sz
  len : ∀ x, (cv x).length = sz
  one : ∀ x, ∀ u ∈ cv x, u.oneCell' = true

section
variable {α : Type} (K : Knd α)
def Knd.fl (l : List α) : List Value := l.flatMap K.cv
theorem Knd.fl_nil : K.fl [] = [] := rfl
theorem Knd.fl_app (a b : List α) : K.fl (a ++ b) = K.fl a ++ K.fl b := by simp [Knd.fl]
theorem Knd.fl_one (x : α) : K.fl [x] = K.cv x := by simp [Knd.fl]
theorem Knd.fl_len (l : List α) : (K.fl l).length = l.length * K.sz := by
  induction l with
  | nil => simp [Knd.fl]
  | cons x l ih =>
    have : K.fl (x :: l) = K.cv x ++ K.fl l := by simp [Knd.fl]
    rw [this, List.length_append, ih, K.len, List.length_cons, Nat.add_mul]
    omega
theorem Knd.fl_cells (l : List α) : ∀ u ∈ K.fl l, u.oneCell' = true := by
  intro u hu
  obtain ⟨x, _, hx⟩ := List.mem_flatMap.1 hu
  exact K.one x u hx
theorem Knd.fl_get : ∀ (l : List α) (i c : Nat) (x : α), l[i]? = some x → c < K.sz → (K.fl l)[i * K.sz + c]? = (K.cv x)[c]?
  | [], i, c, x, h, _ => by simp at h
  | y :: l, i, c, x, h, hc => by
    have e : K.fl (y :: l) = K.cv y ++ K.fl l := by simp [Knd.fl]
    rw [e]
    cases i with
    | zero =>
      simp at h
      subst h
      rw [List.getElem?_append_left (by rw [K.len]; omega)]
      simp
    | succ i =>
      have h2 := Knd.fl_get l i c x (by simpa using h) hc
      rw [List.getElem?_append_right (by rw [K.len, Nat.add_mul]; omega), K.len, show (i + 1) * K.sz + c - K.sz = i * K.sz + c from by rw [Nat.add_mul]; omega]
      exact h2
/-- a slice value that owns the elements l, at a row of its own -/
def Knd.O (w : World) (v : Value) (l : List α) : Prop := w.ownsRow 0 K.e K.sz v l.length (K.fl l)
/-- a slice value that reads as l -/
def Knd.R (w : World) (v : Value) (l : List α) : Prop := Sl w K.sz v l.length (K.fl l)
def Knd.ob (v : Value) (l : List α) : Ob := obE K.e K.sz v l.length (K.fl l)
variable {K}
theorem Knd.O.rd {w : World} {v : Value} {l : List α} (h : K.O w v l) : K.R w v l := Sl.of_own h (K.fl_cells l)
theorem Knd.O.keep {w w' : World} {v : Value} {l : List α} (h : K.O w v l) {S : Nat → Prop} (ho : Only S w w') (hd : ∀ x, fpv v x → ¬ S x) : K.O w' v l := ownsRow_keep h ho hd
theorem Knd.O.lt {w : World} {v : Value} {l : List α} (h : K.O w v l) : ∀ x, fpv v x → x < w.heap.size := fun x hx => (World.ownsRow.lt h x hx).2
theorem Knd.O.nil (w : World) : K.O w (.slice none 0 0) [] := World.ownsRow_nil w 0 _ _
theorem Knd.R.nil (w : World) : K.R w (.slice none 0 0) [] := Sl.nil w _
theorem Knd.O.any {w : World} {v : Value} {l : List α} (h : K.O w v l) : ∃ ao cap, v = .slice ao l.length cap := by
  rcases h.2 with ⟨hv, h0⟩ | ⟨g, cap, cur, hv, _⟩
  · exact ⟨none, 0, by rw [h0]; exact hv⟩
  · exact ⟨some ⟨g, 0, none⟩, cap, hv⟩
theorem Knd.O.form {w : World} {v : Value} {l : List α} (h : K.O w v l) (h0 : 0 < l.length) : ∃ g cap, v = .slice (some ⟨g, 0, none⟩) l.length cap := by
  obtain ⟨g, cap, hv, _⟩ := World.ownsRow.form h h0
  exact ⟨g, cap, hv⟩
theorem Knd.R.any {w : World} {v : Value} {l : List α} (h : K.R w v l) : ∃ ao cap, v = .slice ao l.length cap ∧ l.length ≤ cap ∧ cap ≤ 9223372036854775807 ∧ (ao = none → cap = 0) := by
  obtain ⟨ao, cap, hv, h1, h2, h3, _⟩ := h.form
  exact ⟨ao, cap, hv, h1, h2, h3⟩
theorem Knd.R.grow {w w' : World} {v : Value} {l : List α} (h : K.R w v l) (hb : Below w.heap.size w w') : K.R w' v l := Sl.grow h hb
/-- element i, cell by cell -/
theorem Knd.R.get {w : World} {ao : Option Addr} {n cap : Nat} {l : List α} (h : K.R w (.slice ao n cap) l) {i : Nat} {x : α} (hx : l[i]? = some x) : ∃ b off, ao = some ⟨b, off, none⟩ ∧ b < w.heap.size ∧ ∀ c v, (K.cv x)[c]? = some v → w.cell? ⟨b, off + (i * K.sz + c), none⟩ = some v := by
  obtain ⟨ao', cap', hv, _, _, _, h4⟩ := h.form
  injection hv with e1 _ _
  subst e1
  have hc0 : 0 < (K.cv x).length := by rw [K.len]; exact K.pos
  obtain ⟨b, off, hb, hcell⟩ := h4 (i * K.sz + 0) _ ((K.fl_get l i 0 x hx K.pos).trans (List.getElem?_eq_getElem hc0))
  refine ⟨b, off, hb, World.block_lt_of_cell? w _ hcell, fun c v hv => ?_⟩
  have hc : c < K.sz := by
    have := (List.getElem?_eq_some_iff.1 hv).1
    rwa [K.len] at this
  obtain ⟨b2, off2, hb2, hcell2⟩ := h4 (i * K.sz + c) v ((K.fl_get l i c x hx hc).trans hv)
  rw [hb] at hb2
  injection hb2 with e
  injection e with e1 e2
  subst e1; subst e2
  exact hcell2
theorem Knd.O.get {w : World} {g n cap : Nat} {l : List α} (h : K.O w (.slice (some ⟨g, 0, none⟩) n cap) l) {i : Nat} {x : α} (hx : l[i]? = some x) : ∀ c v, (K.cv x)[c]? = some v → w.cell? ⟨g, i * K.sz + c, none⟩ = some v := by
  intro c v hv
  obtain ⟨b, off, hb, _, hc⟩ := Knd.R.get h.rd hx
  injection hb with e
  injection e with e1 e2
  subst e1; subst e2
  have := hc c v hv
  rwa [Nat.zero_add] at this
theorem Knd.O.frozen {w : World} {g n cap : Nat} {l : List α} (h : K.O w (.slice (some ⟨g, 0, none⟩) n cap) l) (j : Nat) : w.frozen? ⟨g, j, none⟩ = false := by
  have hn : n = l.length := by
    rcases h.2 with ⟨hv, _⟩ | ⟨g', cap', cur, hv, _⟩
    · simp at hv
    · simp at hv; exact hv.2.1
  subst hn
  exact World.ownsRow.frozenAt h j

/-- told in new memory -/
def Knd.New (K : Knd α) (l : List α) (w : World) (e : Ending) (w' : World) : Prop :=
  ∃ v, e = .returned v ∧ K.O w' v l ∧ Below w.heap.size w w' ∧ ∀ x, fpv v x → w.heap.size ≤ x
/-- a row that is made in a loop -/
def Knd.Mk (K : Knd α) (l : List α) (w : World) (v : Value) (w1 : World) : Prop := K.O w1 v l ∧ Below w.heap.size w w1 ∧ ∀ x, fpv v x → w.heap.size ≤ x
theorem Knd.Mk.nil (K : Knd α) (w : World) : K.Mk [] w (.slice none 0 0) w := ⟨Knd.O.nil w, Below.refl _ _, fun x hx => by simp [fpv, Value.ownBlock] at hx⟩
theorem Knd.Mk.draw {K : Knd α} {l : List α} {w w1 : World} {v : Value} (h : K.Mk l w v w1) (n : Nat) : K.Mk l w v (w1.drewN n) :=
  ⟨h.1.keep ((Only.refl (fun _ => False) w1).draw n) (fun _ _ h => h), ⟨h.2.1.os, h.2.1.tape, h.2.1.output, h.2.1.size, h.2.1.block⟩, h.2.2⟩
theorem Knd.Mk.below {K : Knd α} {l : List α} {w w1 w2 : World} {v : Value} (h : K.Mk l w v w1) (hb : Below w1.heap.size w1 w2) : K.Mk l w v w2 :=
  ⟨h.1.keep (Only.nothing hb) (fun _ _ h => h), h.2.1.trans (hb.mono h.2.1.size), h.2.2⟩
/-- one more element, behind its literal and an append -/
theorem Knd.Mk.more {K : Knd α} {l : List α} {w w1 w2 : World} {v v' : Value} {x : α} (h : K.Mk l w v w1) {o : Obj} {N : Nat} (hN : N = l.length) {cs : List Value} (hcs : cs = K.fl l ++ K.cv x) (hown : w2.ownsRow 0 K.e K.sz v' (N + 1) cs) (hgrow : (w1.alloc o).grownBy w2 v.ownBlock)
    (hat : v'.ownBlock = v.ownBlock ∨ v'.ownBlock = some (w1.heap.size + 1)) : K.Mk (l ++ [x]) w v' w2 := by
  subst hN; subst hcs
  obtain ⟨q1, q2, q3⟩ := h
  refine ⟨?_, (q2.alloc q2.size _).grown hgrow (by simp; have := q2.size; omega) (fun x hx => q3 x hx), fun y hy => ?_⟩
  · unfold Knd.O
    rw [K.fl_app, K.fl_one, List.length_append]
    exact hown
  · have hy' : v'.ownBlock = some y := hy
    rcases hat with hat | hat
    · exact q3 y (by show v.ownBlock = some y; rw [← hat]; exact hy')
    · rw [hat] at hy'
      injection hy' with hy'
      have := q2.size
      omega
theorem Knd.Mk.alloc {K : Knd α} {l : List α} {w w1 : World} {v : Value} (h : K.Mk l w v w1) (o : Obj) {N : Nat} (hN : N = l.length) : (w1.alloc o).ownsRow 0 K.e K.sz v N (K.fl l) := by
  subst hN
  exact h.1.keep ((Only.refl (fun _ => False) w1).alloc o) (fun _ _ h => h)
theorem Knd.Mk.new {K : Knd α} {l : List α} {w w1 : World} {v : Value} (h : K.Mk l w v w1) : K.New l w (.returned v) w1 := ⟨v, rfl, h⟩
/-- a whole list, behind an append to what was made -/
theorem Knd.Mk.whole {K : Knd α} {l m : List α} {w w1 w2 : World} {v v' : Value} (h : K.Mk l w v w1) {N : Nat} (hN : N = l.length + m.length) (hown : w2.ownsRow 0 K.e K.sz v' N (K.fl l ++ K.fl m)) (hgrow : w1.grownBy w2 v.ownBlock)
    (hat : v'.ownBlock = v.ownBlock ∨ v'.ownBlock = some w1.heap.size) : K.Mk (l ++ m) w v' w2 := by
  subst hN
  obtain ⟨q1, q2, q3⟩ := h
  refine ⟨?_, q2.grown hgrow q2.size (fun x hx => q3 x hx), fun y hy => ?_⟩
  · unfold Knd.O
    rw [K.fl_app, List.length_append]
    exact hown
  · have hy' : v'.ownBlock = some y := hy
    rcases hat with hat | hat
    · exact q3 y (by show v.ownBlock = some y; rw [← hat]; exact hy')
    · rw [hat] at hy'
      injection hy' with hy'
      have := q2.size
      omega

/-! ### the same? -/
def sameTo' (eq : α → α → Bool) (xs ys : List α) : Nat → Nat → Bool
  | 0, _ => true
  | n + 1, k => match xs[k]?, ys[k]? with
    | some x, some y => if eq x y then sameTo' eq xs ys n (k + 1) else false
    | _, _ => true
def sameL (eq : α → α → Bool) (xs ys : List α) : Bool := if xs.length = ys.length then sameTo' eq xs ys xs.length 0 else false
theorem sameTo_step {eq : α → α → Bool} {xs ys : List α} {n k : Nat} {x y : α} {b : Bool} (hx : xs[k]? = some x) (hy : ys[k]? = some y) (h : sameTo' eq xs ys (n + 1) k = b) : (if eq x y then sameTo' eq xs ys n (k + 1) else false) = b := by
  rw [sameTo', hx, hy] at h
  exact h
theorem sameTo_refl (eq : α → α → Bool) (h : ∀ x, eq x x = true) (xs : List α) : ∀ n k, sameTo' eq xs xs n k = true
  | 0, _ => rfl
  | n + 1, k => by
    rw [sameTo']
    cases hx : xs[k]? with
    | none => rfl
    | some x => simp [h, sameTo_refl eq h xs n (k + 1)]
theorem sameL_refl (eq : α → α → Bool) (h : ∀ x, eq x x = true) (xs : List α) : sameL eq xs xs = true := by
  unfold sameL
  rw [if_pos rfl, sameTo_refl eq h]
theorem sameTo_iff (eq : α → α → Bool) (h : ∀ x y, eq x y = true ↔ x = y) (xs ys : List α) (hl : xs.length = ys.length) : ∀ n k, k + n = xs.length → (sameTo' eq xs ys n k = true ↔ ∀ j, k ≤ j → xs[j]? = ys[j]?)
  | 0, k, hk => by
    simp only [sameTo', true_iff]
    intro j hj
    rw [List.getElem?_eq_none (by omega), List.getElem?_eq_none (by omega)]
  | n + 1, k, hk => by
    have hx : xs[k]? = some xs[k] := List.getElem?_eq_getElem (by omega)
    have hy : ys[k]? = some ys[k] := List.getElem?_eq_getElem (by omega)
    rw [sameTo', hx, hy]
    simp only
    by_cases e : eq xs[k] ys[k] = true
    · rw [if_pos e, sameTo_iff eq h xs ys hl n (k + 1) (by omega)]
      have e' := (h _ _).1 e
      constructor
      · intro hh j hj
        by_cases ejk : j = k
        · subst ejk; rw [hx, hy, e']
        · exact hh j (by omega)
      · intro hh j hj
        exact hh j (by omega)
    · rw [if_neg e]
      simp only [Bool.false_eq_true, false_iff]
      intro hh
      have := hh k (Nat.le_refl _)
      rw [hx, hy] at this
      exact e ((h _ _).2 (Option.some.inj this))
theorem sameL_iff (eq : α → α → Bool) (h : ∀ x y, eq x y = true ↔ x = y) (xs ys : List α) : sameL eq xs ys = true ↔ xs = ys := by
  unfold sameL
  by_cases hl : xs.length = ys.length
  · rw [if_pos hl, sameTo_iff eq h xs ys hl _ 0 (by omega)]
    constructor
    · intro hh; exact List.ext_getElem? fun j => hh j (Nat.zero_le _)
    · rintro rfl _ _; rfl
  · rw [if_neg hl]
    simp only [Bool.false_eq_true, false_iff]
    intro e
    exact hl (by rw [e])

/-! ### marks -/
/-- n marks of list k -/
def mks (mk : Int → Int → α) (k : Int) (n : Nat) : List α := (List.range n).map fun (i : Nat) => mk k (i : Int)
theorem mks_len (mk : Int → Int → α) (k : Int) (n : Nat) : (mks mk k n).length = n := by simp [mks]
theorem mks_succ (mk : Int → Int → α) (k : Int) (n : Nat) : mks mk k (n + 1) = mks mk k n ++ [mk k n] := by simp [mks, List.range_succ]
theorem mks_get (mk : Int → Int → α) (k : Int) (n i : Nat) (h : i < n) : (mks mk k n)[i]? = some (mk k i) := by simp [mks, List.getElem?_map, List.getElem?_range h]
def lentM (mk : Int → Int → α) (l : List α) : List α := l ++ mks mk 7 6
theorem lentM_len (mk : Int → Int → α) (l : List α) : (lentM mk l).length = l.length + 6 := by simp [lentM, mks]
/-- the first i elements are marked -/
def overM (mk : Int → Int → α) (l : List α) (i : Nat) : List α := mks mk 9 i ++ l.drop i
theorem overM_len (mk : Int → Int → α) (l : List α) (i : Nat) (h : i ≤ l.length) : (overM mk l i).length = l.length := by simp [overM, mks]; omega
theorem overM_zero (mk : Int → Int → α) (l : List α) : overM mk l 0 = l := by simp [overM, mks]
theorem overM_end (mk : Int → Int → α) (l : List α) : overM mk l l.length = mks mk 9 l.length := by simp [overM]
theorem overM_put (K : Knd α) (mk : Int → Int → α) (l : List α) (i : Nat) (h : i < l.length) : putAt (K.fl (overM mk l i)) (i * K.sz) (K.cv (mk 9 i)) = K.fl (overM mk l (i + 1)) := by
  unfold overM
  have h1 := putAt_app (K.cv (mk 9 i)) (K.fl (mks mk 9 i)) (K.fl (l.drop i)) (by
    rw [K.len, K.fl_len, List.length_drop]
    have := Nat.mul_le_mul_right K.sz (show 1 ≤ l.length - i by omega)
    omega)
  rw [K.fl_len, mks_len] at h1
  rw [K.fl_app, h1, mks_succ, K.fl_app, K.fl_app, K.fl_one, List.drop_eq_getElem_cons h]
  congr 1
  have e : K.fl (l[i] :: l.drop (i + 1)) = K.cv l[i] ++ K.fl (l.drop (i + 1)) := by simp only [Knd.fl, List.flatMap_cons]
  rw [e, K.len, ← K.len l[i], List.drop_left]
theorem Knd.O.put {K : Knd α} {w : World} {g cap N : Nat} {l : List α} (mk : Int → Int → α) {i : Nat} (h : K.O w (.slice (some ⟨g, 0, none⟩) N cap) (overM mk l i)) (hi : i < l.length) (hN : N = l.length) :
    K.O (w.setCells g (i * K.sz) (K.cv (mk 9 i))) (.slice (some ⟨g, 0, none⟩) N cap) (overM mk l (i + 1)) := by
  subst hN
  have hl := overM_len mk l i (by omega)
  have hl2 := overM_len mk l (i + 1) (by omega)
  unfold Knd.O at *
  rw [hl] at h
  have := ownsRow_setCells (K.cv (mk 9 i)) _ _ (i * K.sz) h
  rw [overM_put K mk l i hi] at this
  rw [hl2]
  exact this
/-- marks are the marks of Apart -/
def Mkr.ofK (K : Knd α) (st : TypeId) (mk : Int → Int → α) : Mkr := ⟨st, K.e, K.sz, fun k i => K.cv (mk ((k : Int) + 10) (i : Int)), K.pos, fun _ _ => K.len _, fun _ _ => K.one _⟩
end
theorem header {w : World} {base : Nat} {e : TypeId} {size n : Nat} {v : Value} {xs : List Value} (h : w.ownsRow base e size v n xs) : ∃ ao cap, v = .slice ao n cap ∧ n ≤ cap ∧ cap ≤ 9223372036854775807 ∧ (0 < n → ∃ g, ao = some ⟨g, 0, none⟩) := by
  rcases h.2 with ⟨rfl, rfl⟩ | ⟨g, cap, cur, rfl, _, _, h1, h2, _⟩
  · exact ⟨none, 0, rfl, by omega, by omega, fun h => by omega⟩
  · exact ⟨some ⟨g, 0, none⟩, cap, rfl, h1, h2, fun _ => ⟨g, rfl⟩⟩
end Go.Proofs.Ytpampcokonicfaa
/- Append of so many zero values (the translation's append of a made slice) onto a row of one's own. No program in sight. -/
namespace Go.Proofs.Ytpampcokonicfaa
open Go.RowKit
set_option maxRecDepth 100000
section
variable {P : Program} (w : World)
theorem run_append_zeros (t tn ty e : TypeId) (i : TypeInfo) (z : Value) (kq kn : IntKind) (size bytes : Nat) (ht : P.underlying t = some (.slice e)) (htn : P.underlying tn = some (.int kn)) (hi : P.info? e = some i) (hz : i.zero = some z)
    (hsize : i.size = size) (hby : i.bytes = bytes) (hzs : z.cells.size = size) (hsz : 0 < size) (h1 : ∀ m, ∀ u ∈ (Builtin.zeroCells z.cells m).toList, u.oneCell' = true)
    (v : Value) (n : Nat) (xs : List Value) (hown : w.ownsRow 0 e size v n xs) (m : Nat) (hm : 0 < m) (h63 : n + m ≤ maxLen) (hbytes : (n + m) * bytes ≤ 140737488355328) :
    ∃ v' w', (Builtin.append_ #[t, tn] ty #[v, .int kq (m : Int)]).run P w = .ok v' w' ∧ w'.ownsRow 0 e size v' (n + m) (xs ++ (Builtin.zeroCells z.cells m).toList) ∧ w.grownBy w' v.ownBlock ∧ (v'.ownBlock = v.ownBlock ∨ v'.ownBlock = some w.heap.size) := by
  subst hsize
  subst hby
  have hsmall : n + m ≤ 9223372036854775807 := by simp only [maxLen] at h63; omega
  have hzl : (Builtin.zeroCells z.cells m).toList.length = m * i.size := by rw [Array.length_toList, size_zeroCells, hzs]
  have hmb : m * i.bytes ≤ 140737488355328 := Nat.le_trans (Nat.mul_le_mul_right _ (by omega)) hbytes
  have hlen : (xs ++ (Builtin.zeroCells z.cells m).toList).length = (n + m) * i.size := by rw [List.length_append, hown.1, hzl, Nat.add_mul]
  have grown : ∀ (old : Nat), old < n + m → ∀ (row : Option Nat),
      (w.drew.alloc (.cells (xs.toArray ++ Builtin.zeroCells z.cells m ++ Builtin.zeroCells z.cells (grownCap w (n + m) old e - (n + m))) e)).ownsRow 0 e i.size
        (.slice (some ⟨w.heap.size, 0, none⟩) (n + m) (grownCap w (n + m) old e)) (n + m) (xs ++ (Builtin.zeroCells z.cells m).toList) ∧
      w.grownBy (w.drew.alloc (.cells (xs.toArray ++ Builtin.zeroCells z.cells m ++ Builtin.zeroCells z.cells (grownCap w (n + m) old e - (n + m))) e)) row := by
    intro old ho row
    have hge := grownCap_ge w (n + m) old e
    have hcm : grownCap w (n + m) old e ≤ maxLen := grownCap_le_maxLen w (n + m) old e h63
    refine ⟨⟨hlen, .inr ⟨w.heap.size, _, _, rfl, Nat.zero_le _, heap_alloc_new w.drew _, hge, hcm, ?_, ?_⟩⟩, ⟨rfl, rfl, rfl, by simp, fun k hk _ => heap_alloc_old w.drew _ hk⟩⟩
    · simp only [Array.size_append, List.size_toArray, size_zeroCells, hzs, hown.1, ← Nat.add_mul]
      congr 1
      omega
    · simp only [Array.toList_append]
      rw [← hlen]
      exact List.take_left
  rcases hown.2 with ⟨rfl, rfl⟩ | ⟨g, cap, cur, rfl, _, hg, hnc, hcm, hcs, htake⟩
  · have hx : xs = [] := List.eq_nil_of_length_eq_zero (by simpa using hown.1)
    subst hx
    have hr := Lib.run_append_nil_zeros (P := P) w t tn ty e i z kq kn ht htn hi hz m hm hsz (by omega) (by omega)
    have hgr := grown 0 (by omega) (Value.ownBlock (.slice none 0 0))
    simp only [Nat.zero_add, List.nil_append, Array.empty_append] at hgr ⊢
    exact ⟨_, _, hr, hgr.1, hgr.2, Or.inr rfl⟩
  · by_cases hroom : n + m ≤ cap
    · have hfit : n * i.size + (Builtin.zeroCells z.cells m).toList.length ≤ cur.size := by rw [hzl, hcs, ← Nat.add_mul]; exact Nat.mul_le_mul_right _ hroom
      have hst := run_storeCells_at P g (n * i.size) e (Builtin.zeroCells z.cells m).toList 0 cur w hg (by simpa using hfit) (h1 m)
      simp only [Nat.add_zero] at hst
      have hw : IntKind.i64.wrap (m : Int) = m := by rw [IntKind.wrap_i64]; omega
      have hneg : ¬ ((m : Int) < 0) := by omega
      have h48i : ¬ (281474976710656 < (m : Int) * (i.bytes : Int)) := by
        rw [← Int.natCast_mul]
        omega
      have hns : ¬ (m * i.size = 0) := Nat.mul_ne_zero (by omega) (by omega)
      have hr : (Builtin.append_ #[t, tn] ty #[.slice (some ⟨g, 0, none⟩) n cap, .int kq (m : Int)]).run P w = .ok (.slice (some ⟨g, 0, none⟩) (n + m) cap) (w.setRow g (cur.toList.take (n * i.size) ++ (Builtin.zeroCells z.cells m).toList ++ cur.toList.drop (n * i.size + (Builtin.zeroCells z.cells m).toList.length)).toArray) := by
        simp [Builtin.append_, run_underlying ht, run_underlying htn, sizeOf, typeInfo, zeroValue, hi, hz, asInt, asIntOf, hw, hroom, hneg, hns, h48i, Addr.add_lit, hst]
      refine ⟨_, _, hr, ⟨hlen, .inr ⟨g, cap, _, rfl, Nat.zero_le _, setRow_heap w g cur _ e _ hg, hroom, hcm, ?_, ?_⟩⟩, ⟨rfl, rfl, rfl, by simp, fun k _ hk => setRow_other w g k _ (fun e => hk (by simp [Value.ownBlock, e]))⟩, Or.inl rfl⟩
      · simp only [List.size_toArray, List.length_append, List.length_take, List.length_drop, Array.length_toList] at hfit ⊢
        omega
      · rw [htake, ← hlen]
        exact List.take_left
    · have holds : ∀ j u, xs[j]? = some u → w.cell? ((⟨g, 0, none⟩ : Addr).add j) = some u := hown.cells (g := g) rfl
      have hold := run_firstCells_some (P := P) w.drew i.size n ⟨g, 0, none⟩ n cap xs hown.1 (fun j u hj => holds j u hj)
      have hr := Lib.run_append_grow_zeros (P := P) w t tn ty e i z kq kn ht htn hi hz (some ⟨g, 0, none⟩) n cap xs hold m hm hsz (by omega) (by omega) (by omega) (growslice_fits (by omega) hbytes)
      have hgr := grown cap (by omega) (Value.ownBlock (.slice (some ⟨g, 0, none⟩) n cap))
      exact ⟨_, _, hr, hgr.1, hgr.2, Or.inr rfl⟩
theorem wpList_append_zeros {ops : Array Oper} {rest : List Oper} {o : Oper} {a : Act} {Q : Exit → Act → World → Prop} (hgd : o.guard = none) (s x : Operand) (t tn : TypeId)
    (ho : o.op = .call { callee := .builtin .append, args := #[s, x], argTypes := #[t, tn] })
    (e : TypeId) (i : TypeInfo) (z : Value) (kq kn : IntKind) (size bytes : Nat) (ht : P.underlying t = some (.slice e)) (htn : P.underlying tn = some (.int kn)) (hi : P.info? e = some i) (hz : i.zero = some z)
    (hsize : i.size = size) (hby : i.bytes = bytes) (hzs : z.cells.size = size) (hsz : 0 < size) (h1 : ∀ m, ∀ u ∈ (Builtin.zeroCells z.cells m).toList, u.oneCell' = true)
    (v : Value) (n : Nat) (xs : List Value) (hs : a.eval s = v) (hown : w.ownsRow 0 e size v n xs) (m : Nat) (hx : a.eval x = .int kq (m : Int)) (hm : 0 < m) (h63 : n + m ≤ maxLen) (hbytes : (n + m) * bytes ≤ 140737488355328)
    (h : ∀ v' w', w'.ownsRow 0 e size v' (n + m) (xs ++ (Builtin.zeroCells z.cells m).toList) → w.grownBy w' v.ownBlock → (v'.ownBlock = v.ownBlock ∨ v'.ownBlock = some w.heap.size) → wpList P ops Q rest (a.put o.dst v') w') : wpList P ops Q (o :: rest) a w := by
  obtain ⟨v', w', hr, g1, g2, g3⟩ := run_append_zeros (P := P) w t tn o.type e i z kq kn size bytes ht htn hi hz hsize hby hzs hsz h1 v n xs hown m hm h63 hbytes
  exact Lib.wpList_append_run w hgd s x t tn ho _ _ hs hx v' w' hr (h v' w' g1 g2 g3)
end
theorem zeros_int (m : Nat) : (Builtin.zeroCells (Value.int .i64 0).cells m).toList = List.replicate m (.int .i64 0) := by
  apply List.ext_getElem
  · simp [Builtin.zeroCells, Value.cells]
  · intro j h1 h2
    simp [Builtin.zeroCells, Value.cells, Nat.mod_one]
theorem zeros_int' (m : Nat) : (Builtin.zeroCells #[Value.int .i64 0] m).toList = List.replicate m (.int .i64 0) := zeros_int m
end Go.Proofs.Ytpampcokonicfaa
namespace Go.Proofs.Ytpampcokonicfaa
open Go.RowKit
set_option maxRecDepth 100000
set_option linter.unusedVariables false
set_option linter.unusedSimpArgs false
section
variable {w0 w : World} {obs : List Ob} {a : Act} {o : Oper} {K : Act → World → Prop} {Q : Exit → Act → World → Prop} {ops : Array Oper} {rest : List Oper}
theorem Env.grown (h : Env w0 w obs) (i : Nat) {v : Value} {l : List UInt8} (hi : obs[i]? = some (obB v l)) {v' : Value} {w' : World} {r : List UInt8} {n m : Nat} (hn : n = l.length) (hm : m = r.length) (hown : w'.ownsRow 0 5 1 v' (n + m) (l.map B ++ r.map B)) (hg : w.grownBy w' v.ownBlock) (hat : v'.ownBlock = v.ownBlock ∨ v'.ownBlock = some w.heap.size) : Env w0 w' (obs.set i (obB v' (l ++ r))) := by
  subst hn hm
  refine Env.growB h i hi ?_ (Only.grown (Only.refl _ w) hg (fun k hk => .inl hk)) (fun x hx => ?_)
  · unfold OB
    rw [List.length_append, List.map_append]
    exact hown
  · have hx' : v'.ownBlock = some x := hx
    rcases hat with hat | hat
    · left
      show v.ownBlock = some x
      rw [← hat]
      exact hx
    · right
      rw [hat] at hx'
      injection hx' with hx'
      omega
theorem wp_append_env (h : Env w0 w obs) (i : Nat) {v : Value} {l : List UInt8} (hi : obs[i]? = some (obB v l)) (s x : Operand) (ho : o.op = .call { callee := .builtin .append, args := #[s, x], argTypes := #[22, 22] })
    (hs : a.eval s = v) {y : Value} {r : List UInt8} (hx : a.eval x = y) (hy : Bs w y r) (hn : l.length + r.length ≤ 140737488355328) (kk : ∀ v' w', Env w0 w' (obs.set i (obB v' (l ++ r))) → K (a.put o.dst v') w') : o.wp Try.prog a w K Q := by
  obtain ⟨i0, hi0, hz0, hz1, hz2⟩ := info_parts info8
  have hown := h.bytes i hi
  unfold OB at hown
  refine wp_append_sl w s x 22 ho 5 i0 _ 1 1 Try.underlying22 hi0 hz0 hz1 hz2 rfl (by decide) v l.length (l.map B) hs hown y r.length (r.map B) hx (Sl.of_bytes hy) (by unfold maxLen; omega) (by omega) ?_
  intro v' w' h1 h2 h3 _
  exact kk v' w' (h.grown i hi rfl rfl h1 h2 h3)
theorem wpList_append_env (h : Env w0 w obs) (i : Nat) {v : Value} {l : List UInt8} (hi : obs[i]? = some (obB v l)) (s x : Operand) (hgd : o.guard = none) (ho : o.op = .call { callee := .builtin .append, args := #[s, x], argTypes := #[22, 22] })
    (hs : a.eval s = v) {y : Value} {r : List UInt8} (hx : a.eval x = y) (hy : Bs w y r) (hn : l.length + r.length ≤ 140737488355328) (kk : ∀ v' w', Env w0 w' (obs.set i (obB v' (l ++ r))) → wpList Try.prog ops Q rest (a.put o.dst v') w') : wpList Try.prog ops Q (o :: rest) a w :=
  wpList_plain hgd fun _ hK => wp_append_env h i hi s x ho hs hx hy hn fun v' w' g => hK _ _ (kk v' w' g)
theorem zeros_bytes (m : Nat) : (Builtin.zeroCells (Value.int .u8 0).cells m).toList = (List.replicate m (0 : UInt8)).map B := by
  apply List.ext_getElem
  · simp [Builtin.zeroCells, Value.cells]
  · intro j h1 h2
    simp [Builtin.zeroCells, Value.cells, Nat.mod_one, B]
theorem wpList_zeros_env (h : Env w0 w obs) (i : Nat) {v : Value} {l : List UInt8} (hi : obs[i]? = some (obB v l)) (s x : Operand) (hgd : o.guard = none) (ho : o.op = .call { callee := .builtin .append, args := #[s, x], argTypes := #[22, 3] })
    (hs : a.eval s = v) (m : Nat) (hm : 0 < m) (hx : a.eval x = .int .i64 (m : Int)) (hn : l.length + m ≤ 140737488355328) (kk : ∀ v' w', Env w0 w' (obs.set i (obB v' (l ++ List.replicate m 0))) → wpList Try.prog ops Q rest (a.put o.dst v') w') : wpList Try.prog ops Q (o :: rest) a w := by
  obtain ⟨i0, hi0, hz0, hz1, hz2⟩ := info_parts info8
  have hown := h.bytes i hi
  unfold OB at hown
  refine wpList_append_zeros w hgd s x 22 3 ho 5 i0 _ .i64 .i64 1 1 Try.underlying22 Try.underlying3 hi0 hz0 hz1 hz2 rfl (by decide) (fun m u hu => by
    rw [zeros_bytes] at hu
    obtain ⟨x, _, rfl⟩ := List.mem_map.1 hu
    rfl) v l.length (l.map B) hs hown m hx hm (by unfold maxLen; omega) (by omega) ?_
  intro v' w' g1 g2 g3
  rw [zeros_bytes] at g1
  exact kk v' w' (h.grown i hi (r := List.replicate m 0) rfl (by simp) g1 g2 g3)
end
end Go.Proofs.Ytpampcokonicfaa
