/- The document's answer for AES: Encrypt, Decrypt, Form. Conditions: a block has sixteen bytes; the round keys are there. -/
import Derived.Test.YtpampcokonicfaaRows
import Derived.Deep.DeepCutAuto
import Derived.Deep.CutBlock
import Derived.Test.YtpampcokonicfaaQCmacScript0
import Derived.Test.YtpampcokonicfaaQCmacScript1
import Derived.Test.YtpampcokonicfaaQCmacScript2
import Derived.Test.YtpampcokonicfaaQCmacScript4
/- Mac.Write over a world that is a list of things.  -/
namespace Go.Proofs.Ytpampcokonicfaa
open Go.RowKit
set_option maxRecDepth 100000
set_option linter.unusedVariables false
set_option linter.unusedSimpArgs false
/-- the ledger behind e blocks -/
def notedN (o : Option (List Rn)) (k : Nat) : Nat → Option (List Rn)
  | 0 => o
  | e + 1 => noteO (notedN o k e) 5 k 1
def sliceLen : Value → Nat
  | .slice _ n _ => n
  | _ => 0
section
variable {w0 w : World} {obs : List Ob}
/-- the thing list when the Mac is in a state and the ledger has some runs -/
def macObs (obs : List Ob) (l j b c : Nat) (q : Value) (o : Option (List Rn)) (m : MacS) : List Ob := (obs.set l (obP q o)).set j (obK b 76 (macC (.pointer (some ⟨c, 0, none⟩)) m))
theorem macObs_j {l j b c : Nat} {q : Value} {o : Option (List Rn)} {m : MacS} (hj : j < obs.length) : (macObs obs l j b c q o m)[j]? = some (obK b 76 (macC (.pointer (some ⟨c, 0, none⟩)) m)) := by
  unfold macObs
  rw [List.getElem?_set_self (by rw [List.length_set]; exact hj)]
theorem macC_setk (c : Value) (m : MacS) (hm : m.Ok) (x : Nat) : (macC c m).setIfInBounds 65 (.int .i64 (x : Int)) = macC c ⟨m.k1, m.k2, m.ch, m.wt, x⟩ := by
  obtain ⟨h1, h2, h3, h4, h5⟩ := hm
  have e : macC c m = ((c :: (m.k1.map B ++ (m.k2.map B ++ (m.ch.map B ++ m.wt.map B)))) ++ [Value.int .i64 (m.n : Int)]).toArray := by simp [macC]
  have e2 : macC c ⟨m.k1, m.k2, m.ch, m.wt, x⟩ = ((c :: (m.k1.map B ++ (m.k2.map B ++ (m.ch.map B ++ m.wt.map B)))) ++ [Value.int .i64 (x : Int)]).toArray := by simp [macC]
  have hl : (c :: (m.k1.map B ++ (m.k2.map B ++ (m.ch.map B ++ m.wt.map B)))).length = 65 := by simp [h1, h2, h3, h4]
  rw [e, e2, List.setIfInBounds_toArray, List.set_append_right _ _ (by omega), hl]
  rfl
theorem Bs.cut {w : World} {sb so n cap : Nat} {l : List UInt8} (h : Bs w (.slice (some ⟨sb, so, none⟩) n cap) l) (kk : Nat) (hk : kk ≤ l.length) : Bs w (.slice (if cap = kk then some ⟨sb, so, none⟩ else some ⟨sb, so + kk, none⟩) (l.length - kk) (cap - kk)) (l.drop kk) := by
  obtain ⟨ao, cap', hv, h1, h2, h3, h4⟩ := h.form
  injection hv with r1 r2 r3
  subst r1 r3
  refine ⟨⟨(if cap = kk then some ⟨sb, so, none⟩ else some ⟨sb, so + kk, none⟩), cap - kk, by rw [List.length_drop], by rw [List.length_drop]; omega, by omega, fun h => by by_cases e : cap = kk <;> simp [e] at h, fun j hj => ?_⟩⟩
  rw [List.length_drop] at hj
  obtain ⟨b, off, hb, hc⟩ := h4 (kk + j) (by omega)
  injection hb with hb
  injection hb with t1 t2 _
  subst t1 t2
  refine ⟨sb, so + kk, by rw [if_neg (by omega)], ?_⟩
  rw [Nat.add_assoc, hc, List.getD_eq_getElem?_getD, List.getD_eq_getElem?_getD, List.getElem?_drop]
structure WrInv (w0 : World) (obs : List Ob) (l j b c k : Nat) (K : List UInt8) (q : Value) (o : Option (List Rn)) (m : MacS) (p : List UInt8) (d : Nat) (uv : Value) (wr : World) : Prop where
  env : Env w0 wr (macObs obs l j b c q (notedN o k (feedM (enc K (k / 4 + 6)) (m, 0) (p.take d)).2) (feedM (enc K (k / 4 + 6)) (m, 0) (p.take d)).1)
  src : ∀ wx o2 m2, Env w0 wx (macObs obs l j b c q o2 m2) → Bs wx uv (p.drop d)
set_option maxHeartbeats 4000000 in
theorem writeM_env (h : Env w0 w obs) (i j l : Nat) (hij : i ≠ j) (hil : i ≠ l) (hjl : j ≠ l) {b c k : Nat} {K : List UInt8} {m : MacS} {q : Value} {o : Option (List Rn)} (hi : obs[i]? = some (obC (.pointer (some ⟨c, 0, none⟩)) (some (k, K)))) (hj : obs[j]? = some (obK b 76 (macC (.pointer (some ⟨c, 0, none⟩)) m))) (hl : obs[l]? = some (obP q o)) (hm : m.Ok) (hk : 0 < k)
    {u : Value} {p : List UInt8} (hp : ∀ wx o2 m2, Env w0 wx ((obs.set l (obP q o2)).set j (obK b 76 (macC (.pointer (some ⟨c, 0, none⟩)) m2))) → Bs wx u p) (hb : ∀ e, e ≤ p.length → Room (notedN o k e) 1) :
    Calls Try.prog 21 #[.pointer (some ⟨b, 0, none⟩), q, u] w fun e w' => e = .returned (.int .i64 0) ∧
      Env w0 w' ((obs.set l (obP q (notedN o k (feedM (enc K (k / 4 + 6)) (m, 0) p).2))).set j (obK b 76 (macC (.pointer (some ⟨c, 0, none⟩)) (feedM (enc K (k / 4 + 6)) (m, 0) p).1))) := by
  have H := Lib.hid h
  have HP := Lib.hid hp
  have HR := Lib.hid hb
  have HI := Lib.hid hi
  have HJ := Lib.hid hj
  have HLL := Lib.hid hl
  have HM := Lib.hid hm
  have B0 := Lib.hid (h.blk j hj)
  clear h hp hb hi hj hl hm
  go_enter Try.func21, Try.ntmps21
  go_wp2_with fail
  refine (mmade_any b c m w B0.out).mono ?_
  rintro e w1 ⟨rfl, rfl⟩
  go_wp2_with fail
  go_loopw [2, 7] (fun uv _ wr => ∃ d : Nat, d ≤ p.length ∧ Hid (WrInv w0 obs l j b c k K q o m p d uv wr)) (fun uv _ _ => sliceLen uv)
  case atStart =>
    refine ⟨0, Nat.zero_le _, Lib.hid ⟨?_, fun wx o2 m2 h => HP.out wx o2 m2 h⟩⟩
    show Env w0 w ((obs.set l (obP q o)).set j (obK b 76 (macC (.pointer (some ⟨c, 0, none⟩)) m)))
    rw [set_same obs l _ HLL.out, set_same obs j _ HJ.out]
    exact H.out
  case round =>
    obtain ⟨d, hd, HV⟩ := hrel
    obtain ⟨ao, cap, rfl, hcap⟩ := (HV.out.src _ _ _ HV.out.env).form
    have hdl : (p.drop d).length = p.length - d := List.length_drop
    by_cases hlt : d < p.length
    · have hjl2 : j < obs.length := (List.getElem?_eq_some_iff.1 HJ.out).1
      have hEl : ∀ x, (enc K (k / 4 + 6) x).length = 16 := fun x => enc_len _ _ _
      have OK1 : Hid (feedM (enc K (k / 4 + 6)) (m, 0) (p.take d)).1.Ok := Lib.hid (feedM_ok hEl _ HM.out)
      obtain ⟨m1, hm1⟩ : ∃ m1, (feedM (enc K (k / 4 + 6)) (m, 0) (p.take d)).1 = m1 := ⟨_, rfl⟩
      obtain ⟨e1, he1⟩ : ∃ e1, (feedM (enc K (k / 4 + 6)) (m, 0) (p.take d)).2 = e1 := ⟨_, rfl⟩
      have HE0 := HV.out.env
      rw [hm1] at OK1
      rw [hm1, he1] at HE0
      have HE := Lib.hid HE0
      have HSR := Lib.hid HV.out.src
      have HS1 : Hid (feedM (enc K (k / 4 + 6)) (m, 0) (p.take d) = (m1, e1)) := Lib.hid (by rw [← hm1, ← he1])
      have c65 := (HE.out.blk j (macObs_j hjl2)).cellAt 65 (macC_n OK1.out)
      have hdm : (p.drop d).length = p.length - d := hdl
      obtain ⟨N, hN⟩ : ∃ N, (p.drop d).length = N := ⟨_, rfl⟩
      rw [hN] at hdm hcap ⊢
      have HNN := Lib.hid hN
      have hN0 : 0 < N := by omega
      have hd1 : decide ((0 : Int) < (N : Int)) = true := by simp; omega
      obtain ⟨n1, hn1⟩ : ∃ n1, m1.n = n1 := ⟨_, rfl⟩
      have n16 : n1 ≤ 16 := by rw [← hn1]; exact OK1.out.hn
      rw [hn1] at c65
      have HN1 := Lib.hid hn1
      have HDM := Lib.hid hdm
      clear HE0 HV hm1 he1 hdl hN hn1 hdm
      go_upto_if 18 with fail
      go_cut [] from 11 to 67 (fun wx => ∃ (m2 : MacS) (e2 : Nat), Hid (Env w0 wx (macObs obs l j b c q (notedN o k e2) m2) ∧ m2.Ok ∧ m2.n < 16 ∧ ∀ r, r ≠ [] → feedM (enc K (k / 4 + 6)) (m2, e2) r = feedM (enc K (k / 4 + 6)) (m1, e1) r))
      case first =>
        by_cases hf : n1 = 16
        · subst hf
          have hfb : ((16 : Int) == 16) = true := rfl
          obtain ⟨S, hS⟩ : ∃ S : World → Prop, S = fun wx => ∃ o2 m2, Env w0 wx (macObs obs l j b c q o2 m2) := ⟨_, rfl⟩
          have ES : Hid (∀ wx o2 m2, Env w0 wx (macObs obs l j b c q o2 m2) → S wx) := Lib.hid (fun wx o2 m2 h => by rw [hS]; exact ⟨o2, m2, h⟩)
          have F0 : ∀ wx, S wx → wx.cell? ⟨b, 0, none⟩ = some (.pointer (some ⟨c, 0, none⟩)) := fun wx h => by
            rw [hS] at h
            obtain ⟨o2, m2, h⟩ := h
            exact (h.blk j (macObs_j hjl2)).cellAt 0 (macC_c _ m2)
          have ml3 : (m1.ch.map B).length = 16 := by rw [List.length_map, OK1.out.l3]
          have ml4 : (m1.wt.map B).length = 16 := by rw [List.length_map, OK1.out.l4]
          obtain ⟨X, hX⟩ : ∃ X, xorB m1.ch m1.wt = X := ⟨_, rfl⟩
          have hXl : X.length = 16 := by rw [← hX]; exact xorB_len _ _
          obtain ⟨Y, hY⟩ : ∃ Y, enc K (k / 4 + 6) X = Y := ⟨_, rfl⟩
          have hYl : Y.length = 16 := by rw [← hY]; exact enc_len _ _ _
          have hYm : (Y.map B).length = (m1.ch.map B).length := by rw [List.length_map, hYl, ml3]
          have CX : Hid (∀ wx, Calls Try.prog 49 #[.agg (m1.ch.map B).toArray, .agg (m1.wt.map B).toArray] wx fun e w' => e = .returned (.agg (barr X)) ∧ Below wx.heap.size wx w') := Lib.hid (fun wx => by rw [← hX]; exact xored_any m1.ch m1.wt OK1.out.l3 OK1.out.l4 wx)
          have hin : (macObs obs l j b c q (notedN o k e1) m1)[i]? = some (obC (.pointer (some ⟨c, 0, none⟩)) (some (k, K))) := by
            unfold macObs
            rw [List.getElem?_set_ne (Ne.symm hij), List.getElem?_set_ne (Ne.symm hil)]
            exact HI.out
          have hll2 : l < obs.length := (List.getElem?_eq_some_iff.1 HLL.out).1
          have hln : (macObs obs l j b c q (notedN o k e1) m1)[l]? = some (obP q (notedN o k e1)) := by
            unfold macObs
            rw [List.getElem?_set_ne hjl, List.getElem?_set_self hll2]
          have hset1 : (macObs obs l j b c q (notedN o k e1) m1).set l (obP q (noteO (notedN o k e1) 5 k 1)) = macObs obs l j b c q (notedN o k (e1 + 1)) m1 := by
            unfold macObs
            rw [List.set_comm _ _ (Ne.symm hjl), List.set_set]
            exact List.set_comm _ _ hjl
          have hcnt : e1 ≤ p.length := by
            have h := (feedM_count (enc K (k / 4 + 6)) (p.take d) m 0 HM.out.hn).1
            rw [HS1.out, List.length_take] at h
            have h1 : m1.n = 16 := HN1.out
            have h2 := HM.out.hn
            simp only [h1] at h
            omega
          have HX := Lib.hid hX
          have HY := Lib.hid hY
          have HIN := Lib.hid hin
          have HLN := Lib.hid hln
          have HSET := Lib.hid hset1
          have HCNT := Lib.hid hcnt
          clear hS hX hY hin hln hset1 hcnt
          go_upto_region 5 with fail
          refine hd_start S (by kernel_rfl) ?_
          intro w3 hw'
          have HE3 := Lib.hid (HE.out.draw 1)
          rw [← hw'] at HE3
          clear hw' HE
          have S3 : S w3 := ES.out _ _ _ HE3.out
          refine hd_take (v := ?_) 0 rfl (by kernel_rfl) (fun _ _ d _ _ h => (by cases d <;> exact h)) (by kernel_rfl) S3 (fun w' hS => ?_) ?_
          rotate_left
          focus (clear hS; go_simp; try rfl; done)
          simp only [List.getElem_toArray, List.getElem_cons_succ, List.getElem_cons_zero, Act.put, List.setIfInBounds_toArray, List.set_cons_zero, List.set_cons_succ]
          refine hd_take (v := ?_) 1 rfl (by kernel_rfl) (fun _ _ d _ _ h => (by cases d <;> exact h)) (by kernel_rfl) S3 (fun w' hS => ?_) ?_
          rotate_left
          focus (clear hS; go_simp; try rfl; done)
          simp only [List.getElem_toArray, List.getElem_cons_succ, List.getElem_cons_zero, Act.put, List.setIfInBounds_toArray, List.set_cons_zero, List.set_cons_succ]
          refine hd_take (v := ?_) 2 rfl (by kernel_rfl) (fun _ _ d _ _ h => (by cases d <;> exact h)) (by kernel_rfl) S3 (fun w' hS => ?_) ?_
          rotate_left
          focus (clear hS; go_simp; try rfl; done)
          simp only [List.getElem_toArray, List.getElem_cons_succ, List.getElem_cons_zero, Act.put, List.setIfInBounds_toArray, List.set_cons_zero, List.set_cons_succ]
          refine hd_take (v := ?_) 3 rfl (by kernel_rfl) (fun _ _ d _ _ h => (by cases d <;> exact h)) (by kernel_rfl) S3 (fun w' hS => ?_) ?_
          rotate_left
          focus (clear hS; go_simp; try rfl; done)
          simp only [List.getElem_toArray, List.getElem_cons_succ, List.getElem_cons_zero, Act.put, List.setIfInBounds_toArray, List.set_cons_zero, List.set_cons_succ]
          refine hd_take (v := ?_) 4 rfl (by kernel_rfl) (fun _ _ d _ _ h => (by cases d <;> exact h)) (by kernel_rfl) S3 (fun w' hS => ?_) ?_
          rotate_left
          focus (have q0 := F0 w' hS; clear hS; go_simp; try rfl; done)
          simp only [List.getElem_toArray, List.getElem_cons_succ, List.getElem_cons_zero, Act.put, List.setIfInBounds_toArray, List.set_cons_zero, List.set_cons_succ]
          refine hd_take (v := ?_) 5 rfl (by kernel_rfl) (fun _ _ d _ _ h => (by cases d <;> exact h)) (by kernel_rfl) S3 (fun w' hS => ?_) ?_
          rotate_left
          focus (clear hS; go_simp; try rfl; done)
          simp only [List.getElem_toArray, List.getElem_cons_succ, List.getElem_cons_zero, Act.put, List.setIfInBounds_toArray, List.set_cons_zero, List.set_cons_succ]
          refine hd_take (v := ?_) 6 rfl (by kernel_rfl) (fun _ _ d _ _ h => (by cases d <;> exact h)) (by kernel_rfl) S3 (fun w' hS => ?_) ?_
          rotate_left
          focus (clear hS; go_simp; try rfl; done)
          simp only [List.getElem_toArray, List.getElem_cons_succ, List.getElem_cons_zero, Act.put, List.setIfInBounds_toArray, List.set_cons_zero, List.set_cons_succ]
          refine hd_take (v := ?_) 7 rfl (by kernel_rfl) (fun _ _ d _ _ h => (by cases d <;> exact h)) (by kernel_rfl) S3 (fun w' hS => ?_) ?_
          rotate_left
          focus (clear hS; go_simp; try rfl; done)
          simp only [List.getElem_toArray, List.getElem_cons_succ, List.getElem_cons_zero, Act.put, List.setIfInBounds_toArray, List.set_cons_zero, List.set_cons_succ]
          refine hd_take (v := ?_) 8 rfl (by kernel_rfl) (fun _ _ d _ _ h => (by cases d <;> exact h)) (by kernel_rfl) S3 (fun w' hS => ?_) ?_
          rotate_left
          focus (clear hS; go_simp; try rfl; done)
          simp only [List.getElem_toArray, List.getElem_cons_succ, List.getElem_cons_zero, Act.put, List.setIfInBounds_toArray, List.set_cons_zero, List.set_cons_succ]
          refine hd_take (v := ?_) 10 rfl (by kernel_rfl) (fun _ _ d _ _ h => (by cases d <;> exact h)) (by kernel_rfl) S3 (fun w' hS => ?_) ?_
          rotate_left
          focus (clear hS; go_simp; try rfl; done)
          simp only [List.getElem_toArray, List.getElem_cons_succ, List.getElem_cons_zero, Act.put, List.setIfInBounds_toArray, List.set_cons_zero, List.set_cons_succ]
          refine hd_take (v := ?_) 11 rfl (by kernel_rfl) (fun _ _ d _ _ h => (by cases d <;> exact h)) (by kernel_rfl) S3 (fun w' hS => ?_) ?_
          rotate_left
          focus (clear hS; go_simp; try rfl; done)
          simp only [List.getElem_toArray, List.getElem_cons_succ, List.getElem_cons_zero, Act.put, List.setIfInBounds_toArray, List.set_cons_zero, List.set_cons_succ]
          refine hd_take (v := ?_) 12 rfl (by kernel_rfl) (fun _ _ d _ _ h => (by cases d <;> exact h)) (by kernel_rfl) S3 (fun w' hS => ?_) ?_
          rotate_left
          focus (clear hS; go_simp; try rfl; done)
          simp only [List.getElem_toArray, List.getElem_cons_succ, List.getElem_cons_zero, Act.put, List.setIfInBounds_toArray, List.set_cons_zero, List.set_cons_succ]
          have R3 := Lib.hid (mac_ch (HE3.out.blk j (macObs_j hjl2)) OK1.out)
          have R4 := Lib.hid (mac_wt (HE3.out.blk j (macObs_j hjl2)) OK1.out)
          clear F0
          refine hd_two 9 13 (by kernel_rfl) ?_ ?_
          refine op_load rfl (by kernel_rfl) rfl rfl Try.underlying31 rfl size16 ml3 R3.out ?_
          refine ⟨S3, ?_⟩
          simp only [List.getElem_toArray, List.getElem_cons_succ, List.getElem_cons_zero, Act.put, List.setIfInBounds_toArray, List.set_cons_zero, List.set_cons_succ]
          refine hd_one 13 (by kernel_rfl) ?_
          refine op_load rfl (by kernel_rfl) rfl rfl Try.underlying31 rfl size16 ml4 R4.out ?_
          refine ⟨S3, ?_⟩
          simp only [List.getElem_toArray, List.getElem_cons_succ, List.getElem_cons_zero, Act.put, List.setIfInBounds_toArray, List.set_cons_zero, List.set_cons_succ]
          rotate_left
          refine op_load rfl (by kernel_rfl) rfl rfl Try.underlying31 rfl size16 ml4 R4.out ?_
          refine ⟨S3, ?_⟩
          simp only [List.getElem_toArray, List.getElem_cons_succ, List.getElem_cons_zero, Act.put, List.setIfInBounds_toArray, List.set_cons_zero, List.set_cons_succ]
          refine hd_one 9 (by kernel_rfl) ?_
          refine op_load rfl (by kernel_rfl) rfl rfl Try.underlying31 rfl size16 ml3 R3.out ?_
          refine ⟨S3, ?_⟩
          simp only [List.getElem_toArray, List.getElem_cons_succ, List.getElem_cons_zero, Act.put, List.setIfInBounds_toArray, List.set_cons_zero, List.set_cons_succ]
          all_goals
            refine hd_one 14 (by kernel_rfl) ?_
            refine op_call rfl (by kernel_rfl) (by go_simp; first | exact ⟨rfl, rfl⟩ | rfl) ?_
            refine (CX.out w3).mono ?_
            rintro e w4 ⟨rfl, hb⟩
            have h5 := HE3.out.below hb
            have hS2 := ES.out _ _ _ h5
            clear hb R3 R4
            have HE4 := Lib.hid h5
            clear h5 HE3
            refine ⟨_, rfl, hS2, ?_⟩
            simp only [List.getElem_toArray, List.getElem_cons_succ, List.getElem_cons_zero, Act.put, List.setIfInBounds_toArray, List.set_cons_zero, List.set_cons_succ]
            refine hd_one 15 (by kernel_rfl) ?_
            refine op_call rfl (by kernel_rfl) (by go_simp; first | exact ⟨rfl, rfl⟩ | rfl) ?_
            refine (encC_env HE4.out i l hil HIN.out HLN.out (HR.out e1 HCNT.out) hk X hXl).mono ?_
            rintro e w5 ⟨he, h5⟩
            rw [HY.out] at he
            subst he
            rw [HSET.out] at h5
            have hS2 := ES.out _ _ _ h5
            have HE5 := Lib.hid h5
            clear h5 HE4
            refine ⟨_, rfl, hS2, ?_⟩
            simp only [List.getElem_toArray, List.getElem_cons_succ, List.getElem_cons_zero, Act.put, List.setIfInBounds_toArray, List.set_cons_zero, List.set_cons_succ]
            refine hd_take (v := ?_) 16 rfl (by kernel_rfl) (fun _ _ d _ _ h => (by cases d <;> exact h)) (by kernel_rfl) hS2 (fun w' hS => ?_) ?_
            rotate_left
            focus (clear hS; go_simp; try rfl; done)
            simp only [List.getElem_toArray, List.getElem_cons_succ, List.getElem_cons_zero, Act.put, List.setIfInBounds_toArray, List.set_cons_zero, List.set_cons_succ]
            refine hd_take (v := ?_) 17 rfl (by kernel_rfl) (fun _ _ d _ _ h => (by cases d <;> exact h)) (by kernel_rfl) hS2 (fun w' hS => ?_) ?_
            rotate_left
            focus (clear hS; go_simp; try rfl; done)
            simp only [List.getElem_toArray, List.getElem_cons_succ, List.getElem_cons_zero, Act.put, List.setIfInBounds_toArray, List.set_cons_zero, List.set_cons_succ]
            refine hd_take (v := ?_) 18 rfl (by kernel_rfl) (fun _ _ d _ _ h => (by cases d <;> exact h)) (by kernel_rfl) hS2 (fun w' hS => ?_) ?_
            rotate_left
            focus (clear hS; go_simp; try rfl; done)
            simp only [List.getElem_toArray, List.getElem_cons_succ, List.getElem_cons_zero, Act.put, List.setIfInBounds_toArray, List.set_cons_zero, List.set_cons_succ]
            refine hd_take (v := ?_) 19 rfl (by kernel_rfl) (fun _ _ d _ _ h => (by cases d <;> exact h)) (by kernel_rfl) hS2 (fun w' hS => ?_) ?_
            rotate_left
            focus (clear hS; go_simp; try rfl; done)
            simp only [List.getElem_toArray, List.getElem_cons_succ, List.getElem_cons_zero, Act.put, List.setIfInBounds_toArray, List.set_cons_zero, List.set_cons_succ]
            refine hd_take (v := ?_) 20 rfl (by kernel_rfl) (fun _ _ d _ _ h => (by cases d <;> exact h)) (by kernel_rfl) hS2 (fun w' hS => ?_) ?_
            rotate_left
            focus (clear hS; go_simp; try rfl; done)
            simp only [List.getElem_toArray, List.getElem_cons_succ, List.getElem_cons_zero, Act.put, List.setIfInBounds_toArray, List.set_cons_zero, List.set_cons_succ]
            have HB5 := Lib.hid (HE5.out.blk j (macObs_j hjl2))
            have zs16 : (zB.map B).length = (m1.wt.map B).length := ml4.symm
            have sz : (Try.prog.info? 31).map (·.size) = some (zB.map B).length := size16
            have szY : (Try.prog.info? 31).map (·.size) = some (Y.map B).length := size16b _ hYl
            have oneY : ∀ v ∈ Y.map B, v.oneCell' = true := fun v hv => by
              obtain ⟨x, _, rfl⟩ := List.mem_map.1 hv
              rfl
            refine hd_one 21 (by kernel_rfl) ?_
            refine op_store_part b 33 (Y.map B) (Value.pointer (some ⟨c, 0, none⟩) :: (m1.k1.map B ++ m1.k2.map B)) (m1.ch.map B) (m1.wt.map B ++ [.int .i64 (m1.n : Int)]) rfl (by kernel_rfl) rfl rfl HB5.out (macC_ch _ _) (by simp [OK1.out.l1, OK1.out.l2]) szY hYm oneY ?_
            intro w6 B6 O6
            have HB6 : Hid (Blk w6 b 76 (macC (.pointer (some ⟨c, 0, none⟩)) ⟨m1.k1, m1.k2, Y, m1.wt, m1.n⟩)) := Lib.hid (by rw [macC_ch]; exact B6)
            have H6 : Hid (Env w0 w6 (macObs obs l j b c q (notedN o k (e1 + 1)) ⟨m1.k1, m1.k2, Y, m1.wt, m1.n⟩)) := by
              have h := HE5.out.turnBlk j (macObs_j hjl2) HB6.out O6
              unfold macObs at h ⊢
              rw [List.set_set] at h
              exact Lib.hid h
            have S6 := ES.out _ _ _ H6.out
            refine ⟨S6, ?_⟩
            simp only [List.getElem_toArray, List.getElem_cons_succ, List.getElem_cons_zero, Act.put, List.setIfInBounds_toArray, List.set_cons_zero, List.set_cons_succ]
            have OK6 : Hid (MacS.Ok ⟨m1.k1, m1.k2, Y, zB, m1.n⟩) := Lib.hid ⟨OK1.out.l1, OK1.out.l2, hYl, rfl, OK1.out.hn⟩
            clear B6 O6 HE5 HB5 S6 ml3 c65 CX hS2 S3
            refine hd_done (by kernel_rfl) ?_
            go_wp2_with ((with_reducible change wpList _ _ _ (Oper.mk _ (Op.store 31 _ _) _ _ _ _ :: _) _ _); refine wpList_store_part b 49 (zB.map B) rfl rfl (Value.pointer (some ⟨c, 0, none⟩) :: (m1.k1.map B ++ (m1.k2.map B ++ Y.map B))) (m1.wt.map B) [.int .i64 (m1.n : Int)] HB6.out (macC_wt _ _) (by simp [OK1.out.l1, OK1.out.l2, hYl]) sz zs16 zB_ones ?_; intro w5 B5 O5; have HB5 : Hid (Blk w5 b 76 (macC (.pointer (some ⟨c, 0, none⟩)) ⟨m1.k1, m1.k2, Y, zB, m1.n⟩)) := Lib.hid (by rw [macC_wt]; exact B5); clear B5; have c65 := HB5.out.cellAt 65 (macC_n OK6.out); have f65 := HB5.out.unfrozen 65)
            go_meet
            refine ⟨⟨m1.k1, m1.k2, Y, zB, 0⟩, e1 + 1, Lib.hid ⟨?_, ⟨OK1.out.l1, OK1.out.l2, hYl, rfl, Nat.zero_le _⟩, by show 0 < 16; omega, fun r hr => ?_⟩⟩
            · have h1 := HB5.out.set 65 (.int .i64 ((0 : Nat) : Int))
              rw [macC_setk _ _ OK6.out] at h1
              have h := H6.out.turnBlk j (macObs_j hjl2) h1 (O5.set (.inl rfl) _)
              unfold macObs at h ⊢
              rw [List.set_set] at h
              exact h
            · rw [feedM_full (enc K (k / 4 + 6)) r m1 e1 HN1.out hr]
              unfold flushM
              rw [HX.out, HY.out]
        · have hfb : ((n1 : Int) == 16) = false := by simp; omega
          go_wp2_with fail
          go_meet
          exact ⟨m1, e1, Lib.hid ⟨HE.out, OK1.out, by rw [HN1.out]; omega, fun _ _ => rfl⟩⟩
      case rest =>
        obtain ⟨m2, e2, HC⟩ := hcut
        have bM := HC.out.1.blk j (macObs_j hjl2)
        have cN := bM.cellAt 65 (macC_n HC.out.2.1)
        obtain ⟨n2, hn2⟩ : ∃ n2, m2.n = n2 := ⟨_, rfl⟩
        rw [hn2] at cN
        have n216 : n2 < 16 := by rw [← hn2]; exact HC.out.2.2.1
        have HN2 := Lib.hid hn2
        have HBM := Lib.hid bM
        have hsl : ∀ w', (Instr.sliceAt 31 (.pointer (some ⟨b, 49, none⟩)) (some (.int .i64 (n2 : Int))) none none).run Try.prog w' = .ok (.slice (some ⟨b, 49 + n2, none⟩) (16 - n2) (16 - n2)) w' := fun w' => by
          have hal : Try.prog.arrayLen 31 = 16 := by kernel_rfl
          rw [run_sliceAt_array_l w' 31 ⟨b, 49, none⟩ (by simp [Program.arrayLen, Program.elem, Try.underlying31]) .i64 (n2 : Int) (by omega) (by rw [hal]; omega)]
          have hsz : (sizeOf (Try.prog.elem 31)).run Try.prog w' = .ok 1 w' := by kernel_rfl
          rw [hsz, Result.andThen_ok, hal]
          unfold slicedAt
          rw [show ((n2 : Int)).toNat = n2 from by omega, if_neg (by omega), add_lit]
          simp
        obtain ⟨S, hS⟩ : ∃ S : World → Prop, S = fun wx => wx.cell? ⟨b, 65, none⟩ = some (.int .i64 (n2 : Int)) := ⟨_, rfl⟩
        have FN : ∀ wx, S wx → wx.cell? ⟨b, 65, none⟩ = some (.int .i64 (n2 : Int)) := fun wx h => by rw [hS] at h; exact h
        have FS : ∀ wx, S wx → (Instr.sliceAt 31 (.pointer (some ⟨b, 49, none⟩)) (some (.int .i64 (n2 : Int))) none none).run Try.prog wx = .ok (.slice (some ⟨b, 49 + n2, none⟩) (16 - n2) (16 - n2)) wx := fun wx _ => hsl wx
        have SF : Hid (∀ wx, wx.cell? ⟨b, 65, none⟩ = some (.int .i64 (n2 : Int)) → S wx) := Lib.hid (fun wx h => by rw [hS]; exact h)
        have S1 : S wc := SF.out wc cN
        clear hS hn2 bM hsl cN
        go_upto_region 7 with fail
        refine hd_start S (by kernel_rfl) ?_
        intro w3 hw'
        have S3 : S w3 := by rw [hw']; exact SF.out _ (show wc.cell? ⟨b, 65, none⟩ = _ from FN _ S1)
        refine hd_take (v := ?_) 0 rfl (by kernel_rfl) (fun _ _ d _ _ h => (by cases d <;> exact h)) (by kernel_rfl) S3 (fun w' hS => ?_) ?_
        rotate_left
        focus (clear hS; go_simp; try rfl; done)
        simp only [List.getElem_toArray, List.getElem_cons_succ, List.getElem_cons_zero, Act.put, List.setIfInBounds_toArray, List.set_cons_zero, List.set_cons_succ]
        refine hd_take (v := ?_) 1 rfl (by kernel_rfl) (fun _ _ d _ _ h => (by cases d <;> exact h)) (by kernel_rfl) S3 (fun w' hS => ?_) ?_
        rotate_left
        focus (clear hS; go_simp; try rfl; done)
        simp only [List.getElem_toArray, List.getElem_cons_succ, List.getElem_cons_zero, Act.put, List.setIfInBounds_toArray, List.set_cons_zero, List.set_cons_succ]
        refine hd_take (v := ?_) 2 rfl (by kernel_rfl) (fun _ _ d _ _ h => (by cases d <;> exact h)) (by kernel_rfl) S3 (fun w' hS => ?_) ?_
        rotate_left
        focus (clear hS; go_simp; try rfl; done)
        simp only [List.getElem_toArray, List.getElem_cons_succ, List.getElem_cons_zero, Act.put, List.setIfInBounds_toArray, List.set_cons_zero, List.set_cons_succ]
        refine hd_take (v := ?_) 3 rfl (by kernel_rfl) (fun _ _ d _ _ h => (by cases d <;> exact h)) (by kernel_rfl) S3 (fun w' hS => ?_) ?_
        rotate_left
        focus (clear hS; go_simp; try rfl; done)
        simp only [List.getElem_toArray, List.getElem_cons_succ, List.getElem_cons_zero, Act.put, List.setIfInBounds_toArray, List.set_cons_zero, List.set_cons_succ]
        refine hd_take (v := ?_) 4 rfl (by kernel_rfl) (fun _ _ d _ _ h => (by cases d <;> exact h)) (by kernel_rfl) S3 (fun w' hS => ?_) ?_
        rotate_left
        focus (clear hS; go_simp; try rfl; done)
        simp only [List.getElem_toArray, List.getElem_cons_succ, List.getElem_cons_zero, Act.put, List.setIfInBounds_toArray, List.set_cons_zero, List.set_cons_succ]
        refine hd_take (v := ?_) 5 rfl (by kernel_rfl) (fun _ _ d _ _ h => (by cases d <;> exact h)) (by kernel_rfl) S3 (fun w' hS => ?_) ?_
        rotate_left
        focus (clear hS; go_simp; try rfl; done)
        simp only [List.getElem_toArray, List.getElem_cons_succ, List.getElem_cons_zero, Act.put, List.setIfInBounds_toArray, List.set_cons_zero, List.set_cons_succ]
        refine hd_take (v := ?_) 6 rfl (by kernel_rfl) (fun _ _ d _ _ h => (by cases d <;> exact h)) (by kernel_rfl) S3 (fun w' hS => ?_) ?_
        rotate_left
        focus (have q0 := FN w' hS; clear hS; go_simp; try rfl; done)
        simp only [List.getElem_toArray, List.getElem_cons_succ, List.getElem_cons_zero, Act.put, List.setIfInBounds_toArray, List.set_cons_zero, List.set_cons_succ]
        refine hd_take (v := ?_) 7 rfl (by kernel_rfl) (fun _ _ d _ _ h => (by cases d <;> exact h)) (by kernel_rfl) S3 (fun w' hS => ?_) ?_
        rotate_left
        focus (have q0 := FS w' hS; clear hS; go_simp; try rfl; done)
        simp only [List.getElem_toArray, List.getElem_cons_succ, List.getElem_cons_zero, Act.put, List.setIfInBounds_toArray, List.set_cons_zero, List.set_cons_succ]
        refine hd_take (v := ?_) 8 rfl (by kernel_rfl) (fun _ _ d _ _ h => (by cases d <;> exact h)) (by kernel_rfl) S3 (fun w' hS => ?_) ?_
        rotate_left
        focus (clear hS; go_simp; try rfl; done)
        simp only [List.getElem_toArray, List.getElem_cons_succ, List.getElem_cons_zero, Act.put, List.setIfInBounds_toArray, List.set_cons_zero, List.set_cons_succ]
        obtain ⟨ao2, cap2, hv2, q1, q2, q3, q4⟩ := (HSR.out wc _ _ HC.out.1).form
        injection hv2 with r1 r2 r3
        subst r1 r3
        obtain ⟨sb, so, rfl, _⟩ := q4 0 (by rw [HNN.out]; omega)
        obtain ⟨kk, hkk⟩ : ∃ kk, min N (16 - n2) = kk := ⟨_, rfl⟩
        have csl : (((p.drop d).take kk).map B).length = kk := by rw [List.length_map, List.length_take, HNN.out]; omega
        have hw1 : m2.wt.length = 16 := HC.out.2.1.l4
        have hsrc : ∀ j v, (((p.drop d).take kk).map B)[j]? = some v → w3.cell? ((⟨sb, so, none⟩ : Addr).add j) = some v := by
          intro jj v hv
          have hjk : jj < kk := by have := (List.getElem?_eq_some_iff.1 hv).1; omega
          obtain ⟨b2, o2, hb2, hc2⟩ := q4 jj (by rw [HNN.out]; omega)
          injection hb2 with hb2
          injection hb2 with t1 t2 _
          subst t1 t2
          rw [hw', add_lit]
          refine (show wc.cell? ⟨sb, so + jj, none⟩ = _ from hc2).trans ?_
          rw [← hv, List.getElem?_map, List.getElem?_take_of_lt hjk]
          have hlt2 : jj < (p.drop d).length := by rw [HNN.out]; omega
          rw [List.getD_eq_getElem?_getD, List.getElem?_eq_getElem hlt2]
          rfl
        have HB3 : Blk w3 b 76 (macC (.pointer (some ⟨c, 0, none⟩)) m2) := by rw [hw']; exact HBM.out
        have hcut : macC (.pointer (some ⟨c, 0, none⟩)) m2 = ((Value.pointer (some ⟨c, 0, none⟩) :: (m2.k1.map B ++ (m2.k2.map B ++ (m2.ch.map B ++ (m2.wt.take n2).map B)))) ++ (((m2.wt.drop n2).take kk).map B ++ ((m2.wt.drop (n2 + kk)).map B ++ [Value.int .i64 (m2.n : Int)]))).toArray := by
          have e : m2.wt = m2.wt.take n2 ++ ((m2.wt.drop n2).take kk ++ m2.wt.drop (n2 + kk)) := by
            rw [← List.drop_drop, List.take_append_drop, List.take_append_drop]
          unfold macC
          conv => lhs; rw [e]
          simp
        refine hd_one 9 (by kernel_rfl) ?_
        refine op_copy rfl rfl (.tmp 54) (.tmp 55) 22 22 rfl 5 Try.underlying22 (by kernel_rfl) b (49 + n2) (16 - n2) (16 - n2) ⟨sb, so, none⟩ N cap rfl rfl _ _ _ (((p.drop d).take kk).map B) HB3 hcut (by simp [HC.out.2.1.l1, HC.out.2.1.l2, HC.out.2.1.l3, hw1]; omega) (by rw [csl, List.length_map, List.length_take, List.length_drop, hw1]; omega) (by rw [csl]; exact hkk.symm) hsrc (fun v hv => by obtain ⟨x, _, rfl⟩ := List.mem_map.1 hv; rfl) ?_
        intro w4 B4 O4
        have hset : setsU m2.wt n2 ((p.drop d).take kk) = m2.wt.take n2 ++ (p.drop d).take kk ++ m2.wt.drop (n2 + kk) := by
          have h1 : (m2.wt.take n2).length = n2 := by rw [List.length_take, hw1]; omega
          have h2 : ((p.drop d).take kk).length = kk := by rw [List.length_take, HNN.out]; omega
          have h := setsU_app ((p.drop d).take kk) (m2.wt.take n2) (m2.wt.drop n2) (by rw [h2, List.length_drop, hw1]; omega)
          rw [List.take_append_drop, h1, h2, List.drop_drop] at h
          exact h
        have B5 : Hid (Blk w4 b 76 (macC (.pointer (some ⟨c, 0, none⟩)) ⟨m2.k1, m2.k2, m2.ch, setsU m2.wt n2 ((p.drop d).take kk), m2.n⟩)) := by
          have e : macC (.pointer (some ⟨c, 0, none⟩)) ⟨m2.k1, m2.k2, m2.ch, setsU m2.wt n2 ((p.drop d).take kk), m2.n⟩ = ((Value.pointer (some ⟨c, 0, none⟩) :: (m2.k1.map B ++ (m2.k2.map B ++ (m2.ch.map B ++ (m2.wt.take n2).map B)))) ++ (((p.drop d).take kk).map B ++ ((m2.wt.drop (n2 + kk)).map B ++ [Value.int .i64 (m2.n : Int)]))).toArray := by
            unfold macC
            rw [hset]
            simp
          rw [e]
          exact Lib.hid B4
        have OK5 : Hid (MacS.Ok ⟨m2.k1, m2.k2, m2.ch, setsU m2.wt n2 ((p.drop d).take kk), m2.n⟩) := Lib.hid ⟨HC.out.2.1.l1, HC.out.2.1.l2, HC.out.2.1.l3, by show (setsU _ _ _).length = 16; rw [hset]; simp [hw1, HNN.out]; omega, HC.out.2.1.hn⟩
        have c5 := B5.out.cellAt 65 (macC_n OK5.out)
        rw [show (MacS.n ⟨m2.k1, m2.k2, m2.ch, setsU m2.wt n2 ((p.drop d).take kk), m2.n⟩) = n2 from HN2.out] at c5
        have S4 := SF.out w4 c5
        have O5 : Hid (Only (fun x => x = b) wc w4) := by
          have h := (Only.refl (fun x => x = b) wc).draw 1
          rw [← hw'] at h
          exact Lib.hid (h.trans O4 (fun x hx => .inl hx))
        refine ⟨S4, ?_⟩
        simp only [List.getElem_toArray, List.getElem_cons_succ, List.getElem_cons_zero, Act.put, List.setIfInBounds_toArray, List.set_cons_zero, List.set_cons_succ]
        rw [csl]
        clear B4 O4 hcut hsrc HB3 q1 q2 q3 q4 FN FS hset hw'
        refine hd_one 10 (by kernel_rfl) ?_
        refine op_run rfl (by kernel_rfl) (by go_simp; first | done | exact ⟨rfl, rfl⟩ | rfl) ?_
        refine ⟨S4, ?_⟩
        simp only [List.getElem_toArray, List.getElem_cons_succ, List.getElem_cons_zero, Act.put, List.setIfInBounds_toArray, List.set_cons_zero, List.set_cons_succ]
        refine hd_done (by kernel_rfl) ?_
        have f5 := B5.out.unfrozen 65
        have hwr : IntKind.i64.wrap ((n2 : Int) + (kk : Int)) = ((n2 + kk : Nat) : Int) := by rw [IntWalk.i64_in _ (by omega)]; omega
        have hkN : kk ≤ N := by omega
        have hk0 : 0 < kk := by omega
        have hNc : N ≤ cap := by have := hcap.1; omega
        have B6 : Hid (Blk (w4.setCell ⟨b, 65, none⟩ (.int .i64 ((n2 + kk : Nat) : Int))) b 76 (macC (.pointer (some ⟨c, 0, none⟩)) ⟨m2.k1, m2.k2, m2.ch, setsU m2.wt n2 ((p.drop d).take kk), n2 + kk⟩)) := by
          have h := B5.out.set 65 (.int .i64 ((n2 + kk : Nat) : Int))
          rw [macC_setk _ _ OK5.out] at h
          exact Lib.hid h
        have HENV : Hid (Env w0 (w4.setCell ⟨b, 65, none⟩ (.int .i64 ((n2 + kk : Nat) : Int))) (macObs obs l j b c q (notedN o k (feedM (enc K (k / 4 + 6)) (m, 0) (p.take (d + kk))).2) (feedM (enc K (k / 4 + 6)) (m, 0) (p.take (d + kk))).1)) := by
          have hne : (p.drop d).take kk ≠ [] := fun h => by have := congrArg List.length h; rw [List.length_take, HNN.out, List.length_nil] at this; omega
          have hfe : feedM (enc K (k / 4 + 6)) (m, 0) (p.take (d + kk)) = (⟨m2.k1, m2.k2, m2.ch, setsU m2.wt n2 ((p.drop d).take kk), n2 + kk⟩, e2) := by
            rw [List.take_add, feedM_app, HS1.out, ← HC.out.2.2.2 _ hne, feedM_room _ _ _ _ (by rw [HN2.out, List.length_take, HNN.out]; omega), HN2.out, List.length_take, HNN.out, show min kk N = kk from by omega]
          rw [hfe]
          have h := HC.out.1.turnBlk j (macObs_j hjl2) B6.out (O5.out.set (.inl rfl) _)
          unfold macObs at h ⊢
          rw [List.set_set] at h
          exact Lib.hid h
        clear O5 B6 B5
        go_wp2_with fail
        refine ⟨⟨d + kk, by have := HDM.out; omega, Lib.hid ⟨?_, fun wx o3 m3 h => ?_⟩⟩, ?_⟩
        · have h := HENV.out
          rw [Int.natCast_add] at h
          exact h
        · have h2 := HSR.out wx o3 m3 h
          have h3 := Bs.cut h2 kk (by rw [HNN.out]; exact hkN)
          rw [HNN.out, List.drop_drop] at h3
          exact h3
        · show N - kk < N
          omega
    · obtain rfl : d = p.length := by omega
      have h0 : (p.drop p.length).length = 0 := by rw [hdl]; omega
      rw [h0]
      have HE := HV.out.env
      rw [List.take_length] at HE
      have HE2 := Lib.hid HE
      clear HE HV hdl h0 hcap
      go_wp2
      go_ret
      exact ⟨rfl, HE2.out⟩
end
end Go.Proofs.Ytpampcokonicfaa
/- Mac.Wipe and Tag over a world that is a list of things; a New that is refused. -/
namespace Go.Proofs.Ytpampcokonicfaa
open Go.RowKit
set_option maxRecDepth 100000
set_option linter.unusedVariables false
set_option linter.unusedSimpArgs false
section
variable {w0 w : World} {obs : List Ob}
theorem zeroMac (w : World) : (zeroValue 76).run Try.prog w = .ok (.agg (macC (.pointer none) zM)) w := by kernel_rfl
theorem zM_ok : zM.Ok := ⟨rfl, rfl, rfl, rfl, by decide⟩
theorem formOf_len {K : List UInt8} {k : Nat} {m : MacS} (hK : K.length = 240) (hk : k ≤ 32) (hm : m.Ok) : (formOf K k m).length = 16 * (k / 4 + 6 + 1) + 65 := by
  unfold formOf MacS.tail
  rw [List.length_append, List.length_append, MacS.all_len hm, List.length_take, hK, List.length_singleton]
  omega
set_option maxHeartbeats 2000000 in
theorem wipeM_env (h : Env w0 w obs) (i j l : Nat) (hij : i ≠ j) (hil : i ≠ l) (hjl : j ≠ l) {b c k : Nat} {K : List UInt8} {m : MacS} {q : Value} {o : Option (List Rn)} (hi : obs[i]? = some (obC (.pointer (some ⟨c, 0, none⟩)) (some (k, K)))) (hj : obs[j]? = some (obK b 76 (macC (.pointer (some ⟨c, 0, none⟩)) m))) (hl : obs[l]? = some (obP q o)) (hb : Room o 1) (hm : m.Ok) (hk : 0 < k) (hk2 : k ≤ 32) (hK : K.length = 240) :
    Calls Try.prog 32 #[.pointer (some ⟨b, 0, none⟩), q] w fun e w' => e = .returned (.int .i64 0) ∧ Env w0 w' (((obs.set l (obP q (noteO o 8 ((16 * (k / 4 + 6 + 1) + 65 : Nat) : Int) 1))).set i (obC (.pointer (some ⟨c, 0, none⟩)) (some (0, zeroK)))).set j (obK b 76 (macC (.pointer none) zM))) := by
  have H := Lib.hid h
  have HI := Lib.hid hi
  have HJ := Lib.hid hj
  have HL := Lib.hid hl
  have HM := Lib.hid hm
  have B0 := Lib.hid (h.blk j hj)
  have FL := Lib.hid (formOf_len hK hk2 hm)
  have HK := Lib.hid hK
  have HB := Lib.hid hb
  have hil2 : i < obs.length := (List.getElem?_eq_some_iff.1 hi).1
  have hjl2 : j < obs.length := (List.getElem?_eq_some_iff.1 hj).1
  have hll2 : l < obs.length := (List.getElem?_eq_some_iff.1 hl).1
  clear h hi hj hl hm hK hb
  go_enter Try.func32, Try.ntmps32
  go_wp2_with fail
  refine (mmade_any b c m w B0.out).mono ?_
  rintro e w1 ⟨rfl, rfl⟩
  go_wp2_with fail
  refine (formM_env H.out i j HI.out HJ.out HM.out hk hk2 HK.out).mono ?_
  rintro e w1 ⟨v, rfl, h1⟩
  obtain ⟨ao, cap, hv⟩ := (Env.bytes h1 (obs.length + 0) (at_r rfl 0)).any
  rw [FL.out] at hv
  obtain ⟨L, hL⟩ : ∃ L, 16 * (k / 4 + 6 + 1) + 65 = L := ⟨_, rfl⟩
  rw [hL] at hv
  subst hv
  have H1 := Lib.hid h1.drop
  have HLL := Lib.hid hL
  clear h1 hL
  go_wp2_with fail
  refine (noteP_env H1.out l HL.out 8 (L : Int) HB.out).mono ?_
  rintro e w2 ⟨rfl, h2⟩
  have H2 := Lib.hid h2
  have c2 := (h2.blk j (by rw [List.getElem?_set_ne (Ne.symm hjl)]; exact HJ.out)).cellAt 0 (macC_c _ m)
  have i2 : (obs.set l (obP q (noteO o 8 (L : Int) 1)))[i]? = some (obC (.pointer (some ⟨c, 0, none⟩)) (some (k, K))) := by rw [List.getElem?_set_ne (Ne.symm hil)]; exact HI.out
  have I2 := Lib.hid i2
  clear h2 H1 i2
  go_wp2_with fail
  refine (wipeC_nil H2.out i I2.out hk).mono ?_
  rintro e w3 ⟨rfl, h3⟩
  have H3 := Lib.hid h3
  have hj3 : ((obs.set l (obP q (noteO o 8 (L : Int) 1))).set i (obC (.pointer (some ⟨c, 0, none⟩)) (some (0, zeroK))))[j]? = some (obK b 76 (macC (.pointer (some ⟨c, 0, none⟩)) m)) := by
    rw [List.getElem?_set_ne hij, List.getElem?_set_ne (Ne.symm hjl)]; exact HJ.out
  have B3 := Lib.hid (h3.blk j hj3)
  have HJ3 := Lib.hid hj3
  have hs : (macC (.pointer (some ⟨c, 0, none⟩)) m).size = 66 := macC_size HM.out
  have hz := zeroMac
  have hzs : (macC (.pointer none) zM).size = 66 := macC_size zM_ok
  have hzo := macC_one (c := .pointer none) rfl zM
  obtain ⟨Z, hZ⟩ : ∃ Z, macC (.pointer none) zM = Z := ⟨_, rfl⟩
  rw [hZ] at hz hzs hzo
  have HZ := Lib.hid hZ
  clear h3 H2 c2 hj3 hZ
  have HBN : Hid (Try.prog.built 76 [] = some Z) := by rw [← HZ.out]; exact Lib.hid built_none
  go_wp2_with (first | ((with_reducible change wpList _ _ _ (Oper.mk _ (Op.build 76 _) _ _ _ _ :: _) _ _); refine wpList_value (.agg Z) rfl (exec_build 76 #[] rfl _ HBN.out) ?_) | ((with_reducible change wpList _ _ _ (Oper.mk _ (Op.store 76 _ _) _ _ _ _ :: _) _ _); refine wpList_store_var b Z rfl rfl B3.out size66 hzs hs hzo ?_; intro w4 B4 O4; have H4 := Lib.hid (H3.out.turnBlk j HJ3.out B4 O4); clear B4 O4))
  go_ret
  refine ⟨rfl, ?_⟩
  have h := H4.out
  rw [← HLL.out, ← HZ.out] at h
  rw [HLL.out] at h ⊢
  exact h
theorem wipeM_no {p q : Value} (hm : Calls Try.prog 48 #[p] w fun e w' => e = .returned (.bool false) ∧ w = w') :
    Calls Try.prog 32 #[p, q] w fun e w' => e = .returned (.int .i64 1) ∧ w = w' := by
  have HM := Lib.hid hm
  clear hm
  go_enter Try.func32, Try.ntmps32
  go_wp2_with fail
  refine HM.out.mono ?_
  rintro e w' ⟨rfl, rfl⟩
  go_wp2
  go_ret
  exact ⟨rfl, rfl⟩
theorem resetM_no {p : Value} (hm : Calls Try.prog 48 #[p] w fun e w' => e = .returned (.bool false) ∧ w = w') :
    Calls Try.prog 26 #[p] w fun e w' => e = .returned (.int .i64 1) ∧ w = w' := by
  have HM := Lib.hid hm
  clear hm
  go_enter Try.func26, Try.ntmps26
  go_wp2_with fail
  refine HM.out.mono ?_
  rintro e w' ⟨rfl, rfl⟩
  go_wp2
  go_ret
  exact ⟨rfl, rfl⟩
theorem writeM_no {p q u : Value} (hm : Calls Try.prog 48 #[p] w fun e w' => e = .returned (.bool false) ∧ w = w') :
    Calls Try.prog 21 #[p, q, u] w fun e w' => e = .returned (.int .i64 1) ∧ w = w' := by
  have HM := Lib.hid hm
  clear hm
  go_enter Try.func21, Try.ntmps21
  go_wp2_with fail
  refine HM.out.mono ?_
  rintro e w' ⟨rfl, rfl⟩
  go_wp2
  go_ret
  exact ⟨rfl, rfl⟩
theorem cloneM_no {p : Value} (hm : Calls Try.prog 48 #[p] w fun e w' => e = .returned (.bool false) ∧ w = w') :
    Calls Try.prog 30 #[p] w fun e w' => e = .returned (.tuple #[.pointer none, .int .i64 1]) ∧ w = w' := by
  have HM := Lib.hid hm
  clear hm
  go_enter Try.func30, Try.ntmps30
  go_wp2_with fail
  refine HM.out.mono ?_
  rintro e w' ⟨rfl, rfl⟩
  go_wp2
  go_ret2
  exact ⟨rfl, rfl⟩
theorem sumM_no {p q : Value} (hm : Calls Try.prog 48 #[p] w fun e w' => e = .returned (.bool false) ∧ w = w') :
    Calls Try.prog 22 #[p, q] w fun e w' => e = .returned (.tuple #[.slice none 0 0, .int .i64 1]) ∧ w = w' := by
  have HM := Lib.hid hm
  clear hm
  go_enter Try.func22, Try.ntmps22
  go_wp2_with fail
  refine HM.out.mono ?_
  rintro e w' ⟨rfl, rfl⟩
  go_wp2
  go_ret2
  exact ⟨rfl, rfl⟩
/-- a key of a wrong length -/
theorem newM_off (q u : Value) (key : List UInt8) (w : World) (hu : Bs w u key) (hk : ¬ RightLen key.length) :
    Calls Try.prog 10 #[q, u] w fun e w' => e = .returned (.tuple #[.pointer none, .int .i64 7]) ∧ w = w' := by
  have HU := Lib.hid hu
  have HK := Lib.hid hk
  clear hu hk
  go_enter Try.func10, Try.ntmps10
  go_wp2_with fail
  refine (newC_off q u key w HU.out ⟨fun h => HK.out (.inl h), fun h => HK.out (.inr (.inl h)), fun h => HK.out (.inr (.inr h))⟩).mono ?_
  rintro e w' ⟨rfl, rfl⟩
  go_wp2
  go_ret2
  exact ⟨rfl, rfl⟩
end
end Go.Proofs.Ytpampcokonicfaa
/- cmac.Tag over a world that is a list of things; what a Mac's state is behind a message. Conditions: the key has 16, 24 or 32 bytes. -/
namespace Go.Proofs.Ytpampcokonicfaa
open Go.RowKit
set_option maxRecDepth 100000
set_option linter.unusedVariables false
set_option linter.unusedSimpArgs false
/-- the state behind a message, how many blocks were enciphered -/
def stM (key p : List UInt8) : MacS × Nat := feedM (enc (sched key) (key.length / 4 + 6)) (newM key, 0) p
def tagK (key p : List UInt8) : List UInt8 := tagOf (sched key) key.length (stM key p).1
theorem newM_ok (key : List UInt8) : (newM key).Ok := ⟨dbl_length _, dbl_length _, rfl, rfl, by show 0 ≤ 16; omega⟩
theorem stM_ok (key p : List UInt8) : (stM key p).1.Ok := feedM_ok (fun _ => enc_len _ _ _) p (newM_ok key)
theorem stM_app (key p r : List UInt8) : stM key (p ++ r) = feedM (enc (sched key) (key.length / 4 + 6)) (stM key p) r := feedM_app _ _ _ _
theorem stM_nil (key : List UInt8) : stM key [] = (newM key, 0) := rfl
theorem tagOf_len (K : List UInt8) (k : Nat) (m : MacS) : (tagOf K k m).length = 16 := enc_len _ _ _
theorem tagK_len (key p : List UInt8) : (tagK key p).length = 16 := tagOf_len _ _ _
theorem RightLen.bd {n : Nat} (h : RightLen n) : 0 < n ∧ n ≤ 32 ∧ n % 4 = 0 := by rcases h with h | h | h <;> omega
/-- so many blocks more -/
theorem feedM_add (E : List UInt8 → List UInt8) : ∀ (p : List UInt8) (m : MacS) (e : Nat), feedM E (m, e) p = ((feedM E (m, 0) p).1, e + (feedM E (m, 0) p).2)
  | [], m, e => rfl
  | x :: r, m, e => by
    show feedM E (stepM E (m, e) x) r = ((feedM E (stepM E (m, 0) x) r).1, e + (feedM E (stepM E (m, 0) x) r).2)
    unfold stepM
    by_cases hn : m.n = 16
    · simp only [if_pos hn]
      rw [feedM_add E r _ (e + 1), feedM_add E r _ (0 + 1)]
      simp only [Prod.mk.injEq, true_and]
      omega
    · simp only [if_neg hn]
      exact feedM_add E r _ e
theorem stM_count (key p : List UInt8) : 16 * (stM key p).2 + (stM key p).1.n = p.length ∧ (p ≠ [] → 1 ≤ (stM key p).1.n) ∧ (stM key p).1.n ≤ 16 := by
  have h := feedM_count (enc (sched key) (key.length / 4 + 6)) p (newM key) 0 (by show 0 ≤ 16; omega)
  refine ⟨?_, h.2.1, h.2.2⟩
  have h1 := h.1
  rw [show (newM key).n = 0 from rfl] at h1
  unfold stM
  omega
/-! ### notes -/
theorem notedN_none (k e : Nat) : notedN none k e = none := by
  induction e with
  | zero => rfl
  | succ e ih => unfold notedN; rw [ih]; rfl
theorem notedN_add (o : Option (List Rn)) (k a : Nat) : ∀ b, notedN (notedN o k a) k b = notedN o k (a + b)
  | 0 => rfl
  | b + 1 => by
    show noteO (notedN (notedN o k a) k b) 5 k 1 = noteO (notedN o k (a + b)) 5 k 1
    rw [notedN_add o k a b]
theorem notedN_room {o : Option (List Rn)} {n : Int} (h : Room o n) (k : Nat) (e : Nat) (he : (e : Int) + 1 ≤ n) (hlen : ∀ rs, o = some rs → rs.length + e ≤ 5497558138880 ) : Room (notedN o k e) 1 := by
  cases o with
  | none => rw [notedN_none]; exact Room.none 1
  | some rs =>
    have key : ∀ e : Nat, ∃ rs', notedN (some rs) k e = some rs' ∧ tot rs' = tot rs + e ∧ rs'.length ≤ rs.length + e := by
      intro e
      induction e with
      | zero => exact ⟨rs, rfl, by simp, by simp⟩
      | succ e ih =>
        obtain ⟨rs', h1, h2, h3⟩ := ih
        refine ⟨noteL rs' 5 k 1, by unfold notedN; rw [h1]; rfl, by rw [tot_note, h2]; omega, ?_⟩
        have := noteL_len rs' 5 k 1
        omega
    obtain ⟨rs', h1, h2, h3⟩ := key e
    rw [h1]
    have h4 := (h rs rfl).1
    have h5 := hlen rs rfl
    exact Room.some (by omega) (by omega)
/-- the notes of a Mac's life: the key, then so many blocks -/
theorem notedN_runs (k e : Nat) : notedN (some [⟨4, k, 1⟩]) k (e + 1) = some [⟨4, k, 1⟩, ⟨5, k, ((e + 1 : Nat) : Int)⟩] := by
  induction e with
  | zero => rfl
  | succ e ih =>
    show noteO (notedN (some [⟨4, k, 1⟩]) k (e + 1)) 5 k 1 = _
    rw [ih]
    show some (noteL ([⟨4, k, 1⟩] ++ [⟨5, k, ((e + 1 : Nat) : Int)⟩]) 5 k 1) = _
    have h := noteL_same [(⟨4, (k : Int), 1⟩ : Rn)] ⟨5, k, ((e + 1 : Nat) : Int)⟩ 1
    rw [show noteL ([⟨4, (k : Int), 1⟩] ++ [⟨5, k, ((e + 1 : Nat) : Int)⟩]) 5 k 1 = _ from h]
    simp
/-- room for all notes of a message -/
def RoomN (o : Option (List Rn)) (k : Nat) (n : Nat) : Prop := ∀ e, e ≤ n → Room (notedN o k e) 1
theorem RoomN.none (k n : Nat) : RoomN none k n := fun e _ => by rw [notedN_none]; exact Room.none 1
theorem RoomN.step {o : Option (List Rn)} {k n m a : Nat} (h : RoomN o k n) (ha : a + m ≤ n) : RoomN (notedN o k a) k m := fun e he => by
  rw [notedN_add]
  exact h _ (by omega)
theorem RoomN.room {o : Option (List Rn)} {k n : Nat} (h : RoomN o k n) : Room o 1 := h 0 (by omega)
theorem RoomN.begin (k n : Nat) (hn : n ≤ 1000000000000000) : RoomN (some [⟨4, k, 1⟩]) k n := fun e he => by
  cases e with
  | zero => exact Room.some (by simp [tot, notedN]) (by simp)
  | succ e =>
    rw [notedN_runs]
    exact Room.some (by simp [tot]; omega) (by simp)
theorem RoomN.some2 {k a : Nat} (n : Nat) (hn : a + n ≤ 1000000000000000) : RoomN (notedN (some [⟨4, k, 1⟩]) k a) k n := RoomN.step (RoomN.begin k (a + n) hn) (Nat.le_refl _)
/-! ### what is read while others turn -/
def Rd (w0 : World) (obs : List Ob) (l : Nat) (u : Value) (p : List UInt8) : Prop := ∀ wx obs', Env w0 wx obs' → (∀ x ob, x ≠ l → obs[x]? = some ob → obs'[x]? = some ob) → Bs wx u p
theorem Rd.old {w0 : World} {obs : List Ob} {l : Nat} {u : Value} {p : List UInt8} (h : Bs w0 u p) : Rd w0 obs l u p := fun wx obs' he _ => he.old h
theorem Rd.whole {w0 : World} {obs : List Ob} {l : Nat} {u : Value} {p : List UInt8} (i : Nat) (hi : i ≠ l) (h : obs[i]? = some (obB u p)) : Rd w0 obs l u p := fun wx obs' he hk => (he.bytes i (hk i _ hi h)).rd
theorem Rd.lent {w0 : World} {obs : List Ob} {l : Nat} {g cap : Nat} {p : List UInt8} (i : Nat) (hi : i ≠ l) (h : obs[i]? = some (obB (.slice (some ⟨g, 0, none⟩) (lent p).length cap) (lent p))) : Rd w0 obs l (.slice (some ⟨g, 0, none⟩) p.length cap) p := fun wx obs' he hk => by
  have := (he.bytes i (hk i _ hi h)).part 0 p.length (by rw [lent_length]; omega)
  rw [lent_take] at this
  exact this
section
variable {w0 w : World} {obs : List Ob}
/-- an array of sixteen bytes reads as a row of bytes -/
theorem Env.tagR (h : Env w0 w obs) (i : Nat) {g : Nat} {T : List UInt8} (hT : T.length = 16) (hi : obs[i]? = some (obK g 31 (barr T))) : Bs w (.slice (some ⟨g, 0, none⟩) 16 16) T := by
  have h := ((h.blk i hi).owns (by omega)).rd
  rw [hT] at h
  exact h
/-- Write of a message, the state told by the message so far -/
theorem writeK_env (h : Env w0 w obs) (i j l : Nat) (hij : i ≠ j) (hil : i ≠ l) (hjl : j ≠ l) {b c : Nat} {key p0 : List UInt8} (hk : RightLen key.length) {q : Value} {o : Option (List Rn)} (hi : obs[i]? = some (obC (.pointer (some ⟨c, 0, none⟩)) (some (key.length, sched key)))) (hj : obs[j]? = some (obK b 76 (macC (.pointer (some ⟨c, 0, none⟩)) (stM key p0).1))) (hl : obs[l]? = some (obP q o))
    {u : Value} {p : List UInt8} (hp : ∀ wx obs', Env w0 wx obs' → (∀ x ob, x ≠ l → x ≠ j → obs[x]? = some ob → obs'[x]? = some ob) → Bs wx u p) (hb : RoomN o key.length p.length) :
    Calls Try.prog 21 #[.pointer (some ⟨b, 0, none⟩), q, u] w fun e w' => e = .returned (.int .i64 0) ∧
      Env w0 w' ((obs.set l (obP q (notedN o key.length ((stM key (p0 ++ p)).2 - (stM key p0).2)))).set j (obK b 76 (macC (.pointer (some ⟨c, 0, none⟩)) (stM key (p0 ++ p)).1))) := by
  have h1 := writeM_env h i j l hij hil hjl hi hj hl (stM_ok key p0) hk.bd.1 (u := u) (p := p) (fun wx o2 m2 he => hp wx _ he (fun x ob hx hx2 hh => by rw [List.getElem?_set_ne (Ne.symm hx2), List.getElem?_set_ne (Ne.symm hx)]; exact hh)) hb
  have e : stM key (p0 ++ p) = ((feedM (enc (sched key) (key.length / 4 + 6)) ((stM key p0).1, 0) p).1, (stM key p0).2 + (feedM (enc (sched key) (key.length / 4 + 6)) ((stM key p0).1, 0) p).2) := by
    rw [stM_app, ← feedM_add]
  rw [e]
  simp only [Nat.add_sub_cancel_left]
  exact h1
theorem List.set_at {α : Type} {A : List α} {n k : Nat} (hn : A.length = n) (L : List α) (x : α) : (A ++ L).set (n + k) x = A ++ L.set k x := set_r hn k x
/-- the tag of a whole message -/
theorem tagM_env (h : Env w0 w obs) (l : Nat) {q : Value} {o : Option (List Rn)} (hl : obs[l]? = some (obP q o)) {v u : Value} {key p : List UInt8} (hk : RightLen key.length) (hv : Src w0 w obs l v key) (hu : Rd w0 obs l u p) (hb : Room o 1) (hb2 : RoomN (noteO o 4 key.length 1) key.length (p.length + 2)) :
    Calls Try.prog 18 #[q, v, u] w fun e w' => ∃ g : Nat, e = .returned (.tuple #[.slice (some ⟨g, 0, none⟩) 16 16, .int .i64 0]) ∧
      Env w0 w' (obs.set l (obP q (notedN (noteO o 4 key.length 1) key.length ((stM key p).2 + 2))) ++ [obK g 31 (barr (tagK key p))]) := by
  have H := Lib.hid h
  have HL := Lib.hid hl
  have HV := Lib.hid hv
  have HU := Lib.hid hu
  have HB := Lib.hid hb
  have HB2 := Lib.hid hb2
  have HK := Lib.hid hk
  have hll2 : l < obs.length := (List.getElem?_eq_some_iff.1 hl).1
  obtain ⟨n, hn⟩ : ∃ n, obs.length = n := ⟨_, rfl⟩
  have HNN : Hid (∀ x, (obs.set l x).length = n) := Lib.hid (fun x => by rw [List.length_set]; exact hn)
  rw [hn] at hll2
  clear h hl hv hu hb hb2 hk hn
  go_enter Try.func18, Try.ntmps18
  go_wp2_with fail
  refine (newMac_env H.out l HL.out HB.out HB2.out.room HV.out HK.out).mono ?_
  rintro e w1 ⟨b, c, rfl, h1⟩
  have hA : ∀ x, (obs.set l x)[l]? = some x := fun x => List.getElem?_set_self (by have := HNN.out x; rw [List.length_set] at this; omega)
  have h1b : Env w0 w1 (obs.set l (obP q (notedN (noteO o 4 key.length 1) key.length 1)) ++ [obC (.pointer (some ⟨c, 0, none⟩)) (some (key.length, sched key)), obK b 76 (macC (.pointer (some ⟨c, 0, none⟩)) (stM key []).1)]) := h1
  have H1 := Lib.hid h1b
  have HA := Lib.hid hA
  clear h1 h1b hA
  go_wp2_with fail
  refine (writeK_env H1.out (n + 0) (n + 1) l (by omega) (by omega) (by omega) HK.out (p0 := []) (q := q) (o := notedN (noteO o 4 key.length 1) key.length 1) (at_r (HNN.out _) 0) (at_r (HNN.out _) 1) (at_l (HA.out _)) (u := u) (p := p) (fun wx obs' he hx => HU.out wx obs' he (fun x ob hxl hxo => hx x ob hxl (by have := (List.getElem?_eq_some_iff.1 hxo).1; have h2 := HNN.out (obP q o); rw [List.length_set] at h2; omega) (at_l (by rw [List.getElem?_set_ne (Ne.symm hxl)]; exact hxo)))) (HB2.out.step (by omega))).mono ?_
  rintro e w2 ⟨rfl, h2⟩
  rw [List.nil_append, set_l (by rw [HNN.out]; exact hll2), List.set_set, set_r (HNN.out _), notedN_add] at h2
  have H2 : Hid (Env w0 w2 (obs.set l (obP q (notedN (noteO o 4 key.length 1) key.length ((stM key p).2 + 1))) ++ [obC (.pointer (some ⟨c, 0, none⟩)) (some (key.length, sched key)), obK b 76 (macC (.pointer (some ⟨c, 0, none⟩)) (stM key p).1)])) := by
    rw [Nat.add_comm]
    exact Lib.hid h2
  clear h2 H1
  go_wp2_with fail
  refine (sumM_env H2.out (n + 0) (n + 1) l (by omega) (by omega) (by omega) (at_r (HNN.out _) 0) (at_r (HNN.out _) 1) (at_l (HA.out _)) (HB2.out _ (by have := (stM_count key p).1; omega)) (stM_ok key p) HK.out.bd.1).mono ?_
  rintro e w3 ⟨g, rfl, h3⟩
  rw [set_l (by rw [HNN.out]; exact hll2), List.set_set] at h3
  have H3 : Hid (Env w0 w3 (obs.set l (obP q (notedN (noteO o 4 key.length 1) key.length ((stM key p).2 + 2))) ++ [obK g 31 (barr (tagK key p))])) := by
    rw [List.append_assoc] at h3
    exact Lib.hid (Env.last3 h3)
  clear h3 H2
  go_wp2
  go_ret2
  exact ⟨g, rfl, H3.out⟩
theorem tagM_off (q v u : Value) (key : List UInt8) (w : World) (hv : Bs w v key) (hk : ¬ RightLen key.length) :
    Calls Try.prog 18 #[q, v, u] w fun e w' => e = .returned (.tuple #[.slice none 0 0, .int .i64 7]) ∧ w = w' := by
  have HV := Lib.hid hv
  have HK := Lib.hid hk
  clear hv hk
  go_enter Try.func18, Try.ntmps18
  go_wp2_with fail
  refine (newM_off q v key w HV.out HK.out).mono ?_
  rintro e w' ⟨rfl, rfl⟩
  go_wp2
  go_ret2
  exact ⟨rfl, rfl⟩
end
end Go.Proofs.Ytpampcokonicfaa
/- The document's Mac of a whole message, as plain lists: its chain and last block are what byte-by-byte feeding leaves. No program in sight. -/
namespace Go.Proofs.Ytpampcokonicfaa
open Go.RowKit
set_option maxRecDepth 100000
set_option linter.unusedVariables false
set_option linter.unusedSimpArgs false
/-- into how many blocks -/
def nBlk (n : Nat) : Nat := if n = 0 then 1 else (n + 15) / 16
/-- block i of a message, noughts behind its end -/
def blkAt (p : List UInt8) (i : Nat) : List UInt8 := tab 16 fun j => p.getD (16 * i + j) 0
theorem blkAt_len (p : List UInt8) (i : Nat) : (blkAt p i).length = 16 := tab_length _ _
def chainN (E : List UInt8 → List UInt8) (p : List UInt8) : Nat → List UInt8
  | 0 => zB
  | i + 1 => E (xorB (chainN E p i) (blkAt p i))
def lastB (n : Nat) : Nat := nBlk n - 1
theorem lastB_step (n : Nat) : lastB (n + 1) = n / 16 := by
  unfold lastB nBlk
  rw [if_neg (by omega)]
  omega
theorem lastB_zero : lastB 0 = 0 := rfl
theorem getD_app {p : List UInt8} {x : UInt8} {j : Nat} (h : j ≠ p.length) : (p ++ [x]).getD j 0 = p.getD j 0 := by
  rw [List.getD_eq_getElem?_getD, List.getD_eq_getElem?_getD]
  by_cases hj : j < p.length
  · rw [List.getElem?_append_left hj]
  · rw [List.getElem?_eq_none (by simp; omega), List.getElem?_eq_none (by omega)]
theorem blkAt_app (p : List UInt8) (x : UInt8) (i : Nat) (h : 16 * (i + 1) ≤ p.length) : blkAt (p ++ [x]) i = blkAt p i :=
  tab_ext _ _ _ fun j hj => getD_app (by omega)
theorem chainN_app (E : List UInt8 → List UInt8) (p : List UInt8) (x : UInt8) : ∀ i, 16 * i ≤ p.length → chainN E (p ++ [x]) i = chainN E p i
  | 0, _ => rfl
  | i + 1, h => by rw [chainN, chainN, chainN_app E p x i (by omega), blkAt_app p x i (by omega)]
theorem blkAt_in (p : List UInt8) (x : UInt8) (i : Nat) (h : 16 * i ≤ p.length) (h2 : p.length < 16 * (i + 1)) : blkAt (p ++ [x]) i = (blkAt p i).set (p.length - 16 * i) x := by
  apply List.ext_getElem?
  intro j
  by_cases hj : j < 16
  · have e : ∀ q : List UInt8, (blkAt q i)[j]? = some (q.getD (16 * i + j) 0) := fun q => by
      unfold blkAt tab
      rw [List.getElem?_map, List.getElem?_range hj]
      rfl
    rw [e]
    by_cases h3 : j = p.length - 16 * i
    · subst h3
      rw [List.getElem?_set_self (by rw [blkAt_len]; exact hj), show 16 * i + (p.length - 16 * i) = p.length from by omega, List.getD_eq_getElem?_getD, List.getElem?_append_right (Nat.le_refl _), Nat.sub_self]
      rfl
    · rw [List.getElem?_set_ne (by omega), e, getD_app (by omega)]
  · rw [List.getElem?_eq_none (by rw [blkAt_len]; omega), List.getElem?_eq_none (by rw [List.length_set, blkAt_len]; omega)]
theorem blkAt_none (p : List UInt8) (i : Nat) (h : p.length ≤ 16 * i) : blkAt p i = zB := by
  have e : blkAt p i = tab 16 (fun _ => 0) := tab_ext _ _ _ fun j _ => by
    rw [List.getD_eq_getElem?_getD, List.getElem?_eq_none (by omega)]
    rfl
  rw [e, tab_zero]
  rfl
/-- what a Mac has behind a message -/
def restM (key p : List UInt8) : MacS × Nat := (⟨dbl (topOf key), dbl (dbl (topOf key)), chainN (enc (sched key) (key.length / 4 + 6)) p (lastB p.length), blkAt p (lastB p.length), p.length - 16 * lastB p.length⟩, lastB p.length)
theorem stM_rest (key : List UInt8) : ∀ (r p : List UInt8), p = r.reverse → stM key p = restM key p
  | [], p, h => by
    subst h
    show stM key [] = restM key []
    rw [stM_nil]
    unfold restM newM
    rw [show ([] : List UInt8).length = 0 from rfl, lastB_zero, blkAt_none [] 0 (by simp)]
    rfl
  | x :: r, p, h => by
    have ih := stM_rest key r r.reverse rfl
    rw [List.reverse_cons] at h
    obtain ⟨q, hq⟩ : ∃ q, r.reverse = q := ⟨_, rfl⟩
    rw [hq] at ih h
    subst h
    have e1 : stM key (q ++ [x]) = stepM (enc (sched key) (key.length / 4 + 6)) (stM key q) x := by
      unfold stM
      rw [feedM_app]
      rfl
    rw [e1, ih]
    have hl : (q ++ [x]).length = q.length + 1 := by simp
    unfold restM
    rw [hl, lastB_step]
    by_cases h0 : q.length = 0
    · have hq0 : q = [] := List.length_eq_zero_iff.1 h0
      subst hq0
      have hb := blkAt_in ([] : List UInt8) x 0 (by simp) (by simp)
      unfold stepM
      rw [if_neg (by show ¬ (([] : List UInt8).length - 16 * lastB ([] : List UInt8).length = 16); simp)]
      show (_ : MacS × Nat) = _
      rw [show ([] : List UInt8).length / 16 = 0 from rfl, hb, show lastB ([] : List UInt8).length = 0 from rfl]
      rfl
    · have hb : lastB q.length = (q.length - 1) / 16 := by
        obtain ⟨m, hm⟩ : ∃ m, q.length = m + 1 := ⟨q.length - 1, by omega⟩
        rw [hm, lastB_step]
        congr 1
      by_cases hn : q.length - 16 * lastB q.length = 16
      · have hB : q.length / 16 = lastB q.length + 1 := by omega
        unfold stepM
        rw [if_pos hn, hB]
        have hbk := blkAt_in q x (lastB q.length + 1) (by omega) (by omega)
        rw [chainN_app _ q x (lastB q.length + 1) (by omega), hbk, blkAt_none q (lastB q.length + 1) (by omega), chainN, show q.length - 16 * (lastB q.length + 1) = 0 from by omega, show q.length + 1 - 16 * (lastB q.length + 1) = 1 from by omega]
      · have hB : q.length / 16 = lastB q.length := by omega
        unfold stepM
        rw [if_neg hn, hB, chainN_app _ q x (lastB q.length) (by omega), blkAt_in q x (lastB q.length) (by omega) (by omega), show q.length + 1 - 16 * lastB q.length = q.length - 16 * lastB q.length + 1 from by omega]
theorem stM_is (key p : List UInt8) : stM key p = restM key p := stM_rest key p.reverse p (by simp)
/-- a message's last block, and how many bytes it has -/
def lastN (p : List UInt8) : Nat := p.length - 16 * lastB p.length
theorem lastN_le (p : List UInt8) : lastN p ≤ 16 := by
  unfold lastN lastB nBlk
  split <;> omega
/-- the document's tag of a whole message -/
def tagR (key p : List UInt8) : List UInt8 :=
  enc (sched key) (key.length / 4 + 6) (xorB (chainN (enc (sched key) (key.length / 4 + 6)) p (lastB p.length))
    (if lastN p = 16 then xorB (blkAt p (lastB p.length)) (dbl (topOf key)) else xorB ((blkAt p (lastB p.length)).set (lastN p) 128) (dbl (dbl (topOf key)))))
end Go.Proofs.Ytpampcokonicfaa
/- The contracts of the document's answer for gf8: each call returns the plain number; the world is as it was but for draws. Conditions: the arguments are bytes. -/
namespace Go.Proofs.Ytpampcokonicfaa
open Go.RowKit
set_option maxRecDepth 100000

theorem ofInt64 (a : Nat) (ha : a < 9223372036854775808) : (BitVec.ofInt 64 (a : Int)).toNat = a := by
  rw [BitVec.ofInt_natCast, BitVec.toNat_ofNat]; exact Nat.mod_eq_of_lt (by omega)
theorem bx64 (a b : Nat) (ha : a < 9223372036854775808) (hb : b < 9223372036854775808) : bits .xor .i64 (a : Int) (b : Int) = ((a ^^^ b : Nat) : Int) := by
  have hx : a ^^^ b < 2 ^ 63 := Nat.xor_lt_two_pow (by omega) (by omega)
  show IntKind.i64.wrap ((BitVec.ofInt 64 (a : Int) ^^^ BitVec.ofInt 64 (b : Int)).toNat : Int) = _
  rw [BitVec.toNat_xor, ofInt64 a ha, ofInt64 b hb, IntKind.wrap_i64]
  omega
theorem wrap_small (n : Nat) (h : n < 9223372036854775808) : wrap64 (n : Int) = (n : Int) := by unfold wrap64; omega

theorem tmod_two (p j : Nat) : ((p : Int) / 2 ^ j).tmod 2 = ((p / 2 ^ j % 2 : Nat) : Int) := by
  have : (p : Int) / 2 ^ j = ((p / 2 ^ j : Nat) : Int) := by rw [Int.natCast_ediv, Int.natCast_pow]; rfl
  rw [this]; rfl

theorem bit_mul_lt (x y n : Nat) (hx : x < 2) (hy : y < 2) (hn : n ≤ 14) : x * y < 2 ∧ x * y * 2 ^ n ≤ 16384 := by
  have hxy : x * y ≤ 1 * 1 := Nat.mul_le_mul (by omega) (by omega)
  have hp : 2 ^ n ≤ 2 ^ 14 := Nat.pow_le_pow_right (by omega) hn
  have hp2 : x * y * 2 ^ n ≤ 1 * 2 ^ 14 := Nat.mul_le_mul (by omega) hp
  exact ⟨by omega, by simpa using hp2⟩
theorem pow_cast (n : Nat) : (2 : Int) ^ n = ((2 ^ n : Nat) : Int) := by rw [Int.natCast_pow]; rfl
theorem bit_form (x y n : Nat) (hx : x < 2) (hy : y < 2) (hn : n ≤ 14) : wrap64 (wrap64 ((x : Int) * (y : Int)) * 2 ^ n) = ((x * y * 2 ^ n : Nat) : Int) := by
  have h := bit_mul_lt x y n hx hy hn
  have e3 : wrap64 ((x : Int) * (y : Int)) = ((x * y : Nat) : Int) := by rw [← Int.natCast_mul]; exact wrap_small _ (by omega)
  rw [e3, pow_cast, ← Int.natCast_mul]
  exact wrap_small _ (by omega)
theorem rin_form (a b k j q : Nat) (hk : k < 8) (hj : j < 8) (hq : q < 32768) :
    bits .xor .i64 (q : Int) (wrap64 (wrap64 (((a : Int) / 2 ^ k).tmod 2 * ((b : Int) / 2 ^ j).tmod 2) * 2 ^ (k + j))) = ((q ^^^ (a / 2 ^ k % 2 * (b / 2 ^ j % 2) * 2 ^ (k + j)) : Nat) : Int) := by
  have b1 : a / 2 ^ k % 2 < 2 := Nat.mod_lt _ (by omega)
  have b2 : b / 2 ^ j % 2 < 2 := Nat.mod_lt _ (by omega)
  have h := bit_mul_lt _ _ (k + j) b1 b2 (by omega)
  rw [tmod_two, tmod_two, bit_form _ _ _ b1 b2 (by omega)]
  exact bx64 q _ (by omega) (by omega)
theorem rin_lt (c b k j q : Nat) (hc : c < 2) (hk : k < 8) (hj : j < 8) (hq : q < 32768) : q ^^^ (c * (b / 2 ^ j % 2) * 2 ^ (k + j)) < 32768 := by
  have b2 : b / 2 ^ j % 2 < 2 := Nat.mod_lt _ (by omega)
  generalize b / 2 ^ j % 2 = y at *
  have hxy : c * y ≤ 1 * 1 := Nat.mul_le_mul (by omega) (by omega)
  have hp : 2 ^ (k + j) ≤ 2 ^ 14 := Nat.pow_le_pow_right (by omega) (by omega)
  have hp2 : c * y * 2 ^ (k + j) ≤ 1 * 2 ^ 14 := Nat.mul_le_mul (by omega) hp
  exact Nat.xor_lt_two_pow (n := 15) hq (by omega)
theorem red_form (p i : Nat) (hi : i < 8) (hp : p < 32768) :
    bits .xor .i64 (p : Int) (wrap64 (283 * 2 ^ i)) = ((p ^^^ (283 * 2 ^ i) : Nat) : Int) := by
  have h : 2 ^ i ≤ 2 ^ 7 := Nat.pow_le_pow_right (by omega) (by omega)
  have e : wrap64 (283 * 2 ^ i) = ((283 * 2 ^ i : Nat) : Int) := by
    rw [show (283 : Int) * 2 ^ i = ((283 * 2 ^ i : Nat) : Int) from by rw [Int.natCast_mul, Int.natCast_pow]; rfl]
    exact wrap_small _ (by omega)
  rw [e]
  exact bx64 p _ (by omega) (by omega)
theorem red_lt (p i : Nat) (hi : i < 7) (hp : p < 32768) : p ^^^ (283 * 2 ^ i) < 32768 := by
  have h : 2 ^ i ≤ 2 ^ 6 := Nat.pow_le_pow_right (by omega) (by omega)
  exact Nat.xor_lt_two_pow (n := 15) hp (by omega)
set_option maxHeartbeats 1000000 in
theorem rmul_nat (a b : Nat) (w : World) (ha : a < 256) (hb : b < 256) :
    Calls Try.prog 88 #[.int .u8 (a : Int), .int .u8 (b : Int)] w fun e w' => e = .returned (.int .u8 (rm a b : Nat)) ∧ ∃ m, w' = w.drewN m := by
  have H0 : Hid (rred 7 14 (rout a b 8 0 0) % 256 = rm a b) := rfl
  go_enter Try.func88, Try.ntmps88
  go_wp2
  go_loopw [5, 6, 7] (fun p i _ w1 => ∃ k q : Nat, k ≤ 8 ∧ q < 32768 ∧ Hid (rred 7 14 (rout a b (8 - k) k q) % 256 = rm a b) ∧ p = .int .i64 (q : Int) ∧ i = .int .i64 (k : Int) ∧ ∃ n, w1 = w.drewN n) (fun _ i _ _ => 8 - (intOf i).toNat)
  case atStart => exact ⟨0, 0, by omega, by omega, H0, rfl, rfl, 0, rfl⟩
  case round =>
    clear H0
    obtain ⟨k, q, hk, h6, H1, rfl, rfl, n, rfl⟩ := hrel
    by_cases hlt : k < 8
    · have H2 : Hid (rred 7 14 (rout a b (8 - (k + 1)) (k + 1) (rin (a / 2 ^ k % 2) b k 8 0 q)) % 256 = rm a b) := by
        have h := H1.out
        rw [show 8 - k = (8 - (k + 1)) + 1 from by omega] at h
        exact h
      go_wp2
      go_loopw [5, 7] (fun p i w1 => ∃ j q : Nat, j ≤ 8 ∧ q < 32768 ∧ Hid (rred 7 14 (rout a b (8 - (k + 1)) (k + 1) (rin (a / 2 ^ k % 2) b k (8 - j) j q)) % 256 = rm a b) ∧ p = .int .i64 (q : Int) ∧ i = .int .i64 (j : Int) ∧ ∃ n, w1 = w.drewN n) (fun _ i _ => 8 - (intOf i).toNat)
      case atStart => exact ⟨0, q, by omega, by omega, H2, rfl, rfl, n, rfl⟩
      case round =>
        clear H1 H2
        obtain ⟨j, q1, hj, g6, H3, rfl, rfl, n1, rfl⟩ := hrel
        by_cases hlt2 : j < 8
        · go_wp2
          go_quiet (fail)
          go_wp2
          go_roundw
          case rel =>
            refine ⟨j + 1, q1 ^^^ (a / 2 ^ k % 2 * (b / 2 ^ j % 2) * 2 ^ (k + j)), by omega, rin_lt _ b k j q1 (Nat.mod_lt _ (by omega)) hlt hlt2 g6, ?_, ?_, by go_num, n1 + nq, rfl⟩
            · have h := H3.out
              rw [show 8 - j = (8 - (j + 1)) + 1 from by omega] at h
              exact h
            · rw [rin_form a b k j q1 hlt hlt2 g6]
          case measure => simp [intOf]; omega
        · obtain rfl : j = 8 := by omega
          go_wp2
          go_roundw
          case rel => exact ⟨k + 1, q1, by omega, g6, H3, rfl, by go_num, n1, rfl⟩
          case measure => simp [intOf]; omega
    · obtain rfl : k = 8 := by omega
      have H2 : Hid (rred 7 14 q % 256 = rm a b) := H1.out
      clear H1
      go_wp2
      go_loop [5, 8] (fun p i => ∃ j q : Nat, j ≤ 7 ∧ q < 32768 ∧ Hid (rred j (7 + j) q % 256 = rm a b) ∧ p = .int .i64 (q : Int) ∧ i = .int .i64 ((7 + j : Nat) : Int)) (fun _ i => (intOf i).toNat)
      case atStart => exact ⟨7, q, by omega, by omega, H2, rfl, rfl⟩
      case round =>
        clear H2
        obtain ⟨j, q1, hj, g6, H3, rfl, rfl⟩ := hrel
        have ec : ((7 + j : Nat) : Int) = 7 + (j : Int) := by omega
        by_cases hlt2 : 1 ≤ j
        · have T := Lib.hid (tmod_two q1 (7 + j))
          go_wp2
          · go_round
            case rel =>
              have hb1 : q1 / 2 ^ (7 + j) % 2 = 1 := by
                have h : (((q1 : Int) / 2 ^ (7 + j)).tmod 2 == 1) = true := by assumption
                rw [T.out] at h
                have := eq_of_beq h
                omega
              refine ⟨j - 1, q1 ^^^ (283 * 2 ^ (7 + j - 8)), by omega, red_lt q1 (7 + j - 8) (by omega) g6, ?_, ?_, by go_num⟩
              · have h := H3.out
                rw [show j = (j - 1) + 1 from by omega] at h
                simp only [rred] at h
                rw [show 7 + (j - 1 + 1) = 7 + j from by omega, if_pos hb1, show 7 + j - 1 = 7 + (j - 1) from by omega] at h
                exact h
              · rw [red_form q1 (7 + j - 8) (by omega) g6]
            case measure => simp [intOf]; omega
          · go_round
            case rel =>
              have hb1 : ¬ q1 / 2 ^ (7 + j) % 2 = 1 := by
                have h : (((q1 : Int) / 2 ^ (7 + j)).tmod 2 == 1) = false := by assumption
                rw [T.out] at h
                intro hh
                rw [hh] at h
                exact absurd h (by decide)
              refine ⟨j - 1, q1, by omega, g6, ?_, rfl, by go_num⟩
              have h := H3.out
              rw [show j = (j - 1) + 1 from by omega] at h
              simp only [rred] at h
              rw [show 7 + (j - 1 + 1) = 7 + j from by omega, if_neg hb1, show 7 + j - 1 = 7 + (j - 1) from by omega] at h
              exact h
            case measure => simp [intOf]; omega
        · obtain rfl : j = 0 := by omega
          go_wp2
          go_ret
          have h : q1 % 256 = rm a b := H3.out
          rw [← h]
          refine ⟨?_, n, rfl⟩
          simp
def rmI (a b : Int) : Int := (rm a.toNat b.toNat : Nat)
theorem rmul_any (a b : Int) (w : World) (ha : 0 ≤ a) (ha' : a < 256) (hb : 0 ≤ b) (hb' : b < 256) :
    Calls Try.prog 88 #[.int .u8 a, .int .u8 b] w fun e w' => e = .returned (.int .u8 (gmI a b)) ∧ ∃ m, w' = w.drewN m := by
  obtain ⟨x, rfl⟩ := Int.eq_ofNat_of_zero_le ha
  obtain ⟨y, rfl⟩ := Int.eq_ofNat_of_zero_le hb
  have e : gmI (x : Int) (y : Int) = (rm x y : Nat) := by unfold gmI; rw [Int.toNat_natCast, Int.toNat_natCast, rm_eq x y (by omega) (by omega)]
  rw [e]
  exact rmul_nat x y w (by omega) (by omega)

set_option maxHeartbeats 400000 in
theorem bit_nat (a i : Nat) (w : World) (ha : a < 256) (hi : i < 1000) :
    Calls Try.prog 93 #[.int .u8 (a : Int), .int .i64 (i : Int)] w fun e w' => e = .returned (.int .i64 (rbit a i : Nat)) ∧ w = w' := by
  have E : Hid (((a : Int) / 2 ^ (i % 8)).tmod 2 = ((rbit a i : Nat) : Int)) := Lib.hid (tmod_two a (i % 8))
  go_enter Try.func93, Try.ntmps93
  go_wp2
  go_ret
  refine ⟨?_, rfl⟩
  rw [← E.out]
  simp
theorem rbit_lt (a i : Nat) : rbit a i < 2 := Nat.mod_lt _ (by omega)
theorem bit_any (a i : Int) (w : World) (ha : 0 ≤ a) (ha' : a < 256) (hi : 0 ≤ i) (hi' : i < 1000) :
    Calls Try.prog 93 #[.int .u8 a, .int .i64 i] w fun e w' => e = .returned (.int .i64 (rbit a.toNat i.toNat : Nat)) ∧ w = w' := by
  obtain ⟨x, rfl⟩ := Int.eq_ofNat_of_zero_le ha
  obtain ⟨y, rfl⟩ := Int.eq_ofNat_of_zero_le hi
  exact bit_nat x y w (by omega) (by omega)
theorem sum_form (s i o : Nat) (ho : o < 2 ^ i) : o + s % 2 * 2 ^ i < 2 ^ (i + 1) := by
  have h : s % 2 * 2 ^ i ≤ 1 * 2 ^ i := Nat.mul_le_mul (by omega) (Nat.le_refl _)
  have e : 2 ^ (i + 1) = 2 ^ i * 2 := Nat.pow_succ ..
  omega
theorem bit_ex (a i : Int) (w : World) (ha : 0 ≤ a) (ha' : a < 256) (hi : 0 ≤ i) (hi' : i < 1000) :
    Calls Try.prog 93 #[.int .u8 a, .int .i64 i] w fun e w' => ∃ v : Nat, v < 2 ∧ Hid (v = rbit a.toNat i.toNat) ∧ e = .returned (.int .i64 (v : Int)) ∧ w = w' :=
  (bit_any a i w ha ha' hi hi').mono fun _ _ ⟨he, hw⟩ => ⟨_, rbit_lt _ _, rfl, he, hw⟩

theorem box_step (s i o : Nat) (hi : i < 8) (ho : o < 2 ^ i) : wrap64 ((o : Int) + wrap64 ((s : Int) % 2 * 2 ^ i)) = ((o + s % 2 * 2 ^ i : Nat) : Int) := by
  have h1 := sum_form s i o ho
  have h2 : 2 ^ (i + 1) ≤ 2 ^ 8 := Nat.pow_le_pow_right (by omega) (by omega)
  have e : wrap64 ((s : Int) % 2 * 2 ^ i) = ((s % 2 * 2 ^ i : Nat) : Int) := by
    rw [pow_cast, show (s : Int) % 2 = ((s % 2 : Nat) : Int) from rfl, ← Int.natCast_mul]
    exact wrap_small _ (by omega)
  rw [e, ← Int.natCast_add]
  exact wrap_small _ (by omega)

end Go.Proofs.Ytpampcokonicfaa
/- The document's answer for AES (turnkeyref10): turned, add, box, rounds. Conditions: a block has sixteen bytes; the round keys are there. -/
namespace Go.Proofs.Ytpampcokonicfaa
open Go.RowKit
set_option maxRecDepth 100000
set_option linter.unusedVariables false
set_option linter.unusedSimpArgs false
/-- the rows, each by so many places as its number -/
def turnB (d : Nat) (l : List UInt8) : List UInt8 := tab 16 fun i => l.getD (4 * ((i / 4 + i % 4 * d) % 4) + i % 4) 0
theorem turnB_len (d : Nat) (l : List UInt8) : (turnB d l).length = 16 := tab_length _ _
theorem shift_turn (l : List UInt8) (h : l.length = 16) : turnB 1 (l.map boxU) = shiftB l := by
  obtain ⟨b0, b1, b2, b3, b4, b5, b6, b7, b8, b9, b10, b11, b12, b13, b14, b15, rfl⟩ := list16 l h
  unfold turnB tab shiftB
  rw [range16]
  rfl
theorem un_turn (s c : List UInt8) (hs : s.length = 16) (hc : c.length = 16) : (turnB 3 s).map backU = unTo s c 16 := by
  obtain ⟨b0, b1, b2, b3, b4, b5, b6, b7, b8, b9, b10, b11, b12, b13, b14, b15, rfl⟩ := list16 s hs
  obtain ⟨c0, c1, c2, c3, c4, c5, c6, c7, c8, c9, c10, c11, c12, c13, c14, c15, rfl⟩ := list16 c hc
  unfold turnB tab
  rw [range16]
  rfl
set_option maxHeartbeats 1000000 in
theorem rturned_any (l : List UInt8) (d : Nat) (w : World) (hl : l.length = 16) (hd : d = 1 ∨ d = 3) :
    Calls Try.prog 91 #[.agg (barr l), .int .i64 (d : Int)] w fun e w' => e = .returned (.agg (barr (turnB d l))) ∧ Below w.heap.size w w' := by
  have HL := Lib.hid hl
  have HD := Lib.hid hd
  clear hl hd
  go_enter Try.func91, Try.ntmps91
  go_wp2_with fail
  go_loopw [6] (fun i w1 => ∃ c : Nat, c ≤ 4 ∧ i = .int .i64 (c : Int) ∧ Blk w1 w.heap.size 31 (barr l) ∧ Blk w1 (w.heap.size + 1) 31 (barr (List.replicate 16 0)) ∧ Blk w1 (w.heap.size + 1 + 1) 31 (barr (mixT 16 (fun i => l.getD (4 * ((i / 4 + i % 4 * d) % 4) + i % 4) 0) (fun _ => 0) (4 * c))) ∧ Below w.heap.size w w1) (fun i _ => 4 - (intOf i).toNat)
  case atStart =>
    refine ⟨0, by omega, rfl, ?_, ?_, ?_, ?_⟩
    · exact ((Blk.at rfl rfl).alloc _).alloc _
    · exact (Blk.at (by simp) rfl).alloc _
    · rw [mixT_zero, tab_zero]
      exact Blk.at (by simp) rfl
    · exact (((Below.refl _ _).alloc (Nat.le_refl _) _).alloc (by simp) _).alloc (by simp; omega) _
  case round =>
    obtain ⟨c, hc, rfl, g0, g1, g2, hbl⟩ := hrel
    by_cases hlt : c < 4
    · have G0 := Lib.hid g0
      have G1 := Lib.hid g1
      have G2 := Lib.hid g2
      have HB := Lib.hid hbl
      clear g0 g1 g2 hbl
      go_wp2_with fail
      go_loopw [7] (fun i w1 => ∃ r : Nat, r ≤ 4 ∧ i = .int .i64 (r : Int) ∧ Blk w1 w.heap.size 31 (barr l) ∧ Blk w1 (w.heap.size + 1) 31 (barr (List.replicate 16 0)) ∧ Blk w1 (w.heap.size + 1 + 1) 31 (barr (mixT 16 (fun i => l.getD (4 * ((i / 4 + i % 4 * d) % 4) + i % 4) 0) (fun _ => 0) (4 * c + r))) ∧ Below w.heap.size w w1) (fun i _ => 4 - (intOf i).toNat)
      case atStart => exact ⟨0, by omega, rfl, G0.out, G1.out, G2.out, HB.out⟩
      case round =>
        obtain ⟨r, hr, rfl, h0, h1, h2, hb2⟩ := hrel
        by_cases hrt : r < 4
        · obtain ⟨p, hp⟩ : ∃ p, 4 * c + r = p := ⟨_, rfl⟩
          obtain ⟨m, hm⟩ : ∃ m, r * d = m := ⟨_, rfl⟩
          have hm9 : m ≤ 9 := by rcases HD.out with h | h <;> rw [h] at hm <;> omega
          have hmI : (r : Int) * (d : Int) = (m : Int) := by rw [← hm, Int.natCast_mul]
          obtain ⟨s, hs⟩ : ∃ s, c + m = s := ⟨_, rfl⟩
          obtain ⟨q, hq⟩ : ∃ q, s % 4 = q := ⟨_, rfl⟩
          obtain ⟨u, hu⟩ : ∃ u, 4 * q + r = u := ⟨_, rfl⟩
          have hpI : 4 * (c : Int) + (r : Int) = (p : Int) := by omega
          have hsI : (c : Int) + (m : Int) = (s : Int) := by omega
          have hqI : (s : Int) % 4 = (q : Int) := by omega
          have huI : 4 * (q : Int) + (r : Int) = (u : Int) := by omega
          have hp16 : p < 16 := by omega
          have hu16 : u < 16 := by omega
          have hs13 : s ≤ 13 := by omega
          have hq4 : q < 4 := by omega
          have HP : Hid (4 * ((p / 4 + p % 4 * d) % 4) + p % 4 = u) := Lib.hid (by
            rw [show p / 4 = c from by omega, show p % 4 = r from by omega, hm, hs, hq, hu])
          have HPP : Hid (4 * c + r = p) := Lib.hid hp
          have HPN : Hid (4 * c + (r + 1) = p + 1) := Lib.hid (by omega)
          have c0 := h0.cellAt u (barr_getD l u (by rw [HL.out]; exact hu16))
          rw [hp] at h2
          have f2 := h2.unfrozen p
          have c2 := h2.cellAt p (barr_getD _ p (by rw [mixT_len]; exact hp16))
          have b0 := h0.lt
          have b2 := h2.lt
          generalize hx : l.getD u 0 = x at c0
          have HX := Lib.hid hx
          clear hx hp hm hs hq hu
          go_wp2_with fail
          go_roundw
          case rel =>
            refine ⟨r + 1, by omega, by go_num, h0.set_ne (by simp; omega) _, h1.set_ne (by simp) _, ?_, hb2.setCell (by simp; omega) _⟩
            have h := h2.set p (.int .u8 (x.toNat : Int))
            have e : mixT 16 (fun i => l.getD (4 * ((i / 4 + i % 4 * d) % 4) + i % 4) 0) (fun _ => 0) (p + 1) = (mixT 16 (fun i => l.getD (4 * ((i / 4 + i % 4 * d) % 4) + i % 4) 0) (fun _ => 0) p).set p x := by
              rw [← mixT_succ, HP.out, HX.out]
            rw [HPN.out, e, ← barr_set]
            exact h
          case measure => simp [intOf]; omega
        · obtain rfl : r = 4 := by omega
          have HN : Hid (Blk wr (w.heap.size + 1 + 1) 31 (barr (mixT 16 (fun i => l.getD (4 * ((i / 4 + i % 4 * d) % 4) + i % 4) 0) (fun _ => 0) (4 * (c + 1))))) := Lib.hid h2
          clear h2
          go_wp2_with fail
          go_roundw
          case rel => exact ⟨c + 1, by omega, by go_num, h0, h1, HN.out, hb2⟩
          case measure => simp [intOf]; omega
    · obtain rfl : c = 4 := by omega
      rw [show 4 * 4 = 16 from rfl, mixT_end] at g2
      have hs : (barr (turnB d l)).size = 16 := by rw [barr_size, turnB_len]
      have g3 : Blk wr (w.heap.size + 1 + 1) 31 (barr (turnB d l)) := g2
      clear g2
      go_wp2_with (first | ((with_reducible change wpList _ _ _ (Oper.mk _ (Op.load 31 _) _ _ _ _ :: _) _ _); refine wpList_load_blk (ty := 31) (w.heap.size + 1 + 1) rfl g3 Try.underlying31 rfl size16 hs ?_) | ((with_reducible change wpList _ _ _ (Oper.mk _ (Op.store 31 _ _) _ _ _ _ :: _) _ _); refine wpList_store_blk (ty := 31) (w.heap.size + 1) (barr (turnB d l)) rfl rfl g1 size16 hs (barr_size _) (barr_one _) ?_))
      refine bodyPost_ret (results_cell_blk rfl _ _ (w.heap.size + 1) rfl (g1.row _) Try.underlying31 rfl size16 hs) rfl ⟨rfl, below_row hbl (by omega) _⟩
/-! ### the document's Aes -/
def box256 : List UInt8 := tab 256 fun i => boxU (UInt8.ofNat i)
theorem box256_len : box256.length = 256 := tab_length _ _
def raC (v : Value) : Array Value := (v :: box256.map B).toArray
theorem raC_size (v : Value) : (raC v).size = 257 := by simp [raC, box256_len]
theorem raC_box (v : Value) (x : UInt8) : (raC v)[1 + x.toNat]? = some (.int .u8 ((boxU x).toNat : Int)) := by
  have hx := x.toNat_lt
  unfold raC
  rw [List.getElem?_toArray, Nat.add_comm, List.getElem?_cons_succ, List.getElem?_map]
  unfold box256 tab
  rw [List.getElem?_map, List.getElem?_range (by omega)]
  simp [B]
/-- the document's Aes: its words' row (the first 4 n bytes of K), the boxes -/
structure RA (w : World) (a g n cap : Nat) (K : List UInt8) : Prop where
  blk : Blk w a 130 (raC (.slice (some ⟨g, 0, none⟩) n cap))
  row : w.ownsRow 0 89 4 (.slice (some ⟨g, 0, none⟩) n cap) n ((K.take (4 * n)).map B)
  ne : g ≠ a
  le : 4 * n ≤ K.length
section
variable {w w' : World} {a g n cap : Nat} {K : List UInt8}
theorem RA.only (h : RA w a g n cap K) {S : Nat → Prop} (ho : Only S w w') (ha : ¬ S a) (hg : ¬ S g) : RA w' a g n cap K :=
  ⟨h.blk.only ho ha, ownsRow_keep h.row ho (fun x hx => by
    have e : some g = some x := hx
    injection e with e
    rw [← e]; exact hg), h.ne, h.le⟩
theorem RA.below (h : RA w a g n cap K) (hb : Below w.heap.size w w') : RA w' a g n cap K := h.only (Only.nothing hb) (fun h => h) (fun h => h)
theorem RA.draw (h : RA w a g n cap K) (m : Nat) : RA (w.drewN m) a g n cap K := h.below (drew_below w m)
theorem RA.head (h : RA w a g n cap K) : w.cell? ⟨a, 0, none⟩ = some (.slice (some ⟨g, 0, none⟩) n cap) := h.blk.cellAt 0 rfl
theorem RA.box (h : RA w a g n cap K) (x : UInt8) : w.cell? ⟨a, 1 + x.toNat, none⟩ = some (.int .u8 ((boxU x).toNat : Int)) := h.blk.cellAt _ (raC_box _ x)
theorem RA.word (h : RA w a g n cap K) (j : Nat) (hj : j < 4 * n) : w.cell? ⟨g, j, none⟩ = some (.int .u8 ((K.getD j 0).toNat : Int)) := by
  have hl := h.le
  rw [World.ownsRow.cellAt h.row j (by omega), List.getElem?_map, List.getElem?_take_of_lt hj, List.getElem?_eq_getElem (by omega), List.getD_eq_getElem?_getD, List.getElem?_eq_getElem (by omega)]
  rfl
theorem RA.lt (h : RA w a g n cap K) : a < w.heap.size := h.blk.lt
theorem RA.glt (h : RA w a g n cap K) : g < w.heap.size := (World.ownsRow.lt h.row g rfl).2
theorem RA.capB (h : RA w a g n cap K) : n ≤ cap ∧ cap ≤ 9223372036854775807 := by
  rcases h.row.2 with ⟨h1, _⟩ | ⟨g', cap', cur, h1, _, _, h2, h3, _⟩
  · cases h1
  · injection h1 with _ _ h1
    subst h1
    exact ⟨h2, h3⟩
end
theorem rrounds_any (a g n cap : Nat) (K : List UInt8) (w : World) (h : RA w a g n cap K) (R : Nat) (hn : n = 4 * (R + 1)) (hR : R ≤ 14) :
    Calls Try.prog 90 #[.pointer (some ⟨a, 0, none⟩)] w fun e w' => e = .returned (.int .i64 (R : Int)) ∧ w = w' := by
  have c0 := h.head
  have hb := h.lt
  have hI : (n : Int) / 4 - 1 = (R : Int) := by omega
  clear h hn
  go_enter Try.func90, Try.ntmps90
  go_wp2
  go_ret
  refine ⟨?_, rfl⟩
  first | rfl | (congr 2)
set_option maxHeartbeats 1000000 in
theorem radd_any (a g n cap : Nat) (K l : List UInt8) (r : Nat) (w : World) (h : RA w a g n cap K) (hl : l.length = 16) (hr : 4 * (r + 1) ≤ n) (hn : n ≤ 60) :
    Calls Try.prog 89 #[.pointer (some ⟨a, 0, none⟩), .agg (barr l), .int .i64 (r : Int)] w fun e w' => e = .returned (.agg (barr (withK K l r))) ∧ Below w.heap.size w w' := by
  have HL := Lib.hid hl
  have hcap := h.capB.1
  have hcap2 := h.capB.2
  have hra := h.lt
  have hrg := h.glt
  have HR := Lib.hid h
  clear hl h
  go_enter Try.func89, Try.ntmps89
  go_wp2_with fail
  go_loopw [7] (fun i w1 => ∃ k : Nat, k ≤ 16 ∧ i = .int .i64 (k : Int) ∧ Blk w1 w.heap.size 31 (barr (mixT 16 (fun j => l.getD j 0 ^^^ K.getD (16 * r + j) 0) (fun j => l.getD j 0) k)) ∧ Blk w1 (w.heap.size + 1) 31 (barr (List.replicate 16 0)) ∧ Below w.heap.size w w1) (fun i _ => 16 - (intOf i).toNat)
  case atStart =>
    refine ⟨0, by omega, rfl, ?_, ?_, ?_⟩
    · rw [mixT_zero, tab_self l HL.out]
      exact (Blk.at rfl rfl).alloc _
    · exact Blk.at (by simp) rfl
    · exact ((Below.refl _ _).alloc (Nat.le_refl _) _).alloc (by simp) _
  case round =>
    obtain ⟨k, hk, rfl, h0, h1, hb⟩ := hrel
    by_cases hlt : k < 16
    · have c0 := h0.cellAt k (barr_getD _ k (by rw [mixT_len]; exact hlt))
      rw [mixT_at _ _ _ _ hlt] at c0
      have f0 := h0.unfrozen k
      obtain ⟨q, hq⟩ : ∃ q, k / 4 = q := ⟨_, rfl⟩
      obtain ⟨m, hm⟩ : ∃ m, k % 4 = m := ⟨_, rfl⟩
      obtain ⟨s, hs⟩ : ∃ s, 4 * r + q = s := ⟨_, rfl⟩
      have hqI : (k : Int) / 4 = (q : Int) := by omega
      have hmI : (k : Int) % 4 = (m : Int) := by omega
      have hsI : 4 * (r : Int) + (q : Int) = (s : Int) := by omega
      have hsn : s < n := by omega
      have hm4 : m < 4 := by omega
      have c1 := (HR.out.below hb).word (s * 4 + m) (by omega)
      have ch := (HR.out.below hb).head
      rw [show s * 4 + m = 16 * r + k from by omega] at c1
      generalize hx : l.getD k 0 = x at c0
      generalize hy : K.getD (16 * r + k) 0 = y at c1
      rw [show 16 * r + k = s * 4 + m from by omega] at c1
      have HX := Lib.hid hx
      have HY := Lib.hid hy
      have hlt' : w.heap.size < wr.heap.size := h0.lt
      clear hx hy hq hm hs
      go_wp2_with fail
      go_region
      all_goals go_wp2_with fail
      all_goals go_roundw
      case rel =>
        refine ⟨k + 1, by omega, by go_num, ?_, ?_, ?_⟩
        · have h := (h0.set k (.int .u8 ((x ^^^ y).toNat : Int))).drew
          have e : mixT 16 (fun j => l.getD j 0 ^^^ K.getD (16 * r + j) 0) (fun j => l.getD j 0) (k + 1) = (mixT 16 (fun j => l.getD j 0 ^^^ K.getD (16 * r + j) 0) (fun j => l.getD j 0) k).set k (x ^^^ y) := by
            rw [← mixT_succ, HX.out, HY.out]
          rw [e, ← barr_set, xorU]
          exact h
        · exact (h1.set_ne (by simp) _).drew
        · exact (hb.setCell (by simp) _).drew
      case measure => simp [intOf]; omega
    · obtain rfl : k = 16 := by omega
      rw [mixT_end, ← withK_tab] at h0
      have hs : (barr (withK K l r)).size = 16 := by rw [barr_size, withK_len]
      go_wp2_with (first | ((with_reducible change wpList _ _ _ (Oper.mk _ (Op.load 31 _) _ _ _ _ :: _) _ _); refine wpList_load_blk (ty := 31) w.heap.size rfl h0 Try.underlying31 rfl size16 hs ?_) | ((with_reducible change wpList _ _ _ (Oper.mk _ (Op.store 31 _ _) _ _ _ _ :: _) _ _); refine wpList_store_blk (ty := 31) (w.heap.size + 1) (barr (withK K l r)) rfl rfl h1 size16 hs (barr_size _) (barr_one _) ?_))
      refine bodyPost_ret (results_cell_blk rfl _ _ (w.heap.size + 1) rfl (h1.row _) Try.underlying31 rfl size16 hs) rfl ⟨rfl, below_row hb (by simp) _⟩
set_option maxHeartbeats 1000000 in
theorem rbox4_any (a g n cap : Nat) (K l : List UInt8) (w : World) (h : RA w a g n cap K) (hl : l.length = 4) :
    Calls Try.prog 87 #[.pointer (some ⟨a, 0, none⟩), .agg (barr l)] w fun e w' => e = .returned (.agg (barr (boxL l))) ∧ Below w.heap.size w w' := by
  have HL := Lib.hid hl
  have hra := h.lt
  have HR := Lib.hid h
  clear hl h
  go_enter Try.func87, Try.ntmps87
  go_wp2_with fail
  go_loopw [5] (fun i w1 => ∃ k : Nat, k ≤ 4 ∧ i = .int .i64 (k : Int) ∧ Blk w1 w.heap.size 89 (barr (mixT 4 (fun j => boxU (l.getD j 0)) (fun j => l.getD j 0) k)) ∧ Blk w1 (w.heap.size + 1) 89 (barr (List.replicate 4 0)) ∧ Below w.heap.size w w1) (fun i _ => 4 - (intOf i).toNat)
  case atStart =>
    refine ⟨0, by omega, rfl, ?_, ?_, ?_⟩
    · rw [mixT_zero, tab_self l HL.out]
      exact (Blk.at rfl rfl).alloc _
    · exact Blk.at (by simp) rfl
    · exact ((Below.refl _ _).alloc (Nat.le_refl _) _).alloc (by simp) _
  case round =>
    obtain ⟨k, hk, rfl, h0, h1, hbl⟩ := hrel
    by_cases hlt : k < 4
    · have c0 := h0.cellAt k (barr_getD _ k (by rw [mixT_len]; exact hlt))
      rw [mixT_at _ _ _ _ hlt] at c0
      have f0 := h0.unfrozen k
      have hb := h0.lt
      generalize hx : l.getD k 0 = x at c0
      have c1 := (HR.out.below hbl).box x
      have hx2 := x.toNat_lt
      have HX := Lib.hid hx
      clear hx
      go_wp2_with fail
      go_region
      all_goals go_wp2_with fail
      all_goals go_roundw
      case rel =>
        refine ⟨k + 1, by omega, by go_num, ?_, (h1.set_ne (by simp) _).drew, (hbl.setCell (by simp) _).drew⟩
        have h := (h0.set k (.int .u8 ((boxU x).toNat : Int))).drew
        have e : mixT 4 (fun j => boxU (l.getD j 0)) (fun j => l.getD j 0) (k + 1) = (mixT 4 (fun j => boxU (l.getD j 0)) (fun j => l.getD j 0) k).set k (boxU x) := by
          rw [← mixT_succ, HX.out]
        rw [barr_set, ← e] at h
        exact h
      case measure => simp [intOf]; omega
    · obtain rfl : k = 4 := by omega
      rw [mixT_end] at h0
      have hs : (barr (boxL l)).size = 4 := by rw [barr_size, boxL_len]
      go_wp2_with (first | ((with_reducible change wpList _ _ _ (Oper.mk _ (Op.load 89 _) _ _ _ _ :: _) _ _); refine wpList_load_blk (ty := 89) w.heap.size rfl h0 Try.underlying89 rfl size4 hs ?_) | ((with_reducible change wpList _ _ _ (Oper.mk _ (Op.store 89 _ _) _ _ _ _ :: _) _ _); refine wpList_store_blk (ty := 89) (w.heap.size + 1) (barr (boxL l)) rfl rfl h1 size4 hs (barr_size _) (barr_one _) ?_))
      refine bodyPost_ret (results_cell_blk rfl _ _ (w.heap.size + 1) rfl (h1.row _) Try.underlying89 rfl size4 hs) rfl ⟨rfl, below_row hbl (by omega) _⟩
end Go.Proofs.Ytpampcokonicfaa
/- The document's answer for AES: mixed. Conditions: a block has sixteen bytes, a row four. -/
namespace Go.Proofs.Ytpampcokonicfaa
open Go.RowKit
set_option maxRecDepth 100000
set_option linter.unusedVariables false
set_option linter.unusedSimpArgs false
theorem rmulU_any (x y : UInt8) (w : World) : Calls Try.prog 88 #[.int .u8 (x.toNat : Int), .int .u8 (y.toNat : Int)] w fun e w' => e = .returned (.int .u8 ((gmU x y).toNat : Int)) ∧ ∃ m, w' = w.drewN m := by
  have h := rmul_nat x.toNat y.toNat w x.toNat_lt y.toNat_lt
  rw [rm_eq x.toNat y.toNat x.toNat_lt y.toNat_lt, ← gmU_nat] at h
  exact h
/-- the worlds that were only drawn from -/
def Dr (w w' : World) : Prop := ∃ m, w' = w.drewN m
theorem Dr.cell {w : World} {p : Addr} {v : Value} (h : w.cell? p = some v) : ∀ w', Dr w w' → w'.cell? p = some v := by
  rintro w' ⟨m, rfl⟩
  exact h
set_option maxHeartbeats 2000000 in
theorem rmixed_any (l m : List UInt8) (w : World) (hl : l.length = 16) (hm : m.length = 4) :
    Calls Try.prog 92 #[.agg (barr l), .agg (barr m)] w fun e w' => e = .returned (.agg (barr (mixB m l))) ∧ Below w.heap.size w w' := by
  have HL := Lib.hid hl
  have HM := Lib.hid hm
  clear hl hm
  go_enter Try.func92, Try.ntmps92
  go_wp2_with fail
  go_loopw [6] (fun i w1 => ∃ c : Nat, c ≤ 4 ∧ i = .int .i64 (c : Int) ∧ Blk w1 w.heap.size 31 (barr l) ∧ Blk w1 (w.heap.size + 1) 89 (barr m) ∧ Blk w1 (w.heap.size + 1 + 1) 31 (barr (List.replicate 16 0)) ∧ Blk w1 (w.heap.size + 1 + 1 + 1) 31 (barr (mixT 16 (mixAt m l) (fun _ => 0) (4 * c))) ∧ Below w.heap.size w w1) (fun i _ => 4 - (intOf i).toNat)
  case atStart =>
    refine ⟨0, by omega, rfl, ?_, ?_, ?_, ?_, ?_⟩
    · exact (((Blk.at rfl rfl).alloc _).alloc _).alloc _
    · exact ((Blk.at (by simp) rfl).alloc _).alloc _
    · exact (Blk.at (by simp) rfl).alloc _
    · rw [mixT_zero, tab_zero]
      exact Blk.at (by simp) rfl
    · exact ((((Below.refl _ _).alloc (Nat.le_refl _) _).alloc (by simp) _).alloc (by simp; omega) _).alloc (by simp; omega) _
  case round =>
    obtain ⟨c, hc, rfl, g0, g1, g2, g3, hbl⟩ := hrel
    by_cases hlt : c < 4
    · have G0 := Lib.hid g0
      have G1 := Lib.hid g1
      have G2 := Lib.hid g2
      have G3 := Lib.hid g3
      have HB := Lib.hid hbl
      clear g0 g1 g2 g3 hbl
      go_wp2_with fail
      go_loopw [7] (fun i w1 => ∃ j : Nat, j ≤ 4 ∧ i = .int .i64 (j : Int) ∧ Hid (Blk w1 w.heap.size 31 (barr l) ∧ Blk w1 (w.heap.size + 1) 89 (barr m) ∧ Blk w1 (w.heap.size + 1 + 1) 31 (barr (List.replicate 16 0)) ∧ Blk w1 (w.heap.size + 1 + 1 + 1) 31 (barr (mixT 16 (mixAt m l) (fun _ => 0) (4 * c + j))) ∧ Below w.heap.size w w1)) (fun i _ => 4 - (intOf i).toNat)
      case atStart => exact ⟨0, by omega, rfl, Lib.hid ⟨G0.out, G1.out, G2.out, G3.out, HB.out⟩⟩
      case round =>
        obtain ⟨j, hj, rfl, HG⟩ := hrel
        by_cases hjt : j < 4
        · obtain ⟨k, hk⟩ : ∃ k, 4 * c + j = k := ⟨_, rfl⟩
          have hk16 : k < 16 := by omega
          have hkI : 4 * (c : Int) + (j : Int) = (k : Int) := by omega
          have HJ : Hid (k % 4 = j) := Lib.hid (by omega)
          have HC : Hid (k - j = 4 * c) := Lib.hid (by omega)
          rw [hk] at HG
          have HK := Lib.hid hk
          clear hk
          go_wp2_with fail
          go_loopw [8] (fun i w1 => ∃ r : Nat, r ≤ 4 ∧ i = .int .i64 (r : Int) ∧ Blk w1 w.heap.size 31 (barr l) ∧ Blk w1 (w.heap.size + 1) 89 (barr m) ∧ Blk w1 (w.heap.size + 1 + 1) 31 (barr (List.replicate 16 0)) ∧ Blk w1 (w.heap.size + 1 + 1 + 1) 31 (barr ((mixT 16 (mixAt m l) (fun _ => 0) k).set k (dotP m l k r))) ∧ Below w.heap.size w w1) (fun i _ => 4 - (intOf i).toNat)
          case atStart =>
            refine ⟨0, by omega, rfl, HG.out.1, HG.out.2.1, HG.out.2.2.1, ?_, HG.out.2.2.2.2⟩
            have h := HG.out.2.2.2.1
            have e : (mixT 16 (mixAt m l) (fun _ => 0) k).set k (dotP m l k 0) = mixT 16 (mixAt m l) (fun _ => 0) k := by
              refine set_same _ _ _ ?_
              unfold mixT tab
              rw [List.getElem?_map, List.getElem?_range hk16, Option.map_some, if_neg (by omega)]
              rfl
            rw [e]
            exact h
          case round =>
            obtain ⟨r, hr, rfl, h0, h1, h2, h3, hb2⟩ := hrel
            by_cases hrt : r < 4
            · obtain ⟨d, hd⟩ : ∃ d, r + 4 - j = d := ⟨_, rfl⟩
              have hdI : (r : Int) + 4 - (j : Int) = (d : Int) := by omega
              have hd7 : d < 8 := by omega
              have HD := Lib.hid hd
              obtain ⟨q, hq⟩ : ∃ q, d % 4 = q := ⟨_, rfl⟩
              have hq4 : q < 4 := by omega
              have HQ := Lib.hid hq
              obtain ⟨s, hs⟩ : ∃ s, 4 * c + r = s := ⟨_, rfl⟩
              have hsI : 4 * (c : Int) + (r : Int) = (s : Int) := by omega
              have hs16 : s < 16 := by omega
              have HS := Lib.hid hs
              have hT2 : (d : Int).tmod 4 = (q : Int) := by rw [Int.tmod_eq_emod_of_nonneg (by omega)]; omega
              have hq4I : (q : Int) < 4 := by omega
              have hs16I : (s : Int) < 16 := by omega
              have hk16I : (k : Int) < 16 := by omega
              have hW0 : IntKind.i64.wrap (4 * (c : Int)) = 4 * (c : Int) := IntWalk.i64_in _ (by omega)
              have hW1 : IntKind.i64.wrap ((r : Int) + 4) = (r : Int) + 4 := IntWalk.i64_in _ (by omega)
              have hW2 : IntKind.i64.wrap (d : Int) = (d : Int) := IntWalk.i64_in _ (by omega)
              have hW3 : IntKind.i64.wrap (s : Int) = (s : Int) := IntWalk.i64_in _ (by omega)
              have hW4 : IntKind.i64.wrap (k : Int) = (k : Int) := IntWalk.i64_in _ (by omega)
              have c0 := Dr.cell (h0.cellAt s (barr_getD l s (by rw [HL.out]; exact hs16)))
              have c1 := Dr.cell (h1.cellAt q (barr_getD m q (by rw [HM.out]; exact hq4)))
              have c3' := h3.cellAt k (barr_getD _ k (by rw [List.length_set, mixT_len]; exact hk16))
              rw [set_getD _ _ _ (by rw [mixT_len]; exact hk16)] at c3'
              have c3 := Dr.cell c3'
              clear c3'
              have f3 := h3.unfrozen k
              have b0 := h0.lt
              have b1 := h1.lt
              have b3 := h3.lt
              have K0 := Lib.hid h0
              have K1 := Lib.hid h1
              have K2 := Lib.hid h2
              have K3 := Lib.hid h3
              have KB := Lib.hid hb2
              generalize hx : l.getD s 0 = x at c0
              generalize hy : m.getD q 0 = y at c1
              generalize hz : dotP m l k r = z at c3
              have HX := Lib.hid hx
              have HY := Lib.hid hy
              have HZ := Lib.hid hz
              clear hx hy hz h0 h1 h2 h3 hb2 hd hq hs
              go_wp2_with fail
              refine wp_region_tame (Dr wr) 0 26 (by kernel_rfl) (by kernel_rfl) (fun _ _ d _ _ h => (by cases d <;> exact h)) ⟨1, rfl⟩ (by decide) ?_
              simp only [List.take_succ_cons, List.take_zero, List.drop_succ_cons, List.drop_zero]
              refine wpPre_nil ?_
              refine wpTame_run (v := ?_) (by decide) rfl (fun w' hS => ?_) ?_
              rotate_left
              focus (have q0 := c0 w' hS; have q1 := c1 w' hS; have q2 := c3 w' hS; clear hS; go_simp; try rfl; done)
              simp only [Act.put, List.setIfInBounds_toArray, List.set_cons_zero, List.set_cons_succ]
              refine wpTame_run (v := ?_) (by decide) rfl (fun w' hS => ?_) ?_
              rotate_left
              focus (have q0 := c0 w' hS; have q1 := c1 w' hS; have q2 := c3 w' hS; clear hS; go_simp; try rfl; done)
              simp only [Act.put, List.setIfInBounds_toArray, List.set_cons_zero, List.set_cons_succ]
              refine wpTame_run (v := ?_) (by decide) rfl (fun w' hS => ?_) ?_
              rotate_left
              focus (have q0 := c0 w' hS; have q1 := c1 w' hS; have q2 := c3 w' hS; clear hS; go_simp; try rfl; done)
              simp only [Act.put, List.setIfInBounds_toArray, List.set_cons_zero, List.set_cons_succ]
              refine wpTame_run (v := ?_) (by decide) rfl (fun w' hS => ?_) ?_
              rotate_left
              focus (have q0 := c0 w' hS; have q1 := c1 w' hS; have q2 := c3 w' hS; clear hS; go_simp; try rfl; done)
              simp only [Act.put, List.setIfInBounds_toArray, List.set_cons_zero, List.set_cons_succ]
              refine wpTame_run (v := ?_) (by decide) rfl (fun w' hS => ?_) ?_
              rotate_left
              focus (have q0 := c0 w' hS; have q1 := c1 w' hS; have q2 := c3 w' hS; clear hS; go_simp; try rfl; done)
              simp only [Act.put, List.setIfInBounds_toArray, List.set_cons_zero, List.set_cons_succ]
              refine wpTame_run (v := ?_) (by decide) rfl (fun w' hS => ?_) ?_
              rotate_left
              focus (have q0 := c0 w' hS; have q1 := c1 w' hS; have q2 := c3 w' hS; clear hS; go_simp; try rfl; done)
              simp only [Act.put, List.setIfInBounds_toArray, List.set_cons_zero, List.set_cons_succ]
              refine wpTame_run (v := ?_) (by decide) rfl (fun w' hS => ?_) ?_
              rotate_left
              focus (have q0 := c0 w' hS; have q1 := c1 w' hS; have q2 := c3 w' hS; clear hS; go_simp; try rfl; done)
              simp only [Act.put, List.setIfInBounds_toArray, List.set_cons_zero, List.set_cons_succ]
              refine wpTame_run (v := ?_) (by decide) rfl (fun w' hS => ?_) ?_
              rotate_left
              focus (have q0 := c0 w' hS; have q1 := c1 w' hS; have q2 := c3 w' hS; clear hS; go_simp; try rfl; done)
              simp only [Act.put, List.setIfInBounds_toArray, List.set_cons_zero, List.set_cons_succ]
              refine wpTame_run (v := ?_) (by decide) rfl (fun w' hS => ?_) ?_
              rotate_left
              focus (have q0 := c0 w' hS; have q1 := c1 w' hS; have q2 := c3 w' hS; clear hS; go_simp; try rfl; done)
              simp only [Act.put, List.setIfInBounds_toArray, List.set_cons_zero, List.set_cons_succ]
              refine wpTame_run (v := ?_) (by decide) rfl (fun w' hS => ?_) ?_
              rotate_left
              focus (have q0 := c0 w' hS; have q1 := c1 w' hS; have q2 := c3 w' hS; clear hS; go_simp; try rfl; done)
              simp only [Act.put, List.setIfInBounds_toArray, List.set_cons_zero, List.set_cons_succ]
              refine wpTame_run (v := ?_) (by decide) rfl (fun w' hS => ?_) ?_
              rotate_left
              focus (have q0 := c0 w' hS; have q1 := c1 w' hS; have q2 := c3 w' hS; clear hS; go_simp; try rfl; done)
              simp only [Act.put, List.setIfInBounds_toArray, List.set_cons_zero, List.set_cons_succ]
              refine wpTame_run (v := ?_) (by decide) rfl (fun w' hS => ?_) ?_
              rotate_left
              focus (have q0 := c0 w' hS; have q1 := c1 w' hS; have q2 := c3 w' hS; clear hS; go_simp; try rfl; done)
              simp only [Act.put, List.setIfInBounds_toArray, List.set_cons_zero, List.set_cons_succ]
              refine wpTame_run (v := ?_) (by decide) rfl (fun w' hS => ?_) ?_
              rotate_left
              focus (have q0 := c0 w' hS; have q1 := c1 w' hS; have q2 := c3 w' hS; clear hS; go_simp; try rfl; done)
              simp only [Act.put, List.setIfInBounds_toArray, List.set_cons_zero, List.set_cons_succ]
              refine wpTame_run (v := ?_) (by decide) rfl (fun w' hS => ?_) ?_
              rotate_left
              focus (have q0 := c0 w' hS; have q1 := c1 w' hS; have q2 := c3 w' hS; clear hS; go_simp; try rfl; done)
              simp only [Act.put, List.setIfInBounds_toArray, List.set_cons_zero, List.set_cons_succ]
              refine wpTame_run (v := ?_) (by decide) rfl (fun w' hS => ?_) ?_
              rotate_left
              focus (have q0 := c0 w' hS; have q1 := c1 w' hS; have q2 := c3 w' hS; clear hS; go_simp; try rfl; done)
              simp only [Act.put, List.setIfInBounds_toArray, List.set_cons_zero, List.set_cons_succ]
              refine wpTame_run (v := ?_) (by decide) rfl (fun w' hS => ?_) ?_
              rotate_left
              focus (have q0 := c0 w' hS; have q1 := c1 w' hS; have q2 := c3 w' hS; clear hS; go_simp; try rfl; done)
              simp only [Act.put, List.setIfInBounds_toArray, List.set_cons_zero, List.set_cons_succ]
              refine wpTame_run (v := ?_) (by decide) rfl (fun w' hS => ?_) ?_
              rotate_left
              focus (have q0 := c0 w' hS; have q1 := c1 w' hS; have q2 := c3 w' hS; clear hS; go_simp; try rfl; done)
              simp only [Act.put, List.setIfInBounds_toArray, List.set_cons_zero, List.set_cons_succ]
              refine wpTame_run (v := ?_) (by decide) rfl (fun w' hS => ?_) ?_
              rotate_left
              focus (have q0 := c0 w' hS; have q1 := c1 w' hS; have q2 := c3 w' hS; clear hS; go_simp; try rfl; done)
              simp only [Act.put, List.setIfInBounds_toArray, List.set_cons_zero, List.set_cons_succ]
              refine wpTame_run (v := ?_) (by decide) rfl (fun w' hS => ?_) ?_
              rotate_left
              focus (have q0 := c0 w' hS; have q1 := c1 w' hS; have q2 := c3 w' hS; clear hS; go_simp; try rfl; done)
              simp only [Act.put, List.setIfInBounds_toArray, List.set_cons_zero, List.set_cons_succ]
              refine wpTame_run (v := ?_) (by decide) rfl (fun w' hS => ?_) ?_
              rotate_left
              focus (have q0 := c0 w' hS; have q1 := c1 w' hS; have q2 := c3 w' hS; clear hS; go_simp; try rfl; done)
              simp only [Act.put, List.setIfInBounds_toArray, List.set_cons_zero, List.set_cons_succ]
              refine wpTame_run (v := ?_) (by decide) rfl (fun w' hS => ?_) ?_
              rotate_left
              focus (have q0 := c0 w' hS; have q1 := c1 w' hS; have q2 := c3 w' hS; clear hS; go_simp; try rfl; done)
              simp only [Act.put, List.setIfInBounds_toArray, List.set_cons_zero, List.set_cons_succ]
              refine wpTame_run (v := ?_) (by decide) rfl (fun w' hS => ?_) ?_
              rotate_left
              focus (have q0 := c0 w' hS; have q1 := c1 w' hS; have q2 := c3 w' hS; clear hS; go_simp; try rfl; done)
              simp only [Act.put, List.setIfInBounds_toArray, List.set_cons_zero, List.set_cons_succ]
              refine wpTame_run (v := ?_) (by decide) rfl (fun w' hS => ?_) ?_
              rotate_left
              focus (have q0 := c0 w' hS; have q1 := c1 w' hS; have q2 := c3 w' hS; clear hS; go_simp; try rfl; done)
              simp only [Act.put, List.setIfInBounds_toArray, List.set_cons_zero, List.set_cons_succ]
              refine wpTame_call (by decide) rfl (fun w' hS => by go_simp; all_goals first | exact ⟨rfl, rfl⟩ | rfl) (fun w' hS => (rmulU_any y x w').mono fun e w'' ⟨he, n, hw⟩ => ⟨he, by obtain ⟨n0, rfl⟩ := hS; exact ⟨n0 + n, by rw [hw, World.drewN_drewN]⟩⟩) ?_
              simp only [Act.put, List.setIfInBounds_toArray, List.set_cons_zero, List.set_cons_succ]
              refine wpTame_run (v := ?_) (by decide) rfl (fun w' hS => ?_) ?_
              rotate_left
              focus (clear hS; go_simp; try rfl; done)
              simp only [Act.put, List.setIfInBounds_toArray, List.set_cons_zero, List.set_cons_succ]
              refine wpTame_run (v := ?_) (by decide) rfl (fun w' hS => ?_) ?_
              rotate_left
              focus (clear hS; go_simp; try rfl; done)
              simp only [Act.put, List.setIfInBounds_toArray, List.set_cons_zero, List.set_cons_succ]
              refine wpTame_nil ?_
              rintro w5 ⟨n5, rfl⟩
              have cz : wr.cell? ⟨w.heap.size + 1 + 1 + 1, k, none⟩ = some (.int .u8 (z.toNat : Int)) := c3 (wr.drewN n5) ⟨n5, rfl⟩
              clear c0 c1 c3
              go_wp2
              go_roundw
              case rel =>
                refine ⟨r + 1, by omega, by go_num, (K0.out.draw _).set_ne (by simp; omega) _, (K1.out.draw _).set_ne (by simp) _, (K2.out.draw _).set_ne (by simp) _, ?_, (Below.mk KB.out.os KB.out.tape KB.out.output KB.out.size KB.out.block : Below w.heap.size w (wr.drewN n5)).setCell (by simp; omega) _⟩
                have h := (K3.out.draw n5).set k (.int .u8 ((z ^^^ gmU y x).toNat : Int))
                have e : dotP m l k (r + 1) = z ^^^ gmU y x := by
                  rw [dotP, HJ.out, HD.out, HQ.out, HC.out, HS.out, HX.out, HY.out, HZ.out]
                rw [barr_set, ← e, List.set_set] at h
                rw [xorU, ← e]
                exact h
              case measure => simp [intOf]; omega
            · obtain rfl : r = 4 := by omega
              rw [dotP_mix, mixT_succ] at h3
              have HN : Hid (4 * c + (j + 1) = k + 1) := Lib.hid (by have := HK.out; omega)
              go_wp2
              go_roundw
              case rel =>
                refine ⟨j + 1, by omega, by go_num, ?_⟩
                rw [HN.out]
                exact Lib.hid ⟨h0, h1, h2, h3, hb2⟩
              case measure => simp [intOf]; omega
        · obtain rfl : j = 4 := by omega
          go_wp2
          go_roundw
          case rel => exact ⟨c + 1, by omega, by go_num, HG.out⟩
          case measure => simp [intOf]; omega
    · obtain rfl : c = 4 := by omega
      rw [show 4 * 4 = 16 from rfl, mixT_end] at g3
      have hs : (barr (mixB m l)).size = 16 := by rw [barr_size, mixB_len]
      go_wp2_with (first | ((with_reducible change wpList _ _ _ (Oper.mk _ (Op.load 31 _) _ _ _ _ :: _) _ _); refine wpList_load_blk (ty := 31) (w.heap.size + 1 + 1 + 1) rfl g3 Try.underlying31 rfl size16 hs ?_) | ((with_reducible change wpList _ _ _ (Oper.mk _ (Op.store 31 _ _) _ _ _ _ :: _) _ _); refine wpList_store_blk (ty := 31) (w.heap.size + 1 + 1) (barr (mixB m l)) rfl rfl g2 size16 hs (barr_size _) (barr_one _) ?_))
      refine bodyPost_ret (results_cell_blk rfl _ _ (w.heap.size + 1 + 1) rfl (g2.row _) Try.underlying31 rfl size16 hs) rfl ⟨rfl, below_row hbl (by omega) _⟩
end Go.Proofs.Ytpampcokonicfaa
namespace Go.Proofs.Ytpampcokonicfaa
open Go.RowKit
set_option maxRecDepth 100000
set_option linter.unusedVariables false
set_option linter.unusedSimpArgs false
theorem map_tab (f : UInt8 → UInt8) (l : List UInt8) (n : Nat) (h : l.length = n) : l.map f = tab n (fun j => f (l.getD j 0)) := by
  have e := tab_self l h
  conv => lhs; rw [← e]
  unfold tab
  rw [List.map_map]
  rfl
/-- the worlds between -/
structure REW (w w1 : World) (st : List UInt8) : Prop where
  st : Blk w1 w.heap.size 31 (barr st)
  res : Blk w1 (w.heap.size + 1) 31 (barr (List.replicate 16 0))
  bel : Below w.heap.size w w1
theorem REW.below {w w1 w2 : World} {st : List UInt8} (h : REW w w1 st) (hb : Below w1.heap.size w1 w2) : REW w w2 st :=
  ⟨h.st.below hb h.st.lt, h.res.below hb h.res.lt, h.bel.trans (hb.mono h.bel.size)⟩
theorem REW.put {w w1 : World} {st : List UInt8} (h : REW w w1 st) (st' : List UInt8) : REW w (w1.setRow w.heap.size (barr st')) st' :=
  ⟨h.st.row _, h.res.row_ne (by omega) _, below_row h.bel (Nat.le_refl _) _⟩
set_option maxHeartbeats 2000000 in
theorem rencrypt_any (a g n cap : Nat) (K l : List UInt8) (w : World) (h : RA w a g n cap K) (hl : l.length = 16) (R : Nat) (hn : n = 4 * (R + 1)) (hR : R ≤ 14) :
    Calls Try.prog 81 #[.pointer (some ⟨a, 0, none⟩), .agg (barr l)] w fun e w' => e = .returned (.agg (barr (enc K R l))) ∧ Below w.heap.size w w' := by
  have HR := Lib.hid h
  have HN := Lib.hid hn
  have hra := h.lt
  clear h hn
  go_enter Try.func81, Try.ntmps81
  obtain ⟨w0, hw0⟩ : ∃ x, (w.alloc (.cells (barr l) 31)).alloc (.cells (barr (List.replicate 16 0)) 31) = x := ⟨_, rfl⟩
  have H0 : Hid (REW w w0 l) := by
    rw [← hw0]
    exact Lib.hid ⟨(Blk.at rfl rfl).alloc _, Blk.at (by simp) rfl, ((Below.refl _ _).alloc (Nat.le_refl _) _).alloc (by simp) _⟩
  have hll : (barr l).size = 16 := by rw [barr_size, hl]
  go_upto_region 1 with fail
  change Code.wp _ _ _ _ ((w.alloc (.cells (barr l) 31)).alloc (.cells (barr (List.replicate 16 0)) 31))
  rw [hw0]
  clear hw0
  go_wp2_with ((with_reducible change wpList _ _ _ (Oper.mk _ (Op.load 31 _) _ _ _ _ :: _) _ _); refine wpList_load_blk (ty := 31) w.heap.size rfl H0.out.st Try.underlying31 rfl size16 hll ?_)
  refine (radd_any a g n cap K l 0 w0 (HR.out.below H0.out.bel) hl (by have := HN.out; omega) (by have := HN.out; omega)).mono ?_
  rintro e w3 ⟨rfl, h3⟩
  have H3 := Lib.hid (H0.out.below h3)
  clear h3
  have hs3 : (barr (withK K l 0)).size = 16 := by rw [barr_size, withK_len]
  go_wp2_with ((with_reducible change wpList _ _ _ (Oper.mk _ (Op.store 31 _ _) _ _ _ _ :: _) _ _); refine wpList_store_blk (ty := 31) w.heap.size (barr (withK K l 0)) rfl rfl H3.out.st size16 hs3 hll (barr_one _) ?_)
  have H4 := Lib.hid (H3.out.put (withK K l 0))
  clear H3
  go_loopw [5] (fun i w1 => ∃ r : Nat, r ≤ R ∧ i = .int .i64 ((r : Int) + 1) ∧ Hid (REW w w1 (encS K R l r))) (fun i _ => R + 1 - (intOf i).toNat)
  case atStart => exact ⟨0, by omega, rfl, H4⟩
  case round =>
    obtain ⟨r, hrr, rfl, H⟩ := hrel
    clear H4 H0
    go_wp2_with fail
    refine (rrounds_any a g n cap K wr (HR.out.below H.out.bel) R HN.out hR).mono ?_
    rintro e w' ⟨rfl, rfl⟩
    have hst : (encS K R l r).length = 16 := encS_len _ _ _ _
    obtain ⟨st, hstt⟩ : ∃ st, st = encS K R l r := ⟨_, rfl⟩
    rw [← hstt] at H hst
    have HST := Lib.hid hstt
    clear hstt
    have hb16 : (barr st).size = 16 := by rw [barr_size, hst]
    by_cases hlt : r < R
    · have hle : decide ((r : Int) + 1 ≤ (R : Int)) = true := by simp; omega
      go_wp2_with fail
      go_loopw [6] (fun i w1 => ∃ j : Nat, j ≤ 16 ∧ i = .int .i64 (j : Int) ∧ REW w w1 (mixT 16 (fun i => boxU (st.getD i 0)) (fun i => st.getD i 0) j)) (fun i _ => 16 - (intOf i).toNat)
      case atStart =>
        refine ⟨0, by omega, rfl, ?_⟩
        rw [mixT_zero, tab_self st hst]
        exact H.out
      case round =>
        obtain ⟨j, hj, rfl, h5⟩ := hrel
        by_cases hjt : j < 16
        · have c0 := h5.st.cellAt j (barr_getD _ j (by rw [mixT_len]; exact hjt))
          rw [mixT_at _ _ _ _ hjt] at c0
          have f0 := h5.st.unfrozen j
          have hb := h5.st.lt
          generalize hx : st.getD j 0 = x at c0
          have c1 := (HR.out.below h5.bel).box x
          have hx2 := x.toNat_lt
          have HX := Lib.hid hx
          clear hx
          go_wp2_with fail
          go_region
          all_goals go_wp2_with fail
          all_goals go_roundw
          case rel =>
            refine ⟨j + 1, by omega, by go_num, ?_, (h5.res.set_ne (by simp) _).drew, (h5.bel.setCell (by simp) _).drew⟩
            have h := (h5.st.set j (.int .u8 ((boxU x).toNat : Int))).drew
            have e : mixT 16 (fun j => boxU (st.getD j 0)) (fun j => st.getD j 0) (j + 1) = (mixT 16 (fun j => boxU (st.getD j 0)) (fun j => st.getD j 0) j).set j (boxU x) := by
              rw [← mixT_succ, HX.out]
            rw [barr_set, ← e] at h
            exact h
          case measure => simp [intOf]; omega
        · obtain rfl : j = 16 := by omega
          rw [mixT_end, ← map_tab boxU st 16 hst] at h5
          have H5 := Lib.hid h5
          clear h5
          have hm : (st.map boxU).length = 16 := by rw [List.length_map]; exact hst
          have hms : (barr (st.map boxU)).size = 16 := by rw [barr_size]; exact hm
          go_wp2_with ((with_reducible change wpList _ _ _ (Oper.mk _ (Op.load 31 _) _ _ _ _ :: _) _ _); refine wpList_load_blk (ty := 31) w.heap.size rfl H5.out.st Try.underlying31 rfl size16 hms ?_)
          refine (rturned_any (st.map boxU) 1 wr hm (.inl rfl)).mono ?_
          rw [shift_turn st hst]
          rintro e w6 ⟨rfl, h6⟩
          have H6 := Lib.hid (H5.out.below h6)
          clear h6 H5
          have hss : (barr (shiftB st)).size = 16 := by rw [barr_size, shiftB_len]
          go_wp2_with ((with_reducible change wpList _ _ _ (Oper.mk _ (Op.store 31 _ _) _ _ _ _ :: _) _ _); refine wpList_store_blk (ty := 31) w.heap.size (barr (shiftB st)) rfl rfl H6.out.st size16 hss hms (barr_one _) ?_)
          have H7 := Lib.hid (H6.out.put (shiftB st))
          clear H6
          obtain ⟨w7, hw7⟩ : ∃ x, w6.setRow w.heap.size (barr (shiftB st)) = x := ⟨_, rfl⟩
          rw [hw7] at H7 ⊢
          clear hw7
          refine (rrounds_any a g n cap K w7 (HR.out.below H7.out.bel) R HN.out hR).mono ?_
          rintro e w' ⟨rfl, rfl⟩
          by_cases hlt2 : r + 1 < R
          · have hle2 : decide ((r : Int) + 1 < (R : Int)) = true := by simp; omega
            go_wp2_with ((with_reducible change wpList _ _ _ (Oper.mk _ (Op.load 31 _) _ _ _ _ :: _) _ _); refine wpList_load_blk (ty := 31) w.heap.size rfl H7.out.st Try.underlying31 rfl size16 hss ?_)
            refine (rmixed_any (shiftB st) m2 _ (shiftB_len st) rfl).mono ?_
            rintro e w8 ⟨rfl, h8⟩
            have H8 := Lib.hid (H7.out.below h8)
            clear h8 H7
            have hsm : (barr (mixB m2 (shiftB st))).size = 16 := by rw [barr_size, mixB_len]
            have H9 := Lib.hid (H8.out.put (mixB m2 (shiftB st)))
            go_wp2_with (first | ((with_reducible change wpList _ _ _ (Oper.mk _ (Op.store 31 _ _) _ _ _ _ :: _) _ _); refine wpList_store_blk (ty := 31) w.heap.size (barr (mixB m2 (shiftB st))) rfl rfl H8.out.st size16 hsm hss (barr_one _) ?_) | ((with_reducible change wpList _ _ _ (Oper.mk _ (Op.load 31 _) _ _ _ _ :: _) _ _); refine wpList_load_blk (ty := 31) w.heap.size rfl H9.out.st Try.underlying31 rfl size16 hsm ?_))
            rw [show (r : Int) + 1 = ((r + 1 : Nat) : Int) from by omega]
            refine (radd_any a g n cap K (mixB m2 (shiftB st)) (r + 1) _ (HR.out.below H9.out.bel) (mixB_len _ _) (by have := HN.out; omega) (by have := HN.out; omega)).mono ?_
            rintro e w10 ⟨rfl, h10⟩
            have H10 := Lib.hid (H9.out.below h10)
            clear h10 H9 H8
            have hs6 : (barr (withK K (mixB m2 (shiftB st)) (r + 1))).size = 16 := by rw [barr_size, withK_len]
            go_wp2_with ((with_reducible change wpList _ _ _ (Oper.mk _ (Op.store 31 _ _) _ _ _ _ :: _) _ _); refine wpList_store_blk (ty := 31) w.heap.size (barr (withK K (mixB m2 (shiftB st)) (r + 1))) rfl rfl H10.out.st size16 hs6 hsm (barr_one _) ?_)
            go_roundw
            case rel =>
              refine ⟨r + 1, by omega, by go_num, ?_⟩
              have e : encS K R l (r + 1) = withK K (mixB m2 (shiftB st)) (r + 1) := by
                rw [encS, ← HST.out]
                unfold rnd mid
                rw [if_pos hlt2]
              rw [e]
              exact Lib.hid (H10.out.put _)
            case measure => simp [intOf]; omega
          · have hle2 : decide ((r : Int) + 1 < (R : Int)) = false := by simp; omega
            go_wp2_with ((with_reducible change wpList _ _ _ (Oper.mk _ (Op.load 31 _) _ _ _ _ :: _) _ _); refine wpList_load_blk (ty := 31) w.heap.size rfl H7.out.st Try.underlying31 rfl size16 hss ?_)
            rw [show (r : Int) + 1 = ((r + 1 : Nat) : Int) from by omega]
            refine (radd_any a g n cap K (shiftB st) (r + 1) _ (HR.out.below H7.out.bel) (shiftB_len _) (by have := HN.out; omega) (by have := HN.out; omega)).mono ?_
            rintro e w10 ⟨rfl, h10⟩
            have H10 := Lib.hid (H7.out.below h10)
            clear h10 H7
            have hs6 : (barr (withK K (shiftB st) (r + 1))).size = 16 := by rw [barr_size, withK_len]
            go_wp2_with ((with_reducible change wpList _ _ _ (Oper.mk _ (Op.store 31 _ _) _ _ _ _ :: _) _ _); refine wpList_store_blk (ty := 31) w.heap.size (barr (withK K (shiftB st) (r + 1))) rfl rfl H10.out.st size16 hs6 hss (barr_one _) ?_)
            go_roundw
            case rel =>
              refine ⟨r + 1, by omega, by go_num, ?_⟩
              have e : encS K R l (r + 1) = withK K (shiftB st) (r + 1) := by
                rw [encS, ← HST.out]
                unfold rnd mid
                rw [if_neg hlt2]
              rw [e]
              exact Lib.hid (H10.out.put _)
            case measure => simp [intOf]; omega
    · have hrR : r = R := by omega
      have hle : decide ((r : Int) + 1 ≤ (R : Int)) = false := by simp; omega
      go_wp2_with (first | ((with_reducible change wpList _ _ _ (Oper.mk _ (Op.load 31 _) _ _ _ _ :: _) _ _); refine wpList_load_blk (ty := 31) w.heap.size rfl H.out.st Try.underlying31 rfl size16 hb16 ?_) | ((with_reducible change wpList _ _ _ (Oper.mk _ (Op.store 31 _ _) _ _ _ _ :: _) _ _); refine wpList_store_blk (ty := 31) (w.heap.size + 1) (barr st) rfl rfl H.out.res size16 hb16 (by rw [barr_size]; rfl) (barr_one _) ?_))
      refine bodyPost_ret (results_cell_blk rfl _ _ (w.heap.size + 1) rfl (H.out.res.row _) Try.underlying31 rfl size16 hb16) rfl ⟨?_, below_row H.out.bel (by omega) _⟩
      have e : enc K R l = st := by rw [enc_S, HST.out, hrR]
      rw [e]
end Go.Proofs.Ytpampcokonicfaa
