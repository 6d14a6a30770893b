/- What the operations do: of what is public, and of the ledger. -/
import Derived.Test.YtkidijjhedjifaaGreatRows
import Derived.Test.YtkidijjhedjifaaGreatQCostScript1
import Derived.Test.YtkidijjhedjifaaGreatQCostScript3
import Derived.Test.YtkidijjhedjifaaGreatQCostScript4
namespace Go.Proofs.YtkidijjhedjifaaGreat
open Go.RowKit
set_option maxRecDepth 100000
set_option linter.unusedVariables false
set_option linter.unusedSimpArgs false
attribute [local go_sem] Oper.semAt_some
section
variable {P : Program} {ops : Array Oper} {Q : Exit → Act → World → Prop} {a : Act} {w : World} {o : Oper} {i : Nat} {K : Act → World → Prop}
theorem op_upd {b : Nat} {σ : Hs} (mo xo vo : Operand) (h : Int) (t : Th) (ho : ops[i]? = some o) (hw : Region.wanted o (yielded ops a.tmps) = true) (hop : o.op = Op.mapUpdate 47 mo xo vo) (hm : a.eval mo = .map (some b)) (hx : a.eval xo = .int .i64 h) (hv : a.eval vo = thV t)
    (hM : MapH w b σ) (hh : 0 ≤ h ∧ h < 64) (kk : ∀ w', MapH w' b (σ.put h (some t)) → Only (fun x => x = b) w w' → K (a.put o.dst undef) w') : wpOp Tryz.prog ops Q i K a w := by
  unfold Go.wpOp
  simp only [ho, hw, if_true]
  refine .inl ?_
  obtain ⟨w', hrun, r1, r2⟩ := hM.store hh t
  unfold Oper.wp
  simp [execOp, hop, hm, hx, hv, hrun, Result.andThen]
  exact kk w' r1 r2
theorem op_del {b : Nat} {σ : Hs} (mo xo : Operand) (h : Int) (ho : ops[i]? = some o) (hw : Region.wanted o (yielded ops a.tmps) = true) (hop : o.op = Op.call { callee := Callee.builtin Builtin.delete, args := #[mo, xo], argTypes := #[47, 3] }) (hm : a.eval mo = .map (some b)) (hx : a.eval xo = .int .i64 h)
    (hM : MapH w b σ) (hh : 0 ≤ h ∧ h < 64) (kk : ∀ w', MapH w' b (σ.put h none) → Only (fun x => x = b) w w' → K (a.put o.dst (.tuple #[])) w') : wpOp Tryz.prog ops Q i K a w := by
  unfold Go.wpOp
  simp only [ho, hw, if_true]
  refine .inl ?_
  obtain ⟨w', hrun, r1, r2⟩ := hM.drop hh o.type
  unfold Oper.wp
  simp [execOp, hop, resolve, invoke, builtin, hm, hx, hrun, Result.andThen]
  exact kk w' r1 r2
end
theorem setIs {α : Type} : ∀ (l : List α) (j : Nat) (x : α), l[j]? = some x → l.set j x = l
  | [], _, _, h => by simp at h
  | a :: l, 0, x, h => by simp at h; subst h; rfl
  | a :: l, j + 1, x, h => by rw [List.set_cons_succ, setIs l j x (by simpa using h)]
theorem Env.keepL {w0 w : World} {A B : List Ob} (h : Env w0 w (A ++ B)) : Env w0 w A :=
  h.pick id (fun _ _ _ _ e => e) (fun j ob hj => by
    rw [id, List.getElem?_append_left (List.getElem?_eq_some_iff.1 hj).1]
    exact hj)
theorem atL {α : Type} {A L : List α} {i : Nat} {x : α} (h : A[i]? = some x) : (A ++ L)[i]? = some x := by
  rw [List.getElem?_append_left (List.getElem?_eq_some_iff.1 h).1]; exact h
theorem atR {α : Type} {A L : List α} (k : Nat) : (A ++ L)[A.length + k]? = L[k]? := by rw [List.getElem?_append_right (by omega), Nat.add_sub_cancel_left]
/-- a ledger with room -/
def RB (c : Int) (rs : List Rn) : Prop := tot rs ≤ c ∧ (rs.length : Int) ≤ c
theorem noteL_len1 (a : List Rn) (k s n : Int) : (noteL a k s n).length ≤ a.length + 1 := by
  rcases List.eq_nil_or_concat a with rfl | ⟨l0, r, rfl⟩
  · simp [noteL]
  · rw [List.concat_eq_append]
    by_cases he : r.k = k ∧ r.s = s
    · obtain ⟨rfl, rfl⟩ := he
      rw [noteL_same]
      simp
    · rw [noteL_other _ _ _ _ _ he]
      simp
theorem RB.note {c d : Int} {rs : List Rn} (h : RB c rs) (r : Rn) (hr : r.c ≤ d) (hd : 1 ≤ d) : RB (c + d) (timesN rs r) := by
  obtain ⟨h1, h2⟩ := h
  unfold timesN
  split
  · exact ⟨by omega, by omega⟩
  · refine ⟨by rw [tot_note]; omega, ?_⟩
    have := noteL_len1 rs r.k r.s r.c
    omega
theorem timesN_twice (rs : List Rn) (k s a b : Int) (ha : 1 ≤ a) (hb : 1 ≤ b) : timesN (timesN rs ⟨k, s, a⟩) ⟨k, s, b⟩ = timesN rs ⟨k, s, a + b⟩ := by
  unfold timesN
  simp only
  rw [if_neg (by omega), if_neg (by omega), if_neg (by omega), noteL_twice]
theorem timesS_env {w0 w : World} {obs : List Ob} (h : Env w0 w obs) (i : Nat) {q : Value} {rs : List Rn} (hi : obs[i]? = some (obP q (some rs))) (k s n : Int) {c : Int} (hb : RB c rs) (hc : c ≤ 1000000000) (hn : n ≤ 1000000000) :
    Calls Tryz.prog 46 #[q, .agg #[.int .u8 k, .int .i64 s], .int .i64 n] w fun e w' => e = .returned (.tuple #[]) ∧ Env w0 w' (obs.set i (obP q (some (timesN rs ⟨k, s, n⟩)))) := by
  obtain ⟨h1, h2⟩ := hb
  refine (timesP_env h i hi k s n (Room.some (by omega) (by omega))).mono fun e w' ⟨he, h3⟩ => ⟨he, ?_⟩
  have e1 : timesO (some rs) k s n = some (timesN rs ⟨k, s, n⟩) := by
    unfold timesO timesN
    simp only
    split <;> rfl
  rw [e1] at h3
  exact h3
theorem noteS_env {w0 w : World} {obs : List Ob} (h : Env w0 w obs) (i : Nat) {q : Value} {rs : List Rn} (hi : obs[i]? = some (obP q (some rs))) (k s : Int) {c : Int} (hb : RB c rs) (hc : c ≤ 1000000000) :
    Calls Tryz.prog 18 #[q, .agg #[.int .u8 k, .int .i64 s]] w fun e w' => e = .returned (.tuple #[]) ∧ Env w0 w' (obs.set i (obP q (some (timesN rs ⟨k, s, 1⟩)))) := by
  obtain ⟨h1, h2⟩ := hb
  exact (noteP_env h i hi k s (Room.some (by omega) (by omega))).mono fun e w' ⟨he, h3⟩ => ⟨he, h3⟩
def thCells (t : Th) : Array Value := #[.int .u8 t.alg, .int .i64 t.out, .int .i64 t.key, .int .i64 t.custom, .int .i64 t.msg]
section
variable {w0 w : World} {obs : List Ob} {p m k B : Nat} {σ : Hs} {s : Sk}
theorem Env.sc (h : Env w0 w obs) (i b : Nat) (hi : obs[i]? = some (obPub p m k σ)) (hb : obs[b]? = some (obK B 40 (skCells s))) (hs : okI s.handle) : SCost p m B s ((σ s.handle).getD th0) (σ s.handle).isSome w := by
  have h1 := h.blk b hb
  exact ⟨(h.pub i hi).s hs, h1.cellAt 0 rfl, h1.cellAt 1 rfl, h1.cellAt 2 rfl, h1.cellAt 3 rfl, h1.cellAt 4 rfl, h1.cellAt 5 rfl, h1.cellAt 6 rfl⟩
theorem Env.sbox (h : Env w0 w obs) (b : Nat) {t : Th} (hb : obs[b]? = some (obK B 97 (thCells t))) : SBox B t w := by
  have h1 := h.blk b hb
  exact ⟨h1.cellAt 0 rfl, h1.cellAt 1 rfl, h1.cellAt 2 rfl, h1.cellAt 3 rfl, h1.cellAt 4 rfl⟩
structure STake (p m B : Nat) (t : Th) (W : World) : Prop where
  c : W.cell? ⟨p, 0, none⟩ = some (.map (some m))
  b : SBox B t W
section
variable {t : Th}
theorem STake.fc (W : World) (h : STake p m B t W) : W.cell? ⟨p, 0, none⟩ = some (.map (some m)) := h.c
theorem STake.f0 (W : World) (h : STake p m B t W) : W.cell? ⟨B, 0, none⟩ = some (.int .u8 t.alg) := h.b.c0
theorem STake.f1 (W : World) (h : STake p m B t W) : W.cell? ⟨B, 1, none⟩ = some (.int .i64 t.out) := h.b.c1
theorem STake.f2 (W : World) (h : STake p m B t W) : W.cell? ⟨B, 2, none⟩ = some (.int .i64 t.key) := h.b.c2
theorem STake.f3 (W : World) (h : STake p m B t W) : W.cell? ⟨B, 3, none⟩ = some (.int .i64 t.custom) := h.b.c3
theorem STake.f4 (W : World) (h : STake p m B t W) : W.cell? ⟨B, 4, none⟩ = some (.int .i64 t.msg) := h.b.c4
end
theorem Env.stake (h : Env w0 w obs) (i b : Nat) {t : Th} (hi : obs[i]? = some (obPub p m k σ)) (hb : obs[b]? = some (obK B 97 (thCells t))) : STake p m B t w := ⟨(h.pub i hi).blk.cellAt 0 rfl, h.sbox b hb⟩
set_option maxHeartbeats 2000000 in
theorem take_env (h : Env w0 w obs) (i : Nat) (hi : obs[i]? = some (obPub p m k σ)) (t : Th) :
    Calls Tryz.prog 61 #[pV p, thV t] w fun e w' => e = .returned (.tuple #[]) ∧ Env w0 w' (obs.set i (obPub p m k (takeH σ t))) := by
  have H1 := Lib.hid (h.newK 97 (thCells t))
  have hil := (List.getElem?_eq_some_iff.1 hi).1
  have HI := Lib.hid hi
  clear h hi
  unfold pV thV
  unfold thCells at H1
  go_enter Tryz.func61, Tryz.ntmps61
  go_wp2_with fail
  obtain ⟨B, hB⟩ : ∃ B, w.heap.size = B := ⟨_, rfl⟩
  obtain ⟨w1, hw1⟩ : ∃ y, w.alloc (.cells #[.int .u8 t.alg, .int .i64 t.out, .int .i64 t.key, .int .i64 t.custom, .int .i64 t.msg] 97) = y := ⟨_, rfl⟩
  rw [hw1, hB] at H1
  try rw [hw1]
  try rw [hB]
  clear hw1 hB
  obtain ⟨M, hM⟩ : ∃ M, obs ++ [obK B 97 #[.int .u8 t.alg, .int .i64 t.out, .int .i64 t.key, .int .i64 t.custom, .int .i64 t.msg]] = M := ⟨_, rfl⟩
  have I1 : Hid (M[i]? = some (obPub p m k σ)) := by rw [← hM, List.getElem?_append_left hil]; exact HI
  have I2 : Hid (M[obs.length]? = some (obK B 97 (thCells t))) := by rw [← hM, List.getElem?_append_right (Nat.le_refl _), Nat.sub_self]; exact Lib.hid rfl
  rw [hM] at H1
  have HM := Lib.hid hM
  clear hM
  go_loopw [7] (fun iv wx => ∃ j : Nat, j ≤ 64 ∧ iv = .int .i64 (j : Int) ∧ Hid (freeTo σ (64 - j) j = freeH σ) ∧ Hid (Env w0 wx M)) (fun iv _ => 64 - (intOf iv).toNat)
  case atStart => exact ⟨0, by omega, rfl, Lib.hid rfl, H1⟩
  case round =>
    obtain ⟨j, hj, rfl, HF, HE⟩ := hrel
    clear H1
    by_cases hlt : j < 64
    · have t3 : decide ((j : Int) < 64) = true := by rw [decide_eq_true_eq]; omega
      have hpub := HE.out.pub i I1.out
      have c0 := hpub.blk.cellAt 0 (v := .map (some m)) rfl
      have hlk := hpub.held.look_ok (x := (j : Int)) ⟨by omega, by omega⟩
      unfold thV at hlk
      cases hx : (σ (j : Int)).isSome
      · rw [hx] at hlk
        have hnone : freeTo σ (64 - j) j = some j := by
          rw [show 64 - j = (63 - j) + 1 from by omega]
          exact freeTo_is σ _ j hx
        have HN : Hid (freeH σ = some j) := by rw [← HF.out]; exact Lib.hid hnone
        clear hx hnone hpub
        go_upto_region 6 with fail
        clear hlk c0
        obtain ⟨w2, hw2⟩ : ∃ y, wr.alloc (.cells #[.int .u8 ((σ (j : Int)).getD th0).alg, .int .i64 ((σ (j : Int)).getD th0).out, .int .i64 ((σ (j : Int)).getD th0).key, .int .i64 ((σ (j : Int)).getD th0).custom, .int .i64 ((σ (j : Int)).getD th0).msg] 97) = y := ⟨_, rfl⟩
        have H2 : Hid (Env w0 w2 M) := by rw [← hw2]; exact Lib.hid (HE.out.below ((Below.refl _ _).alloc (Nat.le_refl _) _))
        try rw [hw2]
        clear hw2 HE
        refine hd_start (STake p m B t) (by kernel_rfl) ?_
        intro w3 hw'
        have H3 := Lib.hid (H2.out.draw 1)
        rw [← hw'] at H3
        clear hw' H2
        have S3 := H3.out.stake i obs.length I1.out I2.out
        refine hd_take (v := ?_) 0 rfl (by kernel_rfl) (fun _ _ d _ _ h => (by cases d <;> exact h)) (by kernel_rfl) S3 (fun w' hS => ?_) ?_
        rotate_left
        focus (have q0 := STake.fc w' hS; have q1 := STake.f0 w' hS; have q2 := STake.f1 w' hS; have q3 := STake.f2 w' hS; have q4 := STake.f3 w' hS; have q5 := STake.f4 w' hS; clear hS; go_simp; try rfl; done)
        simp only [List.getElem_toArray, List.getElem_cons_succ, List.getElem_cons_zero, Act.put, List.setIfInBounds_toArray, List.set_cons_zero, List.set_cons_succ]
        refine hd_take (v := ?_) 1 rfl (by kernel_rfl) (fun _ _ d _ _ h => (by cases d <;> exact h)) (by kernel_rfl) S3 (fun w' hS => ?_) ?_
        rotate_left
        focus (have q0 := STake.fc w' hS; have q1 := STake.f0 w' hS; have q2 := STake.f1 w' hS; have q3 := STake.f2 w' hS; have q4 := STake.f3 w' hS; have q5 := STake.f4 w' hS; clear hS; go_simp; try rfl; done)
        simp only [List.getElem_toArray, List.getElem_cons_succ, List.getElem_cons_zero, Act.put, List.setIfInBounds_toArray, List.set_cons_zero, List.set_cons_succ]
        refine hd_take (v := ?_) 2 rfl (by kernel_rfl) (fun _ _ d _ _ h => (by cases d <;> exact h)) (by kernel_rfl) S3 (fun w' hS => ?_) ?_
        rotate_left
        focus (have q0 := STake.fc w' hS; have q1 := STake.f0 w' hS; have q2 := STake.f1 w' hS; have q3 := STake.f2 w' hS; have q4 := STake.f3 w' hS; have q5 := STake.f4 w' hS; clear hS; go_simp; try rfl; done)
        simp only [List.getElem_toArray, List.getElem_cons_succ, List.getElem_cons_zero, Act.put, List.setIfInBounds_toArray, List.set_cons_zero, List.set_cons_succ]
        refine hd_take (v := ?_) 3 rfl (by kernel_rfl) (fun _ _ d _ _ h => (by cases d <;> exact h)) (by kernel_rfl) S3 (fun w' hS => ?_) ?_
        rotate_left
        focus (have q0 := STake.fc w' hS; have q1 := STake.f0 w' hS; have q2 := STake.f1 w' hS; have q3 := STake.f2 w' hS; have q4 := STake.f3 w' hS; have q5 := STake.f4 w' hS; clear hS; go_simp; try rfl; done)
        simp only [List.getElem_toArray, List.getElem_cons_succ, List.getElem_cons_zero, Act.put, List.setIfInBounds_toArray, List.set_cons_zero, List.set_cons_succ]
        refine hd_take (v := ?_) 4 rfl (by kernel_rfl) (fun _ _ d _ _ h => (by cases d <;> exact h)) (by kernel_rfl) S3 (fun w' hS => ?_) ?_
        rotate_left
        focus (have q0 := STake.fc w' hS; have q1 := STake.f0 w' hS; have q2 := STake.f1 w' hS; have q3 := STake.f2 w' hS; have q4 := STake.f3 w' hS; have q5 := STake.f4 w' hS; clear hS; go_simp; try rfl; done)
        simp only [List.getElem_toArray, List.getElem_cons_succ, List.getElem_cons_zero, Act.put, List.setIfInBounds_toArray, List.set_cons_zero, List.set_cons_succ]
        refine hd_take (v := ?_) 5 rfl (by kernel_rfl) (fun _ _ d _ _ h => (by cases d <;> exact h)) (by kernel_rfl) S3 (fun w' hS => ?_) ?_
        rotate_left
        focus (have q0 := STake.fc w' hS; have q1 := STake.f0 w' hS; have q2 := STake.f1 w' hS; have q3 := STake.f2 w' hS; have q4 := STake.f3 w' hS; have q5 := STake.f4 w' hS; clear hS; go_simp; try rfl; done)
        simp only [List.getElem_toArray, List.getElem_cons_succ, List.getElem_cons_zero, Act.put, List.setIfInBounds_toArray, List.set_cons_zero, List.set_cons_succ]
        refine hd_one 6 (by kernel_rfl) ?_
        refine op_upd (σ := σ) (b := m) _ _ _ (j : Int) t rfl (by kernel_rfl) rfl rfl rfl rfl (H3.out.pub i I1.out).held (by omega) ?_
        intro w4 hm4 ho4
        have H4 := Lib.hid (H3.out.turnPub i I1.out hm4 ho4)
        simp only [List.getElem_toArray, List.getElem_cons_succ, List.getElem_cons_zero, Act.put, List.setIfInBounds_toArray, List.set_cons_zero, List.set_cons_succ]
        have I1' : Hid ((M.set i (obPub p m k (σ.put (j : Int) (some t))))[i]? = some (obPub p m k (σ.put (j : Int) (some t)))) := Lib.hid (List.getElem?_set_self (List.getElem?_eq_some_iff.1 I1.out).1)
        have I2' : Hid ((M.set i (obPub p m k (σ.put (j : Int) (some t))))[obs.length]? = some (obK B 97 (thCells t))) := Lib.hid (by rw [List.getElem?_set_ne (by omega)]; exact I2.out)
        refine ⟨H4.out.stake i obs.length I1'.out I2'.out, ?_⟩
        refine hd_done (by kernel_rfl) ?_
        go_wp2_with fail
        refine bodyPost_ret (results_none rfl _ _ _) rfl ⟨rfl, ?_⟩
        have h9 := H4.out
        rw [← HM.out, List.set_append_left _ _ hil] at h9
        unfold takeH
        rw [HN.out]
        exact h9.keepL
      · rw [hx] at hlk
        have HN : Hid (freeTo σ (64 - (j + 1)) (j + 1) = freeH σ) := by
          rw [← HF.out, show 64 - j = (64 - (j + 1)) + 1 from by omega]
          exact Lib.hid (freeTo_held σ _ j hx).symm
        have hw1 : IntKind.i64.wrap ((j : Int) + 1) = ((j + 1 : Nat) : Int) := by rw [IntWalk.i64_in _ (by omega)]; omega
        clear hx hpub
        go_wp2_with fail
        refine ⟨⟨j + 1, by omega, rfl, HN, Lib.hid (HE.out.below ((Below.refl _ _).alloc (Nat.le_refl _) _))⟩, ?_⟩
        simp only [intOf]
        omega
    · have t3 : decide ((j : Int) < 64) = false := by rw [decide_eq_false_iff_not]; omega
      have hj64 : j = 64 := by omega
      subst hj64
      have HN : Hid (freeH σ = none) := by rw [← HF.out]; exact Lib.hid rfl
      go_wp2_with fail
      go_end0
      refine ⟨rfl, ?_⟩
      have h9 := HE.out
      rw [← HM.out] at h9
      unfold takeH
      rw [HN.out]
      have e : obs.set i (obPub p m k σ) = obs := setIs _ _ _ HI.out
      rw [e]
      exact h9.keepL
/-! ### printed by wip/mkcostdo.py -/
theorem SD.f {p m B : Nat} {v : Value} (W : World) (h : W.cell? ⟨p, 0, none⟩ = some (.map (some m)) ∧ W.cell? ⟨B, 1, none⟩ = some v) : W.cell? ⟨p, 0, none⟩ = some (.map (some m)) := h.1
theorem SD.g {p m B : Nat} {v : Value} (W : World) (h : W.cell? ⟨p, 0, none⟩ = some (.map (some m)) ∧ W.cell? ⟨B, 1, none⟩ = some v) : W.cell? ⟨B, 1, none⟩ = some v := h.2
structure SDo (p m B B2 : Nat) (s : Sk) (t : Th) (W : World) : Prop where
  c : W.cell? ⟨p, 0, none⟩ = some (.map (some m))
  b0 : W.cell? ⟨B, 0, none⟩ = some (.int .u8 s.kind)
  b1 : W.cell? ⟨B, 1, none⟩ = some (.int .i64 s.handle)
  b2 : W.cell? ⟨B, 2, none⟩ = some (.int .u8 s.alg)
  b3 : W.cell? ⟨B, 3, none⟩ = some (.int .i64 s.count)
  b4 : W.cell? ⟨B, 4, none⟩ = some (.int .i64 s.out)
  b5 : W.cell? ⟨B, 5, none⟩ = some (.int .i64 s.data)
  b6 : W.cell? ⟨B, 6, none⟩ = some (.int .i64 s.more)
  t : SBox B2 t W
section
variable {B2 : Nat} {t : Th}
theorem SDo.fc (W : World) (h : SDo p m B B2 s t W) : W.cell? ⟨p, 0, none⟩ = some (.map (some m)) := h.c
theorem SDo.f1 (W : World) (h : SDo p m B B2 s t W) : W.cell? ⟨B, 1, none⟩ = some (.int .i64 s.handle) := h.b1
theorem SDo.f2 (W : World) (h : SDo p m B B2 s t W) : W.cell? ⟨B, 2, none⟩ = some (.int .u8 s.alg) := h.b2
theorem SDo.f3 (W : World) (h : SDo p m B B2 s t W) : W.cell? ⟨B, 3, none⟩ = some (.int .i64 s.count) := h.b3
theorem SDo.f4 (W : World) (h : SDo p m B B2 s t W) : W.cell? ⟨B, 4, none⟩ = some (.int .i64 s.out) := h.b4
theorem SDo.f5 (W : World) (h : SDo p m B B2 s t W) : W.cell? ⟨B, 5, none⟩ = some (.int .i64 s.data) := h.b5
theorem SDo.f6 (W : World) (h : SDo p m B B2 s t W) : W.cell? ⟨B, 6, none⟩ = some (.int .i64 s.more) := h.b6
theorem SDo.g0 (W : World) (h : SDo p m B B2 s t W) : W.cell? ⟨B2, 0, none⟩ = some (.int .u8 t.alg) := h.t.c0
theorem SDo.g1 (W : World) (h : SDo p m B B2 s t W) : W.cell? ⟨B2, 1, none⟩ = some (.int .i64 t.out) := h.t.c1
theorem SDo.g2 (W : World) (h : SDo p m B B2 s t W) : W.cell? ⟨B2, 2, none⟩ = some (.int .i64 t.key) := h.t.c2
theorem SDo.g3 (W : World) (h : SDo p m B B2 s t W) : W.cell? ⟨B2, 3, none⟩ = some (.int .i64 t.custom) := h.t.c3
theorem SDo.g4 (W : World) (h : SDo p m B B2 s t W) : W.cell? ⟨B2, 4, none⟩ = some (.int .i64 t.msg) := h.t.c4
theorem Env.sdo (h : Env w0 w obs) (i b b2 : Nat) {σ : Hs} (hi : obs[i]? = some (obPub p m k σ)) (hb : obs[b]? = some (obK B 40 (skCells s))) (hb2 : obs[b2]? = some (obK B2 97 (thCells t))) : SDo p m B B2 s t w := by
  have h1 := h.blk b hb
  exact ⟨(h.pub i hi).blk.cellAt 0 rfl, h1.cellAt 0 rfl, h1.cellAt 1 rfl, h1.cellAt 2 rfl, h1.cellAt 3 rfl, h1.cellAt 4 rfl, h1.cellAt 5 rfl, h1.cellAt 6 rfl, h.sbox b2 hb2⟩
/-- a list of things with these four at their places -/
structure Mg (M : List Ob) (i l n : Nat) (p m k : Nat) (σ : Hs) (q : Value) (rs : List Rn) (B : Nat) (s : Sk) (B2 : Nat) (t : Th) : Prop where
  pub : M[i]? = some (obPub p m k σ)
  led : M[l]? = some (obP q (some rs))
  box : M[n]? = some (obK B 40 (skCells s))
  th : M[n + 1]? = some (obK B2 97 (thCells t))
theorem Mg.setL {M : List Ob} {i l n : Nat} {q : Value} {rs : List Rn} (h : Mg M i l n p m k σ q rs B s B2 t) (hil : i ≠ l) (hl : l < n) (rs' : List Rn) : Mg (M.set l (obP q (some rs'))) i l n p m k σ q rs' B s B2 t :=
  ⟨by rw [List.getElem?_set_ne (by omega)]; exact h.pub, List.getElem?_set_self (List.getElem?_eq_some_iff.1 h.led).1, by rw [List.getElem?_set_ne (by omega)]; exact h.box, by rw [List.getElem?_set_ne (by omega)]; exact h.th⟩
theorem Mg.setI {M : List Ob} {i l n : Nat} {q : Value} {rs : List Rn} (h : Mg M i l n p m k σ q rs B s B2 t) (hil : i ≠ l) (hi : i < n) (σ' : Hs) : Mg (M.set i (obPub p m k σ')) i l n p m k σ' q rs B s B2 t :=
  ⟨List.getElem?_set_self (List.getElem?_eq_some_iff.1 h.pub).1, by rw [List.getElem?_set_ne (by omega)]; exact h.led, by rw [List.getElem?_set_ne (by omega)]; exact h.box, by rw [List.getElem?_set_ne (by omega)]; exact h.th⟩
theorem Mg.setT {M : List Ob} {i l n : Nat} {q : Value} {rs : List Rn} (h : Mg M i l n p m k σ q rs B s B2 t) (hl : l < n) (hi : i < n) (t' : Th) : Mg (M.set (n + 1) (obK B2 97 (thCells t'))) i l n p m k σ q rs B s B2 t' :=
  ⟨by rw [List.getElem?_set_ne (by omega)]; exact h.pub, by rw [List.getElem?_set_ne (by omega)]; exact h.led, by rw [List.getElem?_set_ne (by omega)]; exact h.box, List.getElem?_set_self (List.getElem?_eq_some_iff.1 h.th).1⟩
theorem Env.mg {M : List Ob} {i l n : Nat} {q : Value} {rs : List Rn} (h : Env w0 w M) (g : Mg M i l n p m k σ q rs B s B2 t) : SDo p m B B2 s t w := h.sdo i n (n + 1) g.pub g.box g.th
end
def Pre (M obs : List Ob) : Prop := ∀ j, j < obs.length → M[j]? = obs[j]?
theorem Pre.app2 (obs A B : List Ob) : Pre (obs ++ A ++ B) obs := fun j hj => by rw [List.append_assoc, List.getElem?_append_left hj]
theorem Pre.set {M obs : List Ob} (h : Pre M obs) (l : Nat) (hl : l < obs.length) (A : Ob) : Pre (M.set l A) (obs.set l A) := fun j hj => by
  rw [List.length_set] at hj
  have hm : l < M.length := by
    have := h l hl
    rw [List.getElem?_eq_getElem hl] at this
    exact (List.getElem?_eq_some_iff.1 this).1
  by_cases e : j = l
  · subst e
    rw [List.getElem?_set_self hm, List.getElem?_set_self hl]
  · rw [List.getElem?_set_ne (fun h => e h.symm), List.getElem?_set_ne (fun h => e h.symm)]
    exact h j hj
theorem Pre.far {M obs : List Ob} (h : Pre M obs) (n : Nat) (hn : obs.length ≤ n) (C : Ob) : Pre (M.set n C) obs := fun j hj => by
  rw [List.getElem?_set_ne (by omega)]
  exact h j hj
theorem Env.ofPre {M : List Ob} (h : Env w0 w M) (hp : Pre M obs) : Env w0 w obs := h.pick id (fun _ _ _ _ e => e) (fun j ob hj => by
  rw [id, hp j (List.getElem?_eq_some_iff.1 hj).1]
  exact hj)
set_option maxHeartbeats 4000000 in
theorem put_env (h : Env w0 w obs) (i l : Nat) (hil : i ≠ l) (hi : obs[i]? = some (obPub p m k σ)) {q : Value} {rs : List Rn} (hl : obs[l]? = some (obP q (some rs))) (s : Sk) (hs : okI s.handle) {cb : Int} (hb : RB cb rs) (hcb : cb ≤ 100000000) :
    Calls Tryz.prog 27 #[pV p, q, skV s] w fun e w' => e = .returned (.tuple #[]) ∧ Env w0 w' ((obs.set l (obP q (some rs))).set i (obPub p m k (takeH σ ⟨0, 0, s.data, 0, 0⟩))) := by
  have H1 := Lib.hid (h.newK 40 (skCells s))
  have hil1 := (List.getElem?_eq_some_iff.1 hi).1
  have hll1 := (List.getElem?_eq_some_iff.1 hl).1
  have HI := Lib.hid hi
  have HL := Lib.hid hl
  have HS := Lib.hid hs
  have HRB := Lib.hid hb
  clear h hi hl hs hb
  unfold pV skV
  unfold skCells at H1
  go_enter Tryz.func27, Tryz.ntmps27
  go_wp2_with fail
  obtain ⟨B, hB⟩ : ∃ B, w.heap.size = B := ⟨_, rfl⟩
  obtain ⟨w1, hw1⟩ : ∃ y, w.alloc (.cells #[.int .u8 s.kind, .int .i64 s.handle, .int .u8 s.alg, .int .i64 s.count, .int .i64 s.out, .int .i64 s.data, .int .i64 s.more] 40) = y := ⟨_, rfl⟩
  rw [hw1, hB] at H1
  try rw [hw1]
  try rw [hB]
  clear hw1 hB
  obtain ⟨M, hM⟩ : ∃ M, obs ++ [obK B 40 #[.int .u8 s.kind, .int .i64 s.handle, .int .u8 s.alg, .int .i64 s.count, .int .i64 s.out, .int .i64 s.data, .int .i64 s.more]] = M := ⟨_, rfl⟩
  have I1 : Hid (M[i]? = some (obPub p m k σ)) := by rw [← hM, List.getElem?_append_left hil1]; exact HI
  have I2 : Hid (M[l]? = some (obP q (some rs))) := by rw [← hM, List.getElem?_append_left hll1]; exact HL
  have I3 : Hid (M[obs.length]? = some (obK B 40 (skCells s))) := by rw [← hM, List.getElem?_append_right (Nat.le_refl _), Nat.sub_self]; exact Lib.hid rfl
  rw [hM] at H1
  have HM := Lib.hid hM
  clear hM
  refine (take_env H1.out i I1.out ⟨0, 0, s.data, 0, 0⟩).mono ?_
  rintro e w2 ⟨rfl, h2⟩
  have H2 := Lib.hid h2
  clear h2
  go_wp2_with fail
  go_end0
  have h9 := H2.out
  rw [← HM.out, List.set_append_left _ _ hil1] at h9
  rw [setIs _ _ _ HL.out]
  exact ⟨rfl, h9.keepL⟩
set_option maxHeartbeats 4000000 in
theorem reveal_env (h : Env w0 w obs) (i l : Nat) (hil : i ≠ l) (hi : obs[i]? = some (obPub p m k σ)) {q : Value} {rs : List Rn} (hl : obs[l]? = some (obP q (some rs))) (s : Sk) (hs : okI s.handle) {cb : Int} (hb : RB cb rs) (hcb : cb ≤ 100000000) :
    Calls Tryz.prog 43 #[pV p, q, skV s] w fun e w' => e = .returned (.tuple #[]) ∧ Env w0 w' ((obs.set l (obP q (some rs))).set i (obPub p m k σ)) := by
  have H1 := Lib.hid (h.newK 40 (skCells s))
  have hil1 := (List.getElem?_eq_some_iff.1 hi).1
  have hll1 := (List.getElem?_eq_some_iff.1 hl).1
  have HI := Lib.hid hi
  have HL := Lib.hid hl
  have HS := Lib.hid hs
  have HRB := Lib.hid hb
  clear h hi hl hs hb
  unfold pV skV
  unfold skCells at H1
  go_enter Tryz.func43, Tryz.ntmps43
  go_wp2_with fail
  go_end0
  have h9 := H1.out
  rw [setIs _ _ _ HL.out, setIs _ _ _ HI.out]
  exact ⟨rfl, h9.keepL⟩
set_option maxHeartbeats 4000000 in
theorem drop_env (h : Env w0 w obs) (i l : Nat) (hil : i ≠ l) (hi : obs[i]? = some (obPub p m k σ)) {q : Value} {rs : List Rn} (hl : obs[l]? = some (obP q (some rs))) (s : Sk) (hs : okI s.handle) (hh : 0 ≤ s.handle ∧ s.handle < 64) {cb : Int} (hb : RB cb rs) (hcb : cb ≤ 500000000) :
    Calls Tryz.prog 45 #[pV p, q, skV s] w fun e w' => e = .returned (.tuple #[]) ∧ Env w0 w' ((obs.set l (obP q (some (timesN rs ⟨8, 1024, 1⟩)))).set i (obPub p m k (σ.put s.handle none))) := by
  have H1 := Lib.hid (h.newK 40 (skCells s))
  have hil1 := (List.getElem?_eq_some_iff.1 hi).1
  have hll1 := (List.getElem?_eq_some_iff.1 hl).1
  have HI := Lib.hid hi
  have HL := Lib.hid hl
  have HS := Lib.hid hs
  have HRB := Lib.hid hb
  clear h hi hl hs hb
  unfold pV skV
  unfold skCells at H1
  go_enter Tryz.func45, Tryz.ntmps45
  have HH := Lib.hid hh
  clear hh
  go_wp2_with fail
  obtain ⟨B, hB⟩ : ∃ B, w.heap.size = B := ⟨_, rfl⟩
  obtain ⟨w1, hw1⟩ : ∃ y, w.alloc (.cells #[.int .u8 s.kind, .int .i64 s.handle, .int .u8 s.alg, .int .i64 s.count, .int .i64 s.out, .int .i64 s.data, .int .i64 s.more] 40) = y := ⟨_, rfl⟩
  rw [hw1, hB] at H1
  try rw [hw1]
  try rw [hB]
  clear hw1 hB
  obtain ⟨M, hM⟩ : ∃ M, obs ++ [obK B 40 #[.int .u8 s.kind, .int .i64 s.handle, .int .u8 s.alg, .int .i64 s.count, .int .i64 s.out, .int .i64 s.data, .int .i64 s.more]] = M := ⟨_, rfl⟩
  have I1 : Hid (M[i]? = some (obPub p m k σ)) := by rw [← hM, List.getElem?_append_left hil1]; exact HI
  have I2 : Hid (M[l]? = some (obP q (some rs))) := by rw [← hM, List.getElem?_append_left hll1]; exact HL
  have I3 : Hid (M[obs.length]? = some (obK B 40 (skCells s))) := by rw [← hM, List.getElem?_append_right (Nat.le_refl _), Nat.sub_self]; exact Lib.hid rfl
  rw [hM] at H1
  have HM := Lib.hid hM
  clear hM
  refine (noteS_env H1.out l I2.out 8 1024 HRB.out (by omega)).mono ?_
  rintro e w2 ⟨rfl, h2⟩
  have H2 := Lib.hid h2
  clear h2
  obtain ⟨M2, hM2⟩ : ∃ y, M.set l (obP q (some (timesN rs ⟨8, 1024, 1⟩))) = y := ⟨_, rfl⟩
  have J1 : Hid (M2[i]? = some (obPub p m k σ)) := by rw [← hM2, List.getElem?_set_ne (by omega)]; exact I1
  have J3 : Hid (M2[obs.length]? = some (obK B 40 (skCells s))) := by rw [← hM2, List.getElem?_set_ne (by omega)]; exact I3
  rw [hM2] at H2
  have HM2 := Lib.hid hM2
  clear hM2
  go_upto_region 2 with fail
  refine hd_start (fun W => W.cell? ⟨p, 0, none⟩ = some (.map (some m)) ∧ W.cell? ⟨B, 1, none⟩ = some (.int .i64 s.handle)) (by kernel_rfl) ?_
  intro w3 hw'
  have H3 := Lib.hid (H2.out.draw 1)
  rw [← hw'] at H3
  clear hw' H2
  have hS : ∀ (W : World) (L : List Ob) (σ' : Hs), Env w0 W L → L[i]? = some (obPub p m k σ') → L[obs.length]? = some (obK B 40 (skCells s)) → W.cell? ⟨p, 0, none⟩ = some (.map (some m)) ∧ W.cell? ⟨B, 1, none⟩ = some (.int .i64 s.handle) := fun W L σ' hE h1 h2 => ⟨(hE.pub i h1).blk.cellAt 0 rfl, (hE.blk obs.length h2).cellAt 1 rfl⟩
  have HSS := Lib.hid hS
  clear hS
  have S3 := HSS.out _ _ _ H3.out J1.out J3.out
  refine hd_take (v := ?_) 0 rfl (by kernel_rfl) (fun _ _ d _ _ h => (by cases d <;> exact h)) (by kernel_rfl) S3 (fun w' hS => ?_) ?_
  rotate_left
  focus (have q0 := SD.f w' hS; have q1 := SD.g w' hS; clear hS; go_simp; try rfl; done)
  simp only [List.getElem_toArray, List.getElem_cons_succ, List.getElem_cons_zero, Act.put, List.setIfInBounds_toArray, List.set_cons_zero, List.set_cons_succ]
  refine hd_take (v := ?_) 1 rfl (by kernel_rfl) (fun _ _ d _ _ h => (by cases d <;> exact h)) (by kernel_rfl) S3 (fun w' hS => ?_) ?_
  rotate_left
  focus (have q0 := SD.f w' hS; have q1 := SD.g w' hS; clear hS; go_simp; try rfl; done)
  simp only [List.getElem_toArray, List.getElem_cons_succ, List.getElem_cons_zero, Act.put, List.setIfInBounds_toArray, List.set_cons_zero, List.set_cons_succ]
  refine hd_take (v := ?_) 2 rfl (by kernel_rfl) (fun _ _ d _ _ h => (by cases d <;> exact h)) (by kernel_rfl) S3 (fun w' hS => ?_) ?_
  rotate_left
  focus (have q0 := SD.f w' hS; have q1 := SD.g w' hS; clear hS; go_simp; try rfl; done)
  simp only [List.getElem_toArray, List.getElem_cons_succ, List.getElem_cons_zero, Act.put, List.setIfInBounds_toArray, List.set_cons_zero, List.set_cons_succ]
  refine hd_take (v := ?_) 3 rfl (by kernel_rfl) (fun _ _ d _ _ h => (by cases d <;> exact h)) (by kernel_rfl) S3 (fun w' hS => ?_) ?_
  rotate_left
  focus (have q0 := SD.f w' hS; have q1 := SD.g w' hS; clear hS; go_simp; try rfl; done)
  simp only [List.getElem_toArray, List.getElem_cons_succ, List.getElem_cons_zero, Act.put, List.setIfInBounds_toArray, List.set_cons_zero, List.set_cons_succ]
  refine hd_take (v := ?_) 4 rfl (by kernel_rfl) (fun _ _ d _ _ h => (by cases d <;> exact h)) (by kernel_rfl) S3 (fun w' hS => ?_) ?_
  rotate_left
  focus (have q0 := SD.f w' hS; have q1 := SD.g w' hS; clear hS; go_simp; try rfl; done)
  simp only [List.getElem_toArray, List.getElem_cons_succ, List.getElem_cons_zero, Act.put, List.setIfInBounds_toArray, List.set_cons_zero, List.set_cons_succ]
  refine hd_take (v := ?_) 5 rfl (by kernel_rfl) (fun _ _ d _ _ h => (by cases d <;> exact h)) (by kernel_rfl) S3 (fun w' hS => ?_) ?_
  rotate_left
  focus (have q0 := SD.f w' hS; have q1 := SD.g w' hS; clear hS; go_simp; try rfl; done)
  simp only [List.getElem_toArray, List.getElem_cons_succ, List.getElem_cons_zero, Act.put, List.setIfInBounds_toArray, List.set_cons_zero, List.set_cons_succ]
  refine hd_one 6 (by kernel_rfl) ?_
  refine op_del (σ := σ) (b := m) _ _ s.handle rfl (by kernel_rfl) rfl rfl rfl (H3.out.pub i J1.out).held HH.out ?_
  intro w4 hm4 ho4
  have H4 := Lib.hid (H3.out.turnPub i J1.out hm4 ho4)
  simp only [List.getElem_toArray, List.getElem_cons_succ, List.getElem_cons_zero, Act.put, List.setIfInBounds_toArray, List.set_cons_zero, List.set_cons_succ]
  refine ⟨HSS.out _ _ (σ.put s.handle none) H4.out (List.getElem?_set_self (List.getElem?_eq_some_iff.1 J1.out).1) (by rw [List.getElem?_set_ne (by omega)]; exact J3.out), ?_⟩
  refine hd_done (by kernel_rfl) ?_
  go_wp2_with fail
  go_end0
  have h9 := H4.out
  rw [← HM2.out, ← HM.out, List.set_append_left _ _ hll1, List.set_append_left _ _ (by rw [List.length_set]; exact hil1)] at h9
  exact ⟨rfl, h9.keepL⟩
set_option maxHeartbeats 4000000 in
theorem clone_env (h : Env w0 w obs) (i l : Nat) (hil : i ≠ l) (hi : obs[i]? = some (obPub p m k σ)) {q : Value} {rs : List Rn} (hl : obs[l]? = some (obP q (some rs))) (s : Sk) (hs : okI s.handle) {t : Th} (ht : σ s.handle = some t) {cb : Int} (hb : RB cb rs) (hcb : cb ≤ 100000000) :
    Calls Tryz.prog 37 #[pV p, q, skV s] w fun e w' => e = .returned (.tuple #[]) ∧ Env w0 w' ((obs.set l (obP q (some rs))).set i (obPub p m k (takeH σ t))) := by
  have H1 := Lib.hid (h.newK 40 (skCells s))
  have hil1 := (List.getElem?_eq_some_iff.1 hi).1
  have hll1 := (List.getElem?_eq_some_iff.1 hl).1
  have HI := Lib.hid hi
  have HL := Lib.hid hl
  have HS := Lib.hid hs
  have HRB := Lib.hid hb
  clear h hi hl hs hb
  unfold pV skV
  unfold skCells at H1
  go_enter Tryz.func37, Tryz.ntmps37
  have HT := Lib.hid ht
  clear ht
  go_upto_region 1 with fail
  obtain ⟨B, hB⟩ : ∃ B, w.heap.size = B := ⟨_, rfl⟩
  obtain ⟨w1, hw1⟩ : ∃ y, w.alloc (.cells #[.int .u8 s.kind, .int .i64 s.handle, .int .u8 s.alg, .int .i64 s.count, .int .i64 s.out, .int .i64 s.data, .int .i64 s.more] 40) = y := ⟨_, rfl⟩
  rw [hw1, hB] at H1
  try rw [hw1]
  try rw [hB]
  clear hw1 hB
  obtain ⟨M, hM⟩ : ∃ M, obs ++ [obK B 40 #[.int .u8 s.kind, .int .i64 s.handle, .int .u8 s.alg, .int .i64 s.count, .int .i64 s.out, .int .i64 s.data, .int .i64 s.more]] = M := ⟨_, rfl⟩
  have I1 : Hid (M[i]? = some (obPub p m k σ)) := by rw [← hM, List.getElem?_append_left hil1]; exact HI
  have I2 : Hid (M[l]? = some (obP q (some rs))) := by rw [← hM, List.getElem?_append_left hll1]; exact HL
  have I3 : Hid (M[obs.length]? = some (obK B 40 (skCells s))) := by rw [← hM, List.getElem?_append_right (Nat.le_refl _), Nat.sub_self]; exact Lib.hid rfl
  rw [hM] at H1
  have HM := Lib.hid hM
  clear hM
  have hF : ∀ W, W = w1.drewN 1 → SCost p m B s t true W := fun W hW => by
    subst hW
    have := (H1.out.draw 1).sc i obs.length I1.out I3.out HS.out
    rw [HT.out] at this
    exact this
  have HFF := Lib.hid hF
  have q1 : ∀ W, W = w1.drewN 1 → W.cell? ⟨p, 0, none⟩ = some (.map (some m)) := fun W hW => (hF W hW).pub.c
  have q2 : ∀ W, W = w1.drewN 1 → W.cell? ⟨B, 1, none⟩ = some (.int .i64 s.handle) := fun W hW => (hF W hW).b1
  have q3 := fun W hW => (hF W hW).pub.at'
  have Q1 := Lib.hid q1
  have Q2 := Lib.hid q2
  have Q3 := Lib.hid q3
  clear hF q1 q2 q3
  refine wp_region_tame (fun w' => w' = w1.drewN 1) 0 8 (by kernel_rfl) (by kernel_rfl) (fun _ _ d _ _ h => (by cases d <;> exact h)) rfl (by decide) ?_
  simp only [List.take_succ_cons, List.take_zero, List.drop_succ_cons, List.drop_zero]
  refine wpPre_nil ?_
  refine wpTame_run (v := ?_) (by decide) rfl (fun w' hS => ?_) ?_
  rotate_left
  focus (have q0 := Q1.out w' hS; have q1 := Q2.out w' hS; have q2 := Q3.out w' hS; clear hS; go_simp; try rfl; done)
  simp only [Act.put, List.setIfInBounds_toArray, List.set_cons_zero, List.set_cons_succ]
  refine wpTame_run (v := ?_) (by decide) rfl (fun w' hS => ?_) ?_
  rotate_left
  focus (have q0 := Q1.out w' hS; have q1 := Q2.out w' hS; have q2 := Q3.out w' hS; clear hS; go_simp; try rfl; done)
  simp only [Act.put, List.setIfInBounds_toArray, List.set_cons_zero, List.set_cons_succ]
  refine wpTame_run (v := ?_) (by decide) rfl (fun w' hS => ?_) ?_
  rotate_left
  focus (have q0 := Q1.out w' hS; have q1 := Q2.out w' hS; have q2 := Q3.out w' hS; clear hS; go_simp; try rfl; done)
  simp only [Act.put, List.setIfInBounds_toArray, List.set_cons_zero, List.set_cons_succ]
  refine wpTame_run (v := ?_) (by decide) rfl (fun w' hS => ?_) ?_
  rotate_left
  focus (have q0 := Q1.out w' hS; have q1 := Q2.out w' hS; have q2 := Q3.out w' hS; clear hS; go_simp; try rfl; done)
  simp only [Act.put, List.setIfInBounds_toArray, List.set_cons_zero, List.set_cons_succ]
  refine wpTame_run (v := ?_) (by decide) rfl (fun w' hS => ?_) ?_
  rotate_left
  focus (have q0 := Q1.out w' hS; have q1 := Q2.out w' hS; have q2 := Q3.out w' hS; clear hS; go_simp; try rfl; done)
  simp only [Act.put, List.setIfInBounds_toArray, List.set_cons_zero, List.set_cons_succ]
  refine wpTame_run (v := ?_) (by decide) rfl (fun w' hS => ?_) ?_
  rotate_left
  focus (have q0 := Q1.out w' hS; have q1 := Q2.out w' hS; have q2 := Q3.out w' hS; clear hS; go_simp; try rfl; done)
  simp only [Act.put, List.setIfInBounds_toArray, List.set_cons_zero, List.set_cons_succ]
  refine wpTame_run (v := ?_) (by decide) rfl (fun w' hS => ?_) ?_
  rotate_left
  focus (have q0 := Q1.out w' hS; have q1 := Q2.out w' hS; have q2 := Q3.out w' hS; clear hS; go_simp; try rfl; done)
  simp only [Act.put, List.setIfInBounds_toArray, List.set_cons_zero, List.set_cons_succ]
  refine wpTame_run (v := ?_) (by decide) rfl (fun w' hS => ?_) ?_
  rotate_left
  focus (have q0 := Q1.out w' hS; have q1 := Q2.out w' hS; have q2 := Q3.out w' hS; clear hS; go_simp; try rfl; done)
  simp only [Act.put, List.setIfInBounds_toArray, List.set_cons_zero, List.set_cons_succ]
  refine wpTame_nil ?_
  intro w2 hw'
  have H2 := Lib.hid (H1.out.draw 1)
  rw [← hw'] at H2
  clear hw' H1
  go_wp2_with fail
  refine (take_env H2.out i I1.out t).mono ?_
  rintro e w3 ⟨rfl, h2⟩
  have H3 := Lib.hid h2
  clear h2
  go_wp2_with fail
  go_end0
  have h9 := H3.out
  rw [← HM.out, List.set_append_left _ _ hil1] at h9
  rw [setIs _ _ _ HL.out]
  exact ⟨rfl, h9.keepL⟩
set_option maxHeartbeats 4000000 in
theorem update_env (h : Env w0 w obs) (i l : Nat) (hil : i ≠ l) (hi : obs[i]? = some (obPub p m k σ)) {q : Value} {rs : List Rn} (hl : obs[l]? = some (obP q (some rs))) (s : Sk) (hs : okI s.handle) {t : Th} (ht : σ s.handle = some t) {mm : Int} (hok : OKt mm t) (hmm : mm ≤ 800000000) (hd : 0 ≤ s.data) (hd2 : s.data ≤ 65536) (hh : 0 ≤ s.handle ∧ s.handle < 64) {cb : Int} (hb : RB cb rs) (hcb : cb ≤ 100000000) :
    Calls Tryz.prog 31 #[pV p, q, skV s] w fun e w' => e = .returned (.tuple #[]) ∧ Env w0 w' ((obs.set l (obP q (some (timesN rs ⟨wkK t, wkS t, takenA t t.msg (t.msg + s.data)⟩)))).set i (obPub p m k (σ.put s.handle (some { t with msg := t.msg + s.data })))) := by
  have H1 := Lib.hid (h.newK 40 (skCells s))
  have hil1 := (List.getElem?_eq_some_iff.1 hi).1
  have hll1 := (List.getElem?_eq_some_iff.1 hl).1
  have HI := Lib.hid hi
  have HL := Lib.hid hl
  have HS := Lib.hid hs
  have HRB := Lib.hid hb
  clear h hi hl hs hb
  unfold pV skV
  unfold skCells at H1
  go_enter Tryz.func31, Tryz.ntmps31
  have HT := Lib.hid ht
  have HH := Lib.hid hh
  have hm0 := hok.m0
  have hm1 := hok.m1
  clear ht hh hok
  go_upto_region 1 with fail
  obtain ⟨B, hB⟩ : ∃ B, w.heap.size = B := ⟨_, rfl⟩
  obtain ⟨w1, hw1⟩ : ∃ y, w.alloc (.cells #[.int .u8 s.kind, .int .i64 s.handle, .int .u8 s.alg, .int .i64 s.count, .int .i64 s.out, .int .i64 s.data, .int .i64 s.more] 40) = y := ⟨_, rfl⟩
  rw [hw1, hB] at H1
  try rw [hw1]
  try rw [hB]
  clear hw1 hB
  obtain ⟨M, hM⟩ : ∃ M, obs ++ [obK B 40 #[.int .u8 s.kind, .int .i64 s.handle, .int .u8 s.alg, .int .i64 s.count, .int .i64 s.out, .int .i64 s.data, .int .i64 s.more]] = M := ⟨_, rfl⟩
  have I1 : Hid (M[i]? = some (obPub p m k σ)) := by rw [← hM, List.getElem?_append_left hil1]; exact HI
  have I2 : Hid (M[l]? = some (obP q (some rs))) := by rw [← hM, List.getElem?_append_left hll1]; exact HL
  have I3 : Hid (M[obs.length]? = some (obK B 40 (skCells s))) := by rw [← hM, List.getElem?_append_right (Nat.le_refl _), Nat.sub_self]; exact Lib.hid rfl
  rw [hM] at H1
  have HM := Lib.hid hM
  clear hM
  refine hd_start (SCost p m B s t true) (by kernel_rfl) ?_
  intro w2 hw'
  have H2 := Lib.hid (H1.out.draw 1)
  rw [← hw'] at H2
  clear hw' H1
  have hSS : ∀ (W : World) (L : List Ob), Env w0 W (M ++ L) → SCost p m B s t true W := fun W L hE => by
    have := hE.sc i obs.length (atL I1.out) (atL I3.out) HS.out
    rw [HT.out] at this
    exact this
  have HSS := Lib.hid hSS
  clear hSS
  have S2 := HSS.out w2 [] (by rw [List.append_nil]; exact H2.out)
  refine hd_take (v := ?_) 0 rfl (by kernel_rfl) (fun _ _ d _ _ h => (by cases d <;> exact h)) (by kernel_rfl) S2 (fun w' hS => ?_) ?_
  rotate_left
  focus (have q0 := SCost.fc w' hS; have q1 := SCost.fat w' hS; have q2 := SCost.f1 w' hS; have q3 := SCost.f2 w' hS; have q4 := SCost.f4 w' hS; have q5 := SCost.f5 w' hS; clear hS; go_simp; try rfl; done)
  simp only [List.getElem_toArray, List.getElem_cons_succ, List.getElem_cons_zero, Act.put, List.setIfInBounds_toArray, List.set_cons_zero, List.set_cons_succ]
  refine hd_take (v := ?_) 1 rfl (by kernel_rfl) (fun _ _ d _ _ h => (by cases d <;> exact h)) (by kernel_rfl) S2 (fun w' hS => ?_) ?_
  rotate_left
  focus (have q0 := SCost.fc w' hS; have q1 := SCost.fat w' hS; have q2 := SCost.f1 w' hS; have q3 := SCost.f2 w' hS; have q4 := SCost.f4 w' hS; have q5 := SCost.f5 w' hS; clear hS; go_simp; try rfl; done)
  simp only [List.getElem_toArray, List.getElem_cons_succ, List.getElem_cons_zero, Act.put, List.setIfInBounds_toArray, List.set_cons_zero, List.set_cons_succ]
  refine hd_take (v := ?_) 2 rfl (by kernel_rfl) (fun _ _ d _ _ h => (by cases d <;> exact h)) (by kernel_rfl) S2 (fun w' hS => ?_) ?_
  rotate_left
  focus (have q0 := SCost.fc w' hS; have q1 := SCost.fat w' hS; have q2 := SCost.f1 w' hS; have q3 := SCost.f2 w' hS; have q4 := SCost.f4 w' hS; have q5 := SCost.f5 w' hS; clear hS; go_simp; try rfl; done)
  simp only [List.getElem_toArray, List.getElem_cons_succ, List.getElem_cons_zero, Act.put, List.setIfInBounds_toArray, List.set_cons_zero, List.set_cons_succ]
  refine hd_take (v := ?_) 3 rfl (by kernel_rfl) (fun _ _ d _ _ h => (by cases d <;> exact h)) (by kernel_rfl) S2 (fun w' hS => ?_) ?_
  rotate_left
  focus (have q0 := SCost.fc w' hS; have q1 := SCost.fat w' hS; have q2 := SCost.f1 w' hS; have q3 := SCost.f2 w' hS; have q4 := SCost.f4 w' hS; have q5 := SCost.f5 w' hS; clear hS; go_simp; try rfl; done)
  simp only [List.getElem_toArray, List.getElem_cons_succ, List.getElem_cons_zero, Act.put, List.setIfInBounds_toArray, List.set_cons_zero, List.set_cons_succ]
  refine hd_take (v := ?_) 4 rfl (by kernel_rfl) (fun _ _ d _ _ h => (by cases d <;> exact h)) (by kernel_rfl) S2 (fun w' hS => ?_) ?_
  rotate_left
  focus (have q0 := SCost.fc w' hS; have q1 := SCost.fat w' hS; have q2 := SCost.f1 w' hS; have q3 := SCost.f2 w' hS; have q4 := SCost.f4 w' hS; have q5 := SCost.f5 w' hS; clear hS; go_simp; try rfl; done)
  simp only [List.getElem_toArray, List.getElem_cons_succ, List.getElem_cons_zero, Act.put, List.setIfInBounds_toArray, List.set_cons_zero, List.set_cons_succ]
  refine hd_take (v := ?_) 5 rfl (by kernel_rfl) (fun _ _ d _ _ h => (by cases d <;> exact h)) (by kernel_rfl) S2 (fun w' hS => ?_) ?_
  rotate_left
  focus (have q0 := SCost.fc w' hS; have q1 := SCost.fat w' hS; have q2 := SCost.f1 w' hS; have q3 := SCost.f2 w' hS; have q4 := SCost.f4 w' hS; have q5 := SCost.f5 w' hS; clear hS; go_simp; try rfl; done)
  simp only [List.getElem_toArray, List.getElem_cons_succ, List.getElem_cons_zero, Act.put, List.setIfInBounds_toArray, List.set_cons_zero, List.set_cons_succ]
  refine hd_take (v := ?_) 6 rfl (by kernel_rfl) (fun _ _ d _ _ h => (by cases d <;> exact h)) (by kernel_rfl) S2 (fun w' hS => ?_) ?_
  rotate_left
  focus (have q0 := SCost.fc w' hS; have q1 := SCost.fat w' hS; have q2 := SCost.f1 w' hS; have q3 := SCost.f2 w' hS; have q4 := SCost.f4 w' hS; have q5 := SCost.f5 w' hS; clear hS; go_simp; try rfl; done)
  simp only [List.getElem_toArray, List.getElem_cons_succ, List.getElem_cons_zero, Act.put, List.setIfInBounds_toArray, List.set_cons_zero, List.set_cons_succ]
  have hz := H2.out.newK 97 (thCells th0)
  have S3 := HSS.out _ _ hz
  have h4 := H2.out.newK 97 (thCells t)
  have S4 := HSS.out _ _ h4
  clear hz
  refine hd_one 7 (by kernel_rfl) ?_
  refine op_run rfl (by kernel_rfl) (by go_simp; first | done | exact ⟨rfl, rfl⟩ | rfl) ?_
  refine ⟨S3, ?_⟩
  simp only [List.getElem_toArray, List.getElem_cons_succ, List.getElem_cons_zero, Act.put, List.setIfInBounds_toArray, List.set_cons_zero, List.set_cons_succ]
  refine hd_one 8 (by kernel_rfl) ?_
  refine op_skip rfl (by kernel_rfl) (by go_simp; first | done | rfl) ?_
  refine ⟨S4, ?_⟩
  simp only [List.getElem_toArray, List.getElem_cons_succ, List.getElem_cons_zero, Act.put, List.setIfInBounds_toArray, List.set_cons_zero, List.set_cons_succ]
  refine hd_done (by kernel_rfl) ?_
  clear S2 S3 S4 HSS
  obtain ⟨B2, hB2⟩ : ∃ y, w2.heap.size = y := ⟨_, rfl⟩
  obtain ⟨w3, hw3⟩ : ∃ y, w2.alloc (.cells (thCells t) 97) = y := ⟨_, rfl⟩
  rw [hw3, hB2] at h4
  obtain ⟨M2, hM2⟩ : ∃ y, M ++ [obK B2 97 (thCells t)] = y := ⟨_, rfl⟩
  have hml : M.length = obs.length + 1 := by rw [← HM.out]; simp
  have G2 : Hid (Mg M2 i l obs.length p m k σ q rs B s B2 t) := by
    rw [← hM2]
    exact Lib.hid ⟨atL I1.out, atL I2.out, atL I3.out, by rw [← hml]; exact atR 0⟩
  rw [hM2] at h4
  have H4 := Lib.hid h4
  have HM2 := Lib.hid hM2
  have P2 : Hid (Pre M2 obs) := by rw [← HM2.out, ← HM.out]; exact Lib.hid (Pre.app2 _ _ _)
  unfold thCells at hw3
  try rw [hw3]
  try rw [hB2]
  clear h4 hM2 hml hw3 hB2
  have hwm : IntKind.i64.wrap (t.msg + s.data) = t.msg + s.data := IntWalk.i64_in _ (by omega)
  have hrg := takenA_rng (t := t) (a := t.msg) (b := t.msg + s.data) hm0 (by omega)
  go_upto_region 2 with fail
  refine hd_start (SDo p m B B2 s t) (by kernel_rfl) ?_
  intro w5 hw'
  have H5 := Lib.hid (H4.out.draw 1)
  rw [← hw'] at H5
  clear hw' H4
  have S5 := H5.out.mg G2.out
  refine hd_take (v := ?_) 0 rfl (by kernel_rfl) (fun _ _ d _ _ h => (by cases d <;> exact h)) (by kernel_rfl) S5 (fun w' hS => ?_) ?_
  rotate_left
  focus (have q0 := SDo.g0 w' hS; have q1 := SDo.g1 w' hS; have q2 := SDo.g2 w' hS; have q3 := SDo.g3 w' hS; have q4 := SDo.g4 w' hS; have q5 := SDo.f5 w' hS; clear hS; go_simp; try rfl; done)
  simp only [List.getElem_toArray, List.getElem_cons_succ, List.getElem_cons_zero, Act.put, List.setIfInBounds_toArray, List.set_cons_zero, List.set_cons_succ]
  refine hd_take (v := ?_) 1 rfl (by kernel_rfl) (fun _ _ d _ _ h => (by cases d <;> exact h)) (by kernel_rfl) S5 (fun w' hS => ?_) ?_
  rotate_left
  focus (have q0 := SDo.g0 w' hS; have q1 := SDo.g1 w' hS; have q2 := SDo.g2 w' hS; have q3 := SDo.g3 w' hS; have q4 := SDo.g4 w' hS; have q5 := SDo.f5 w' hS; clear hS; go_simp; try rfl; done)
  simp only [List.getElem_toArray, List.getElem_cons_succ, List.getElem_cons_zero, Act.put, List.setIfInBounds_toArray, List.set_cons_zero, List.set_cons_succ]
  refine hd_take (v := ?_) 3 rfl (by kernel_rfl) (fun _ _ d _ _ h => (by cases d <;> exact h)) (by kernel_rfl) S5 (fun w' hS => ?_) ?_
  rotate_left
  focus (have q0 := SDo.g0 w' hS; have q1 := SDo.g1 w' hS; have q2 := SDo.g2 w' hS; have q3 := SDo.g3 w' hS; have q4 := SDo.g4 w' hS; have q5 := SDo.f5 w' hS; clear hS; go_simp; try rfl; done)
  simp only [List.getElem_toArray, List.getElem_cons_succ, List.getElem_cons_zero, Act.put, List.setIfInBounds_toArray, List.set_cons_zero, List.set_cons_succ]
  refine hd_take (v := ?_) 4 rfl (by kernel_rfl) (fun _ _ d _ _ h => (by cases d <;> exact h)) (by kernel_rfl) S5 (fun w' hS => ?_) ?_
  rotate_left
  focus (have q0 := SDo.g0 w' hS; have q1 := SDo.g1 w' hS; have q2 := SDo.g2 w' hS; have q3 := SDo.g3 w' hS; have q4 := SDo.g4 w' hS; have q5 := SDo.f5 w' hS; clear hS; go_simp; try rfl; done)
  simp only [List.getElem_toArray, List.getElem_cons_succ, List.getElem_cons_zero, Act.put, List.setIfInBounds_toArray, List.set_cons_zero, List.set_cons_succ]
  refine hd_take (v := ?_) 5 rfl (by kernel_rfl) (fun _ _ d _ _ h => (by cases d <;> exact h)) (by kernel_rfl) S5 (fun w' hS => ?_) ?_
  rotate_left
  focus (have q0 := SDo.g0 w' hS; have q1 := SDo.g1 w' hS; have q2 := SDo.g2 w' hS; have q3 := SDo.g3 w' hS; have q4 := SDo.g4 w' hS; have q5 := SDo.f5 w' hS; clear hS; go_simp; try rfl; done)
  simp only [List.getElem_toArray, List.getElem_cons_succ, List.getElem_cons_zero, Act.put, List.setIfInBounds_toArray, List.set_cons_zero, List.set_cons_succ]
  refine hd_take (v := ?_) 6 rfl (by kernel_rfl) (fun _ _ d _ _ h => (by cases d <;> exact h)) (by kernel_rfl) S5 (fun w' hS => ?_) ?_
  rotate_left
  focus (have q0 := SDo.g0 w' hS; have q1 := SDo.g1 w' hS; have q2 := SDo.g2 w' hS; have q3 := SDo.g3 w' hS; have q4 := SDo.g4 w' hS; have q5 := SDo.f5 w' hS; clear hS; go_simp; try rfl; done)
  simp only [List.getElem_toArray, List.getElem_cons_succ, List.getElem_cons_zero, Act.put, List.setIfInBounds_toArray, List.set_cons_zero, List.set_cons_succ]
  refine hd_take (v := ?_) 7 rfl (by kernel_rfl) (fun _ _ d _ _ h => (by cases d <;> exact h)) (by kernel_rfl) S5 (fun w' hS => ?_) ?_
  rotate_left
  focus (have q0 := SDo.g0 w' hS; have q1 := SDo.g1 w' hS; have q2 := SDo.g2 w' hS; have q3 := SDo.g3 w' hS; have q4 := SDo.g4 w' hS; have q5 := SDo.f5 w' hS; clear hS; go_simp; try rfl; done)
  simp only [List.getElem_toArray, List.getElem_cons_succ, List.getElem_cons_zero, Act.put, List.setIfInBounds_toArray, List.set_cons_zero, List.set_cons_succ]
  refine hd_take (v := ?_) 8 rfl (by kernel_rfl) (fun _ _ d _ _ h => (by cases d <;> exact h)) (by kernel_rfl) S5 (fun w' hS => ?_) ?_
  rotate_left
  focus (have q0 := SDo.g0 w' hS; have q1 := SDo.g1 w' hS; have q2 := SDo.g2 w' hS; have q3 := SDo.g3 w' hS; have q4 := SDo.g4 w' hS; have q5 := SDo.f5 w' hS; clear hS; go_simp; try rfl; done)
  simp only [List.getElem_toArray, List.getElem_cons_succ, List.getElem_cons_zero, Act.put, List.setIfInBounds_toArray, List.set_cons_zero, List.set_cons_succ]
  refine hd_take (v := ?_) 9 rfl (by kernel_rfl) (fun _ _ d _ _ h => (by cases d <;> exact h)) (by kernel_rfl) S5 (fun w' hS => ?_) ?_
  rotate_left
  focus (have q0 := SDo.g0 w' hS; have q1 := SDo.g1 w' hS; have q2 := SDo.g2 w' hS; have q3 := SDo.g3 w' hS; have q4 := SDo.g4 w' hS; have q5 := SDo.f5 w' hS; clear hS; go_simp; try rfl; done)
  simp only [List.getElem_toArray, List.getElem_cons_succ, List.getElem_cons_zero, Act.put, List.setIfInBounds_toArray, List.set_cons_zero, List.set_cons_succ]
  refine hd_take (v := ?_) 10 rfl (by kernel_rfl) (fun _ _ d _ _ h => (by cases d <;> exact h)) (by kernel_rfl) S5 (fun w' hS => ?_) ?_
  rotate_left
  focus (have q0 := SDo.g0 w' hS; have q1 := SDo.g1 w' hS; have q2 := SDo.g2 w' hS; have q3 := SDo.g3 w' hS; have q4 := SDo.g4 w' hS; have q5 := SDo.f5 w' hS; clear hS; go_simp; try rfl; done)
  simp only [List.getElem_toArray, List.getElem_cons_succ, List.getElem_cons_zero, Act.put, List.setIfInBounds_toArray, List.set_cons_zero, List.set_cons_succ]
  try rw [hwm]
  refine hd_one 2 (by kernel_rfl) ?_
  refine op_call rfl (by kernel_rfl) (by go_simp; first | exact ⟨rfl, rfl⟩ | rfl) ?_
  refine (works_any t w5).mono ?_
  rintro e w6 ⟨he, hb⟩
  subst he
  have H6 := Lib.hid (H5.out.below hb)
  clear hb
  have hS2 := H6.out.mg G2.out
  refine ⟨_, rfl, hS2, ?_⟩
  simp only [List.getElem_toArray, List.getElem_cons_succ, List.getElem_cons_zero, Act.put, List.setIfInBounds_toArray, List.set_cons_zero, List.set_cons_succ]
  refine hd_one 11 (by kernel_rfl) ?_
  refine op_call rfl (by kernel_rfl) (by go_simp; first | exact ⟨rfl, rfl⟩ | rfl) ?_
  refine (taken_any t t.msg (t.msg + s.data) w6 hm0 (by omega) (by omega) (by omega)).mono ?_
  rintro e w7 ⟨he, hb⟩
  subst he
  have H7 := Lib.hid (H6.out.below hb)
  clear hb
  have hS2 := H7.out.mg G2.out
  refine ⟨_, rfl, hS2, ?_⟩
  simp only [List.getElem_toArray, List.getElem_cons_succ, List.getElem_cons_zero, Act.put, List.setIfInBounds_toArray, List.set_cons_zero, List.set_cons_succ]
  refine hd_one 12 (by kernel_rfl) ?_
  refine op_call rfl (by kernel_rfl) (by go_simp; first | exact ⟨rfl, rfl⟩ | rfl) ?_
  refine (timesS_env H7.out l G2.out.led (wkK t) (wkS t) (takenA t t.msg (t.msg + s.data)) HRB.out (by omega) (by omega)).mono ?_
  rintro e w8 ⟨he, h8⟩
  subst he
  have H8 := Lib.hid h8
  clear h8
  have hS2 := H8.out.mg (G2.out.setL hil hll1 _)
  refine ⟨_, rfl, hS2, ?_⟩
  simp only [List.getElem_toArray, List.getElem_cons_succ, List.getElem_cons_zero, Act.put, List.setIfInBounds_toArray, List.set_cons_zero, List.set_cons_succ]
  refine hd_done (by kernel_rfl) ?_
  clear S5
  obtain ⟨M3, hM3⟩ : ∃ y, M2.set l (obP q (some (timesN rs ⟨wkK t, wkS t, takenA t t.msg (t.msg + s.data)⟩))) = y := ⟨_, rfl⟩
  have G3 : Hid (Mg M3 i l obs.length p m k σ q (timesN rs ⟨wkK t, wkS t, takenA t t.msg (t.msg + s.data)⟩) B s B2 t) := by rw [← hM3]; exact Lib.hid (G2.out.setL hil hll1 _)
  have P3 : Hid (Pre M3 (obs.set l (obP q (some (timesN rs ⟨wkK t, wkS t, takenA t t.msg (t.msg + s.data)⟩))))) := by rw [← hM3]; exact Lib.hid (P2.out.set l hll1 _)
  rw [hM3] at H8
  clear hM3
  have sd := H8.out.mg G3.out
  have g4 := sd.t.c4
  have b5 := sd.b5
  have bk := H8.out.blk (obs.length + 1) G3.out.th
  have ff := bk.unfrozen 4
  have hl2 := bk.lt
  have h9 : Env w0 (w8.setCell ⟨B2, 4, none⟩ (.int .i64 (t.msg + s.data))) (M3.set (obs.length + 1) (obK B2 97 (thCells { t with msg := t.msg + s.data }))) := H8.out.turnBlk (obs.length + 1) G3.out.th (bk.set 4 (.int .i64 (t.msg + s.data))) ((Only.refl (fun x => x = B2) w8).set (p := ⟨B2, 4, none⟩) (.inl rfl) _)
  have H9 := Lib.hid h9
  clear sd bk h9
  go_upto_region 4 with fail
  clear g4 b5 ff
  obtain ⟨w9, hw9⟩ : ∃ y, w8.setCell ⟨B2, 4, none⟩ (.int .i64 (t.msg + s.data)) = y := ⟨_, rfl⟩
  rw [hw9] at H9
  try rw [hw9]
  clear hw9
  obtain ⟨M4, hM4⟩ : ∃ y, M3.set (obs.length + 1) (obK B2 97 (thCells { t with msg := t.msg + s.data })) = y := ⟨_, rfl⟩
  have G4 : Hid (Mg M4 i l obs.length p m k σ q (timesN rs ⟨wkK t, wkS t, takenA t t.msg (t.msg + s.data)⟩) B s B2 { t with msg := t.msg + s.data }) := by rw [← hM4]; exact Lib.hid (G3.out.setT hll1 hil1 _)
  have P4 : Hid (Pre M4 (obs.set l (obP q (some (timesN rs ⟨wkK t, wkS t, takenA t t.msg (t.msg + s.data)⟩))))) := by rw [← hM4]; exact Lib.hid (P3.out.far _ (by rw [List.length_set]; omega) _)
  rw [hM4] at H9
  clear hM4
  refine hd_start (SDo p m B B2 s { t with msg := t.msg + s.data }) (by kernel_rfl) ?_
  intro w10 hw'
  have H10 := Lib.hid (H9.out.draw 1)
  rw [← hw'] at H10
  clear hw' H9
  have S10 := H10.out.mg G4.out
  refine hd_take (v := ?_) 0 rfl (by kernel_rfl) (fun _ _ d _ _ h => (by cases d <;> exact h)) (by kernel_rfl) S10 (fun w' hS => ?_) ?_
  rotate_left
  focus (have q0 := SDo.fc w' hS; have q1 := SDo.f1 w' hS; have q2 := SDo.g0 w' hS; have q3 := SDo.g1 w' hS; have q4 := SDo.g2 w' hS; have q5 := SDo.g3 w' hS; have q6 := SDo.g4 w' hS; clear hS; go_simp; try rfl; done)
  simp only [List.getElem_toArray, List.getElem_cons_succ, List.getElem_cons_zero, Act.put, List.setIfInBounds_toArray, List.set_cons_zero, List.set_cons_succ]
  refine hd_take (v := ?_) 1 rfl (by kernel_rfl) (fun _ _ d _ _ h => (by cases d <;> exact h)) (by kernel_rfl) S10 (fun w' hS => ?_) ?_
  rotate_left
  focus (have q0 := SDo.fc w' hS; have q1 := SDo.f1 w' hS; have q2 := SDo.g0 w' hS; have q3 := SDo.g1 w' hS; have q4 := SDo.g2 w' hS; have q5 := SDo.g3 w' hS; have q6 := SDo.g4 w' hS; clear hS; go_simp; try rfl; done)
  simp only [List.getElem_toArray, List.getElem_cons_succ, List.getElem_cons_zero, Act.put, List.setIfInBounds_toArray, List.set_cons_zero, List.set_cons_succ]
  refine hd_take (v := ?_) 2 rfl (by kernel_rfl) (fun _ _ d _ _ h => (by cases d <;> exact h)) (by kernel_rfl) S10 (fun w' hS => ?_) ?_
  rotate_left
  focus (have q0 := SDo.fc w' hS; have q1 := SDo.f1 w' hS; have q2 := SDo.g0 w' hS; have q3 := SDo.g1 w' hS; have q4 := SDo.g2 w' hS; have q5 := SDo.g3 w' hS; have q6 := SDo.g4 w' hS; clear hS; go_simp; try rfl; done)
  simp only [List.getElem_toArray, List.getElem_cons_succ, List.getElem_cons_zero, Act.put, List.setIfInBounds_toArray, List.set_cons_zero, List.set_cons_succ]
  refine hd_take (v := ?_) 3 rfl (by kernel_rfl) (fun _ _ d _ _ h => (by cases d <;> exact h)) (by kernel_rfl) S10 (fun w' hS => ?_) ?_
  rotate_left
  focus (have q0 := SDo.fc w' hS; have q1 := SDo.f1 w' hS; have q2 := SDo.g0 w' hS; have q3 := SDo.g1 w' hS; have q4 := SDo.g2 w' hS; have q5 := SDo.g3 w' hS; have q6 := SDo.g4 w' hS; clear hS; go_simp; try rfl; done)
  simp only [List.getElem_toArray, List.getElem_cons_succ, List.getElem_cons_zero, Act.put, List.setIfInBounds_toArray, List.set_cons_zero, List.set_cons_succ]
  refine hd_take (v := ?_) 4 rfl (by kernel_rfl) (fun _ _ d _ _ h => (by cases d <;> exact h)) (by kernel_rfl) S10 (fun w' hS => ?_) ?_
  rotate_left
  focus (have q0 := SDo.fc w' hS; have q1 := SDo.f1 w' hS; have q2 := SDo.g0 w' hS; have q3 := SDo.g1 w' hS; have q4 := SDo.g2 w' hS; have q5 := SDo.g3 w' hS; have q6 := SDo.g4 w' hS; clear hS; go_simp; try rfl; done)
  simp only [List.getElem_toArray, List.getElem_cons_succ, List.getElem_cons_zero, Act.put, List.setIfInBounds_toArray, List.set_cons_zero, List.set_cons_succ]
  refine hd_take (v := ?_) 5 rfl (by kernel_rfl) (fun _ _ d _ _ h => (by cases d <;> exact h)) (by kernel_rfl) S10 (fun w' hS => ?_) ?_
  rotate_left
  focus (have q0 := SDo.fc w' hS; have q1 := SDo.f1 w' hS; have q2 := SDo.g0 w' hS; have q3 := SDo.g1 w' hS; have q4 := SDo.g2 w' hS; have q5 := SDo.g3 w' hS; have q6 := SDo.g4 w' hS; clear hS; go_simp; try rfl; done)
  simp only [List.getElem_toArray, List.getElem_cons_succ, List.getElem_cons_zero, Act.put, List.setIfInBounds_toArray, List.set_cons_zero, List.set_cons_succ]
  refine hd_take (v := ?_) 6 rfl (by kernel_rfl) (fun _ _ d _ _ h => (by cases d <;> exact h)) (by kernel_rfl) S10 (fun w' hS => ?_) ?_
  rotate_left
  focus (have q0 := SDo.fc w' hS; have q1 := SDo.f1 w' hS; have q2 := SDo.g0 w' hS; have q3 := SDo.g1 w' hS; have q4 := SDo.g2 w' hS; have q5 := SDo.g3 w' hS; have q6 := SDo.g4 w' hS; clear hS; go_simp; try rfl; done)
  simp only [List.getElem_toArray, List.getElem_cons_succ, List.getElem_cons_zero, Act.put, List.setIfInBounds_toArray, List.set_cons_zero, List.set_cons_succ]
  refine hd_one 7 (by kernel_rfl) ?_
  refine op_upd (σ := σ) (b := m) _ _ _ s.handle { t with msg := t.msg + s.data } rfl (by kernel_rfl) rfl rfl rfl rfl (H10.out.pub i G4.out.pub).held HH.out ?_
  intro w11 hm11 ho11
  have H11 := Lib.hid (H10.out.turnPub i G4.out.pub hm11 ho11)
  simp only [List.getElem_toArray, List.getElem_cons_succ, List.getElem_cons_zero, Act.put, List.setIfInBounds_toArray, List.set_cons_zero, List.set_cons_succ]
  refine ⟨H11.out.mg (G4.out.setI hil hil1 _), ?_⟩
  refine hd_done (by kernel_rfl) ?_
  go_wp2_with fail
  go_end0
  exact ⟨rfl, H11.out.ofPre (P4.out.set i (by rw [List.length_set]; exact hil1) _)⟩
set_option maxHeartbeats 4000000 in
theorem finish_env (h : Env w0 w obs) (i l : Nat) (hil : i ≠ l) (hi : obs[i]? = some (obPub p m k σ)) {q : Value} {rs : List Rn} (hl : obs[l]? = some (obP q (some rs))) (s : Sk) (hs : okI s.handle) {t : Th} (ht : σ s.handle = some t) {mm : Int} (hok : OKt mm t) (hmm : mm ≤ 800000000) (hh : 0 ≤ s.handle ∧ s.handle < 64) {cb : Int} (hb : RB cb rs) (hcb : cb ≤ 100000000) :
    Calls Tryz.prog 33 #[pV p, q, skV s] w fun e w' => e = .returned (.tuple #[]) ∧ Env w0 w' ((obs.set l (obP q (some (timesN (timesN rs ⟨wkK t, wkS t, summedA t⟩) ⟨8, 1024, 1⟩)))).set i (obPub p m k (σ.put s.handle none))) := by
  have H1 := Lib.hid (h.newK 40 (skCells s))
  have hil1 := (List.getElem?_eq_some_iff.1 hi).1
  have hll1 := (List.getElem?_eq_some_iff.1 hl).1
  have HI := Lib.hid hi
  have HL := Lib.hid hl
  have HS := Lib.hid hs
  have HRB := Lib.hid hb
  clear h hi hl hs hb
  unfold pV skV
  unfold skCells at H1
  go_enter Tryz.func33, Tryz.ntmps33
  have HT := Lib.hid ht
  have HH := Lib.hid hh
  have HOK := Lib.hid hok
  have hrg := summedA_rng hok
  clear ht hh hok
  go_upto_region 1 with fail
  obtain ⟨B, hB⟩ : ∃ B, w.heap.size = B := ⟨_, rfl⟩
  obtain ⟨w1, hw1⟩ : ∃ y, w.alloc (.cells #[.int .u8 s.kind, .int .i64 s.handle, .int .u8 s.alg, .int .i64 s.count, .int .i64 s.out, .int .i64 s.data, .int .i64 s.more] 40) = y := ⟨_, rfl⟩
  rw [hw1, hB] at H1
  try rw [hw1]
  try rw [hB]
  clear hw1 hB
  obtain ⟨M, hM⟩ : ∃ M, obs ++ [obK B 40 #[.int .u8 s.kind, .int .i64 s.handle, .int .u8 s.alg, .int .i64 s.count, .int .i64 s.out, .int .i64 s.data, .int .i64 s.more]] = M := ⟨_, rfl⟩
  have I1 : Hid (M[i]? = some (obPub p m k σ)) := by rw [← hM, List.getElem?_append_left hil1]; exact HI
  have I2 : Hid (M[l]? = some (obP q (some rs))) := by rw [← hM, List.getElem?_append_left hll1]; exact HL
  have I3 : Hid (M[obs.length]? = some (obK B 40 (skCells s))) := by rw [← hM, List.getElem?_append_right (Nat.le_refl _), Nat.sub_self]; exact Lib.hid rfl
  rw [hM] at H1
  have HM := Lib.hid hM
  clear hM
  refine hd_start (SCost p m B s t true) (by kernel_rfl) ?_
  intro w2 hw'
  have H2 := Lib.hid (H1.out.draw 1)
  rw [← hw'] at H2
  clear hw' H1
  have hSS : ∀ (W : World) (L : List Ob), Env w0 W (M ++ L) → SCost p m B s t true W := fun W L hE => by
    have := hE.sc i obs.length (atL I1.out) (atL I3.out) HS.out
    rw [HT.out] at this
    exact this
  have HSS := Lib.hid hSS
  clear hSS
  have S2 := HSS.out w2 [] (by rw [List.append_nil]; exact H2.out)
  refine hd_take (v := ?_) 0 rfl (by kernel_rfl) (fun _ _ d _ _ h => (by cases d <;> exact h)) (by kernel_rfl) S2 (fun w' hS => ?_) ?_
  rotate_left
  focus (have q0 := SCost.fc w' hS; have q1 := SCost.fat w' hS; have q2 := SCost.f1 w' hS; have q3 := SCost.f2 w' hS; have q4 := SCost.f4 w' hS; have q5 := SCost.f5 w' hS; clear hS; go_simp; try rfl; done)
  simp only [List.getElem_toArray, List.getElem_cons_succ, List.getElem_cons_zero, Act.put, List.setIfInBounds_toArray, List.set_cons_zero, List.set_cons_succ]
  refine hd_take (v := ?_) 1 rfl (by kernel_rfl) (fun _ _ d _ _ h => (by cases d <;> exact h)) (by kernel_rfl) S2 (fun w' hS => ?_) ?_
  rotate_left
  focus (have q0 := SCost.fc w' hS; have q1 := SCost.fat w' hS; have q2 := SCost.f1 w' hS; have q3 := SCost.f2 w' hS; have q4 := SCost.f4 w' hS; have q5 := SCost.f5 w' hS; clear hS; go_simp; try rfl; done)
  simp only [List.getElem_toArray, List.getElem_cons_succ, List.getElem_cons_zero, Act.put, List.setIfInBounds_toArray, List.set_cons_zero, List.set_cons_succ]
  refine hd_take (v := ?_) 2 rfl (by kernel_rfl) (fun _ _ d _ _ h => (by cases d <;> exact h)) (by kernel_rfl) S2 (fun w' hS => ?_) ?_
  rotate_left
  focus (have q0 := SCost.fc w' hS; have q1 := SCost.fat w' hS; have q2 := SCost.f1 w' hS; have q3 := SCost.f2 w' hS; have q4 := SCost.f4 w' hS; have q5 := SCost.f5 w' hS; clear hS; go_simp; try rfl; done)
  simp only [List.getElem_toArray, List.getElem_cons_succ, List.getElem_cons_zero, Act.put, List.setIfInBounds_toArray, List.set_cons_zero, List.set_cons_succ]
  refine hd_take (v := ?_) 3 rfl (by kernel_rfl) (fun _ _ d _ _ h => (by cases d <;> exact h)) (by kernel_rfl) S2 (fun w' hS => ?_) ?_
  rotate_left
  focus (have q0 := SCost.fc w' hS; have q1 := SCost.fat w' hS; have q2 := SCost.f1 w' hS; have q3 := SCost.f2 w' hS; have q4 := SCost.f4 w' hS; have q5 := SCost.f5 w' hS; clear hS; go_simp; try rfl; done)
  simp only [List.getElem_toArray, List.getElem_cons_succ, List.getElem_cons_zero, Act.put, List.setIfInBounds_toArray, List.set_cons_zero, List.set_cons_succ]
  refine hd_take (v := ?_) 4 rfl (by kernel_rfl) (fun _ _ d _ _ h => (by cases d <;> exact h)) (by kernel_rfl) S2 (fun w' hS => ?_) ?_
  rotate_left
  focus (have q0 := SCost.fc w' hS; have q1 := SCost.fat w' hS; have q2 := SCost.f1 w' hS; have q3 := SCost.f2 w' hS; have q4 := SCost.f4 w' hS; have q5 := SCost.f5 w' hS; clear hS; go_simp; try rfl; done)
  simp only [List.getElem_toArray, List.getElem_cons_succ, List.getElem_cons_zero, Act.put, List.setIfInBounds_toArray, List.set_cons_zero, List.set_cons_succ]
  refine hd_take (v := ?_) 5 rfl (by kernel_rfl) (fun _ _ d _ _ h => (by cases d <;> exact h)) (by kernel_rfl) S2 (fun w' hS => ?_) ?_
  rotate_left
  focus (have q0 := SCost.fc w' hS; have q1 := SCost.fat w' hS; have q2 := SCost.f1 w' hS; have q3 := SCost.f2 w' hS; have q4 := SCost.f4 w' hS; have q5 := SCost.f5 w' hS; clear hS; go_simp; try rfl; done)
  simp only [List.getElem_toArray, List.getElem_cons_succ, List.getElem_cons_zero, Act.put, List.setIfInBounds_toArray, List.set_cons_zero, List.set_cons_succ]
  refine hd_take (v := ?_) 6 rfl (by kernel_rfl) (fun _ _ d _ _ h => (by cases d <;> exact h)) (by kernel_rfl) S2 (fun w' hS => ?_) ?_
  rotate_left
  focus (have q0 := SCost.fc w' hS; have q1 := SCost.fat w' hS; have q2 := SCost.f1 w' hS; have q3 := SCost.f2 w' hS; have q4 := SCost.f4 w' hS; have q5 := SCost.f5 w' hS; clear hS; go_simp; try rfl; done)
  simp only [List.getElem_toArray, List.getElem_cons_succ, List.getElem_cons_zero, Act.put, List.setIfInBounds_toArray, List.set_cons_zero, List.set_cons_succ]
  have hz := H2.out.newK 97 (thCells th0)
  have S3 := HSS.out _ _ hz
  have h4 := H2.out.newK 97 (thCells t)
  have S4 := HSS.out _ _ h4
  clear hz
  refine hd_one 7 (by kernel_rfl) ?_
  refine op_run rfl (by kernel_rfl) (by go_simp; first | done | exact ⟨rfl, rfl⟩ | rfl) ?_
  refine ⟨S3, ?_⟩
  simp only [List.getElem_toArray, List.getElem_cons_succ, List.getElem_cons_zero, Act.put, List.setIfInBounds_toArray, List.set_cons_zero, List.set_cons_succ]
  refine hd_one 8 (by kernel_rfl) ?_
  refine op_skip rfl (by kernel_rfl) (by go_simp; first | done | rfl) ?_
  refine ⟨S4, ?_⟩
  simp only [List.getElem_toArray, List.getElem_cons_succ, List.getElem_cons_zero, Act.put, List.setIfInBounds_toArray, List.set_cons_zero, List.set_cons_succ]
  refine hd_done (by kernel_rfl) ?_
  clear S2 S3 S4 HSS
  obtain ⟨B2, hB2⟩ : ∃ y, w2.heap.size = y := ⟨_, rfl⟩
  obtain ⟨w3, hw3⟩ : ∃ y, w2.alloc (.cells (thCells t) 97) = y := ⟨_, rfl⟩
  rw [hw3, hB2] at h4
  obtain ⟨M2, hM2⟩ : ∃ y, M ++ [obK B2 97 (thCells t)] = y := ⟨_, rfl⟩
  have hml : M.length = obs.length + 1 := by rw [← HM.out]; simp
  have G2 : Hid (Mg M2 i l obs.length p m k σ q rs B s B2 t) := by
    rw [← hM2]
    exact Lib.hid ⟨atL I1.out, atL I2.out, atL I3.out, by rw [← hml]; exact atR 0⟩
  rw [hM2] at h4
  have H4 := Lib.hid h4
  have HM2 := Lib.hid hM2
  have P2 : Hid (Pre M2 obs) := by rw [← HM2.out, ← HM.out]; exact Lib.hid (Pre.app2 _ _ _)
  unfold thCells at hw3
  try rw [hw3]
  try rw [hB2]
  clear h4 hM2 hml hw3 hB2
  go_upto_region 2 with fail
  refine hd_start (SDo p m B B2 s t) (by kernel_rfl) ?_
  intro w5 hw'
  have H5 := Lib.hid (H4.out.draw 1)
  rw [← hw'] at H5
  clear hw' H4
  have S5 := H5.out.mg G2.out
  refine hd_take (v := ?_) 0 rfl (by kernel_rfl) (fun _ _ d _ _ h => (by cases d <;> exact h)) (by kernel_rfl) S5 (fun w' hS => ?_) ?_
  rotate_left
  focus (have q0 := SDo.g0 w' hS; have q1 := SDo.g1 w' hS; have q2 := SDo.g2 w' hS; have q3 := SDo.g3 w' hS; have q4 := SDo.g4 w' hS; clear hS; go_simp; try rfl; done)
  simp only [List.getElem_toArray, List.getElem_cons_succ, List.getElem_cons_zero, Act.put, List.setIfInBounds_toArray, List.set_cons_zero, List.set_cons_succ]
  refine hd_take (v := ?_) 1 rfl (by kernel_rfl) (fun _ _ d _ _ h => (by cases d <;> exact h)) (by kernel_rfl) S5 (fun w' hS => ?_) ?_
  rotate_left
  focus (have q0 := SDo.g0 w' hS; have q1 := SDo.g1 w' hS; have q2 := SDo.g2 w' hS; have q3 := SDo.g3 w' hS; have q4 := SDo.g4 w' hS; clear hS; go_simp; try rfl; done)
  simp only [List.getElem_toArray, List.getElem_cons_succ, List.getElem_cons_zero, Act.put, List.setIfInBounds_toArray, List.set_cons_zero, List.set_cons_succ]
  refine hd_take (v := ?_) 3 rfl (by kernel_rfl) (fun _ _ d _ _ h => (by cases d <;> exact h)) (by kernel_rfl) S5 (fun w' hS => ?_) ?_
  rotate_left
  focus (have q0 := SDo.g0 w' hS; have q1 := SDo.g1 w' hS; have q2 := SDo.g2 w' hS; have q3 := SDo.g3 w' hS; have q4 := SDo.g4 w' hS; clear hS; go_simp; try rfl; done)
  simp only [List.getElem_toArray, List.getElem_cons_succ, List.getElem_cons_zero, Act.put, List.setIfInBounds_toArray, List.set_cons_zero, List.set_cons_succ]
  refine hd_one 2 (by kernel_rfl) ?_
  refine op_call rfl (by kernel_rfl) (by go_simp; first | exact ⟨rfl, rfl⟩ | rfl) ?_
  refine (works_any t w5).mono ?_
  rintro e w6 ⟨he, hb⟩
  subst he
  have H6 := Lib.hid (H5.out.below hb)
  clear hb
  have hS2 := H6.out.mg G2.out
  refine ⟨_, rfl, hS2, ?_⟩
  simp only [List.getElem_toArray, List.getElem_cons_succ, List.getElem_cons_zero, Act.put, List.setIfInBounds_toArray, List.set_cons_zero, List.set_cons_succ]
  refine hd_one 4 (by kernel_rfl) ?_
  refine op_call rfl (by kernel_rfl) (by go_simp; first | exact ⟨rfl, rfl⟩ | rfl) ?_
  refine (summed_any t HOK.out (by omega) w6).mono ?_
  rintro e w7 ⟨he, hb⟩
  subst he
  have H7 := Lib.hid (H6.out.below hb)
  clear hb
  have hS2 := H7.out.mg G2.out
  refine ⟨_, rfl, hS2, ?_⟩
  simp only [List.getElem_toArray, List.getElem_cons_succ, List.getElem_cons_zero, Act.put, List.setIfInBounds_toArray, List.set_cons_zero, List.set_cons_succ]
  refine hd_one 5 (by kernel_rfl) ?_
  refine op_call rfl (by kernel_rfl) (by go_simp; first | exact ⟨rfl, rfl⟩ | rfl) ?_
  refine (timesS_env H7.out l G2.out.led (wkK t) (wkS t) (summedA t) HRB.out (by omega) (by omega)).mono ?_
  rintro e w8 ⟨he, h8⟩
  subst he
  have H8 := Lib.hid h8
  clear h8
  have hS2 := H8.out.mg (G2.out.setL hil hll1 _)
  refine ⟨_, rfl, hS2, ?_⟩
  simp only [List.getElem_toArray, List.getElem_cons_succ, List.getElem_cons_zero, Act.put, List.setIfInBounds_toArray, List.set_cons_zero, List.set_cons_succ]
  refine hd_done (by kernel_rfl) ?_
  clear S5
  obtain ⟨M3, hM3⟩ : ∃ y, M2.set l (obP q (some (timesN rs ⟨wkK t, wkS t, summedA t⟩))) = y := ⟨_, rfl⟩
  have G3 : Hid (Mg M3 i l obs.length p m k σ q (timesN rs ⟨wkK t, wkS t, summedA t⟩) B s B2 t) := by rw [← hM3]; exact Lib.hid (G2.out.setL hil hll1 _)
  have P3 : Hid (Pre M3 (obs.set l (obP q (some (timesN rs ⟨wkK t, wkS t, summedA t⟩))))) := by rw [← hM3]; exact Lib.hid (P2.out.set l hll1 _)
  rw [hM3] at H8
  clear hM3
  have sd := H8.out.mg G3.out
  have b0 := sd.b0
  have b1 := sd.b1
  have b2 := sd.b2
  have b3 := sd.b3
  have b4 := sd.b4
  have b5 := sd.b5
  have b6 := sd.b6
  have g1 := sd.t.c1
  clear sd
  go_wp2_with fail
  clear b0 b1 b2 b3 b4 b5 b6 g1
  refine (drop_env H8.out i l hil G3.out.pub G3.out.led s HS.out HH.out (cb := cb + 4) (HRB.out.note ⟨wkK t, wkS t, summedA t⟩ (d := 4) (by show summedA t ≤ 4; omega) (by omega)) (by omega)).mono ?_
  rintro e w11 ⟨rfl, h11⟩
  have H11 := Lib.hid h11
  clear h11
  go_wp2_with fail
  go_end0
  have e9 := (P3.out.set l (by rw [List.length_set]; exact hll1) (obP q (some (timesN (timesN rs ⟨wkK t, wkS t, summedA t⟩) ⟨8, 1024, 1⟩)))).set i (by rw [List.length_set, List.length_set]; exact hil1) (obPub p m k (σ.put s.handle none))
  rw [List.set_set] at e9
  exact ⟨rfl, H11.out.ofPre e9⟩
set_option maxHeartbeats 4000000 in
theorem verify_env (h : Env w0 w obs) (i l : Nat) (hil : i ≠ l) (hi : obs[i]? = some (obPub p m k σ)) {q : Value} {rs : List Rn} (hl : obs[l]? = some (obP q (some rs))) (s : Sk) (hs : okI s.handle) {t : Th} (ht : σ s.handle = some t) {mm : Int} (hok : OKt mm t) (hmm : mm ≤ 800000000) (hh : 0 ≤ s.handle ∧ s.handle < 64) {cb : Int} (hb : RB cb rs) (hcb : cb ≤ 100000000) :
    Calls Tryz.prog 35 #[pV p, q, skV s] w fun e w' => e = .returned (.tuple #[]) ∧ Env w0 w' ((obs.set l (obP q (some (timesN (timesN (timesN rs ⟨wkK t, wkS t, summedA t⟩) ⟨6, t.out, 1⟩) ⟨8, 1024, 1⟩)))).set i (obPub p m k (σ.put s.handle none))) := by
  have H1 := Lib.hid (h.newK 40 (skCells s))
  have hil1 := (List.getElem?_eq_some_iff.1 hi).1
  have hll1 := (List.getElem?_eq_some_iff.1 hl).1
  have HI := Lib.hid hi
  have HL := Lib.hid hl
  have HS := Lib.hid hs
  have HRB := Lib.hid hb
  clear h hi hl hs hb
  unfold pV skV
  unfold skCells at H1
  go_enter Tryz.func35, Tryz.ntmps35
  have HT := Lib.hid ht
  have HH := Lib.hid hh
  have HOK := Lib.hid hok
  have hrg := summedA_rng hok
  clear ht hh hok
  go_upto_region 1 with fail
  obtain ⟨B, hB⟩ : ∃ B, w.heap.size = B := ⟨_, rfl⟩
  obtain ⟨w1, hw1⟩ : ∃ y, w.alloc (.cells #[.int .u8 s.kind, .int .i64 s.handle, .int .u8 s.alg, .int .i64 s.count, .int .i64 s.out, .int .i64 s.data, .int .i64 s.more] 40) = y := ⟨_, rfl⟩
  rw [hw1, hB] at H1
  try rw [hw1]
  try rw [hB]
  clear hw1 hB
  obtain ⟨M, hM⟩ : ∃ M, obs ++ [obK B 40 #[.int .u8 s.kind, .int .i64 s.handle, .int .u8 s.alg, .int .i64 s.count, .int .i64 s.out, .int .i64 s.data, .int .i64 s.more]] = M := ⟨_, rfl⟩
  have I1 : Hid (M[i]? = some (obPub p m k σ)) := by rw [← hM, List.getElem?_append_left hil1]; exact HI
  have I2 : Hid (M[l]? = some (obP q (some rs))) := by rw [← hM, List.getElem?_append_left hll1]; exact HL
  have I3 : Hid (M[obs.length]? = some (obK B 40 (skCells s))) := by rw [← hM, List.getElem?_append_right (Nat.le_refl _), Nat.sub_self]; exact Lib.hid rfl
  rw [hM] at H1
  have HM := Lib.hid hM
  clear hM
  refine hd_start (SCost p m B s t true) (by kernel_rfl) ?_
  intro w2 hw'
  have H2 := Lib.hid (H1.out.draw 1)
  rw [← hw'] at H2
  clear hw' H1
  have hSS : ∀ (W : World) (L : List Ob), Env w0 W (M ++ L) → SCost p m B s t true W := fun W L hE => by
    have := hE.sc i obs.length (atL I1.out) (atL I3.out) HS.out
    rw [HT.out] at this
    exact this
  have HSS := Lib.hid hSS
  clear hSS
  have S2 := HSS.out w2 [] (by rw [List.append_nil]; exact H2.out)
  refine hd_take (v := ?_) 0 rfl (by kernel_rfl) (fun _ _ d _ _ h => (by cases d <;> exact h)) (by kernel_rfl) S2 (fun w' hS => ?_) ?_
  rotate_left
  focus (have q0 := SCost.fc w' hS; have q1 := SCost.fat w' hS; have q2 := SCost.f1 w' hS; have q3 := SCost.f2 w' hS; have q4 := SCost.f4 w' hS; have q5 := SCost.f5 w' hS; clear hS; go_simp; try rfl; done)
  simp only [List.getElem_toArray, List.getElem_cons_succ, List.getElem_cons_zero, Act.put, List.setIfInBounds_toArray, List.set_cons_zero, List.set_cons_succ]
  refine hd_take (v := ?_) 1 rfl (by kernel_rfl) (fun _ _ d _ _ h => (by cases d <;> exact h)) (by kernel_rfl) S2 (fun w' hS => ?_) ?_
  rotate_left
  focus (have q0 := SCost.fc w' hS; have q1 := SCost.fat w' hS; have q2 := SCost.f1 w' hS; have q3 := SCost.f2 w' hS; have q4 := SCost.f4 w' hS; have q5 := SCost.f5 w' hS; clear hS; go_simp; try rfl; done)
  simp only [List.getElem_toArray, List.getElem_cons_succ, List.getElem_cons_zero, Act.put, List.setIfInBounds_toArray, List.set_cons_zero, List.set_cons_succ]
  refine hd_take (v := ?_) 2 rfl (by kernel_rfl) (fun _ _ d _ _ h => (by cases d <;> exact h)) (by kernel_rfl) S2 (fun w' hS => ?_) ?_
  rotate_left
  focus (have q0 := SCost.fc w' hS; have q1 := SCost.fat w' hS; have q2 := SCost.f1 w' hS; have q3 := SCost.f2 w' hS; have q4 := SCost.f4 w' hS; have q5 := SCost.f5 w' hS; clear hS; go_simp; try rfl; done)
  simp only [List.getElem_toArray, List.getElem_cons_succ, List.getElem_cons_zero, Act.put, List.setIfInBounds_toArray, List.set_cons_zero, List.set_cons_succ]
  refine hd_take (v := ?_) 3 rfl (by kernel_rfl) (fun _ _ d _ _ h => (by cases d <;> exact h)) (by kernel_rfl) S2 (fun w' hS => ?_) ?_
  rotate_left
  focus (have q0 := SCost.fc w' hS; have q1 := SCost.fat w' hS; have q2 := SCost.f1 w' hS; have q3 := SCost.f2 w' hS; have q4 := SCost.f4 w' hS; have q5 := SCost.f5 w' hS; clear hS; go_simp; try rfl; done)
  simp only [List.getElem_toArray, List.getElem_cons_succ, List.getElem_cons_zero, Act.put, List.setIfInBounds_toArray, List.set_cons_zero, List.set_cons_succ]
  refine hd_take (v := ?_) 4 rfl (by kernel_rfl) (fun _ _ d _ _ h => (by cases d <;> exact h)) (by kernel_rfl) S2 (fun w' hS => ?_) ?_
  rotate_left
  focus (have q0 := SCost.fc w' hS; have q1 := SCost.fat w' hS; have q2 := SCost.f1 w' hS; have q3 := SCost.f2 w' hS; have q4 := SCost.f4 w' hS; have q5 := SCost.f5 w' hS; clear hS; go_simp; try rfl; done)
  simp only [List.getElem_toArray, List.getElem_cons_succ, List.getElem_cons_zero, Act.put, List.setIfInBounds_toArray, List.set_cons_zero, List.set_cons_succ]
  refine hd_take (v := ?_) 5 rfl (by kernel_rfl) (fun _ _ d _ _ h => (by cases d <;> exact h)) (by kernel_rfl) S2 (fun w' hS => ?_) ?_
  rotate_left
  focus (have q0 := SCost.fc w' hS; have q1 := SCost.fat w' hS; have q2 := SCost.f1 w' hS; have q3 := SCost.f2 w' hS; have q4 := SCost.f4 w' hS; have q5 := SCost.f5 w' hS; clear hS; go_simp; try rfl; done)
  simp only [List.getElem_toArray, List.getElem_cons_succ, List.getElem_cons_zero, Act.put, List.setIfInBounds_toArray, List.set_cons_zero, List.set_cons_succ]
  refine hd_take (v := ?_) 6 rfl (by kernel_rfl) (fun _ _ d _ _ h => (by cases d <;> exact h)) (by kernel_rfl) S2 (fun w' hS => ?_) ?_
  rotate_left
  focus (have q0 := SCost.fc w' hS; have q1 := SCost.fat w' hS; have q2 := SCost.f1 w' hS; have q3 := SCost.f2 w' hS; have q4 := SCost.f4 w' hS; have q5 := SCost.f5 w' hS; clear hS; go_simp; try rfl; done)
  simp only [List.getElem_toArray, List.getElem_cons_succ, List.getElem_cons_zero, Act.put, List.setIfInBounds_toArray, List.set_cons_zero, List.set_cons_succ]
  have hz := H2.out.newK 97 (thCells th0)
  have S3 := HSS.out _ _ hz
  have h4 := H2.out.newK 97 (thCells t)
  have S4 := HSS.out _ _ h4
  clear hz
  refine hd_one 7 (by kernel_rfl) ?_
  refine op_run rfl (by kernel_rfl) (by go_simp; first | done | exact ⟨rfl, rfl⟩ | rfl) ?_
  refine ⟨S3, ?_⟩
  simp only [List.getElem_toArray, List.getElem_cons_succ, List.getElem_cons_zero, Act.put, List.setIfInBounds_toArray, List.set_cons_zero, List.set_cons_succ]
  refine hd_one 8 (by kernel_rfl) ?_
  refine op_skip rfl (by kernel_rfl) (by go_simp; first | done | rfl) ?_
  refine ⟨S4, ?_⟩
  simp only [List.getElem_toArray, List.getElem_cons_succ, List.getElem_cons_zero, Act.put, List.setIfInBounds_toArray, List.set_cons_zero, List.set_cons_succ]
  refine hd_done (by kernel_rfl) ?_
  clear S2 S3 S4 HSS
  obtain ⟨B2, hB2⟩ : ∃ y, w2.heap.size = y := ⟨_, rfl⟩
  obtain ⟨w3, hw3⟩ : ∃ y, w2.alloc (.cells (thCells t) 97) = y := ⟨_, rfl⟩
  rw [hw3, hB2] at h4
  obtain ⟨M2, hM2⟩ : ∃ y, M ++ [obK B2 97 (thCells t)] = y := ⟨_, rfl⟩
  have hml : M.length = obs.length + 1 := by rw [← HM.out]; simp
  have G2 : Hid (Mg M2 i l obs.length p m k σ q rs B s B2 t) := by
    rw [← hM2]
    exact Lib.hid ⟨atL I1.out, atL I2.out, atL I3.out, by rw [← hml]; exact atR 0⟩
  rw [hM2] at h4
  have H4 := Lib.hid h4
  have HM2 := Lib.hid hM2
  have P2 : Hid (Pre M2 obs) := by rw [← HM2.out, ← HM.out]; exact Lib.hid (Pre.app2 _ _ _)
  unfold thCells at hw3
  try rw [hw3]
  try rw [hB2]
  clear h4 hM2 hml hw3 hB2
  go_upto_region 2 with fail
  refine hd_start (SDo p m B B2 s t) (by kernel_rfl) ?_
  intro w5 hw'
  have H5 := Lib.hid (H4.out.draw 1)
  rw [← hw'] at H5
  clear hw' H4
  have S5 := H5.out.mg G2.out
  refine hd_take (v := ?_) 0 rfl (by kernel_rfl) (fun _ _ d _ _ h => (by cases d <;> exact h)) (by kernel_rfl) S5 (fun w' hS => ?_) ?_
  rotate_left
  focus (have q0 := SDo.g0 w' hS; have q1 := SDo.g1 w' hS; have q2 := SDo.g2 w' hS; have q3 := SDo.g3 w' hS; have q4 := SDo.g4 w' hS; clear hS; go_simp; try rfl; done)
  simp only [List.getElem_toArray, List.getElem_cons_succ, List.getElem_cons_zero, Act.put, List.setIfInBounds_toArray, List.set_cons_zero, List.set_cons_succ]
  refine hd_take (v := ?_) 1 rfl (by kernel_rfl) (fun _ _ d _ _ h => (by cases d <;> exact h)) (by kernel_rfl) S5 (fun w' hS => ?_) ?_
  rotate_left
  focus (have q0 := SDo.g0 w' hS; have q1 := SDo.g1 w' hS; have q2 := SDo.g2 w' hS; have q3 := SDo.g3 w' hS; have q4 := SDo.g4 w' hS; clear hS; go_simp; try rfl; done)
  simp only [List.getElem_toArray, List.getElem_cons_succ, List.getElem_cons_zero, Act.put, List.setIfInBounds_toArray, List.set_cons_zero, List.set_cons_succ]
  refine hd_take (v := ?_) 3 rfl (by kernel_rfl) (fun _ _ d _ _ h => (by cases d <;> exact h)) (by kernel_rfl) S5 (fun w' hS => ?_) ?_
  rotate_left
  focus (have q0 := SDo.g0 w' hS; have q1 := SDo.g1 w' hS; have q2 := SDo.g2 w' hS; have q3 := SDo.g3 w' hS; have q4 := SDo.g4 w' hS; clear hS; go_simp; try rfl; done)
  simp only [List.getElem_toArray, List.getElem_cons_succ, List.getElem_cons_zero, Act.put, List.setIfInBounds_toArray, List.set_cons_zero, List.set_cons_succ]
  refine hd_one 2 (by kernel_rfl) ?_
  refine op_call rfl (by kernel_rfl) (by go_simp; first | exact ⟨rfl, rfl⟩ | rfl) ?_
  refine (works_any t w5).mono ?_
  rintro e w6 ⟨he, hb⟩
  subst he
  have H6 := Lib.hid (H5.out.below hb)
  clear hb
  have hS2 := H6.out.mg G2.out
  refine ⟨_, rfl, hS2, ?_⟩
  simp only [List.getElem_toArray, List.getElem_cons_succ, List.getElem_cons_zero, Act.put, List.setIfInBounds_toArray, List.set_cons_zero, List.set_cons_succ]
  refine hd_one 4 (by kernel_rfl) ?_
  refine op_call rfl (by kernel_rfl) (by go_simp; first | exact ⟨rfl, rfl⟩ | rfl) ?_
  refine (summed_any t HOK.out (by omega) w6).mono ?_
  rintro e w7 ⟨he, hb⟩
  subst he
  have H7 := Lib.hid (H6.out.below hb)
  clear hb
  have hS2 := H7.out.mg G2.out
  refine ⟨_, rfl, hS2, ?_⟩
  simp only [List.getElem_toArray, List.getElem_cons_succ, List.getElem_cons_zero, Act.put, List.setIfInBounds_toArray, List.set_cons_zero, List.set_cons_succ]
  refine hd_one 5 (by kernel_rfl) ?_
  refine op_call rfl (by kernel_rfl) (by go_simp; first | exact ⟨rfl, rfl⟩ | rfl) ?_
  refine (timesS_env H7.out l G2.out.led (wkK t) (wkS t) (summedA t) HRB.out (by omega) (by omega)).mono ?_
  rintro e w8 ⟨he, h8⟩
  subst he
  have H8 := Lib.hid h8
  clear h8
  have hS2 := H8.out.mg (G2.out.setL hil hll1 _)
  refine ⟨_, rfl, hS2, ?_⟩
  simp only [List.getElem_toArray, List.getElem_cons_succ, List.getElem_cons_zero, Act.put, List.setIfInBounds_toArray, List.set_cons_zero, List.set_cons_succ]
  refine hd_done (by kernel_rfl) ?_
  clear S5
  obtain ⟨M3, hM3⟩ : ∃ y, M2.set l (obP q (some (timesN rs ⟨wkK t, wkS t, summedA t⟩))) = y := ⟨_, rfl⟩
  have G3 : Hid (Mg M3 i l obs.length p m k σ q (timesN rs ⟨wkK t, wkS t, summedA t⟩) B s B2 t) := by rw [← hM3]; exact Lib.hid (G2.out.setL hil hll1 _)
  have P3 : Hid (Pre M3 (obs.set l (obP q (some (timesN rs ⟨wkK t, wkS t, summedA t⟩))))) := by rw [← hM3]; exact Lib.hid (P2.out.set l hll1 _)
  rw [hM3] at H8
  clear hM3
  have sd := H8.out.mg G3.out
  have b0 := sd.b0
  have b1 := sd.b1
  have b2 := sd.b2
  have b3 := sd.b3
  have b4 := sd.b4
  have b5 := sd.b5
  have b6 := sd.b6
  have g1 := sd.t.c1
  clear sd
  go_wp2_with fail
  clear b0 b1 b2 b3 b4 b5 b6 g1
  refine (noteS_env H8.out l G3.out.led 6 t.out (HRB.out.note ⟨wkK t, wkS t, summedA t⟩ (d := 4) (by show summedA t ≤ 4; omega) (by omega)) (by omega)).mono ?_
  rintro e w9 ⟨rfl, h9⟩
  obtain ⟨M4, hM4⟩ : ∃ y, M3.set l (obP q (some (timesN (timesN rs ⟨wkK t, wkS t, summedA t⟩) ⟨6, t.out, 1⟩))) = y := ⟨_, rfl⟩
  have G4 : Hid (Mg M4 i l obs.length p m k σ q (timesN (timesN rs ⟨wkK t, wkS t, summedA t⟩) ⟨6, t.out, 1⟩) B s B2 t) := by rw [← hM4]; exact Lib.hid (G3.out.setL hil hll1 _)
  have P4 : Hid (Pre M4 (obs.set l (obP q (some (timesN (timesN rs ⟨wkK t, wkS t, summedA t⟩) ⟨6, t.out, 1⟩))))) := by
    rw [← hM4]
    have := P3.out.set l (by rw [List.length_set]; exact hll1) (obP q (some (timesN (timesN rs ⟨wkK t, wkS t, summedA t⟩) ⟨6, t.out, 1⟩)))
    rw [List.set_set] at this
    exact Lib.hid this
  rw [hM4] at h9
  have H9 := Lib.hid h9
  clear h9 hM4 H8
  have sd := H9.out.mg G4.out
  have b0 := sd.b0
  have b1 := sd.b1
  have b2 := sd.b2
  have b3 := sd.b3
  have b4 := sd.b4
  have b5 := sd.b5
  have b6 := sd.b6
  have g1 := sd.t.c1
  clear sd
  go_wp2_with fail
  clear b0 b1 b2 b3 b4 b5 b6 g1
  refine (drop_env H9.out i l hil G4.out.pub G4.out.led s HS.out HH.out (cb := cb + 4 + 1) ((HRB.out.note ⟨wkK t, wkS t, summedA t⟩ (d := 4) (by show summedA t ≤ 4; omega) (by omega)).note ⟨6, t.out, 1⟩ (d := 1) (Int.le_refl 1) (Int.le_refl 1)) (by omega)).mono ?_
  rintro e w11 ⟨rfl, h11⟩
  have H11 := Lib.hid h11
  clear h11
  go_wp2_with fail
  go_end0
  have e9 := (P4.out.set l (by rw [List.length_set]; exact hll1) (obP q (some (timesN (timesN (timesN rs ⟨wkK t, wkS t, summedA t⟩) ⟨6, t.out, 1⟩) ⟨8, 1024, 1⟩)))).set i (by rw [List.length_set, List.length_set]; exact hil1) (obPub p m k (σ.put s.handle none))
  rw [List.set_set] at e9
  exact ⟨rfl, H11.out.ofPre e9⟩
set_option maxHeartbeats 4000000 in
theorem begin_env (h : Env w0 w obs) (i l : Nat) (hil : i ≠ l) (hi : obs[i]? = some (obPub p m k σ)) {q : Value} {rs : List Rn} (hl : obs[l]? = some (obP q (some rs))) (s : Sk) (hs : okI s.handle) {t : Th} (ht : σ s.handle = some t) (hk0 : 0 ≤ t.key) (hk1 : t.key ≤ 512) (hd : 0 ≤ s.data) (hd1 : s.data ≤ 64) {cb : Int} (hb : RB cb rs) (hcb : cb ≤ 100000000) :
    Calls Tryz.prog 29 #[pV p, q, skV s] w fun e w' => e = .returned (.tuple #[]) ∧ Env w0 w' ((obs.set l (obP q (some ((beginE (thB t s)).foldl timesN rs)))).set i (obPub p m k (takeH σ (thB t s)))) := by
  have H1 := Lib.hid (h.newK 40 (skCells s))
  have hil1 := (List.getElem?_eq_some_iff.1 hi).1
  have hll1 := (List.getElem?_eq_some_iff.1 hl).1
  have HI := Lib.hid hi
  have HL := Lib.hid hl
  have HS := Lib.hid hs
  have HRB := Lib.hid hb
  clear h hi hl hs hb
  unfold pV skV
  unfold skCells at H1
  go_enter Tryz.func29, Tryz.ntmps29
  have HT := Lib.hid ht
  clear ht
  go_upto_region 1 with fail
  obtain ⟨B, hB⟩ : ∃ B, w.heap.size = B := ⟨_, rfl⟩
  obtain ⟨w1, hw1⟩ : ∃ y, w.alloc (.cells #[.int .u8 s.kind, .int .i64 s.handle, .int .u8 s.alg, .int .i64 s.count, .int .i64 s.out, .int .i64 s.data, .int .i64 s.more] 40) = y := ⟨_, rfl⟩
  rw [hw1, hB] at H1
  try rw [hw1]
  try rw [hB]
  clear hw1 hB
  obtain ⟨M, hM⟩ : ∃ M, obs ++ [obK B 40 #[.int .u8 s.kind, .int .i64 s.handle, .int .u8 s.alg, .int .i64 s.count, .int .i64 s.out, .int .i64 s.data, .int .i64 s.more]] = M := ⟨_, rfl⟩
  have I1 : Hid (M[i]? = some (obPub p m k σ)) := by rw [← hM, List.getElem?_append_left hil1]; exact HI
  have I2 : Hid (M[l]? = some (obP q (some rs))) := by rw [← hM, List.getElem?_append_left hll1]; exact HL
  have I3 : Hid (M[obs.length]? = some (obK B 40 (skCells s))) := by rw [← hM, List.getElem?_append_right (Nat.le_refl _), Nat.sub_self]; exact Lib.hid rfl
  rw [hM] at H1
  have HM := Lib.hid hM
  clear hM
  refine hd_start (SCost p m B s t true) (by kernel_rfl) ?_
  intro w2 hw'
  have H2 := Lib.hid (H1.out.draw 1)
  rw [← hw'] at H2
  clear hw' H1
  have hSS : ∀ (W : World) (L : List Ob), Env w0 W (M ++ L) → SCost p m B s t true W := fun W L hE => by
    have := hE.sc i obs.length (atL I1.out) (atL I3.out) HS.out
    rw [HT.out] at this
    exact this
  have HSS := Lib.hid hSS
  clear hSS
  have S2 := HSS.out w2 [] (by rw [List.append_nil]; exact H2.out)
  refine hd_take (v := ?_) 0 rfl (by kernel_rfl) (fun _ _ d _ _ h => (by cases d <;> exact h)) (by kernel_rfl) S2 (fun w' hS => ?_) ?_
  rotate_left
  focus (have q0 := SCost.fc w' hS; have q1 := SCost.fat w' hS; have q2 := SCost.f1 w' hS; have q3 := SCost.f2 w' hS; have q4 := SCost.f4 w' hS; have q5 := SCost.f5 w' hS; clear hS; go_simp; try rfl; done)
  simp only [List.getElem_toArray, List.getElem_cons_succ, List.getElem_cons_zero, Act.put, List.setIfInBounds_toArray, List.set_cons_zero, List.set_cons_succ]
  refine hd_take (v := ?_) 1 rfl (by kernel_rfl) (fun _ _ d _ _ h => (by cases d <;> exact h)) (by kernel_rfl) S2 (fun w' hS => ?_) ?_
  rotate_left
  focus (have q0 := SCost.fc w' hS; have q1 := SCost.fat w' hS; have q2 := SCost.f1 w' hS; have q3 := SCost.f2 w' hS; have q4 := SCost.f4 w' hS; have q5 := SCost.f5 w' hS; clear hS; go_simp; try rfl; done)
  simp only [List.getElem_toArray, List.getElem_cons_succ, List.getElem_cons_zero, Act.put, List.setIfInBounds_toArray, List.set_cons_zero, List.set_cons_succ]
  refine hd_take (v := ?_) 2 rfl (by kernel_rfl) (fun _ _ d _ _ h => (by cases d <;> exact h)) (by kernel_rfl) S2 (fun w' hS => ?_) ?_
  rotate_left
  focus (have q0 := SCost.fc w' hS; have q1 := SCost.fat w' hS; have q2 := SCost.f1 w' hS; have q3 := SCost.f2 w' hS; have q4 := SCost.f4 w' hS; have q5 := SCost.f5 w' hS; clear hS; go_simp; try rfl; done)
  simp only [List.getElem_toArray, List.getElem_cons_succ, List.getElem_cons_zero, Act.put, List.setIfInBounds_toArray, List.set_cons_zero, List.set_cons_succ]
  refine hd_take (v := ?_) 3 rfl (by kernel_rfl) (fun _ _ d _ _ h => (by cases d <;> exact h)) (by kernel_rfl) S2 (fun w' hS => ?_) ?_
  rotate_left
  focus (have q0 := SCost.fc w' hS; have q1 := SCost.fat w' hS; have q2 := SCost.f1 w' hS; have q3 := SCost.f2 w' hS; have q4 := SCost.f4 w' hS; have q5 := SCost.f5 w' hS; clear hS; go_simp; try rfl; done)
  simp only [List.getElem_toArray, List.getElem_cons_succ, List.getElem_cons_zero, Act.put, List.setIfInBounds_toArray, List.set_cons_zero, List.set_cons_succ]
  refine hd_take (v := ?_) 4 rfl (by kernel_rfl) (fun _ _ d _ _ h => (by cases d <;> exact h)) (by kernel_rfl) S2 (fun w' hS => ?_) ?_
  rotate_left
  focus (have q0 := SCost.fc w' hS; have q1 := SCost.fat w' hS; have q2 := SCost.f1 w' hS; have q3 := SCost.f2 w' hS; have q4 := SCost.f4 w' hS; have q5 := SCost.f5 w' hS; clear hS; go_simp; try rfl; done)
  simp only [List.getElem_toArray, List.getElem_cons_succ, List.getElem_cons_zero, Act.put, List.setIfInBounds_toArray, List.set_cons_zero, List.set_cons_succ]
  refine hd_take (v := ?_) 5 rfl (by kernel_rfl) (fun _ _ d _ _ h => (by cases d <;> exact h)) (by kernel_rfl) S2 (fun w' hS => ?_) ?_
  rotate_left
  focus (have q0 := SCost.fc w' hS; have q1 := SCost.fat w' hS; have q2 := SCost.f1 w' hS; have q3 := SCost.f2 w' hS; have q4 := SCost.f4 w' hS; have q5 := SCost.f5 w' hS; clear hS; go_simp; try rfl; done)
  simp only [List.getElem_toArray, List.getElem_cons_succ, List.getElem_cons_zero, Act.put, List.setIfInBounds_toArray, List.set_cons_zero, List.set_cons_succ]
  refine hd_take (v := ?_) 6 rfl (by kernel_rfl) (fun _ _ d _ _ h => (by cases d <;> exact h)) (by kernel_rfl) S2 (fun w' hS => ?_) ?_
  rotate_left
  focus (have q0 := SCost.fc w' hS; have q1 := SCost.fat w' hS; have q2 := SCost.f1 w' hS; have q3 := SCost.f2 w' hS; have q4 := SCost.f4 w' hS; have q5 := SCost.f5 w' hS; clear hS; go_simp; try rfl; done)
  simp only [List.getElem_toArray, List.getElem_cons_succ, List.getElem_cons_zero, Act.put, List.setIfInBounds_toArray, List.set_cons_zero, List.set_cons_succ]
  refine hd_take (v := ?_) 7 rfl (by kernel_rfl) (fun _ _ d _ _ h => (by cases d <;> exact h)) (by kernel_rfl) S2 (fun w' hS => ?_) ?_
  rotate_left
  focus (have q0 := SCost.fc w' hS; have q1 := SCost.fat w' hS; have q2 := SCost.f1 w' hS; have q3 := SCost.f2 w' hS; have q4 := SCost.f4 w' hS; have q5 := SCost.f5 w' hS; clear hS; go_simp; try rfl; done)
  simp only [List.getElem_toArray, List.getElem_cons_succ, List.getElem_cons_zero, Act.put, List.setIfInBounds_toArray, List.set_cons_zero, List.set_cons_succ]
  refine hd_take (v := ?_) 8 rfl (by kernel_rfl) (fun _ _ d _ _ h => (by cases d <;> exact h)) (by kernel_rfl) S2 (fun w' hS => ?_) ?_
  rotate_left
  focus (have q0 := SCost.fc w' hS; have q1 := SCost.fat w' hS; have q2 := SCost.f1 w' hS; have q3 := SCost.f2 w' hS; have q4 := SCost.f4 w' hS; have q5 := SCost.f5 w' hS; clear hS; go_simp; try rfl; done)
  simp only [List.getElem_toArray, List.getElem_cons_succ, List.getElem_cons_zero, Act.put, List.setIfInBounds_toArray, List.set_cons_zero, List.set_cons_succ]
  refine hd_take (v := ?_) 9 rfl (by kernel_rfl) (fun _ _ d _ _ h => (by cases d <;> exact h)) (by kernel_rfl) S2 (fun w' hS => ?_) ?_
  rotate_left
  focus (have q0 := SCost.fc w' hS; have q1 := SCost.fat w' hS; have q2 := SCost.f1 w' hS; have q3 := SCost.f2 w' hS; have q4 := SCost.f4 w' hS; have q5 := SCost.f5 w' hS; clear hS; go_simp; try rfl; done)
  simp only [List.getElem_toArray, List.getElem_cons_succ, List.getElem_cons_zero, Act.put, List.setIfInBounds_toArray, List.set_cons_zero, List.set_cons_succ]
  refine hd_take (v := ?_) 10 rfl (by kernel_rfl) (fun _ _ d _ _ h => (by cases d <;> exact h)) (by kernel_rfl) S2 (fun w' hS => ?_) ?_
  rotate_left
  focus (have q0 := SCost.fc w' hS; have q1 := SCost.fat w' hS; have q2 := SCost.f1 w' hS; have q3 := SCost.f2 w' hS; have q4 := SCost.f4 w' hS; have q5 := SCost.f5 w' hS; clear hS; go_simp; try rfl; done)
  simp only [List.getElem_toArray, List.getElem_cons_succ, List.getElem_cons_zero, Act.put, List.setIfInBounds_toArray, List.set_cons_zero, List.set_cons_succ]
  refine hd_take (v := ?_) 11 rfl (by kernel_rfl) (fun _ _ d _ _ h => (by cases d <;> exact h)) (by kernel_rfl) S2 (fun w' hS => ?_) ?_
  rotate_left
  focus (have q0 := SCost.fc w' hS; have q1 := SCost.fat w' hS; have q2 := SCost.f1 w' hS; have q3 := SCost.f2 w' hS; have q4 := SCost.f4 w' hS; have q5 := SCost.f5 w' hS; clear hS; go_simp; try rfl; done)
  simp only [List.getElem_toArray, List.getElem_cons_succ, List.getElem_cons_zero, Act.put, List.setIfInBounds_toArray, List.set_cons_zero, List.set_cons_succ]
  refine hd_take (v := ?_) 12 rfl (by kernel_rfl) (fun _ _ d _ _ h => (by cases d <;> exact h)) (by kernel_rfl) S2 (fun w' hS => ?_) ?_
  rotate_left
  focus (have q0 := SCost.fc w' hS; have q1 := SCost.fat w' hS; have q2 := SCost.f1 w' hS; have q3 := SCost.f2 w' hS; have q4 := SCost.f4 w' hS; have q5 := SCost.f5 w' hS; clear hS; go_simp; try rfl; done)
  simp only [List.getElem_toArray, List.getElem_cons_succ, List.getElem_cons_zero, Act.put, List.setIfInBounds_toArray, List.set_cons_zero, List.set_cons_succ]
  refine hd_take (v := ?_) 13 rfl (by kernel_rfl) (fun _ _ d _ _ h => (by cases d <;> exact h)) (by kernel_rfl) S2 (fun w' hS => ?_) ?_
  rotate_left
  focus (have q0 := SCost.fc w' hS; have q1 := SCost.fat w' hS; have q2 := SCost.f1 w' hS; have q3 := SCost.f2 w' hS; have q4 := SCost.f4 w' hS; have q5 := SCost.f5 w' hS; clear hS; go_simp; try rfl; done)
  simp only [List.getElem_toArray, List.getElem_cons_succ, List.getElem_cons_zero, Act.put, List.setIfInBounds_toArray, List.set_cons_zero, List.set_cons_succ]
  refine hd_take (v := ?_) 14 rfl (by kernel_rfl) (fun _ _ d _ _ h => (by cases d <;> exact h)) (by kernel_rfl) S2 (fun w' hS => ?_) ?_
  rotate_left
  focus (have q0 := SCost.fc w' hS; have q1 := SCost.fat w' hS; have q2 := SCost.f1 w' hS; have q3 := SCost.f2 w' hS; have q4 := SCost.f4 w' hS; have q5 := SCost.f5 w' hS; clear hS; go_simp; try rfl; done)
  simp only [List.getElem_toArray, List.getElem_cons_succ, List.getElem_cons_zero, Act.put, List.setIfInBounds_toArray, List.set_cons_zero, List.set_cons_succ]
  have hz := H2.out.newK 97 (thCells th0)
  have S3 := HSS.out _ _ hz
  have h4 := H2.out.newK 97 (thCells (thB t s))
  have S4 := HSS.out _ _ h4
  clear hz
  refine hd_one 15 (by kernel_rfl) ?_
  refine op_run rfl (by kernel_rfl) (by go_simp; first | done | exact ⟨rfl, rfl⟩ | rfl) ?_
  refine ⟨S3, ?_⟩
  simp only [List.getElem_toArray, List.getElem_cons_succ, List.getElem_cons_zero, Act.put, List.setIfInBounds_toArray, List.set_cons_zero, List.set_cons_succ]
  refine hd_one 16 (by kernel_rfl) ?_
  refine op_skip rfl (by kernel_rfl) (by go_simp; first | done | rfl) ?_
  refine ⟨S4, ?_⟩
  simp only [List.getElem_toArray, List.getElem_cons_succ, List.getElem_cons_zero, Act.put, List.setIfInBounds_toArray, List.set_cons_zero, List.set_cons_succ]
  refine hd_done (by kernel_rfl) ?_
  clear S2 S3 S4 HSS
  obtain ⟨B2, hB2⟩ : ∃ y, w2.heap.size = y := ⟨_, rfl⟩
  obtain ⟨w3, hw3⟩ : ∃ y, w2.alloc (.cells (thCells (thB t s)) 97) = y := ⟨_, rfl⟩
  rw [hw3, hB2] at h4
  obtain ⟨M2, hM2⟩ : ∃ y, M ++ [obK B2 97 (thCells (thB t s))] = y := ⟨_, rfl⟩
  have hml : M.length = obs.length + 1 := by rw [← HM.out]; simp
  have G2 : Hid (Mg M2 i l obs.length p m k σ q rs B s B2 (thB t s)) := by
    rw [← hM2]
    exact Lib.hid ⟨atL I1.out, atL I2.out, atL I3.out, by rw [← hml]; exact atR 0⟩
  rw [hM2] at h4
  have H4 := Lib.hid h4
  have HM2 := Lib.hid hM2
  have P2 : Hid (Pre M2 obs) := by rw [← HM2.out, ← HM.out]; exact Lib.hid (Pre.app2 _ _ _)
  unfold thCells thB at hw3
  simp only at hw3
  try rw [hw3]
  try rw [hB2]
  clear h4 hM2 hml hw3 hB2
  obtain ⟨T, hTT⟩ : ∃ T, thB t s = T := ⟨_, rfl⟩
  have hTk : T.key = t.key := by rw [← hTT]; rfl
  have hTc : T.custom = s.data := by rw [← hTT]; rfl
  have c0 : s.alg = T.alg := by rw [← hTT]; rfl
  have hT1 : 0 ≤ T.key ∧ T.key ≤ 512 ∧ 0 ≤ T.custom ∧ T.custom ≤ 64 := by omega
  obtain ⟨hT1, hT2, hT3, hT4⟩ := hT1
  rw [hTT] at G2
  have HTT := Lib.hid hTT
  clear hTT hTk hTc c0 HM2
  by_cases h3 : T.alg = 3
  · have t1 : (T.alg == (3 : Int)) = true := by rw [h3]; rfl
    have hE : (beginE (thB t s)).foldl timesN rs = (timesN (timesN rs ⟨4, T.key, 1⟩) ⟨wkK T, wkS T, 1⟩) := by
      rw [HTT.out]
      unfold beginE wkK wkS
      rw [if_pos h3, if_pos h3, if_pos h3]
      rfl
    have HE := Lib.hid hE
    clear h3 hE
    have sd := H4.out.mg G2.out
    have g0 := sd.t.c0
    have g1 := sd.t.c1
    have g2 := sd.t.c2
    have g3 := sd.t.c3
    have g4 := sd.t.c4
    clear sd
    go_wp2_with fail
    clear g0 g1 g2 g3 g4
    refine (noteS_env H4.out l G2.out.led 4 T.key HRB.out (by omega)).mono ?_
    rintro e w5 ⟨rfl, h5⟩
    obtain ⟨M5, hM5⟩ : ∃ y, M2.set l (obP q (some (timesN rs ⟨4, T.key, 1⟩))) = y := ⟨_, rfl⟩
    have G5 : Hid (Mg M5 i l obs.length p m k σ q (timesN rs ⟨4, T.key, 1⟩) B s B2 T) := by rw [← hM5]; exact Lib.hid (G2.out.setL hil hll1 _)
    have P5 : Hid (Pre M5 (obs.set l (obP q (some (timesN rs ⟨4, T.key, 1⟩))))) := by
      rw [← hM5]
      have := P2.out.set l (by first | exact hll1 | (simp only [List.length_set]; exact hll1)) (obP q (some (timesN rs ⟨4, T.key, 1⟩)))
      try simp only [List.set_set] at this
      exact Lib.hid this
    rw [hM5] at h5
    have H5 := Lib.hid h5
    clear h5 hM5
    have sd := H5.out.mg G5.out
    have g0 := sd.t.c0
    have g1 := sd.t.c1
    have g2 := sd.t.c2
    have g3 := sd.t.c3
    have g4 := sd.t.c4
    clear sd
    go_wp2_with fail
    clear g0 g1 g2 g3 g4
    refine (works_any T w5).mono ?_
    rintro e w6 ⟨rfl, hb⟩
    have H6 := Lib.hid (H5.out.below hb)
    clear hb
    go_wp2_with fail
    refine (noteS_env H6.out l G5.out.led (wkK T) (wkS T) (HRB.out.note ⟨4, T.key, 1⟩ (Int.le_refl 1) (Int.le_refl 1)) (by omega)).mono ?_
    rintro e w7 ⟨rfl, h7⟩
    obtain ⟨M7, hM7⟩ : ∃ y, M5.set l (obP q (some (timesN (timesN rs ⟨4, T.key, 1⟩) ⟨wkK T, wkS T, 1⟩))) = y := ⟨_, rfl⟩
    have G7 : Hid (Mg M7 i l obs.length p m k σ q (timesN (timesN rs ⟨4, T.key, 1⟩) ⟨wkK T, wkS T, 1⟩) B s B2 T) := by rw [← hM7]; exact Lib.hid (G5.out.setL hil hll1 _)
    have P7 : Hid (Pre M7 (obs.set l (obP q (some (timesN (timesN rs ⟨4, T.key, 1⟩) ⟨wkK T, wkS T, 1⟩))))) := by
      rw [← hM7]
      have := P5.out.set l (by first | exact hll1 | (simp only [List.length_set]; exact hll1)) (obP q (some (timesN (timesN rs ⟨4, T.key, 1⟩) ⟨wkK T, wkS T, 1⟩)))
      try simp only [List.set_set] at this
      exact Lib.hid this
    rw [hM7] at h7
    have H7 := Lib.hid h7
    clear h7 hM7
    have sd := H7.out.mg G7.out
    have g0 := sd.t.c0
    have g1 := sd.t.c1
    have g2 := sd.t.c2
    have g3 := sd.t.c3
    have g4 := sd.t.c4
    clear sd
    go_wp2_with fail
    clear g0 g1 g2 g3 g4
    refine (take_env H7.out i G7.out.pub T).mono ?_
    rintro e w20 ⟨rfl, h20⟩
    have H20 := Lib.hid h20
    clear h20
    go_wp2_with fail
    go_end0
    have e9 := P7.out.set i (by rw [List.length_set]; exact hil1) (obPub p m k (takeH σ T))
    refine ⟨rfl, ?_⟩
    rw [HE.out, HTT.out]
    exact H20.out.ofPre e9
  · have t1 : (T.alg == (3 : Int)) = false := by rw [beq_eq_false_iff_ne]; exact h3
    by_cases h4 : 4 ≤ T.alg
    · have t2 : decide (4 ≤ T.alg) = true := decide_eq_true h4
      have hE : (beginE (thB t s)).foldl timesN rs = (timesN rs ⟨wkK T, wkS T, paddedA (codedA 4 + codedA T.custom) (rateA T.alg) + paddedA (codedA T.key) (rateA T.alg)⟩) := by
        rw [HTT.out]
        unfold beginE wkK wkS
        rw [if_neg h3, if_pos h4, if_neg h3, if_pos h4, if_neg h3, if_pos h4]
        rfl
      have HE := Lib.hid hE
      clear h3 h4 hE
      have q4 := codedA_rng (n := 4) (by omega)
      have q5 := codedA_rng (n := T.custom) (by omega)
      have q6 := codedA_rng (n := T.key) (by omega)
      have hr2 := rateA_two T.alg
      obtain ⟨r, hr⟩ : ∃ r, rateA T.alg = r := ⟨_, rfl⟩
      rw [hr] at hr2 HE
      have HR := Lib.hid hr
      clear hr
      obtain ⟨x4, hx4⟩ : ∃ y, codedA 4 = y := ⟨_, rfl⟩
      obtain ⟨x5, hx5⟩ : ∃ y, codedA T.custom = y := ⟨_, rfl⟩
      obtain ⟨x6, hx6⟩ : ∃ y, codedA T.key = y := ⟨_, rfl⟩
      rw [hx4] at q4
      rw [hx5] at q5
      rw [hx6] at q6
      rw [hx4, hx5, hx6] at HE
      have HX := Lib.hid (And.intro hx4 (And.intro hx5 hx6))
      clear hx4 hx5 hx6
      have p1 := paddedA_rng (n := x4 + x5) hr2 (by omega)
      have p2 := paddedA_rng (n := x6) hr2 (by omega)
      obtain ⟨y1, hy1⟩ : ∃ y, paddedA (x4 + x5) r = y := ⟨_, rfl⟩
      obtain ⟨y2, hy2⟩ : ∃ y, paddedA x6 r = y := ⟨_, rfl⟩
      rw [hy1] at p1
      rw [hy2] at p2
      rw [hy1, hy2] at HE
      have HY := Lib.hid (And.intro hy1 hy2)
      clear hy1 hy2
      have hwa : IntKind.i64.wrap (x4 + x5) = x4 + x5 := IntWalk.i64_in _ (by omega)
      have hwb : IntKind.i64.wrap (y1 + y2) = y1 + y2 := IntWalk.i64_in _ (by omega)
      have sd := H4.out.mg G2.out
      have g0 := sd.t.c0
      have g1 := sd.t.c1
      have g2 := sd.t.c2
      have g3 := sd.t.c3
      have g4 := sd.t.c4
      clear sd
      go_wp2_with fail
      clear g0 g1 g2 g3 g4
      refine (rate_any T.alg w3).mono ?_
      rintro e w5 ⟨rfl, rfl⟩
      rw [HR.out]
      go_upto_region 8 with fail
      refine hd_start (SDo p m B B2 s T) (by kernel_rfl) ?_
      intro w5 hw'
      have H5 := Lib.hid (H4.out.draw 1)
      rw [← hw'] at H5
      clear hw' H4
      have S5 := H5.out.mg G2.out
      refine hd_take (v := ?_) 0 rfl (by kernel_rfl) (fun _ _ d _ _ h => (by cases d <;> exact h)) (by kernel_rfl) S5 (fun w' hS => ?_) ?_
      rotate_left
      focus (have q0 := SDo.g0 w' hS; have q1 := SDo.g1 w' hS; have q2 := SDo.g2 w' hS; have q3 := SDo.g3 w' hS; have q4 := SDo.g4 w' hS; clear hS; go_simp; try rfl; done)
      simp only [List.getElem_toArray, List.getElem_cons_succ, List.getElem_cons_zero, Act.put, List.setIfInBounds_toArray, List.set_cons_zero, List.set_cons_succ]
      refine hd_take (v := ?_) 1 rfl (by kernel_rfl) (fun _ _ d _ _ h => (by cases d <;> exact h)) (by kernel_rfl) S5 (fun w' hS => ?_) ?_
      rotate_left
      focus (have q0 := SDo.g0 w' hS; have q1 := SDo.g1 w' hS; have q2 := SDo.g2 w' hS; have q3 := SDo.g3 w' hS; have q4 := SDo.g4 w' hS; clear hS; go_simp; try rfl; done)
      simp only [List.getElem_toArray, List.getElem_cons_succ, List.getElem_cons_zero, Act.put, List.setIfInBounds_toArray, List.set_cons_zero, List.set_cons_succ]
      refine hd_take (v := ?_) 4 rfl (by kernel_rfl) (fun _ _ d _ _ h => (by cases d <;> exact h)) (by kernel_rfl) S5 (fun w' hS => ?_) ?_
      rotate_left
      focus (have q0 := SDo.g0 w' hS; have q1 := SDo.g1 w' hS; have q2 := SDo.g2 w' hS; have q3 := SDo.g3 w' hS; have q4 := SDo.g4 w' hS; clear hS; go_simp; try rfl; done)
      simp only [List.getElem_toArray, List.getElem_cons_succ, List.getElem_cons_zero, Act.put, List.setIfInBounds_toArray, List.set_cons_zero, List.set_cons_succ]
      refine hd_take (v := ?_) 5 rfl (by kernel_rfl) (fun _ _ d _ _ h => (by cases d <;> exact h)) (by kernel_rfl) S5 (fun w' hS => ?_) ?_
      rotate_left
      focus (have q0 := SDo.g0 w' hS; have q1 := SDo.g1 w' hS; have q2 := SDo.g2 w' hS; have q3 := SDo.g3 w' hS; have q4 := SDo.g4 w' hS; clear hS; go_simp; try rfl; done)
      simp only [List.getElem_toArray, List.getElem_cons_succ, List.getElem_cons_zero, Act.put, List.setIfInBounds_toArray, List.set_cons_zero, List.set_cons_succ]
      refine hd_take (v := ?_) 8 rfl (by kernel_rfl) (fun _ _ d _ _ h => (by cases d <;> exact h)) (by kernel_rfl) S5 (fun w' hS => ?_) ?_
      rotate_left
      focus (have q0 := SDo.g0 w' hS; have q1 := SDo.g1 w' hS; have q2 := SDo.g2 w' hS; have q3 := SDo.g3 w' hS; have q4 := SDo.g4 w' hS; clear hS; go_simp; try rfl; done)
      simp only [List.getElem_toArray, List.getElem_cons_succ, List.getElem_cons_zero, Act.put, List.setIfInBounds_toArray, List.set_cons_zero, List.set_cons_succ]
      refine hd_take (v := ?_) 10 rfl (by kernel_rfl) (fun _ _ d _ _ h => (by cases d <;> exact h)) (by kernel_rfl) S5 (fun w' hS => ?_) ?_
      rotate_left
      focus (have q0 := SDo.g0 w' hS; have q1 := SDo.g1 w' hS; have q2 := SDo.g2 w' hS; have q3 := SDo.g3 w' hS; have q4 := SDo.g4 w' hS; clear hS; go_simp; try rfl; done)
      simp only [List.getElem_toArray, List.getElem_cons_succ, List.getElem_cons_zero, Act.put, List.setIfInBounds_toArray, List.set_cons_zero, List.set_cons_succ]
      refine hd_take (v := ?_) 11 rfl (by kernel_rfl) (fun _ _ d _ _ h => (by cases d <;> exact h)) (by kernel_rfl) S5 (fun w' hS => ?_) ?_
      rotate_left
      focus (have q0 := SDo.g0 w' hS; have q1 := SDo.g1 w' hS; have q2 := SDo.g2 w' hS; have q3 := SDo.g3 w' hS; have q4 := SDo.g4 w' hS; clear hS; go_simp; try rfl; done)
      simp only [List.getElem_toArray, List.getElem_cons_succ, List.getElem_cons_zero, Act.put, List.setIfInBounds_toArray, List.set_cons_zero, List.set_cons_succ]
      refine hd_take (v := ?_) 13 rfl (by kernel_rfl) (fun _ _ d _ _ h => (by cases d <;> exact h)) (by kernel_rfl) S5 (fun w' hS => ?_) ?_
      rotate_left
      focus (have q0 := SDo.g0 w' hS; have q1 := SDo.g1 w' hS; have q2 := SDo.g2 w' hS; have q3 := SDo.g3 w' hS; have q4 := SDo.g4 w' hS; clear hS; go_simp; try rfl; done)
      simp only [List.getElem_toArray, List.getElem_cons_succ, List.getElem_cons_zero, Act.put, List.setIfInBounds_toArray, List.set_cons_zero, List.set_cons_succ]
      refine hd_one 2 (by kernel_rfl) ?_
      refine op_call rfl (by kernel_rfl) (by go_simp; first | exact ⟨rfl, rfl⟩ | rfl) ?_
      refine (works_any T w5).mono ?_
      rintro e w6 ⟨he, hb⟩
      subst he
      have H6 := Lib.hid (H5.out.below hb)
      clear hb
      have hS2 := H6.out.mg G2.out
      have S6 := hS2
      refine ⟨_, rfl, hS2, ?_⟩
      simp only [List.getElem_toArray, List.getElem_cons_succ, List.getElem_cons_zero, Act.put, List.setIfInBounds_toArray, List.set_cons_zero, List.set_cons_succ]
      refine hd_one 3 (by kernel_rfl) ?_
      refine op_call rfl (by kernel_rfl) (by go_simp; first | exact ⟨rfl, rfl⟩ | rfl) ?_
      refine (coded_any 4 w6 (by omega) (by omega)).mono ?_
      rintro e w7 ⟨he, hw⟩
      rw [HX.out.1] at he
      subst he
      subst hw
      have hS2 := S6
      refine ⟨_, rfl, hS2, ?_⟩
      simp only [List.getElem_toArray, List.getElem_cons_succ, List.getElem_cons_zero, Act.put, List.setIfInBounds_toArray, List.set_cons_zero, List.set_cons_succ]
      refine hd_one 6 (by kernel_rfl) ?_
      refine op_call rfl (by kernel_rfl) (by go_simp; first | exact ⟨rfl, rfl⟩ | rfl) ?_
      refine (coded_any T.custom w6 (by omega) (by omega)).mono ?_
      rintro e w7 ⟨he, hw⟩
      rw [HX.out.2.1] at he
      subst he
      subst hw
      have hS2 := S6
      refine ⟨_, rfl, hS2, ?_⟩
      simp only [List.getElem_toArray, List.getElem_cons_succ, List.getElem_cons_zero, Act.put, List.setIfInBounds_toArray, List.set_cons_zero, List.set_cons_succ]
      refine hd_take (v := ?_) 7 rfl (by kernel_rfl) (fun _ _ d _ _ h => (by cases d <;> exact h)) (by kernel_rfl) S6 (fun w' hS => ?_) ?_
      rotate_left
      focus (clear hS; go_simp; try rfl; done)
      simp only [List.getElem_toArray, List.getElem_cons_succ, List.getElem_cons_zero, Act.put, List.setIfInBounds_toArray, List.set_cons_zero, List.set_cons_succ]
      try rw [hwa]
      refine hd_one 9 (by kernel_rfl) ?_
      refine op_call rfl (by kernel_rfl) (by go_simp; first | exact ⟨rfl, rfl⟩ | rfl) ?_
      refine (padded_any (x4 + x5) r w6 (by omega) (by omega) hr2).mono ?_
      rintro e w7 ⟨he, hw⟩
      rw [HY.out.1] at he
      subst he
      subst hw
      have hS2 := S6
      refine ⟨_, rfl, hS2, ?_⟩
      simp only [List.getElem_toArray, List.getElem_cons_succ, List.getElem_cons_zero, Act.put, List.setIfInBounds_toArray, List.set_cons_zero, List.set_cons_succ]
      refine hd_one 12 (by kernel_rfl) ?_
      refine op_call rfl (by kernel_rfl) (by go_simp; first | exact ⟨rfl, rfl⟩ | rfl) ?_
      refine (coded_any T.key w6 (by omega) (by omega)).mono ?_
      rintro e w7 ⟨he, hw⟩
      rw [HX.out.2.2] at he
      subst he
      subst hw
      have hS2 := S6
      refine ⟨_, rfl, hS2, ?_⟩
      simp only [List.getElem_toArray, List.getElem_cons_succ, List.getElem_cons_zero, Act.put, List.setIfInBounds_toArray, List.set_cons_zero, List.set_cons_succ]
      refine hd_one 14 (by kernel_rfl) ?_
      refine op_call rfl (by kernel_rfl) (by go_simp; first | exact ⟨rfl, rfl⟩ | rfl) ?_
      refine (padded_any x6 r w6 (by omega) (by omega) hr2).mono ?_
      rintro e w7 ⟨he, hw⟩
      rw [HY.out.2] at he
      subst he
      subst hw
      have hS2 := S6
      refine ⟨_, rfl, hS2, ?_⟩
      simp only [List.getElem_toArray, List.getElem_cons_succ, List.getElem_cons_zero, Act.put, List.setIfInBounds_toArray, List.set_cons_zero, List.set_cons_succ]
      refine hd_take (v := ?_) 15 rfl (by kernel_rfl) (fun _ _ d _ _ h => (by cases d <;> exact h)) (by kernel_rfl) S6 (fun w' hS => ?_) ?_
      rotate_left
      focus (clear hS; go_simp; try rfl; done)
      simp only [List.getElem_toArray, List.getElem_cons_succ, List.getElem_cons_zero, Act.put, List.setIfInBounds_toArray, List.set_cons_zero, List.set_cons_succ]
      try rw [hwb]
      refine hd_one 16 (by kernel_rfl) ?_
      refine op_call rfl (by kernel_rfl) (by go_simp; first | exact ⟨rfl, rfl⟩ | rfl) ?_
      refine (timesS_env H6.out l G2.out.led (wkK T) (wkS T) (y1 + y2) HRB.out (by omega) (by omega)).mono ?_
      rintro e w8 ⟨he, h8⟩
      subst he
      have h8' := h8
      have hS2 := h8.mg (G2.out.setL hil hll1 _)
      refine ⟨_, rfl, hS2, ?_⟩
      simp only [List.getElem_toArray, List.getElem_cons_succ, List.getElem_cons_zero, Act.put, List.setIfInBounds_toArray, List.set_cons_zero, List.set_cons_succ]
      refine hd_done (by kernel_rfl) ?_
      clear S5 S6 h8'
      obtain ⟨M8, hM8⟩ : ∃ y, M2.set l (obP q (some (timesN rs ⟨wkK T, wkS T, y1 + y2⟩))) = y := ⟨_, rfl⟩
      have G8 : Hid (Mg M8 i l obs.length p m k σ q (timesN rs ⟨wkK T, wkS T, y1 + y2⟩) B s B2 T) := by rw [← hM8]; exact Lib.hid (G2.out.setL hil hll1 _)
      have P8 : Hid (Pre M8 (obs.set l (obP q (some (timesN rs ⟨wkK T, wkS T, y1 + y2⟩))))) := by
        rw [← hM8]
        have := P2.out.set l (by first | exact hll1 | (simp only [List.length_set]; exact hll1)) (obP q (some (timesN rs ⟨wkK T, wkS T, y1 + y2⟩)))
        try simp only [List.set_set] at this
        exact Lib.hid this
      rw [hM8] at h8
      have H8 := Lib.hid h8
      clear h8 hM8
      have sd := H8.out.mg G8.out
      have g0 := sd.t.c0
      have g1 := sd.t.c1
      have g2 := sd.t.c2
      have g3 := sd.t.c3
      have g4 := sd.t.c4
      clear sd
      go_wp2_with fail
      clear g0 g1 g2 g3 g4
      refine (take_env H8.out i G8.out.pub T).mono ?_
      rintro e w20 ⟨rfl, h20⟩
      have H20 := Lib.hid h20
      clear h20
      go_wp2_with fail
      go_end0
      have e9 := P8.out.set i (by rw [List.length_set]; exact hil1) (obPub p m k (takeH σ T))
      refine ⟨rfl, ?_⟩
      rw [HE.out, HTT.out]
      exact H20.out.ofPre e9
    · have t2 : decide (4 ≤ T.alg) = false := decide_eq_false h4
      have hE : (beginE (thB t s)).foldl timesN rs = (timesN rs ⟨wkK T, wkS T, keyB T.alg T.key⟩) := by
        rw [HTT.out]
        unfold beginE wkK wkS
        rw [if_neg h3, if_neg h4, if_neg h3, if_neg h4, if_neg h3, if_neg h4]
        rfl
      have HE := Lib.hid hE
      clear h3 h4 hE
      have q4 := keyB_rng (a := T.alg) (n := T.key) (by omega)
      have sd := H4.out.mg G2.out
      have g0 := sd.t.c0
      have g1 := sd.t.c1
      have g2 := sd.t.c2
      have g3 := sd.t.c3
      have g4 := sd.t.c4
      clear sd
      go_upto_region 2 with fail
      clear g0 g1 g2 g3 g4
      refine hd_start (SDo p m B B2 s T) (by kernel_rfl) ?_
      intro w5 hw'
      have H5 := Lib.hid (H4.out.draw 1)
      rw [← hw'] at H5
      clear hw' H4
      have S5 := H5.out.mg G2.out
      refine hd_take (v := ?_) 0 rfl (by kernel_rfl) (fun _ _ d _ _ h => (by cases d <;> exact h)) (by kernel_rfl) S5 (fun w' hS => ?_) ?_
      rotate_left
      focus (have q0 := SDo.g0 w' hS; have q1 := SDo.g1 w' hS; have q2 := SDo.g2 w' hS; have q3 := SDo.g3 w' hS; have q4 := SDo.g4 w' hS; clear hS; go_simp; try rfl; done)
      simp only [List.getElem_toArray, List.getElem_cons_succ, List.getElem_cons_zero, Act.put, List.setIfInBounds_toArray, List.set_cons_zero, List.set_cons_succ]
      refine hd_take (v := ?_) 1 rfl (by kernel_rfl) (fun _ _ d _ _ h => (by cases d <;> exact h)) (by kernel_rfl) S5 (fun w' hS => ?_) ?_
      rotate_left
      focus (have q0 := SDo.g0 w' hS; have q1 := SDo.g1 w' hS; have q2 := SDo.g2 w' hS; have q3 := SDo.g3 w' hS; have q4 := SDo.g4 w' hS; clear hS; go_simp; try rfl; done)
      simp only [List.getElem_toArray, List.getElem_cons_succ, List.getElem_cons_zero, Act.put, List.setIfInBounds_toArray, List.set_cons_zero, List.set_cons_succ]
      refine hd_take (v := ?_) 3 rfl (by kernel_rfl) (fun _ _ d _ _ h => (by cases d <;> exact h)) (by kernel_rfl) S5 (fun w' hS => ?_) ?_
      rotate_left
      focus (have q0 := SDo.g0 w' hS; have q1 := SDo.g1 w' hS; have q2 := SDo.g2 w' hS; have q3 := SDo.g3 w' hS; have q4 := SDo.g4 w' hS; clear hS; go_simp; try rfl; done)
      simp only [List.getElem_toArray, List.getElem_cons_succ, List.getElem_cons_zero, Act.put, List.setIfInBounds_toArray, List.set_cons_zero, List.set_cons_succ]
      refine hd_take (v := ?_) 4 rfl (by kernel_rfl) (fun _ _ d _ _ h => (by cases d <;> exact h)) (by kernel_rfl) S5 (fun w' hS => ?_) ?_
      rotate_left
      focus (have q0 := SDo.g0 w' hS; have q1 := SDo.g1 w' hS; have q2 := SDo.g2 w' hS; have q3 := SDo.g3 w' hS; have q4 := SDo.g4 w' hS; clear hS; go_simp; try rfl; done)
      simp only [List.getElem_toArray, List.getElem_cons_succ, List.getElem_cons_zero, Act.put, List.setIfInBounds_toArray, List.set_cons_zero, List.set_cons_succ]
      refine hd_take (v := ?_) 5 rfl (by kernel_rfl) (fun _ _ d _ _ h => (by cases d <;> exact h)) (by kernel_rfl) S5 (fun w' hS => ?_) ?_
      rotate_left
      focus (have q0 := SDo.g0 w' hS; have q1 := SDo.g1 w' hS; have q2 := SDo.g2 w' hS; have q3 := SDo.g3 w' hS; have q4 := SDo.g4 w' hS; clear hS; go_simp; try rfl; done)
      simp only [List.getElem_toArray, List.getElem_cons_succ, List.getElem_cons_zero, Act.put, List.setIfInBounds_toArray, List.set_cons_zero, List.set_cons_succ]
      refine hd_take (v := ?_) 6 rfl (by kernel_rfl) (fun _ _ d _ _ h => (by cases d <;> exact h)) (by kernel_rfl) S5 (fun w' hS => ?_) ?_
      rotate_left
      focus (have q0 := SDo.g0 w' hS; have q1 := SDo.g1 w' hS; have q2 := SDo.g2 w' hS; have q3 := SDo.g3 w' hS; have q4 := SDo.g4 w' hS; clear hS; go_simp; try rfl; done)
      simp only [List.getElem_toArray, List.getElem_cons_succ, List.getElem_cons_zero, Act.put, List.setIfInBounds_toArray, List.set_cons_zero, List.set_cons_succ]
      refine hd_one 2 (by kernel_rfl) ?_
      refine op_call rfl (by kernel_rfl) (by go_simp; first | exact ⟨rfl, rfl⟩ | rfl) ?_
      refine (works_any T w5).mono ?_
      rintro e w6 ⟨he, hb⟩
      subst he
      have H6 := Lib.hid (H5.out.below hb)
      clear hb
      have hS2 := H6.out.mg G2.out
      have S6 := hS2
      refine ⟨_, rfl, hS2, ?_⟩
      simp only [List.getElem_toArray, List.getElem_cons_succ, List.getElem_cons_zero, Act.put, List.setIfInBounds_toArray, List.set_cons_zero, List.set_cons_succ]
      refine hd_one 7 (by kernel_rfl) ?_
      refine op_call rfl (by kernel_rfl) (by go_simp; first | exact ⟨rfl, rfl⟩ | rfl) ?_
      refine (keyBlocks_any T.alg T.key w6 (by omega) (by omega)).mono ?_
      rintro e w7 ⟨he, hb⟩
      subst he
      have H7 := Lib.hid (H6.out.below hb)
      clear hb
      have hS2 := H7.out.mg G2.out
      refine ⟨_, rfl, hS2, ?_⟩
      simp only [List.getElem_toArray, List.getElem_cons_succ, List.getElem_cons_zero, Act.put, List.setIfInBounds_toArray, List.set_cons_zero, List.set_cons_succ]
      refine hd_one 8 (by kernel_rfl) ?_
      refine op_call rfl (by kernel_rfl) (by go_simp; first | exact ⟨rfl, rfl⟩ | rfl) ?_
      refine (timesS_env H7.out l G2.out.led (wkK T) (wkS T) (keyB T.alg T.key) HRB.out (by omega) (by omega)).mono ?_
      rintro e w8 ⟨he, h8⟩
      subst he
      have h8' := h8
      have hS2 := h8.mg (G2.out.setL hil hll1 _)
      refine ⟨_, rfl, hS2, ?_⟩
      simp only [List.getElem_toArray, List.getElem_cons_succ, List.getElem_cons_zero, Act.put, List.setIfInBounds_toArray, List.set_cons_zero, List.set_cons_succ]
      refine hd_done (by kernel_rfl) ?_
      clear S5 S6 h8'
      obtain ⟨M8, hM8⟩ : ∃ y, M2.set l (obP q (some (timesN rs ⟨wkK T, wkS T, keyB T.alg T.key⟩))) = y := ⟨_, rfl⟩
      have G8 : Hid (Mg M8 i l obs.length p m k σ q (timesN rs ⟨wkK T, wkS T, keyB T.alg T.key⟩) B s B2 T) := by rw [← hM8]; exact Lib.hid (G2.out.setL hil hll1 _)
      have P8 : Hid (Pre M8 (obs.set l (obP q (some (timesN rs ⟨wkK T, wkS T, keyB T.alg T.key⟩))))) := by
        rw [← hM8]
        have := P2.out.set l (by first | exact hll1 | (simp only [List.length_set]; exact hll1)) (obP q (some (timesN rs ⟨wkK T, wkS T, keyB T.alg T.key⟩)))
        try simp only [List.set_set] at this
        exact Lib.hid this
      rw [hM8] at h8
      have H8 := Lib.hid h8
      clear h8 hM8
      have sd := H8.out.mg G8.out
      have g0 := sd.t.c0
      have g1 := sd.t.c1
      have g2 := sd.t.c2
      have g3 := sd.t.c3
      have g4 := sd.t.c4
      clear sd
      go_wp2_with fail
      clear g0 g1 g2 g3 g4
      refine (take_env H8.out i G8.out.pub T).mono ?_
      rintro e w20 ⟨rfl, h20⟩
      have H20 := Lib.hid h20
      clear h20
      go_wp2_with fail
      go_end0
      have e9 := P8.out.set i (by rw [List.length_set]; exact hil1) (obPub p m k (takeH σ T))
      refine ⟨rfl, ?_⟩
      rw [HE.out, HTT.out]
      exact H20.out.ofPre e9
/-! update .. -/
end
end Go.Proofs.YtkidijjhedjifaaGreat
