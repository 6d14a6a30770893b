/- The document's Put: events behind runs. -/
import Derived.Test.YtkidijjhedjifaaGreatRows
import Derived.Deep.AppendLies
import Derived.Test.YtkidijjhedjifaaGreatQCostScript0
import Derived.Test.YtkidijjhedjifaaGreatQCostScript1
import Derived.Test.YtkidijjhedjifaaGreatQCostScript2
import Derived.Test.YtkidijjhedjifaaGreatQCostScript3
import Derived.Test.YtkidijjhedjifaaGreatQCostScript5
import Derived.Test.YtkidijjhedjifaaGreatQCostScript7
/- Do: an operation whole. -/
namespace Go.Proofs.YtkidijjhedjifaaGreat
open Go.RowKit
set_option maxRecDepth 100000
set_option linter.unusedVariables false
set_option linter.unusedSimpArgs false
attribute [local go_sem] Oper.semAt_some
/-- a skeleton as it may be in memory -/
structure OKsk (s : Sk) : Prop where
  hk : okU s.kind
  ha : okI s.handle
  hl : okU s.alg
  hc : okI s.count
  ho : okI s.out
  hd : okI s.data
  hm : okI s.more
theorem OKsk.clip {s : Sk} (h : OKsk s) : OKsk s.clip := ⟨h.hk, h.ha, h.hl, h.hc, h.ho, by have := h.hd; unfold okI at *; show _ ≤ max 0 s.data ∧ max 0 s.data ≤ _; omega, by have := h.hm; unfold okI at *; show _ ≤ max 0 s.more ∧ max 0 s.more ≤ _; omega⟩
section
variable {w0 w : World} {obs : List Ob} {p m k : Nat} {σ : Hs}
theorem run_store_nilf (P : Program) (w : World) (a : Addr) (m : Mode) : (store a .nilFunc m).run P w = stored P w a .nilFunc m := run_store P w a _ m rfl
theorem run_store_fun (P : Program) (w : World) (a : Addr) (f : Fn) (x y : Array Value) (m : Mode) : (store a (.func f x y) m).run P w = stored P w a (.func f x y) m := run_store P w a _ m rfl
attribute [local go_sem] run_store_nilf run_store_fun
theorem ne_nil (m : Nat) (w : World) : (binOp BinOp.neq 47 (.map (some m)) (.map none)).run Tryz.prog w = .ok (.bool true) w := by
  first | kernel_rfl | rfl | simp [binOp]
theorem made_any (h : PubAt w p m k σ) : Calls Tryz.prog 16 #[pV p] w fun e w' => e = .returned (.bool true) ∧ w = w' := by
  have c0 := h.blk.cellAt 0 (v := .map (some m)) rfl
  have hl := h.blk.lt
  have hne := ne_nil m
  clear h
  unfold pV
  go_enter Tryz.func16, Tryz.ntmps16
  go_wp2
  go_ret
  exact ⟨rfl, rfl⟩
theorem RB_one (r : Rn) (h : r.c ≤ 1) : RB 1 [r] := ⟨by simp [tot]; exact h, by simp⟩
theorem RB.all {l : List Rn} : ∀ {c : Int} {rs : List Rn}, RB c rs → (∀ r ∈ l, OKe r) → RB (c + 40000000 * (l.length : Int)) (l.foldl timesN rs) := by
  induction l with
  | nil => intro c rs h _; simpa using h
  | cons r l ih =>
    intro c rs h hl
    have h1 := h.note r (hl r (by simp)).c1 (by omega)
    have h2 := ih h1 (fun x hx => hl x (by simp [hx]))
    rw [List.foldl_cons]
    have e : c + 40000000 + 40000000 * (l.length : Int) = c + 40000000 * (((r :: l).length : Nat) : Int) := by rw [List.length_cons]; omega
    rw [← e]
    exact h2
theorem evS_len (σ : Hs) (s : Sk) : (evS σ s).length ≤ 3 := by
  unfold evS beginE
  simp only
  split
  · split
    · simp
    · split <;> simp
  split
  · simp
  split
  · simp
  split
  · simp
  split
  · simp
  split
  · simp
  split <;> simp
theorem closeRun {w0 w : World} {M obs obs' : List Ob} {v : Value} {rs rs' : List Rn} (h : Env w0 w (M ++ [obRuns v rs])) (hp : Pre M obs) (he : obs' = obs) (hr : rs' = rs) : Env w0 w (obs' ++ [obRuns v rs']) := by
  subst he
  subst hr
  have hlen : obs'.length ≤ M.length := by
    by_cases h0 : obs'.length = 0
    · omega
    · have := hp (obs'.length - 1) (by omega)
      rw [List.getElem?_eq_getElem (show obs'.length - 1 < obs'.length by omega)] at this
      have := (List.getElem?_eq_some_iff.1 this).1
      omega
  refine h.pick (fun j => if j < obs'.length then j else M.length) ?_ ?_
  · intro a b ha hb hab
    rw [List.length_append, List.length_singleton] at ha hb
    split at hab <;> split at hab <;> omega
  · intro j ob hj
    by_cases e : j < obs'.length
    · rw [if_pos e, List.getElem?_append_left (by omega), hp j e]
      rw [List.getElem?_append_left e] at hj
      exact hj
    · rw [if_neg e]
      have hl := (List.getElem?_eq_some_iff.1 hj).1
      rw [List.length_append, List.length_singleton] at hl
      have : j = obs'.length := by omega
      subst this
      have e2 : (obs' ++ [obRuns v rs'])[obs'.length]? = some (obRuns v rs') := by rw [List.getElem?_append_right (Nat.le_refl _), Nat.sub_self]; rfl
      rw [e2] at hj
      rw [List.getElem?_append_right (Nat.le_refl _), Nat.sub_self]
      exact hj
theorem call_kdC {kn : Nat} (h : 1 ≤ kn ∧ kn ≤ 10) (args : Array Value) (w : World) : (callFunc (kdC kn) args).run Tryz.prog w = .ok (.enter (kdC kn) args) w := by
  rcases ten h with rfl | rfl | rfl | rfl | rfl | rfl | rfl | rfl | rfl | rfl <;> first | rfl | kernel_rfl
theorem call_kdO {kn : Nat} (h : 1 ≤ kn ∧ kn ≤ 10) (args : Array Value) (w : World) : (callFunc (kdO kn) args).run Tryz.prog w = .ok (.enter (kdO kn) args) w := by
  rcases ten h with rfl | rfl | rfl | rfl | rfl | rfl | rfl | rfl | rfl | rfl <;> first | rfl | kernel_rfl
theorem kdV_some {kn : Nat} (h : 1 ≤ kn) : kdV kn = .agg #[.func (.func (kdC kn)) #[] #[], .func (.func (kdO kn)) #[] #[]] := by
  unfold kdV
  rw [if_neg (by omega)]
structure SRun (p k B : Nat) (kn : Int) (kv : Value) (is : Bool) (W : World) : Prop where
  c : W.cell? ⟨p, 1, none⟩ = some (.map (some k))
  b0 : W.cell? ⟨B, 0, none⟩ = some (.int .u8 kn)
  look : (Instr.lookup 48 (.map (some k)) (.int .u8 kn) true).run Tryz.prog W = .ok (.tuple #[kv, .bool is]) W
theorem SRun.fc {p k B : Nat} {kn : Int} {kv : Value} {is : Bool} (W : World) (h : SRun p k B kn kv is W) : W.cell? ⟨p, 1, none⟩ = some (.map (some k)) := h.c
theorem SRun.f0 {p k B : Nat} {kn : Int} {kv : Value} {is : Bool} (W : World) (h : SRun p k B kn kv is W) : W.cell? ⟨B, 0, none⟩ = some (.int .u8 kn) := h.b0
theorem SRun.fl {p k B : Nat} {kn : Int} {kv : Value} {is : Bool} (W : World) (h : SRun p k B kn kv is W) : (Instr.lookup 48 (.map (some k)) (.int .u8 kn) true).run Tryz.prog W = .ok (.tuple #[kv, .bool is]) W := h.look
set_option maxHeartbeats 8000000 in
theorem do_env (h : Env w0 w obs) (i : Nat) (hi : obs[i]? = some (obPub p m k σ)) {mm : Int} (hok : OKh mm σ) (hmm : mm ≤ 700000000) (s0 : Sk) (hs : OKsk s0) :
    Calls Tryz.prog 7 #[pV p, skV s0] w fun e w' => ∃ v, e = .returned (.tuple #[v, .int .i64 (codeD σ s0)]) ∧ Env w0 w' (obs.set i (obPub p m k (nxD σ s0)) ++ [obRuns v (runsD σ s0)]) := by
  obtain ⟨s, hse⟩ : ∃ s, s0.clip = s := ⟨_, rfl⟩
  have hil1 := (List.getElem?_eq_some_iff.1 hi).1
  have HS : Hid (OKsk s) := by rw [← hse]; exact Lib.hid hs.clip
  have hd0 : 0 ≤ s.data ∧ 0 ≤ s.more := by rw [← hse]; exact ⟨by show 0 ≤ max 0 s0.data; omega, by show 0 ≤ max 0 s0.more; omega⟩
  have hkr := hs.hk
  unfold okU at hkr
  have HOK := Lib.hid hok
  have HI := Lib.hid hi
  have HE := Lib.hid h
  have e0 : s0.kind = s.kind ∧ s0.handle = s.handle ∧ s0.alg = s.alg ∧ s0.count = s.count ∧ s0.out = s.out := by rw [← hse]; exact ⟨rfl, rfl, rfl, rfl, rfl⟩
  obtain ⟨e1, e2, e3, e4, e5⟩ := e0
  have hdm : s.data = max 0 s0.data ∧ s.more = max 0 s0.more := by rw [← hse]; exact ⟨rfl, rfl⟩
  obtain ⟨hdm1, hdm2⟩ := hdm
  have HC : Hid (codeD σ s0 = codeS σ s ∧ runsD σ s0 = noteL ((if codeS σ s = 0 then evS σ s else []).foldl timesN (noteL [] 11 s.kind 1)) 12 (codeS σ s) 1 ∧ nxD σ s0 = if codeS σ s = 0 then nxS σ s else σ) := by
    rw [← hse]
    exact Lib.hid ⟨rfl, rfl, rfl⟩
  obtain ⟨kn, hkn⟩ : ∃ kn : Nat, s.kind = (kn : Int) := ⟨s.kind.toNat, by omega⟩
  have HKN := Lib.hid hkn
  have hkn255 : kn ≤ 255 := by omega
  clear hkn
  have HP := Lib.hid (made_any (h.pub i hi))
  clear h hi hok hs
  unfold skV
  rw [e1, e2, e3, e4, e5]
  rw [e1] at hkr
  clear e1 e2 e3 e4 e5 hse
  unfold pV at HP ⊢
  go_enter Tryz.func7, Tryz.ntmps7
  go_wp2_with fail
  have HB0 : Hid (∀ wx, Below w.heap.size w wx → Calls Tryz.prog 16 #[.pointer (some ⟨p, 0, none⟩)] wx fun e w' => e = .returned (.bool true) ∧ wx = w') := Lib.hid (fun wx hb => made_any ((HE.out.below hb).pub i HI.out))
  refine (HB0.out _ ((Below.refl _ _).alloc (Nat.le_refl _) _)).mono ?_
  rintro e wz ⟨rfl, rfl⟩
  clear HP HB0
  go_upto_region 3 with fail
  go_cut [] from 10 to 20 (fun wx => wx = w.alloc (.cells #[.int .u8 s.kind, .int .i64 s.handle, .int .u8 s.alg, .int .i64 s.count, .int .i64 s.out, .int .i64 s.data, .int .i64 s.more] 40))
  case first =>
    go_wp2_with fail
    all_goals go_meet
    all_goals first | rw [show s.data = s0.data from by omega, show s.more = s0.more from by omega] | rw [show s.data = s0.data from by omega, show s.more = 0 from by omega] | rw [show s.data = 0 from by omega, show s.more = s0.more from by omega] | rw [show s.data = 0 from by omega, show s.more = 0 from by omega]
  case rest =>
    subst hcut
    have h1 := HE.out.newK 40 (skCells s)
    obtain ⟨B, hB⟩ : ∃ y, w.heap.size = y := ⟨_, rfl⟩
    obtain ⟨w1, hw1⟩ : ∃ y, w.alloc (.cells #[.int .u8 s.kind, .int .i64 s.handle, .int .u8 s.alg, .int .i64 s.count, .int .i64 s.out, .int .i64 s.data, .int .i64 s.more] 40) = y := ⟨_, rfl⟩
    unfold skCells at h1
    rw [hw1, hB] at h1
    try rw [hw1]
    try rw [hB]
    have H1 := Lib.hid h1
    clear h1 hw1 hB hdm1 hdm2
    go_wp2_with fail
    refine (newP_env' H1.out).mono ?_
    rintro e w2 ⟨q, rfl, h2⟩
    obtain ⟨M, hM⟩ : ∃ M, obs ++ [obK B 40 #[.int .u8 s.kind, .int .i64 s.handle, .int .u8 s.alg, .int .i64 s.count, .int .i64 s.out, .int .i64 s.data, .int .i64 s.more]] ++ [obP q (some [])] = M := ⟨_, rfl⟩
    have L0 : Hid (M[i]? = some (obPub p m k σ) ∧ M[obs.length]? = some (obK B 40 (skCells s)) ∧ M[obs.length + 1]? = some (obP q (some []))) := by
      rw [← hM]
      exact Lib.hid ⟨atL (atL HI.out), atL (atR 0), by rw [show obs.length + 1 = (obs ++ [obK B 40 #[.int .u8 s.kind, .int .i64 s.handle, .int .u8 s.alg, .int .i64 s.count, .int .i64 s.out, .int .i64 s.data, .int .i64 s.more]]).length from by simp]; exact atR 0⟩
    have P0 : Hid (Pre M obs) := by rw [← hM]; exact Lib.hid (Pre.app2 _ _ _)
    rw [hM] at h2
    have H2 := Lib.hid h2
    have HML := Lib.hid hM
    clear h2 hM H1
    have hwk : IntKind.i64.wrap s.kind = s.kind := IntWalk.i64_in _ (by omega)
    have sc := H2.out.sc i obs.length L0.out.1 L0.out.2.1 HS.out.ha
    have b0 := sc.b0
    have b1 := sc.b1
    have b2 := sc.b2
    have b3 := sc.b3
    have b4 := sc.b4
    have b5 := sc.b5
    have b6 := sc.b6
    clear sc
    go_wp2_with fail
    clear b0 b1 b2 b3 b4 b5 b6
    refine (noteS_env H2.out (obs.length + 1) L0.out.2.2 11 s.kind (c := 0) ⟨by simp [tot], by simp⟩ (by omega)).mono ?_
    rintro e w3 ⟨rfl, h3⟩
    obtain ⟨M3, hM3⟩ : ∃ M3, M.set (obs.length + 1) (obP q (some (noteL [] 11 s.kind 1))) = M3 := ⟨_, rfl⟩
    have h3' : Env w0 w3 M3 := by rw [← hM3]; exact h3
    have L3 : Hid (M3[i]? = some (obPub p m k σ) ∧ M3[obs.length]? = some (obK B 40 (skCells s)) ∧ M3[obs.length + 1]? = some (obP q (some (noteL [] 11 s.kind 1)))) := by
      rw [← hM3]
      exact Lib.hid ⟨by rw [List.getElem?_set_ne (by omega)]; exact L0.out.1, by rw [List.getElem?_set_ne (by omega)]; exact L0.out.2.1, List.getElem?_set_self (List.getElem?_eq_some_iff.1 L0.out.2.2).1⟩
    have P3 : Hid (Pre M3 obs) := by rw [← hM3]; exact Lib.hid (P0.out.far _ (by omega) _)
    have HLN : Hid (M3.length = obs.length + 2) := by rw [← hM3, List.length_set, ← HML.out]; exact Lib.hid (by simp)
    have H3 := Lib.hid h3'
    clear h3 h3' hM3 H2 L0 P0
    go_upto_region 7 with fail
    have hSR : ∀ (kv : Value) (is : Bool) (W : World) (X : List Ob), kv = kdV (if 1 ≤ kn ∧ kn ≤ 10 then kn else 0) → is = decide (1 ≤ kn ∧ kn ≤ 10) → Env w0 W (M3 ++ X) → SRun p k B s.kind kv is W := fun kv is W X hkv his hE => by
      have h1 := hE.pub i (atL L3.out.1)
      refine ⟨h1.blk.cellAt 1 rfl, (hE.blk obs.length (atL L3.out.2.1)).cellAt 0 rfl, ?_⟩
      rw [HKN.out, hkv, his]
      exact h1.kinds.look (by omega)
    have HSR := Lib.hid hSR
    clear hSR
    by_cases hk : 1 ≤ kn ∧ kn ≤ 10
    · have hkv : (Value.agg #[.func (.func (kdC kn)) #[] #[], .func (.func (kdO kn)) #[] #[]]) = kdV (if 1 ≤ kn ∧ kn ≤ 10 then kn else 0) := by rw [if_pos hk, kdV_some hk.1]
      have his : true = decide (1 ≤ kn ∧ kn ≤ 10) := (decide_eq_true hk).symm
      have HKV := Lib.hid (And.intro hkv his)
      have HKK := Lib.hid hk
      have hcf := call_kdC hk
      have hof := call_kdO hk
      obtain ⟨fc, hfc⟩ : ∃ y, kdC kn = y := ⟨_, rfl⟩
      obtain ⟨fo, hfo⟩ : ∃ y, kdO kn = y := ⟨_, rfl⟩
      rw [hfc, hfo] at HKV
      rw [hfc] at hcf
      rw [hfo] at hof
      have HF := Lib.hid (And.intro hfc hfo)
      clear hkv his hk hfc hfo
      refine hd_start (SRun p k B s.kind (.agg #[.func (.func fc) #[] #[], .func (.func fo) #[] #[]]) true) (by kernel_rfl) ?_
      intro w4 hw'
      have H4 := Lib.hid (H3.out.draw 1)
      rw [← hw'] at H4
      clear hw' H3
      have S4 := HSR.out _ _ w4 [] HKV.out.1 HKV.out.2 (by rw [List.append_nil]; exact H4.out)
      refine hd_take (v := ?_) 0 rfl (by kernel_rfl) (fun _ _ d _ _ h => (by cases d <;> exact h)) (by kernel_rfl) S4 (fun w' hS => ?_) ?_
      rotate_left
      focus (have q0 := SRun.fc w' hS; have q1 := SRun.f0 w' hS; have q2 := SRun.fl w' hS; clear hS; go_simp; try rfl; done)
      simp only [List.getElem_toArray, List.getElem_cons_succ, List.getElem_cons_zero, Act.put, List.setIfInBounds_toArray, List.set_cons_zero, List.set_cons_succ]
      refine hd_take (v := ?_) 1 rfl (by kernel_rfl) (fun _ _ d _ _ h => (by cases d <;> exact h)) (by kernel_rfl) S4 (fun w' hS => ?_) ?_
      rotate_left
      focus (have q0 := SRun.fc w' hS; have q1 := SRun.f0 w' hS; have q2 := SRun.fl w' hS; clear hS; go_simp; try rfl; done)
      simp only [List.getElem_toArray, List.getElem_cons_succ, List.getElem_cons_zero, Act.put, List.setIfInBounds_toArray, List.set_cons_zero, List.set_cons_succ]
      refine hd_take (v := ?_) 2 rfl (by kernel_rfl) (fun _ _ d _ _ h => (by cases d <;> exact h)) (by kernel_rfl) S4 (fun w' hS => ?_) ?_
      rotate_left
      focus (have q0 := SRun.fc w' hS; have q1 := SRun.f0 w' hS; have q2 := SRun.fl w' hS; clear hS; go_simp; try rfl; done)
      simp only [List.getElem_toArray, List.getElem_cons_succ, List.getElem_cons_zero, Act.put, List.setIfInBounds_toArray, List.set_cons_zero, List.set_cons_succ]
      refine hd_take (v := ?_) 3 rfl (by kernel_rfl) (fun _ _ d _ _ h => (by cases d <;> exact h)) (by kernel_rfl) S4 (fun w' hS => ?_) ?_
      rotate_left
      focus (have q0 := SRun.fc w' hS; have q1 := SRun.f0 w' hS; have q2 := SRun.fl w' hS; clear hS; go_simp; try rfl; done)
      simp only [List.getElem_toArray, List.getElem_cons_succ, List.getElem_cons_zero, Act.put, List.setIfInBounds_toArray, List.set_cons_zero, List.set_cons_succ]
      refine hd_take (v := ?_) 4 rfl (by kernel_rfl) (fun _ _ d _ _ h => (by cases d <;> exact h)) (by kernel_rfl) S4 (fun w' hS => ?_) ?_
      rotate_left
      focus (have q0 := SRun.fc w' hS; have q1 := SRun.f0 w' hS; have q2 := SRun.fl w' hS; clear hS; go_simp; try rfl; done)
      simp only [List.getElem_toArray, List.getElem_cons_succ, List.getElem_cons_zero, Act.put, List.setIfInBounds_toArray, List.set_cons_zero, List.set_cons_succ]
      refine hd_take (v := ?_) 5 rfl (by kernel_rfl) (fun _ _ d _ _ h => (by cases d <;> exact h)) (by kernel_rfl) S4 (fun w' hS => ?_) ?_
      rotate_left
      focus (have q0 := SRun.fc w' hS; have q1 := SRun.f0 w' hS; have q2 := SRun.fl w' hS; clear hS; go_simp; try rfl; done)
      simp only [List.getElem_toArray, List.getElem_cons_succ, List.getElem_cons_zero, Act.put, List.setIfInBounds_toArray, List.set_cons_zero, List.set_cons_succ]
      refine hd_take (v := ?_) 6 rfl (by kernel_rfl) (fun _ _ d _ _ h => (by cases d <;> exact h)) (by kernel_rfl) S4 (fun w' hS => ?_) ?_
      rotate_left
      focus (have q0 := SRun.fc w' hS; have q1 := SRun.f0 w' hS; have q2 := SRun.fl w' hS; clear hS; go_simp; try rfl; done)
      simp only [List.getElem_toArray, List.getElem_cons_succ, List.getElem_cons_zero, Act.put, List.setIfInBounds_toArray, List.set_cons_zero, List.set_cons_succ]
      refine hd_take (v := ?_) 7 rfl (by kernel_rfl) (fun _ _ d _ _ h => (by cases d <;> exact h)) (by kernel_rfl) S4 (fun w' hS => ?_) ?_
      rotate_left
      focus (have q0 := SRun.fc w' hS; have q1 := SRun.f0 w' hS; have q2 := SRun.fl w' hS; clear hS; go_simp; try rfl; done)
      simp only [List.getElem_toArray, List.getElem_cons_succ, List.getElem_cons_zero, Act.put, List.setIfInBounds_toArray, List.set_cons_zero, List.set_cons_succ]
      refine hd_take (v := ?_) 8 rfl (by kernel_rfl) (fun _ _ d _ _ h => (by cases d <;> exact h)) (by kernel_rfl) S4 (fun w' hS => ?_) ?_
      rotate_left
      focus (have q0 := SRun.fc w' hS; have q1 := SRun.f0 w' hS; have q2 := SRun.fl w' hS; clear hS; go_simp; try rfl; done)
      simp only [List.getElem_toArray, List.getElem_cons_succ, List.getElem_cons_zero, Act.put, List.setIfInBounds_toArray, List.set_cons_zero, List.set_cons_succ]
      refine hd_take (v := ?_) 9 rfl (by kernel_rfl) (fun _ _ d _ _ h => (by cases d <;> exact h)) (by kernel_rfl) S4 (fun w' hS => ?_) ?_
      rotate_left
      focus (have q0 := SRun.fc w' hS; have q1 := SRun.f0 w' hS; have q2 := SRun.fl w' hS; clear hS; go_simp; try rfl; done)
      simp only [List.getElem_toArray, List.getElem_cons_succ, List.getElem_cons_zero, Act.put, List.setIfInBounds_toArray, List.set_cons_zero, List.set_cons_succ]
      have h5 := H4.out.newK 68 #[.func (.func fc) #[] #[], .func (.func fo) #[] #[]]
      have h5z := H4.out.newK 68 #[.nilFunc, .nilFunc]
      have S5z := HSR.out _ _ _ _ HKV.out.1 HKV.out.2 h5z
      have S5 := HSR.out _ _ _ _ HKV.out.1 HKV.out.2 h5
      refine hd_one 10 (by kernel_rfl) ?_
      refine op_run rfl (by kernel_rfl) (by go_simp; first | done | exact ⟨rfl, rfl⟩ | rfl) ?_
      refine ⟨S5z, ?_⟩
      simp only [List.getElem_toArray, List.getElem_cons_succ, List.getElem_cons_zero, Act.put, List.setIfInBounds_toArray, List.set_cons_zero, List.set_cons_succ]
      refine hd_one 11 (by kernel_rfl) ?_
      refine op_skip rfl (by kernel_rfl) (by go_simp; first | done | rfl) ?_
      refine ⟨S5, ?_⟩
      simp only [List.getElem_toArray, List.getElem_cons_succ, List.getElem_cons_zero, Act.put, List.setIfInBounds_toArray, List.set_cons_zero, List.set_cons_succ]
      refine hd_take (v := ?_) 12 rfl (by kernel_rfl) (fun _ _ d _ _ h => (by cases d <;> exact h)) (by kernel_rfl) S5 (fun w' hS => ?_) ?_
      rotate_left
      focus (clear hS; go_simp; try rfl; done)
      simp only [List.getElem_toArray, List.getElem_cons_succ, List.getElem_cons_zero, Act.put, List.setIfInBounds_toArray, List.set_cons_zero, List.set_cons_succ]
      refine hd_done (by kernel_rfl) ?_
      clear S4 S5 S5z h5z H4
      obtain ⟨B2, hB2⟩ : ∃ y, w4.heap.size = y := ⟨_, rfl⟩
      obtain ⟨w5, hw5⟩ : ∃ y, w4.alloc (.cells #[.func (.func fc) #[] #[], .func (.func fo) #[] #[]] 68) = y := ⟨_, rfl⟩
      rw [hw5, hB2] at h5
      try rw [hw5]
      try rw [hB2]
      clear hw5 hB2
      obtain ⟨M5, hM5⟩ : ∃ y, M3 ++ [obK B2 68 #[.func (.func fc) #[] #[], .func (.func fo) #[] #[]]] = y := ⟨_, rfl⟩
      have hm3 : M3.length = obs.length + 2 := HLN.out
      have L5 : Hid (M5[i]? = some (obPub p m k σ) ∧ M5[obs.length]? = some (obK B 40 (skCells s)) ∧ M5[obs.length + 1]? = some (obP q (some (noteL [] 11 s.kind 1)))) := by rw [← hM5]; exact Lib.hid ⟨atL L3.out.1, atL L3.out.2.1, atL L3.out.2.2⟩
      have J5 : Hid (M5[obs.length + 2]? = some (obK B2 68 #[.func (.func fc) #[] #[], .func (.func fo) #[] #[]])) := by rw [← hM5, ← hm3]; exact Lib.hid (atR 0)
      have P5 : Hid (Pre M5 obs) := by
        rw [← hM5]
        exact Lib.hid (fun j hj => by rw [List.getElem?_append_left (by omega)]; exact P3.out j hj)
      rw [hM5] at h5
      have H5 := Lib.hid h5
      clear h5 hM5 hm3
      have kb := H5.out.blk (obs.length + 2) J5.out
      have k0 := kb.cellAt 0 rfl
      have k1 := kb.cellAt 1 rfl
      clear kb
      have sc := H5.out.sc i obs.length L5.out.1 L5.out.2.1 HS.out.ha
      have b0 := sc.b0
      have b1 := sc.b1
      have b2 := sc.b2
      have b3 := sc.b3
      have b4 := sc.b4
      have b5 := sc.b5
      have b6 := sc.b6
      clear sc
      go_wp2_with fail
      clear b0 b1 b2 b3 b4 b5 b6
      clear k0 k1
      have hca := code_all (H5.out.pub i L5.out.1) kn HKK.out s HKN.out HS.out.ha
      rw [HF.out.1] at hca
      refine hca.mono ?_
      rintro e w6 ⟨rfl, hb⟩
      have H6 := Lib.hid (H5.out.below hb)
      clear hb
      by_cases hc : codeS σ s = 0
      · have HCZ := Lib.hid hc
        rw [hc]
        clear hc
        have kb := H6.out.blk (obs.length + 2) J5.out
        have k0 := kb.cellAt 0 rfl
        have k1 := kb.cellAt 1 rfl
        clear kb
        have sc := H6.out.sc i obs.length L5.out.1 L5.out.2.1 HS.out.ha
        have b0 := sc.b0
        have b1 := sc.b1
        have b2 := sc.b2
        have b3 := sc.b3
        have b4 := sc.b4
        have b5 := sc.b5
        have b6 := sc.b6
        clear sc
        go_wp2_with fail
        clear b0 b1 b2 b3 b4 b5 b6
        clear k0 k1
        have hda := do_all H6.out i (obs.length + 1) (by omega) L5.out.1 L5.out.2.2 kn HKK.out s HKN.out HS.out.ha HOK.out hmm hd0.1 hd0.2 HCZ.out (cb := 1) (RB_one ⟨11, s.kind, 1⟩ (Int.le_refl 1)) (by omega)
        rw [HF.out.2] at hda
        refine hda.mono ?_
        rintro e w7 ⟨rfl, h7⟩
        obtain ⟨rs, hrs⟩ : ∃ rs, (evS σ s).foldl timesN (noteL [] 11 s.kind 1) = rs := ⟨_, rfl⟩
        rw [hrs] at h7
        have hrb : RB 120000001 rs := by
          rw [← hrs]
          have h1 := RB.all (l := evS σ s) (RB_one ⟨11, s.kind, 1⟩ (Int.le_refl 1)) (events_ok HOK.out hd0.1 hd0.2 HCZ.out).1
          have h2 := evS_len σ s
          exact ⟨by have := h1.1; show tot ((evS σ s).foldl timesN [⟨11, s.kind, 1⟩]) ≤ _; omega, by have := h1.2; show ((((evS σ s).foldl timesN [⟨11, s.kind, 1⟩]).length : Nat) : Int) ≤ _; omega⟩
        obtain ⟨σ', hσ⟩ : ∃ y, nxS σ s = y := ⟨_, rfl⟩
        rw [hσ] at h7
        have HRS := Lib.hid (And.intro hrs (And.intro hσ hrb))
        obtain ⟨M7, hM7⟩ : ∃ y, (M5.set (obs.length + 1) (obP q (some rs))).set i (obPub p m k σ') = y := ⟨_, rfl⟩
        have L7 : Hid (M7[i]? = some (obPub p m k σ') ∧ True ∧ M7[obs.length + 1]? = some (obP q (some rs))) := by
          rw [← hM7]
          exact Lib.hid ⟨List.getElem?_set_self (by rw [List.length_set]; exact (List.getElem?_eq_some_iff.1 L5.out.1).1), trivial, by rw [List.getElem?_set_ne (by omega)]; exact List.getElem?_set_self (List.getElem?_eq_some_iff.1 L5.out.2.2).1⟩
        have P7 : Hid (Pre M7 (obs.set i (obPub p m k σ'))) := by
          rw [← hM7]
          exact Lib.hid ((P5.out.far (obs.length + 1) (by omega) _).set i hil1 _)
        rw [hM7] at h7
        have H7 := Lib.hid h7
        clear h7 hM7 hrs hσ hrb H6
        go_wp2_with fail
        refine (noteS_env H7.out (obs.length + 1) L7.out.2.2 12 0 HRS.out.2.2 (by omega)).mono ?_
        rintro e w20 ⟨rfl, h20⟩
        have H20 := Lib.hid h20
        clear h20
        go_wp2_with fail
        refine (runsP_env' H20.out (obs.length + 1) (List.getElem?_set_self (List.getElem?_eq_some_iff.1 L7.out.2.2).1) (by have := noteL_len1 rs 12 0 1; have := HRS.out.2.2.2; show (timesN rs ⟨12, 0, 1⟩).length ≤ _; unfold timesN; simp only; split <;> omega)).mono ?_
        rintro e w21 ⟨v, rfl, h21⟩
        have H21 := Lib.hid h21
        clear h21
        go_wp2_with fail
        go_ret2
        refine ⟨v, by rw [HC.out.1, HCZ.out]; rfl, ?_⟩
        rw [HC.out.2.1, HC.out.2.2, HCZ.out, if_pos rfl, if_pos rfl, HRS.out.1, HRS.out.2.1]
        have e9 := P7.out.far (obs.length + 1) (by rw [List.length_set]; omega) (obP q (some (timesN rs ⟨12, 0, 1⟩)))
        exact closeRun H21.out e9 rfl rfl
      · obtain ⟨cc, hcc⟩ : ∃ y, codeS σ s = y := ⟨_, rfl⟩
        rw [hcc] at hc ⊢
        have HCC := Lib.hid (And.intro hcc hc)
        have qc : (cc == (0 : Int)) = false := by rw [beq_eq_false_iff_ne]; exact hc
        clear hcc hc
        go_wp2_with fail
        refine (noteS_env H6.out (obs.length + 1) L5.out.2.2 12 cc (RB_one ⟨11, s.kind, 1⟩ (Int.le_refl 1)) (by omega)).mono ?_
        rintro e w20 ⟨rfl, h20⟩
        have H20 := Lib.hid h20
        clear h20
        go_wp2_with fail
        refine (runsP_env' H20.out (obs.length + 1) (List.getElem?_set_self (List.getElem?_eq_some_iff.1 L5.out.2.2).1) (by first | (simp [timesN, noteL]; done) | (simp [timesN, noteL]; omega) | (show (noteL (noteL [] 11 s.kind 1) 12 cc 1).length ≤ _; have := noteL_len1 (noteL [] 11 s.kind 1) 12 (cc) 1; have : (noteL [] 11 s.kind 1).length = 1 := rfl; omega))).mono ?_
        rintro e w21 ⟨v, rfl, h21⟩
        have H21 := Lib.hid h21
        clear h21
        go_wp2_with fail
        go_ret2
        refine ⟨v, by rw [HC.out.1, HCC.out.1]; rfl, ?_⟩
        rw [HC.out.2.1, HC.out.2.2, HCC.out.1, if_neg HCC.out.2, if_neg HCC.out.2]
        have e9 := P5.out.far (obs.length + 1) (by omega) (obP q (some (timesN (noteL [] 11 s.kind 1) ⟨12, cc, 1⟩)))
        exact closeRun H21.out e9 (setIs _ _ _ HI.out) rfl
    · have hkn := HKN.out
      have hz : codeS σ s = 3 := by
        unfold codeS
        rw [if_neg (by omega), if_neg (by omega), if_neg (by omega), if_neg (by omega), if_neg (by omega), if_neg (by omega), if_neg (by omega), if_neg (by omega), if_neg (by omega), if_neg (by omega)]
      have HZ := Lib.hid hz
      have hkv : (Value.agg #[.nilFunc, .nilFunc]) = kdV (if 1 ≤ kn ∧ kn ≤ 10 then kn else 0) := by rw [if_neg hk]; rfl
      have his : false = decide (1 ≤ kn ∧ kn ≤ 10) := (decide_eq_false hk).symm
      have HKV := Lib.hid (And.intro hkv his)
      clear hz hkv his hk hkn
      refine hd_start (SRun p k B s.kind (.agg #[.nilFunc, .nilFunc]) false) (by kernel_rfl) ?_
      intro w4 hw'
      have H4 := Lib.hid (H3.out.draw 1)
      rw [← hw'] at H4
      clear hw' H3
      have S4 := HSR.out _ _ w4 [] HKV.out.1 HKV.out.2 (by rw [List.append_nil]; exact H4.out)
      refine hd_take (v := ?_) 0 rfl (by kernel_rfl) (fun _ _ d _ _ h => (by cases d <;> exact h)) (by kernel_rfl) S4 (fun w' hS => ?_) ?_
      rotate_left
      focus (have q0 := SRun.fc w' hS; have q1 := SRun.f0 w' hS; have q2 := SRun.fl w' hS; clear hS; go_simp; try rfl; done)
      simp only [List.getElem_toArray, List.getElem_cons_succ, List.getElem_cons_zero, Act.put, List.setIfInBounds_toArray, List.set_cons_zero, List.set_cons_succ]
      refine hd_take (v := ?_) 1 rfl (by kernel_rfl) (fun _ _ d _ _ h => (by cases d <;> exact h)) (by kernel_rfl) S4 (fun w' hS => ?_) ?_
      rotate_left
      focus (have q0 := SRun.fc w' hS; have q1 := SRun.f0 w' hS; have q2 := SRun.fl w' hS; clear hS; go_simp; try rfl; done)
      simp only [List.getElem_toArray, List.getElem_cons_succ, List.getElem_cons_zero, Act.put, List.setIfInBounds_toArray, List.set_cons_zero, List.set_cons_succ]
      refine hd_take (v := ?_) 2 rfl (by kernel_rfl) (fun _ _ d _ _ h => (by cases d <;> exact h)) (by kernel_rfl) S4 (fun w' hS => ?_) ?_
      rotate_left
      focus (have q0 := SRun.fc w' hS; have q1 := SRun.f0 w' hS; have q2 := SRun.fl w' hS; clear hS; go_simp; try rfl; done)
      simp only [List.getElem_toArray, List.getElem_cons_succ, List.getElem_cons_zero, Act.put, List.setIfInBounds_toArray, List.set_cons_zero, List.set_cons_succ]
      refine hd_take (v := ?_) 3 rfl (by kernel_rfl) (fun _ _ d _ _ h => (by cases d <;> exact h)) (by kernel_rfl) S4 (fun w' hS => ?_) ?_
      rotate_left
      focus (have q0 := SRun.fc w' hS; have q1 := SRun.f0 w' hS; have q2 := SRun.fl w' hS; clear hS; go_simp; try rfl; done)
      simp only [List.getElem_toArray, List.getElem_cons_succ, List.getElem_cons_zero, Act.put, List.setIfInBounds_toArray, List.set_cons_zero, List.set_cons_succ]
      refine hd_take (v := ?_) 4 rfl (by kernel_rfl) (fun _ _ d _ _ h => (by cases d <;> exact h)) (by kernel_rfl) S4 (fun w' hS => ?_) ?_
      rotate_left
      focus (have q0 := SRun.fc w' hS; have q1 := SRun.f0 w' hS; have q2 := SRun.fl w' hS; clear hS; go_simp; try rfl; done)
      simp only [List.getElem_toArray, List.getElem_cons_succ, List.getElem_cons_zero, Act.put, List.setIfInBounds_toArray, List.set_cons_zero, List.set_cons_succ]
      refine hd_take (v := ?_) 5 rfl (by kernel_rfl) (fun _ _ d _ _ h => (by cases d <;> exact h)) (by kernel_rfl) S4 (fun w' hS => ?_) ?_
      rotate_left
      focus (have q0 := SRun.fc w' hS; have q1 := SRun.f0 w' hS; have q2 := SRun.fl w' hS; clear hS; go_simp; try rfl; done)
      simp only [List.getElem_toArray, List.getElem_cons_succ, List.getElem_cons_zero, Act.put, List.setIfInBounds_toArray, List.set_cons_zero, List.set_cons_succ]
      refine hd_take (v := ?_) 6 rfl (by kernel_rfl) (fun _ _ d _ _ h => (by cases d <;> exact h)) (by kernel_rfl) S4 (fun w' hS => ?_) ?_
      rotate_left
      focus (have q0 := SRun.fc w' hS; have q1 := SRun.f0 w' hS; have q2 := SRun.fl w' hS; clear hS; go_simp; try rfl; done)
      simp only [List.getElem_toArray, List.getElem_cons_succ, List.getElem_cons_zero, Act.put, List.setIfInBounds_toArray, List.set_cons_zero, List.set_cons_succ]
      refine hd_take (v := ?_) 7 rfl (by kernel_rfl) (fun _ _ d _ _ h => (by cases d <;> exact h)) (by kernel_rfl) S4 (fun w' hS => ?_) ?_
      rotate_left
      focus (have q0 := SRun.fc w' hS; have q1 := SRun.f0 w' hS; have q2 := SRun.fl w' hS; clear hS; go_simp; try rfl; done)
      simp only [List.getElem_toArray, List.getElem_cons_succ, List.getElem_cons_zero, Act.put, List.setIfInBounds_toArray, List.set_cons_zero, List.set_cons_succ]
      refine hd_take (v := ?_) 8 rfl (by kernel_rfl) (fun _ _ d _ _ h => (by cases d <;> exact h)) (by kernel_rfl) S4 (fun w' hS => ?_) ?_
      rotate_left
      focus (have q0 := SRun.fc w' hS; have q1 := SRun.f0 w' hS; have q2 := SRun.fl w' hS; clear hS; go_simp; try rfl; done)
      simp only [List.getElem_toArray, List.getElem_cons_succ, List.getElem_cons_zero, Act.put, List.setIfInBounds_toArray, List.set_cons_zero, List.set_cons_succ]
      refine hd_take (v := ?_) 9 rfl (by kernel_rfl) (fun _ _ d _ _ h => (by cases d <;> exact h)) (by kernel_rfl) S4 (fun w' hS => ?_) ?_
      rotate_left
      focus (have q0 := SRun.fc w' hS; have q1 := SRun.f0 w' hS; have q2 := SRun.fl w' hS; clear hS; go_simp; try rfl; done)
      simp only [List.getElem_toArray, List.getElem_cons_succ, List.getElem_cons_zero, Act.put, List.setIfInBounds_toArray, List.set_cons_zero, List.set_cons_succ]
      have h5 := H4.out.newK 68 #[.nilFunc, .nilFunc]
      have S5 := HSR.out _ _ _ _ HKV.out.1 HKV.out.2 h5
      refine hd_one 10 (by kernel_rfl) ?_
      refine op_run rfl (by kernel_rfl) (by go_simp; first | done | exact ⟨rfl, rfl⟩ | rfl) ?_
      refine ⟨S5, ?_⟩
      simp only [List.getElem_toArray, List.getElem_cons_succ, List.getElem_cons_zero, Act.put, List.setIfInBounds_toArray, List.set_cons_zero, List.set_cons_succ]
      refine hd_one 11 (by kernel_rfl) ?_
      refine op_skip rfl (by kernel_rfl) (by go_simp; first | done | rfl) ?_
      refine ⟨S5, ?_⟩
      simp only [List.getElem_toArray, List.getElem_cons_succ, List.getElem_cons_zero, Act.put, List.setIfInBounds_toArray, List.set_cons_zero, List.set_cons_succ]
      refine hd_take (v := ?_) 12 rfl (by kernel_rfl) (fun _ _ d _ _ h => (by cases d <;> exact h)) (by kernel_rfl) S5 (fun w' hS => ?_) ?_
      rotate_left
      focus (clear hS; go_simp; try rfl; done)
      simp only [List.getElem_toArray, List.getElem_cons_succ, List.getElem_cons_zero, Act.put, List.setIfInBounds_toArray, List.set_cons_zero, List.set_cons_succ]
      refine hd_done (by kernel_rfl) ?_
      have H5 : Hid (Env w0 (w4.alloc (.cells #[.nilFunc, .nilFunc] 68)) M3) := Lib.hid h5.keepL
      clear S4 S5 h5 H4
      go_wp2_with fail
      refine (noteS_env H5.out (obs.length + 1) L3.out.2.2 12 3 (RB_one ⟨11, s.kind, 1⟩ (Int.le_refl 1)) (by omega)).mono ?_
      rintro e w20 ⟨rfl, h20⟩
      have H20 := Lib.hid h20
      clear h20
      go_wp2_with fail
      refine (runsP_env' H20.out (obs.length + 1) (List.getElem?_set_self (List.getElem?_eq_some_iff.1 L3.out.2.2).1) (by first | (simp [timesN, noteL]; done) | (simp [timesN, noteL]; omega) | (show (noteL (noteL [] 11 s.kind 1) 12 3 1).length ≤ _; have := noteL_len1 (noteL [] 11 s.kind 1) 12 (3) 1; have : (noteL [] 11 s.kind 1).length = 1 := rfl; omega))).mono ?_
      rintro e w21 ⟨v, rfl, h21⟩
      have H21 := Lib.hid h21
      clear h21
      go_wp2_with fail
      go_ret2
      refine ⟨v, by rw [HC.out.1, HZ.out]; rfl, ?_⟩
      rw [HC.out.2.1, HC.out.2.2, HZ.out]
      have e9 := P3.out.far (obs.length + 1) (by omega) (obP q (some (timesN (noteL [] 11 s.kind 1) ⟨12, 3, 1⟩)))
      exact closeRun H21.out e9 (by rw [if_neg (by decide)]; exact setIs _ _ _ HI.out) rfl

end
end Go.Proofs.YtkidijjhedjifaaGreat
/- A list of lists as ONE thing of a law's world: its row, and each list's own row, all apart. It takes in a list that was a thing of its own; in the end it falls into its parts. No program in sight. -/
namespace Go.Proofs.YtkidijjhedjifaaGreat
open Go.RowKit
set_option maxRecDepth 100000
set_option linter.unusedVariables false
set_option linter.unusedSimpArgs false

/-- one list: its value, how many elements, its cells -/
structure Mem1 where
  v : Value
  n : Nat
  cs : List Value
section
variable (st e : TypeId) (sz : Nat)
structure LLat (w : World) (u : Value) (vs : List Value) (es : List Mem1) : Prop where
  row : w.ownsRow 0 st 1 u vs.length vs
  mem : ∀ (j : Nat) (p : Mem1), es[j]? = some p → w.ownsRow 0 e sz p.v p.n p.cs
  out : ∀ (j : Nat) (p : Mem1), es[j]? = some p → ∀ x, fpv p.v x → ¬ fpv u x
  two : ∀ (i j : Nat) (p q : Mem1), i ≠ j → es[i]? = some p → es[j]? = some q → ∀ x, fpv p.v x → ¬ fpv q.v x
def llF (u : Value) (es : List Mem1) : Nat → Prop := fun x => fpv u x ∨ ∃ (j : Nat) (p : Mem1), es[j]? = some p ∧ fpv p.v x
def obLL (u : Value) (vs : List Value) (es : List Mem1) : Ob where
  at' w F := LLat st e sz w u vs es ∧ F = llF u es
  keep h ho hd := by
    obtain ⟨h, rfl⟩ := h
    exact ⟨⟨ownsRow_keep h.row ho fun x hx => hd x (.inl hx), fun j p hp => ownsRow_keep (h.mem j p hp) ho fun x hx => hd x (.inr ⟨j, p, hp, hx⟩), h.out, h.two⟩, rfl⟩
  lt h := by
    obtain ⟨h, rfl⟩ := h
    rintro x (hx | ⟨j, p, hp, hx⟩)
    · exact (World.ownsRow.lt h.row x hx).2
    · exact (World.ownsRow.lt (h.mem j p hp) x hx).2
variable {st e sz}
theorem Env.ll {w0 w : World} {obs : List Ob} (h : Env w0 w obs) (i : Nat) {u : Value} {vs : List Value} {es : List Mem1} (hi : obs[i]? = some (obLL st e sz u vs es)) : LLat st e sz w u vs es := by
  obtain ⟨F, h1, _⟩ := h.get i hi
  exact h1.1
theorem Env.llNil {w0 w : World} {obs : List Ob} (h : Env w0 w obs) : Env w0 w (obs ++ [obLL st e sz (.slice none 0 0) [] []]) :=
  h.push (F' := llF (.slice none 0 0) []) _ ⟨⟨World.ownsRow_nil w 0 st 1, fun j p hp => by simp at hp, fun j p hp => by simp at hp, fun i j p q _ hp => by simp at hp⟩, rfl⟩ (Below.refl _ _) (fun x hx => by
    rcases hx with hx | ⟨j, p, hp, _⟩
    · simp [fpv, Value.ownBlock] at hx
    · simp at hp)
/-- two things become one (the second is the last) -/
theorem Env.merge {w0 w : World} {obs : List Ob} {ob2 : Ob} (h : Env w0 w (obs ++ [ob2])) (i : Nat) {ob1 : Ob} (hi : obs[i]? = some ob1) (ob3 : Ob)
    (hm : ∀ F1 F2, ob1.at' w F1 → ob2.at' w F2 → (∀ x, F1 x → ¬ F2 x) → ob3.at' w (fun x => F1 x ∨ F2 x)) : Env w0 w (obs.set i ob3) := by
  obtain ⟨own, hs, ho⟩ := h
  have hil : i < obs.length := (List.getElem?_eq_some_iff.1 hi).1
  obtain ⟨F1, a1, b1⟩ := ho i ob1 (by rw [List.getElem?_append_left hil]; exact hi)
  obtain ⟨F2, a2, b2⟩ := ho obs.length ob2 (by simp)
  refine ⟨fun x => if own x = obs.length + 1 then i + 1 else own x, ⟨hs.1, fun x hx => ?_⟩, fun j ob hj => ?_⟩
  · have := hs.2 x hx
    show (if own x = obs.length + 1 then i + 1 else own x) = 0
    rw [this, if_neg (by omega)]
  · by_cases hji : j = i
    · subst hji
      rw [List.getElem?_set_self hil] at hj
      injection hj with hj
      subst hj
      refine ⟨_, hm F1 F2 a1 a2 (fun x h1 h2 => ?_), fun x hx => ?_⟩
      · have := (b1 x h1).1
        have := (b2 x h2).1
        omega
      · rcases hx with hx | hx
        · refine ⟨?_, (b1 x hx).2⟩
          show (if own x = obs.length + 1 then j + 1 else own x) = j + 1
          rw [(b1 x hx).1, if_neg (by omega)]
        · refine ⟨?_, (b2 x hx).2⟩
          show (if own x = obs.length + 1 then j + 1 else own x) = j + 1
          rw [(b2 x hx).1, if_pos rfl]
    · rw [List.getElem?_set_ne (by omega)] at hj
      have hjl : j < obs.length := (List.getElem?_eq_some_iff.1 hj).1
      obtain ⟨F, c1, c2⟩ := ho j ob (by rw [List.getElem?_append_left hjl]; exact hj)
      refine ⟨F, c1, fun x hx => ⟨?_, (c2 x hx).2⟩⟩
      show (if own x = obs.length + 1 then i + 1 else own x) = j + 1
      rw [(c2 x hx).1, if_neg (by omega)]
theorem llF_add (u : Value) (es : List Mem1) (m : Mem1) : (fun x => llF u es x ∨ fpv m.v x) = llF u (es ++ [m]) := by
  funext x
  apply propext
  constructor
  · rintro ((hx | ⟨j, p, hp, hx⟩) | hx)
    · exact .inl hx
    · exact .inr ⟨j, p, by rw [List.getElem?_append_left (List.getElem?_eq_some_iff.1 hp).1]; exact hp, hx⟩
    · exact .inr ⟨es.length, m, by simp, hx⟩
  · rintro (hx | ⟨j, p, hp, hx⟩)
    · exact .inl (.inl hx)
    · rcases Nat.lt_or_ge j es.length with hj | hj
      · rw [List.getElem?_append_left hj] at hp
        exact .inl (.inr ⟨j, p, hp, hx⟩)
      · rw [List.getElem?_append_right hj] at hp
        rcases hk : j - es.length with _ | k
        · rw [hk] at hp
          simp at hp
          subst hp
          exact .inr hx
        · rw [hk] at hp
          simp at hp
theorem add_get (es : List Mem1) (m : Mem1) (j : Nat) (p : Mem1) (h : (es ++ [m])[j]? = some p) : (j < es.length ∧ es[j]? = some p) ∨ (j = es.length ∧ p = m) := by
  rcases Nat.lt_or_ge j es.length with hj | hj
  · rw [List.getElem?_append_left hj] at h
    exact .inl ⟨hj, h⟩
  · rw [List.getElem?_append_right hj] at h
    rcases hk : j - es.length with _ | k
    · rw [hk] at h
      simp at h
      exact .inr ⟨by omega, h.symm⟩
    · rw [hk] at h
      simp at h
/-- the last thing is taken in; the row is not yet written -/
theorem Env.llIn {w0 w : World} {obs : List Ob} {v : Value} {n : Nat} {cs : List Value} (h : Env w0 w (obs ++ [obE e sz v n cs])) (i : Nat) {u : Value} {vs : List Value} {es : List Mem1} (hi : obs[i]? = some (obLL st e sz u vs es)) :
    Env w0 w (obs.set i (obLL st e sz u vs (es ++ [⟨v, n, cs⟩]))) := by
  refine h.merge i hi _ ?_
  rintro F1 F2 ⟨h1, rfl⟩ ⟨h2, rfl⟩ hd
  refine ⟨⟨h1.row, fun j p hp => ?_, fun j p hp x hx => ?_, fun a b p q hab hp hq x hx => ?_⟩, llF_add u es ⟨v, n, cs⟩⟩
  · rcases add_get _ _ _ _ hp with ⟨_, hp⟩ | ⟨_, rfl⟩
    · exact h1.mem j p hp
    · exact h2
  · rcases add_get _ _ _ _ hp with ⟨_, hp⟩ | ⟨_, rfl⟩
    · exact h1.out j p hp x hx
    · exact fun hu => hd x (.inl hu) hx
  · rcases add_get _ _ _ _ hp with ⟨_, hp⟩ | ⟨e1, rfl⟩
    · rcases add_get _ _ _ _ hq with ⟨_, hq⟩ | ⟨e2, rfl⟩
      · exact h1.two a b p q hab hp hq x hx
      · exact hd x (.inr ⟨a, p, hp, hx⟩)
    · rcases add_get _ _ _ _ hq with ⟨_, hq⟩ | ⟨e2, rfl⟩
      · exact fun hx2 => hd x (.inr ⟨b, q, hq, hx2⟩) hx
      · exact absurd (e1.trans e2.symm) hab
/-- the row is written on -/
theorem Env.llRow {w0 w w' : World} {obs : List Ob} (h : Env w0 w obs) (i : Nat) {u u' : Value} {vs vs' : List Value} {es : List Mem1} (hi : obs[i]? = some (obLL st e sz u vs es))
    (hown : w'.ownsRow 0 st 1 u' vs'.length vs') (hg : w.grownBy w' u.ownBlock) (hat : u'.ownBlock = u.ownBlock ∨ u'.ownBlock = some w.heap.size) : Env w0 w' (obs.set i (obLL st e sz u' vs' es)) := by
  obtain ⟨F, ⟨h1, rfl⟩, h2, h3, h4⟩ := h.get i hi
  have ho : Only (fpv u) w w' := Only.grown (Only.refl _ w) hg (fun k hk => .inl hk)
  have hu : ∀ x, fpv u' x → fpv u x ∨ w.heap.size ≤ x := by
    intro x hx
    have hx' : u'.ownBlock = some x := hx
    rcases hat with hat | hat
    · rw [hat] at hx'
      exact .inl hx'
    · rw [hat] at hx'
      injection hx' with hx'
      exact .inr (by omega)
  refine h4 w' (llF u' es) (obLL st e sz u' vs' es) ⟨⟨hown, fun j p hp => ownsRow_keep (h1.mem j p hp) ho (h1.out j p hp), fun j p hp x hx hx2 => ?_, h1.two⟩, rfl⟩ (ho.mono fun x hx => .inl hx) (fun x hx => ?_)
  · rcases hu x hx2 with hx3 | hx3
    · exact h1.out j p hp x hx hx3
    · have := (World.ownsRow.lt (h1.mem j p hp) x hx).2
      omega
  · rcases hx with hx | hx
    · rcases hu x hx with hx | hx
      · exact .inl (.inl hx)
      · exact .inr hx
    · exact .inl (.inr hx)
open Classical in
/-- it falls into its parts -/
theorem Env.llOut {w0 w : World} {u : Value} {vs : List Value} {es : List Mem1} {rest : List Ob} (h : Env w0 w (obLL st e sz u vs es :: rest)) (T : Nat → Ob) (hT : ∀ (j : Nat) (p : Mem1), es[j]? = some p → T j = obE e sz p.v p.n p.cs) :
    Env w0 w (obE st 1 u vs.length vs :: ((List.range es.length).map T ++ rest)) := by
  obtain ⟨own, hs, ho⟩ := h
  obtain ⟨F, ⟨h1, hF⟩, hb⟩ := ho 0 _ rfl
  subst hF
  refine ⟨fun x => if own x = 0 then 0 else if own x = 1 then (if fpv u x then 1 else if hh : ∃ (j : Nat) (p : Mem1), es[j]? = some p ∧ fpv p.v x then Classical.choose hh + 2 else 0) else own x + es.length, ⟨hs.1, fun x hx => ?_⟩, fun k ob hk => ?_⟩
  · show (if own x = 0 then 0 else _) = 0
    rw [if_pos (hs.2 x hx)]
  · rcases k with _ | k
    · simp at hk
      subst hk
      refine ⟨fpv u, ⟨h1.row, rfl⟩, fun x hx => ⟨?_, (hb x (.inl hx)).2⟩⟩
      have e1 := (hb x (.inl hx)).1
      show (if own x = 0 then 0 else _) = 1
      rw [if_neg (by omega), if_pos (by omega), if_pos hx]
    · rw [List.getElem?_cons_succ] at hk
      rcases Nat.lt_or_ge k es.length with hkl | hkl
      · rw [List.getElem?_append_left (by simpa using hkl), List.getElem?_map, List.getElem?_range hkl] at hk
        simp at hk
        obtain ⟨p, hp⟩ : ∃ p, es[k]? = some p := ⟨_, List.getElem?_eq_getElem hkl⟩
        rw [hT k p hp] at hk
        subst hk
        refine ⟨fpv p.v, ⟨h1.mem k p hp, rfl⟩, fun x hx => ⟨?_, (hb x (.inr ⟨k, p, hp, hx⟩)).2⟩⟩
        have e1 := (hb x (.inr ⟨k, p, hp, hx⟩)).1
        have hh : ∃ (j : Nat) (p : Mem1), es[j]? = some p ∧ fpv p.v x := ⟨k, p, hp, hx⟩
        show (if own x = 0 then 0 else _) = k + 1 + 1
        rw [if_neg (by omega), if_pos (by omega), if_neg (h1.out k p hp x hx), dif_pos hh]
        obtain ⟨q, hq, hqx⟩ := Classical.choose_spec hh
        by_cases hjk : Classical.choose hh = k
        · rw [hjk]
        · exact absurd hqx (h1.two k _ p q (fun e => hjk e.symm) hp hq x hx)
      · rw [List.getElem?_append_right (by simpa using hkl)] at hk
        rw [List.length_map, List.length_range] at hk
        obtain ⟨F, c1, c2⟩ := ho (k - es.length + 1) ob (by rw [List.getElem?_cons_succ]; exact hk)
        refine ⟨F, c1, fun x hx => ⟨?_, (c2 x hx).2⟩⟩
        have e1 := (c2 x hx).1
        show (if own x = 0 then 0 else _) = k + 1 + 1
        rw [if_neg (by omega), if_neg (by omega)]
        omega
end
end Go.Proofs.YtkidijjhedjifaaGreat
/- Lists of runs that were told, kept in a list of lists: one thing of a law's world (obTR); another one behind, read one, all of them handed to ApartRuns. No statement's program in sight but the kit's ApartRuns. -/
namespace Go.Proofs.YtkidijjhedjifaaGreat
open Go.RowKit
set_option maxRecDepth 100000
set_option linter.unusedVariables false
set_option linter.unusedSimpArgs false

def mkMR (p : Value × List Rn) : Mem1 := ⟨p.1, p.2.length, KN.fl p.2⟩
def obTR (u : Value) (ts : List (Value × List Rn)) : Ob := obLL 33 76 3 u (ts.map (·.1)) (ts.map mkMR)
theorem obTR_form {w0 w : World} {obs : List Ob} (h : Env w0 w obs) (i : Nat) {u : Value} {ts : List (Value × List Rn)} (hi : obs[i]? = some (obTR u ts)) : ∃ ao cap, u = .slice ao ts.length cap ∧ ts.length ≤ cap ∧ cap ≤ 9223372036854775807 := by
  have hl := (h.ll i hi).row
  rw [List.length_map] at hl
  rcases hl.2 with ⟨rfl, h0⟩ | ⟨g, cap, cur, rfl, _, hg, hnc, hcm, _, htake⟩
  · exact ⟨none, 0, by rw [h0], by omega, by omega⟩
  · exact ⟨some ⟨g, 0, none⟩, cap, rfl, hnc, hcm⟩
/-- one list more, that was the last thing -/
theorem obTR_more {w0 w w' : World} {obs : List Ob} {v : Value} {l : List Rn} (h : Env w0 w (obs ++ [obRuns v l])) (hb : Below w.heap.size w w') (i : Nat) {u u' : Value} {ts : List (Value × List Rn)} (hi : obs[i]? = some (obTR u ts)) {w2 : World}
    (hown : w2.ownsRow 0 33 1 u' (ts.length + 1) (ts.map (·.1) ++ [v])) (hg : w'.grownBy w2 u.ownBlock) (hat : u'.ownBlock = u.ownBlock ∨ u'.ownBlock = some w'.heap.size) : Env w0 w2 (obs.set i (obTR u' (ts ++ [(v, l)]))) := by
  have h1 : Env w0 w (obs.set i (obLL 33 76 3 u (ts.map (·.1)) (ts.map mkMR ++ [mkMR (v, l)]))) := Env.llIn (e := 76) (sz := 3) (v := v) (n := l.length) (cs := KN.fl l) h i hi
  have hil : i < obs.length := (List.getElem?_eq_some_iff.1 hi).1
  have h2 := (h1.below hb).llRow i (u' := u') (vs' := ts.map (·.1) ++ [v]) (List.getElem?_set_self hil) (by rw [List.length_append, List.length_map, List.length_singleton]; exact hown) hg hat
  rw [List.set_set] at h2
  unfold obTR
  rw [List.map_append, List.map_append]
  exact h2
theorem one_sliceR {ao : Option Addr} {n c : Nat} : ∀ u ∈ [Value.slice ao n c], u.oneCell' = true := by
  intro u hu
  simp at hu
  subst hu
  rfl
theorem wpList_append_TR {w0 w1 : World} {obs : List Ob} {ao : Option Addr} {c : Nat} {l : List Rn} (h : Env w0 w1 (obs ++ [obRuns (.slice ao l.length c) l])) (i : Nat) {u : Value} {ts : List (Value × List Rn)} (hi : obs[i]? = some (obTR u ts)) {a : Act} {o : Oper} {Q : Exit → Act → World → Prop} {ops : Array Oper} {rest : List Oper}
    (s x : Operand) (hgd : o.guard = none) (ho : o.op = .call { callee := .builtin .append, args := #[s, x], argTypes := #[30, 30] }) (hs : a.eval s = u) (hx : a.eval x = .slice (some ⟨w1.heap.size, 0, none⟩) 1 1) (hn : ts.length ≤ 5000000000000)
    (kk : ∀ u' w', Env w0 w' (obs.set i (obTR u' (ts ++ [(.slice ao l.length c, l)]))) → wpList Tryz.prog ops Q rest (a.put o.dst u') w') : wpList Tryz.prog ops Q (o :: rest) a (w1.alloc (.cells #[.slice ao l.length c] 33)) := by
  obtain ⟨i0, hi0, hz0, hz1, hz2⟩ := info_parts infoNs
  have hb : Below w1.heap.size w1 (w1.alloc (.cells #[.slice ao l.length c] 33)) := (Below.refl _ _).alloc (Nat.le_refl _) _
  have hil : i < obs.length := (List.getElem?_eq_some_iff.1 hi).1
  have hi2 : (obs ++ [obRuns (.slice ao l.length c) l])[i]? = some (obTR u ts) := by rw [List.getElem?_append_left hil]; exact hi
  have hrow := ((h.below hb).ll i hi2).row
  rw [List.length_map] at hrow
  refine wpList_append_lies _ hgd s x 30 ho 0 33 i0 _ 1 24 Tryz.underlying30 hi0 hz0 hz1 hz2 rfl (by decide) u ts.length (ts.map (·.1)) hs hrow ⟨w1.heap.size, 0, none⟩ 1 1 [.slice ao l.length c] hx rfl (World.news_of_block (heap_alloc_new w1 (.cells #[.slice ao l.length c] 33))) one_sliceR (by decide) (by unfold maxLen; omega) (by omega) (Nat.zero_le _) _ rfl ?_
  intro g cap w' h1 h2 h3 h4
  exact kk _ _ (obTR_more h hb i hi h1 h2 (by
    rcases h3 with h3 | h3
    · exact .inl (by rw [h3]; rfl)
    · exact .inr (by rw [h3]; rfl)))
theorem obTR_get {w0 w : World} {obs : List Ob} (h : Env w0 w obs) (i : Nat) {u : Value} {ts : List (Value × List Rn)} (hi : obs[i]? = some (obTR u ts)) {j : Nat} {v : Value} {l : List Rn} (hj : ts[j]? = some (v, l)) : KN.R w v l := by
  have := (h.ll i hi).mem j (mkMR (v, l)) (by rw [List.getElem?_map, hj]; rfl)
  exact Knd.O.rd this
theorem obTR_cell {w0 w : World} {obs : List Ob} (h : Env w0 w obs) (i : Nat) {g n c : Nat} {ts : List (Value × List Rn)} (hi : obs[i]? = some (obTR (.slice (some ⟨g, 0, none⟩) n c) ts)) {j : Nat} {v : Value} {l : List Rn} (hj : ts[j]? = some (v, l)) : w.cell? ⟨g, j, none⟩ = some v := by
  have hr := (h.ll i hi).row
  rcases hr.2 with ⟨hv, _⟩ | ⟨g', cap', cur, hv, _⟩
  · cases hv
  · injection hv with _ e2 _
    have hn : n = ts.length := by rw [e2]; exact List.length_map _
    rw [← e2] at hr
    have hl : j < ts.length := (List.getElem?_eq_some_iff.1 hj).1
    rw [World.ownsRow.cellAt hr j (by omega), List.getElem?_map, hj]
    rfl
theorem obTR_slice {w0 w : World} {obs : List Ob} (h : Env w0 w obs) (i : Nat) {u : Value} {ts : List (Value × List Rn)} (hi : obs[i]? = some (obTR u ts)) (h0 : 0 < ts.length) : ∃ g c, u = .slice (some ⟨g, 0, none⟩) ts.length c ∧ ts.length ≤ c ∧ c ≤ 9223372036854775807 := by
  have hr := (h.ll i hi).row
  rw [List.length_map] at hr
  rcases hr.2 with ⟨_, hv⟩ | ⟨g', cap', cur, hv, _, _, h1, h2, _⟩
  · omega
  · exact ⟨g', cap', hv, h1, h2⟩
/-- all of them lie apart, and of other things -/
theorem apart_toldR {w0 w : World} {u : Value} {ts : List (Value × List Rn)} {rest : List Ob} (h : Env w0 w (obTR u ts :: rest)) (hs : ∀ p ∈ ts, p.2.length ≤ 5864062014799) (hl : ts.length ≤ 900000) :
    Calls Tryz.prog 13 #[u] w fun e w' => e = .returned (.bool true) ∧ Env w0 w' rest := by
  have h1 := h.llOut (fun j => obE 76 3 (Tv (ts.map (·.1)) j) ((ts[j]?.map (fun p => p.2.length)).getD 0) ((ts[j]?.map (fun p => KN.fl p.2)).getD [])) (by
    intro j p hp
    rw [List.getElem?_map] at hp
    rcases hq : ts[j]? with _ | q
    · rw [hq] at hp; cases hp
    · rw [hq] at hp
      injection hp with hp
      subst hp
      have e : Tv (ts.map (·.1)) j = q.1 := by unfold Tv; rw [List.getD_eq_getElem?_getD, List.getElem?_map, hq]; rfl
      rw [e]
      rfl)
  rw [show (ts.map mkMR).length = ts.length from List.length_map _, show (ts.map (·.1)).length = ts.length from List.length_map _] at h1
  refine apartRuns_any u (ts.map (·.1)) (fun j => (ts[j]?.map (fun p => p.2.length)).getD 0) (fun j => (ts[j]?.map (fun p => KN.fl p.2)).getD []) rest ?_ ?_ (by simpa using hl)
  · unfold AEnv
    have e : (ts.map (·.1)).length = ts.length := List.length_map _
    rw [e]
    exact h1
  · intro j hj
    have hj2 : j < ts.length := by simpa using hj
    have e : ts[j]? = some ts[j] := List.getElem?_eq_getElem hj2
    rw [e]
    exact hs _ (List.getElem_mem hj2)
end Go.Proofs.YtkidijjhedjifaaGreat
/- The kit's functions on lists (Codes). Conditions: a list and six more fit into 2^47 bytes. -/
namespace Go.Proofs.YtkidijjhedjifaaGreat
open Go.RowKit
set_option maxRecDepth 100000
set_option linter.unusedVariables false
set_option linter.unusedSimpArgs false
end Go.Proofs.YtkidijjhedjifaaGreat
/- Each, Codes, Runs: all operations of a list. -/
namespace Go.Proofs.YtkidijjhedjifaaGreat
open Go.RowKit
set_option maxRecDepth 100000
set_option linter.unusedVariables false
set_option linter.unusedSimpArgs false
attribute [local go_sem] Oper.semAt_some
def KS : Knd Sk := ⟨40, 7, fun s => [.int .u8 s.kind, .int .i64 s.handle, .int .u8 s.alg, .int .i64 s.count, .int .i64 s.out, .int .i64 s.data, .int .i64 s.more], by decide, fun _ => rfl, fun x u hu => by simp at hu; rcases hu with rfl | rfl | rfl | rfl | rfl | rfl | rfl <;> rfl⟩
/-- element j, cell by cell -/
structure SkAt (w : World) (b o : Nat) (s : Sk) : Prop where
  c0 : w.cell? ⟨b, o, none⟩ = some (.int .u8 s.kind)
  c1 : w.cell? ⟨b, o + 1, none⟩ = some (.int .i64 s.handle)
  c2 : w.cell? ⟨b, o + 2, none⟩ = some (.int .u8 s.alg)
  c3 : w.cell? ⟨b, o + 3, none⟩ = some (.int .i64 s.count)
  c4 : w.cell? ⟨b, o + 4, none⟩ = some (.int .i64 s.out)
  c5 : w.cell? ⟨b, o + 5, none⟩ = some (.int .i64 s.data)
  c6 : w.cell? ⟨b, o + 6, none⟩ = some (.int .i64 s.more)
theorem KS.elem {w : World} {ao : Option Addr} {n cap : Nat} {l : List Sk} (h : KS.R w (.slice ao n cap) l) {j : Nat} {s : Sk} (hs : l[j]? = some s) : ∃ b off, ao = some ⟨b, off, none⟩ ∧ b < w.heap.size ∧ SkAt w b (off + j * 7) s := by
  obtain ⟨b, off, e, hlt, hc⟩ := Knd.R.get h hs
  refine ⟨b, off, e, hlt, hc 0 _ rfl, ?_, ?_, ?_, ?_, ?_, ?_⟩
  · have := hc 1 _ rfl
    rw [← Nat.add_assoc] at this
    exact this
  · have := hc 2 _ rfl
    rw [← Nat.add_assoc] at this
    exact this
  · have := hc 3 _ rfl
    rw [← Nat.add_assoc] at this
    exact this
  · have := hc 4 _ rfl
    rw [← Nat.add_assoc] at this
    exact this
  · have := hc 5 _ rfl
    rw [← Nat.add_assoc] at this
    exact this
  · have := hc 6 _ rfl
    rw [← Nat.add_assoc] at this
    exact this
theorem Env.omit {w0 w : World} {A B : List Ob} {x : Ob} (h : Env w0 w (A ++ [x] ++ B)) : Env w0 w (A ++ B) := by
  rw [List.append_assoc] at h
  refine h.pick (fun j => if j < A.length then j else j + 1) (fun i j _ _ he => ?_) (fun j ob hj => ?_)
  · split at he <;> split at he <;> omega
  · by_cases hlt : j < A.length
    · rw [if_pos hlt]
      rw [List.getElem?_append_left hlt] at hj ⊢
      exact hj
    · rw [if_neg hlt]
      rw [List.getElem?_append_right (by omega)] at hj ⊢
      rw [show j + 1 - A.length = (j - A.length) + 1 from by omega]
      exact hj
/-- a list of skeletons that is read while things come behind -/
def RdS (w0 : World) (obs : List Ob) (v : Value) (l : List Sk) : Prop := ∀ wx L, Env w0 wx (obs ++ L) → KS.R wx v l
theorem RdS.old {w0 : World} {obs : List Ob} {v : Value} {l : List Sk} (h : KS.R w0 v l) : RdS w0 obs v l := fun wx L he => he.oldK h
theorem RdS.more {w0 : World} {obs : List Ob} {v : Value} {l : List Sk} (h : RdS w0 obs v l) (M : List Ob) : RdS w0 (obs ++ M) v l := fun wx L he => h wx (M ++ L) (by rw [← List.append_assoc]; exact he)
section
variable {w0 w : World} {obs : List Ob}
theorem Env.rowUp {w0 w : World} {obs : List Ob} (h : Env w0 w obs) (i : Nat) {e : TypeId} {size n : Nat} {v : Value} {cs : List Value} (hi : obs[i]? = some (obE e size v n cs)) {v' : Value} {n' : Nat} {cs' : List Value} {w' : World} (hown : w'.ownsRow 0 e size v' n' cs') (hg : w.grownBy w' v.ownBlock) (hat : v'.ownBlock = v.ownBlock ∨ v'.ownBlock = some w.heap.size) : Env w0 w' (obs.set i (obE e size v' n' cs')) := by
  obtain ⟨F, h1, _, _, h4⟩ := h.get i hi
  obtain ⟨_, rfl⟩ := h1
  refine h4 w' (fpv v') (obE e size v' n' cs') ⟨hown, rfl⟩ (Only.grown (Only.refl _ w) hg (fun k hk => .inl hk)) (fun x hx => ?_)
  have hx' : v'.ownBlock = some x := hx
  rcases hat with hat | hat
  · left
    show v.ownBlock = some x
    rw [← hat]
    exact hx
  · right
    rw [hat] at hx'
    injection hx' with hx'
    omega
end
end Go.Proofs.YtkidijjhedjifaaGreat
/- The document's Public in memory; there, free, code. -/
namespace Go.Proofs.YtkidijjhedjifaaGreat
open Go.RowKit
set_option maxRecDepth 100000
set_option linter.unusedVariables false
set_option linter.unusedSimpArgs false
attribute [local go_sem] Oper.semAt_some
/-- the cells of a thing under handle n -/
structure HeAt (cs : Array Value) (n : Nat) (t : Th) : Prop where
  c0 : cs[64 + n * 5]? = some (.int .i64 t.key)
  c1 : cs[64 + n * 5 + 1]? = some (.int .u8 t.alg)
  c2 : cs[64 + n * 5 + 2]? = some (.int .i64 t.out)
  c3 : cs[64 + n * 5 + 3]? = some (.int .i64 t.custom)
  c4 : cs[64 + n * 5 + 4]? = some (.int .i64 t.msg)
structure PubCs (cs : Array Value) (σ : Hs) : Prop where
  size : cs.size = 384
  has : ∀ n : Nat, n < 64 → cs[n]? = some (.bool (σ (n : Int)).isSome)
  he : ∀ (n : Nat) (t : Th), n < 64 → σ (n : Int) = some t → HeAt cs n t
theorem set_at {cs : Array Value} {i : Nat} {v : Value} (h : i < cs.size) : (cs.setIfInBounds i v)[i]? = some v := by
  rw [Array.getElem?_setIfInBounds]
  simp [h]
theorem set_ne {cs : Array Value} {i k : Nat} {v : Value} (h : i ≠ k) : (cs.setIfInBounds i v)[k]? = cs[k]? := by
  rw [Array.getElem?_setIfInBounds]
  simp [h]
theorem set_size {cs : Array Value} {i : Nat} {v : Value} {n : Nat} (h : cs.size = n) : (cs.setIfInBounds i v).size = n := by simp [h]
theorem put_same (σ : Hs) (x : Int) (o : Option Th) : σ.put x o x = o := if_pos rfl
theorem put_ne {σ : Hs} {x y : Int} (o : Option Th) (h : y ≠ x) : σ.put x o y = σ y := if_neg h
theorem HeAt.ne {cs : Array Value} {n : Nat} {t : Th} (h : HeAt cs n t) {i : Nat} (hi : i < 64 + n * 5 ∨ 64 + n * 5 + 4 < i) (v : Value) : HeAt (cs.setIfInBounds i v) n t :=
  ⟨(set_ne (by omega)).trans h.c0, (set_ne (by omega)).trans h.c1, (set_ne (by omega)).trans h.c2, (set_ne (by omega)).trans h.c3, (set_ne (by omega)).trans h.c4⟩
theorem PubCs.drop {cs : Array Value} {σ : Hs} (h : PubCs cs σ) {n : Nat} (hn : n < 64) : PubCs (cs.setIfInBounds n (.bool false)) (σ.put (n : Int) none) := by
  refine ⟨set_size h.size, fun k hk => ?_, fun k t hk e => ?_⟩
  · by_cases e : k = n
    · rw [e, put_same, set_at (by rw [h.size]; omega)]
      rfl
    · rw [put_ne _ (by omega), set_ne (Ne.symm e)]
      exact h.has k hk
  · by_cases e2 : k = n
    · rw [e2, put_same] at e
      cases e
    · rw [put_ne _ (by omega)] at e
      exact (h.he k t hk e).ne (by omega) _
/-- a thing laid under a handle -/
def heSet (cs : Array Value) (n : Nat) (t : Th) : Array Value := ((((cs.setIfInBounds (64 + n * 5) (.int .i64 t.key)).setIfInBounds (64 + n * 5 + 1) (.int .u8 t.alg)).setIfInBounds (64 + n * 5 + 2) (.int .i64 t.out)).setIfInBounds (64 + n * 5 + 3) (.int .i64 t.custom)).setIfInBounds (64 + n * 5 + 4) (.int .i64 t.msg)
theorem PubCs.take {cs : Array Value} {σ : Hs} (h : PubCs cs σ) {n : Nat} (hn : n < 64) (t : Th) : PubCs (heSet (cs.setIfInBounds n (.bool true)) n t) (σ.put (n : Int) (some t)) := by
  have hs := h.size
  unfold heSet
  refine ⟨by simp [hs], fun k hk => ?_, fun k t' hk e => ?_⟩
  · rw [set_ne (by omega), set_ne (by omega), set_ne (by omega), set_ne (by omega), set_ne (by omega)]
    by_cases e : k = n
    · rw [e, put_same, set_at (by omega)]
      rfl
    · rw [put_ne _ (by omega), set_ne (Ne.symm e)]
      exact h.has k hk
  · by_cases e2 : k = n
    · rw [e2, put_same] at e
      injection e with e
      subst e
      subst e2
      refine ⟨?_, ?_, ?_, ?_, ?_⟩
      · rw [set_ne (by omega), set_ne (by omega), set_ne (by omega), set_ne (by omega), set_at (by simp [hs]; omega)]
      · rw [set_ne (by omega), set_ne (by omega), set_ne (by omega), set_at (by simp [hs]; omega)]
      · rw [set_ne (by omega), set_ne (by omega), set_at (by simp [hs]; omega)]
      · rw [set_ne (by omega), set_at (by simp [hs]; omega)]
      · rw [set_at (by simp [hs]; omega)]
    · rw [put_ne _ (by omega)] at e
      exact (((((((h.he k t' hk e).ne (by omega) _).ne (by omega) _).ne (by omega) _).ne (by omega) _).ne (by omega) _).ne (by omega) _)
theorem PubCs.told {cs : Array Value} {σ : Hs} (h : PubCs cs σ) {n : Nat} (hn : n < 64) {t : Th} (ht : σ (n : Int) = some t) (m : Int) : PubCs (cs.setIfInBounds (64 + n * 5 + 4) (.int .i64 m)) (σ.put (n : Int) (some { t with msg := m })) := by
  have hs := h.size
  refine ⟨set_size hs, fun k hk => ?_, fun k t' hk e => ?_⟩
  · rw [set_ne (by omega), h.has k hk]
    by_cases e : k = n
    · rw [e, put_same, ht]
      rfl
    · rw [put_ne _ (by omega)]
  · by_cases e2 : k = n
    · rw [e2, put_same] at e
      injection e with e
      subst e
      subst e2
      have q := h.he k t hk ht
      exact ⟨(set_ne (by omega)).trans q.c0, (set_ne (by omega)).trans q.c1, (set_ne (by omega)).trans q.c2, (set_ne (by omega)).trans q.c3, set_at (by omega)⟩
    · rw [put_ne _ (by omega)] at e
      exact (h.he k t' hk e).ne (by omega) _
def RPub (w : World) (P : Nat) (σ : Hs) : Prop := ∃ cs, Blk w P 57 cs ∧ PubCs cs σ
def obRP (P : Nat) (σ : Hs) : Ob := ⟨fun w F => RPub w P σ ∧ F = fun x => x = P, fun {w w' F S} h ho hd => ⟨by obtain ⟨cs, h1, h2⟩ := h.1; exact ⟨cs, h1.only ho (hd P (by rw [h.2])), h2⟩, h.2⟩,
  fun {w F} h => by
    rw [h.2]
    rintro x rfl
    obtain ⟨cs, h1, _⟩ := h.1
    exact h1.lt⟩
section
variable {w w0 w' : World} {P : Nat} {σ σ' : Hs} {obs : List Ob}
theorem RPub.below (h : RPub w P σ) (hb : Below w.heap.size w w') : RPub w' P σ := by
  obtain ⟨cs, h1, h2⟩ := h
  exact ⟨cs, h1.only (Only.nothing hb) (fun h => h), h2⟩
theorem RPub.has (h : RPub w P σ) {n : Nat} (hn : n < 64) : w.cell? ⟨P, n, none⟩ = some (.bool (σ (n : Int)).isSome) := by
  obtain ⟨cs, h1, h2⟩ := h
  exact h1.cellAt n (h2.has n hn)
structure HeW (w : World) (P n : Nat) (t : Th) : Prop where
  c0 : w.cell? ⟨P, 64 + n * 5, none⟩ = some (.int .i64 t.key)
  c1 : w.cell? ⟨P, 64 + n * 5 + 1, none⟩ = some (.int .u8 t.alg)
  c2 : w.cell? ⟨P, 64 + n * 5 + 2, none⟩ = some (.int .i64 t.out)
  c3 : w.cell? ⟨P, 64 + n * 5 + 3, none⟩ = some (.int .i64 t.custom)
  c4 : w.cell? ⟨P, 64 + n * 5 + 4, none⟩ = some (.int .i64 t.msg)
theorem RPub.he (h : RPub w P σ) {n : Nat} {t : Th} (hn : n < 64) (ht : σ (n : Int) = some t) : HeW w P n t := by
  obtain ⟨cs, h1, h2⟩ := h
  have q := h2.he n t hn ht
  exact ⟨h1.cellAt _ q.c0, h1.cellAt _ q.c1, h1.cellAt _ q.c2, h1.cellAt _ q.c3, h1.cellAt _ q.c4⟩
theorem RPub.any (h : RPub w P σ) {k : Nat} (hk : k < 384) : ∃ v, w.cell? ⟨P, k, none⟩ = some v := by
  obtain ⟨cs, h1, h2⟩ := h
  exact ⟨_, h1.cellAt k (Array.getElem?_eq_getElem (by rw [h2.size]; exact hk))⟩
theorem Env.rpub (h : Env w0 w obs) (i : Nat) (hi : obs[i]? = some (obRP P σ)) : RPub w P σ := by
  obtain ⟨F, h1, _⟩ := h.get i hi
  exact h1.1
end
def Dom (σ : Hs) : Prop := ∀ h t, σ h = some t → 0 ≤ h ∧ h < 64
def rpV (P : Nat) : Value := .pointer (some ⟨P, 0, none⟩)
set_option maxHeartbeats 1000000 in
theorem rthere_any {w : World} {P : Nat} {σ : Hs} (h : RPub w P σ) (hd : Dom σ) (x : Int) : Calls Tryz.prog 47 #[rpV P, .int .i64 x] w (Same (.bool (σ x).isSome) w) := by
  unfold Same rpV
  by_cases h0 : 0 ≤ x
  · have t0 : decide (0 ≤ x) = true := decide_eq_true h0
    by_cases h1 : x < 64
    · have t1 : decide (x < 64) = true := decide_eq_true h1
      obtain ⟨n, hn⟩ : ∃ n : Nat, x = (n : Int) := ⟨x.toNat, by omega⟩
      subst hn
      have hc := h.has (n := n) (by omega)
      have bn : 0 ≤ (n : Int) ∧ (n : Int) < 64 := by omega
      have hn2 : n < 64 := by omega
      obtain ⟨b, hb⟩ : ∃ b, (σ (n : Int)).isSome = b := ⟨_, rfl⟩
      rw [hb] at hc ⊢
      clear h hd hb
      go_enter Tryz.func47, Tryz.ntmps47
      go_wp2_with fail
      go_ret
      exact ⟨rfl, rfl⟩
    · have t1 : decide (x < 64) = false := decide_eq_false h1
      have e : (σ x).isSome = false := by
        cases e : σ x with
        | none => rfl
        | some t => exact absurd (hd x t e).2 h1
      rw [e]
      clear h hd e
      go_enter Tryz.func47, Tryz.ntmps47
      go_wp2_with fail
      go_ret
      exact ⟨rfl, rfl⟩
  · have t0 : decide (0 ≤ x) = false := decide_eq_false h0
    have e : (σ x).isSome = false := by
      cases e : σ x with
      | none => rfl
      | some t => exact absurd (hd x t e).1 h0
    rw [e]
    clear h hd e
    go_enter Tryz.func47, Tryz.ntmps47
    go_wp2_with fail
    go_ret
    exact ⟨rfl, rfl⟩
def frR (σ : Hs) : Int := match freeH σ with
  | some n => (n : Int)
  | none => -1
set_option maxHeartbeats 1000000 in
theorem rfree_any {w : World} {P : Nat} {σ : Hs} (h : RPub w P σ) : Calls Tryz.prog 50 #[rpV P] w (Same (.int .i64 (frR σ)) w) := by
  unfold Same rpV
  have H := Lib.hid h
  obtain ⟨T, hT⟩ : ∃ T, frR σ = T := ⟨_, rfl⟩
  rw [hT]
  have HT := Lib.hid hT
  clear hT h
  go_enter Tryz.func50, Tryz.ntmps50
  go_wp2_with fail
  go_loopw [3] (fun iv wx => wx = w ∧ ∃ j : Nat, j ≤ 64 ∧ iv = .int .i64 (j : Int) ∧ Hid (freeTo σ (64 - j) j = freeH σ)) (fun iv _ => 64 - (RowKit.intOf iv).toNat)
  case atStart => exact ⟨rfl, 0, Nat.zero_le _, rfl, Lib.hid rfl⟩
  case round =>
    obtain ⟨rfl, j, hj, rfl, HF⟩ := hrel
    by_cases hlt : j < 64
    · have t3 : decide ((j : Int) < 64) = true := by rw [decide_eq_true_eq]; omega
      have bj : 0 ≤ (j : Int) ∧ (j : Int) < 64 := by omega
      have hc := H.out.has (n := j) hlt
      have e64 : 64 - j = (64 - (j + 1)) + 1 := by omega
      cases hb : (σ (j : Int)).isSome
      · rw [hb] at hc
        have hfr : freeH σ = some j := by
          rw [← HF.out, e64]
          exact freeTo_is σ _ j hb
        have hTj : T = (j : Int) := by
          rw [← HT.out]
          unfold frR
          rw [hfr]
        have HTJ := Lib.hid hTj
        clear hb hfr hTj e64
        go_wp2_with fail
        go_ret
        exact ⟨by rw [HTJ.out]; rfl, rfl⟩
      · rw [hb] at hc
        have HF2 : Hid (freeTo σ (64 - (j + 1)) (j + 1) = freeH σ) := by
          rw [← HF.out, e64]
          exact Lib.hid (freeTo_held σ _ j hb).symm
        have hw1 : IntKind.i64.wrap ((j : Int) + 1) = ((j + 1 : Nat) : Int) := by rw [IntWalk.i64_in _ (by omega)]; omega
        clear hb e64
        go_wp2_with fail
        refine ⟨⟨trivial, j + 1, by omega, rfl, HF2⟩, ?_⟩
        have q9 : 64 - ((j : Int) + 1).toNat < 64 - ((j : Int)).toNat := by omega
        exact q9
    · have t3 : decide ((j : Int) < 64) = false := by rw [decide_eq_false_iff_not]; omega
      have hj4 : j = 64 := by omega
      have hTj : T = -1 := by
        have hf := HF.out
        rw [hj4] at hf
        have : freeH σ = none := hf.symm
        rw [← HT.out]
        unfold frR
        rw [this]
      have HTJ := Lib.hid hTj
      clear hTj
      go_wp2_with fail
      go_ret
      exact ⟨by rw [HTJ.out]; rfl, rfl⟩
structure SCd (B P n : Nat) (s : Sk) (t : Th) (W : World) : Prop where
  b : SkAt W B 0 s
  h : HeW W P n t
section
variable {B P n : Nat} {s : Sk} {t : Th}
theorem SCd.b0 (W : World) (h : SCd B P n s t W) : W.cell? ⟨B, 0, none⟩ = some (.int .u8 s.kind) := by have q := h.b.c0; simpa using q
theorem SCd.b1 (W : World) (h : SCd B P n s t W) : W.cell? ⟨B, 1, none⟩ = some (.int .i64 s.handle) := by have q := h.b.c1; simpa using q
theorem SCd.b2 (W : World) (h : SCd B P n s t W) : W.cell? ⟨B, 2, none⟩ = some (.int .u8 s.alg) := by have q := h.b.c2; simpa using q
theorem SCd.b3 (W : World) (h : SCd B P n s t W) : W.cell? ⟨B, 3, none⟩ = some (.int .i64 s.count) := by have q := h.b.c3; simpa using q
theorem SCd.b4 (W : World) (h : SCd B P n s t W) : W.cell? ⟨B, 4, none⟩ = some (.int .i64 s.out) := by have q := h.b.c4; simpa using q
theorem SCd.b5 (W : World) (h : SCd B P n s t W) : W.cell? ⟨B, 5, none⟩ = some (.int .i64 s.data) := by have q := h.b.c5; simpa using q
theorem SCd.b6 (W : World) (h : SCd B P n s t W) : W.cell? ⟨B, 6, none⟩ = some (.int .i64 s.more) := by have q := h.b.c6; simpa using q
theorem SCd.h0 (W : World) (h : SCd B P n s t W) : W.cell? ⟨P, 64 + n * 5, none⟩ = some (.int .i64 t.key) := h.h.c0
theorem SCd.h1 (W : World) (h : SCd B P n s t W) : W.cell? ⟨P, 64 + n * 5 + 1, none⟩ = some (.int .u8 t.alg) := h.h.c1
theorem SCd.h2 (W : World) (h : SCd B P n s t W) : W.cell? ⟨P, 64 + n * 5 + 2, none⟩ = some (.int .i64 t.out) := h.h.c2
theorem SCd.h3 (W : World) (h : SCd B P n s t W) : W.cell? ⟨P, 64 + n * 5 + 3, none⟩ = some (.int .i64 t.custom) := h.h.c3
theorem SCd.h4 (W : World) (h : SCd B P n s t W) : W.cell? ⟨P, 64 + n * 5 + 4, none⟩ = some (.int .i64 t.msg) := h.h.c4
end
theorem skBox {w : World} {B : Nat} {s : Sk} (h : Blk w B 40 (skCells s)) : SkAt w B 0 s := ⟨h.cellAt 0 rfl, h.cellAt 1 rfl, h.cellAt 2 rfl, h.cellAt 3 rfl, h.cellAt 4 rfl, h.cellAt 5 rfl, h.cellAt 6 rfl⟩
set_option maxHeartbeats 8000000 in
theorem rcode_any {w : World} {P : Nat} {σ : Hs} (h : RPub w P σ) (hd : Dom σ) (s : Sk) : Calls Tryz.prog 21 #[rpV P, skV s] w (Told (.int .i64 (codeS σ s)) w) := by
  rw [← codeR_is]
  obtain ⟨T, hT⟩ : ∃ T, codeR σ s = T := ⟨_, rfl⟩
  rw [hT]
  have HT := Lib.hid hT
  have HP : Hid (∀ w', Below w.heap.size w w' → RPub w' P σ) := Lib.hid fun w' hb => h.below hb
  have HD := Lib.hid hd
  have hw0 : Below w.heap.size w (w.alloc (.cells (skCells s) 40)) := (Below.refl _ _).alloc (Nat.le_refl _) _
  have hk0 := Blk.new w 40 (skCells s)
  have HW0 := Lib.hid hw0
  have HK0 := Lib.hid hk0
  clear hT h hd hw0 hk0
  unfold skV rpV
  by_cases a1 : s.kind < 1
  · have t1 : decide (s.kind < 1) = true := decide_eq_true a1
    have HV : Hid (codeR σ s = 3) := Lib.hid (if_pos (.inl a1))
    clear a1
    go_enter Tryz.func21, Tryz.ntmps21
    go_wp2_with fail
    go_ret
    exact ⟨by rw [← HT.out, HV.out]; rfl, HW0.out⟩
  have t1 : decide (s.kind < 1) = false := decide_eq_false a1
  by_cases a2 : 10 < s.kind
  · have t2 : decide (10 < s.kind) = true := decide_eq_true a2
    have HV : Hid (codeR σ s = 3) := Lib.hid (if_pos (.inr a2))
    clear a1 a2
    go_enter Tryz.func21, Tryz.ntmps21
    go_wp2_with fail
    go_ret
    exact ⟨by rw [← HT.out, HV.out]; rfl, HW0.out⟩
  have t2 : decide (10 < s.kind) = false := decide_eq_false a2
  have hn12 : ¬ (s.kind < 1 ∨ 10 < s.kind) := by omega
  by_cases a3 : s.kind = 1
  · have t3 : (s.kind == (1 : Int)) = true := beq_t a3
    have t4 : (s.kind != (1 : Int)) = false := bne_f a3
    by_cases a4 : 512 < s.data
    · have t5 : decide (512 < s.data) = true := decide_eq_true a4
      have HV : Hid (codeR σ s = 7) := Lib.hid (by unfold codeR; rw [if_neg hn12, if_pos a3, if_pos a4])
      clear a1 a2 a3 a4 hn12
      go_enter Tryz.func21, Tryz.ntmps21
      go_wp2_with fail
      go_ret
      exact ⟨by rw [← HT.out, HV.out]; rfl, HW0.out⟩
    · have t5 : decide (512 < s.data) = false := decide_eq_false a4
      have HV : Hid (codeR σ s = restR σ s) := Lib.hid (by unfold codeR; rw [if_neg hn12, if_pos a3, if_neg a4])
      clear a1 a2 a3 a4 hn12
      go_enter Tryz.func21, Tryz.ntmps21
      go_wp2_with fail
      have HW := HW0
      unfold skCells at HW
      refine (rtakes_any s.kind _).mono ?_
      rintro e wt ⟨rfl, rfl⟩
      obtain ⟨b, hb⟩ : ∃ b, takesR s.kind = b := ⟨_, rfl⟩
      rw [hb]
      have HBT := Lib.hid hb
      clear hb
      cases b
      · go_wp2_with fail
        go_ret
        exact ⟨by rw [← HT.out, HV.out, rest_not σ s HBT.out]; rfl, HW.out⟩
      · go_wp2_with fail
        refine (rfree_any (HP.out _ HW.out)).mono ?_
        rintro e wf ⟨rfl, rfl⟩
        cases hf : freeH σ with
        | none =>
          have e1 : frR σ = -1 := by unfold frR; rw [hf]
          have e2 : restR σ s = 8 := by unfold restR; rw [if_pos ⟨HBT.out, hf⟩]
          rw [e1]
          have HE2 := Lib.hid e2
          clear e1 e2 hf
          go_wp2_with fail
          go_ret
          exact ⟨by rw [← HT.out, HV.out, HE2.out]; rfl, HW.out⟩
        | some q =>
          have e1 : frR σ = (q : Int) := by unfold frR; rw [hf]
          have e2 : restR σ s = 0 := by unfold restR; rw [if_neg (fun h => by rw [hf] at h; cases h.2)]
          have t9 : decide ((q : Int) < 0) = false := decide_eq_false (by omega)
          rw [e1]
          have HE2 := Lib.hid e2
          clear e1 e2 hf
          go_wp2_with fail
          go_ret
          exact ⟨by rw [← HT.out, HV.out, HE2.out]; rfl, HW.out⟩
  have t3 : (s.kind == (1 : Int)) = false := beq_f a3
  have t4 : (s.kind != (1 : Int)) = true := bne_t a3
  cases hst : σ s.handle with
  | none =>
    have HV : Hid (codeR σ s = 5) := Lib.hid (by unfold codeR; rw [if_neg hn12, if_neg a3, hst])
    have hnone : (σ s.handle).isSome = false := by rw [hst]; rfl
    have HN := Lib.hid hnone
    clear a1 a2 a3 hn12 hnone hst
    go_enter Tryz.func21, Tryz.ntmps21
    go_wp2_with fail
    refine (rthere_any (HP.out _ HW0.out) HD.out s.handle).mono ?_
    rintro e w1 ⟨rfl, rfl⟩
    rw [HN.out]
    go_wp2_with fail
    go_ret
    exact ⟨by rw [← HT.out, HV.out]; rfl, HW0.out⟩
  | some t =>
    have hsome : (σ s.handle).isSome = true := by rw [hst]; rfl
    have hdm := HD.out _ _ hst
    obtain ⟨n, hn⟩ : ∃ n : Nat, s.handle = (n : Int) := ⟨s.handle.toNat, by omega⟩
    have hn64 : n < 64 := by omega
    have bn : 0 ≤ (n : Int) ∧ (n : Int) < 64 := by omega
    have hcv : codeR σ s = if fitsR t s = 0 then restR σ s else fitsR t s := by unfold codeR; rw [if_neg hn12, if_neg a3, hst]
    have hst2 := hst
    rw [hn] at hst2
    have HV0 := Lib.hid hcv
    have HN := Lib.hid hsome
    have HST := Lib.hid hst2
    have HHN : Hid (s.handle.toNat = n) := Lib.hid (by omega)
    have HBN : Hid (0 ≤ s.handle ∧ s.handle < 64) := Lib.hid (by omega)
    clear a1 a2 a3 hn12 hsome hst hst2 hcv hdm hn
    go_enter Tryz.func21, Tryz.ntmps21
    go_wp2_with fail
    refine (rthere_any (HP.out _ HW0.out) HD.out s.handle).mono ?_
    rintro e w1 ⟨rfl, rfl⟩
    rw [HN.out]
    go_upto_region 8 with fail
    obtain ⟨W, hW⟩ : ∃ y, w.alloc (.cells (skCells s) 40) = y := ⟨_, rfl⟩
    obtain ⟨B, hB⟩ : ∃ y, w.heap.size = y := ⟨_, rfl⟩
    have hk := HK0.out
    have hw := HW0.out
    rw [hW] at hk hw
    rw [hB] at hk
    have hS : Hid (∀ W', Below W.heap.size W W' → SCd B P n s t W') := Lib.hid fun W' hb' => ⟨skBox (hk.only (Only.nothing hb') (fun h => h)), (HP.out _ (hw.trans (hb'.mono hw.size))).he hn64 HST.out⟩
    try rw [hW]
    try rw [hB]
    have HW1 := Lib.hid hw
    have hhn := HHN.out
    have hbn := HBN.out
    clear hk hw hW hB HW0 HK0
    refine hd_start (SCd B P n s t) (by kernel_rfl) ?_
    intro w3 hw'
    have h3 : Below W.heap.size W w3 := by rw [hw']; exact below_draw (Below.refl _ _) 1
    clear hw'
    have S3 := hS.out _ h3
    refine hd_take (v := ?_) 0 rfl (by kernel_rfl) (fun _ _ d _ _ h => (by cases d <;> exact h)) (by kernel_rfl) S3 (fun w' hS => ?_) ?_
    rotate_left
    focus (have q0 := SCd.b0 w' hS; have q1 := SCd.b1 w' hS; have q2 := SCd.b2 w' hS; have q3 := SCd.b3 w' hS; have q4 := SCd.b4 w' hS; have q5 := SCd.b5 w' hS; have q6 := SCd.b6 w' hS; have q7 := SCd.h0 w' hS; have q8 := SCd.h1 w' hS; have q9 := SCd.h2 w' hS; have q10 := SCd.h3 w' hS; have q11 := SCd.h4 w' hS; clear hS; go_simp; try rfl; done)
    simp only [List.getElem_toArray, List.getElem_cons_succ, List.getElem_cons_zero, Act.put, List.setIfInBounds_toArray, List.set_cons_zero, List.set_cons_succ]
    refine hd_take (v := ?_) 1 rfl (by kernel_rfl) (fun _ _ d _ _ h => (by cases d <;> exact h)) (by kernel_rfl) S3 (fun w' hS => ?_) ?_
    rotate_left
    focus (have q0 := SCd.b0 w' hS; have q1 := SCd.b1 w' hS; have q2 := SCd.b2 w' hS; have q3 := SCd.b3 w' hS; have q4 := SCd.b4 w' hS; have q5 := SCd.b5 w' hS; have q6 := SCd.b6 w' hS; have q7 := SCd.h0 w' hS; have q8 := SCd.h1 w' hS; have q9 := SCd.h2 w' hS; have q10 := SCd.h3 w' hS; have q11 := SCd.h4 w' hS; clear hS; go_simp; try rfl; done)
    simp only [List.getElem_toArray, List.getElem_cons_succ, List.getElem_cons_zero, Act.put, List.setIfInBounds_toArray, List.set_cons_zero, List.set_cons_succ]
    refine hd_take (v := ?_) 2 rfl (by kernel_rfl) (fun _ _ d _ _ h => (by cases d <;> exact h)) (by kernel_rfl) S3 (fun w' hS => ?_) ?_
    rotate_left
    focus (have q0 := SCd.b0 w' hS; have q1 := SCd.b1 w' hS; have q2 := SCd.b2 w' hS; have q3 := SCd.b3 w' hS; have q4 := SCd.b4 w' hS; have q5 := SCd.b5 w' hS; have q6 := SCd.b6 w' hS; have q7 := SCd.h0 w' hS; have q8 := SCd.h1 w' hS; have q9 := SCd.h2 w' hS; have q10 := SCd.h3 w' hS; have q11 := SCd.h4 w' hS; clear hS; go_simp; try rfl; done)
    simp only [List.getElem_toArray, List.getElem_cons_succ, List.getElem_cons_zero, Act.put, List.setIfInBounds_toArray, List.set_cons_zero, List.set_cons_succ]
    refine hd_take (v := ?_) 3 rfl (by kernel_rfl) (fun _ _ d _ _ h => (by cases d <;> exact h)) (by kernel_rfl) S3 (fun w' hS => ?_) ?_
    rotate_left
    focus (have q0 := SCd.b0 w' hS; have q1 := SCd.b1 w' hS; have q2 := SCd.b2 w' hS; have q3 := SCd.b3 w' hS; have q4 := SCd.b4 w' hS; have q5 := SCd.b5 w' hS; have q6 := SCd.b6 w' hS; have q7 := SCd.h0 w' hS; have q8 := SCd.h1 w' hS; have q9 := SCd.h2 w' hS; have q10 := SCd.h3 w' hS; have q11 := SCd.h4 w' hS; clear hS; go_simp; try rfl; done)
    simp only [List.getElem_toArray, List.getElem_cons_succ, List.getElem_cons_zero, Act.put, List.setIfInBounds_toArray, List.set_cons_zero, List.set_cons_succ]
    refine hd_take (v := ?_) 4 rfl (by kernel_rfl) (fun _ _ d _ _ h => (by cases d <;> exact h)) (by kernel_rfl) S3 (fun w' hS => ?_) ?_
    rotate_left
    focus (have q0 := SCd.b0 w' hS; have q1 := SCd.b1 w' hS; have q2 := SCd.b2 w' hS; have q3 := SCd.b3 w' hS; have q4 := SCd.b4 w' hS; have q5 := SCd.b5 w' hS; have q6 := SCd.b6 w' hS; have q7 := SCd.h0 w' hS; have q8 := SCd.h1 w' hS; have q9 := SCd.h2 w' hS; have q10 := SCd.h3 w' hS; have q11 := SCd.h4 w' hS; clear hS; go_simp; try rfl; done)
    simp only [List.getElem_toArray, List.getElem_cons_succ, List.getElem_cons_zero, Act.put, List.setIfInBounds_toArray, List.set_cons_zero, List.set_cons_succ]
    refine hd_take (v := ?_) 5 rfl (by kernel_rfl) (fun _ _ d _ _ h => (by cases d <;> exact h)) (by kernel_rfl) S3 (fun w' hS => ?_) ?_
    rotate_left
    focus (have q0 := SCd.b0 w' hS; have q1 := SCd.b1 w' hS; have q2 := SCd.b2 w' hS; have q3 := SCd.b3 w' hS; have q4 := SCd.b4 w' hS; have q5 := SCd.b5 w' hS; have q6 := SCd.b6 w' hS; have q7 := SCd.h0 w' hS; have q8 := SCd.h1 w' hS; have q9 := SCd.h2 w' hS; have q10 := SCd.h3 w' hS; have q11 := SCd.h4 w' hS; clear hS; go_simp; try rfl; done)
    simp only [List.getElem_toArray, List.getElem_cons_succ, List.getElem_cons_zero, Act.put, List.setIfInBounds_toArray, List.set_cons_zero, List.set_cons_succ]
    refine hd_take (v := ?_) 6 rfl (by kernel_rfl) (fun _ _ d _ _ h => (by cases d <;> exact h)) (by kernel_rfl) S3 (fun w' hS => ?_) ?_
    rotate_left
    focus (have q0 := SCd.b0 w' hS; have q1 := SCd.b1 w' hS; have q2 := SCd.b2 w' hS; have q3 := SCd.b3 w' hS; have q4 := SCd.b4 w' hS; have q5 := SCd.b5 w' hS; have q6 := SCd.b6 w' hS; have q7 := SCd.h0 w' hS; have q8 := SCd.h1 w' hS; have q9 := SCd.h2 w' hS; have q10 := SCd.h3 w' hS; have q11 := SCd.h4 w' hS; clear hS; go_simp; try rfl; done)
    simp only [List.getElem_toArray, List.getElem_cons_succ, List.getElem_cons_zero, Act.put, List.setIfInBounds_toArray, List.set_cons_zero, List.set_cons_succ]
    refine hd_take (v := ?_) 7 rfl (by kernel_rfl) (fun _ _ d _ _ h => (by cases d <;> exact h)) (by kernel_rfl) S3 (fun w' hS => ?_) ?_
    rotate_left
    focus (have q0 := SCd.b0 w' hS; have q1 := SCd.b1 w' hS; have q2 := SCd.b2 w' hS; have q3 := SCd.b3 w' hS; have q4 := SCd.b4 w' hS; have q5 := SCd.b5 w' hS; have q6 := SCd.b6 w' hS; have q7 := SCd.h0 w' hS; have q8 := SCd.h1 w' hS; have q9 := SCd.h2 w' hS; have q10 := SCd.h3 w' hS; have q11 := SCd.h4 w' hS; clear hS; go_simp; try rfl; done)
    simp only [List.getElem_toArray, List.getElem_cons_succ, List.getElem_cons_zero, Act.put, List.setIfInBounds_toArray, List.set_cons_zero, List.set_cons_succ]
    refine hd_take (v := ?_) 8 rfl (by kernel_rfl) (fun _ _ d _ _ h => (by cases d <;> exact h)) (by kernel_rfl) S3 (fun w' hS => ?_) ?_
    rotate_left
    focus (have q0 := SCd.b0 w' hS; have q1 := SCd.b1 w' hS; have q2 := SCd.b2 w' hS; have q3 := SCd.b3 w' hS; have q4 := SCd.b4 w' hS; have q5 := SCd.b5 w' hS; have q6 := SCd.b6 w' hS; have q7 := SCd.h0 w' hS; have q8 := SCd.h1 w' hS; have q9 := SCd.h2 w' hS; have q10 := SCd.h3 w' hS; have q11 := SCd.h4 w' hS; clear hS; go_simp; try rfl; done)
    simp only [List.getElem_toArray, List.getElem_cons_succ, List.getElem_cons_zero, Act.put, List.setIfInBounds_toArray, List.set_cons_zero, List.set_cons_succ]
    refine hd_one 9 (by kernel_rfl) ?_
    refine op_call rfl (by kernel_rfl) (by go_simp; first | exact ⟨rfl, rfl⟩ | rfl) ?_
    refine (rfits_any _ s t w3).mono ?_
    rintro e w4 ⟨rfl, h4⟩
    have h4' := h3.trans (h4.mono h3.size)
    have hS2 := hS.out _ h4'
    refine ⟨_, rfl, hS2, ?_⟩
    simp only [List.getElem_toArray, List.getElem_cons_succ, List.getElem_cons_zero, Act.put, List.setIfInBounds_toArray, List.set_cons_zero, List.set_cons_succ]
    refine hd_take (v := ?_) 10 rfl (by kernel_rfl) (fun _ _ d _ _ h => (by cases d <;> exact h)) (by kernel_rfl) hS2 (fun w' hS => ?_) ?_
    rotate_left
    focus (clear hS; go_simp; try rfl; done)
    simp only [List.getElem_toArray, List.getElem_cons_succ, List.getElem_cons_zero, Act.put, List.setIfInBounds_toArray, List.set_cons_zero, List.set_cons_succ]
    refine hd_done (by kernel_rfl) ?_
    have HW := Lib.hid (HW1.out.trans (h4'.mono HW1.out.size))
    obtain ⟨c, hc⟩ : ∃ c, fitsR t s = c := ⟨_, rfl⟩
    rw [hc]
    have hv := HV0.out
    rw [hc] at hv
    have sb := hS.out _ h4'
    have q0 := SCd.b0 _ sb
    clear hc h3 h4 h4' S3 hS2 sb HV0 HW1 hhn hbn
    by_cases c0 : c = 0
    · subst c0
      rw [if_pos rfl] at hv
      have HV := Lib.hid hv
      clear hv
      go_wp2_with fail
      refine (rtakes_any s.kind _).mono ?_
      rintro e wt ⟨rfl, rfl⟩
      obtain ⟨b, hb⟩ : ∃ b, takesR s.kind = b := ⟨_, rfl⟩
      rw [hb]
      have HBT := Lib.hid hb
      clear hb
      cases b
      · go_wp2_with fail
        go_ret
        exact ⟨by rw [← HT.out, HV.out, rest_not σ s HBT.out]; rfl, HW.out⟩
      · go_wp2_with fail
        refine (rfree_any (HP.out _ HW.out)).mono ?_
        rintro e wf ⟨rfl, rfl⟩
        cases hf : freeH σ with
        | none =>
          have e1 : frR σ = -1 := by unfold frR; rw [hf]
          have e2 : restR σ s = 8 := by unfold restR; rw [if_pos ⟨HBT.out, hf⟩]
          rw [e1]
          have HE2 := Lib.hid e2
          clear e1 e2 hf
          go_wp2_with fail
          go_ret
          exact ⟨by rw [← HT.out, HV.out, HE2.out]; rfl, HW.out⟩
        | some q =>
          have e1 : frR σ = (q : Int) := by unfold frR; rw [hf]
          have e2 : restR σ s = 0 := by unfold restR; rw [if_neg (fun h => by rw [hf] at h; cases h.2)]
          have t9 : decide ((q : Int) < 0) = false := decide_eq_false (by omega)
          rw [e1]
          have HE2 := Lib.hid e2
          clear e1 e2 hf
          go_wp2_with fail
          go_ret
          exact ⟨by rw [← HT.out, HV.out, HE2.out]; rfl, HW.out⟩
    · rw [if_neg c0] at hv
      have HV := Lib.hid hv
      have tc : (c != (0 : Int)) = true := bne_t c0
      clear hv c0
      go_wp2_with fail
      go_ret
      exact ⟨by rw [← HT.out, HV.out]; rfl, HW.out⟩
end Go.Proofs.YtkidijjhedjifaaGreat
namespace Go.Proofs.YtkidijjhedjifaaGreat
open Go.RowKit
set_option maxRecDepth 100000
set_option linter.unusedVariables false
set_option linter.unusedSimpArgs false
attribute [local go_sem] Oper.semAt_some
section
variable {w0 w : World} {obs : List Ob}
theorem timesN_off {rs : List Rn} {k s n : Int} (h : n < 1) : timesN rs ⟨k, s, n⟩ = rs := if_pos h
theorem timesN_on {rs : List Rn} {k s n : Int} (h : ¬ n < 1) : timesN rs ⟨k, s, n⟩ = noteL rs k s n := if_neg h
theorem Env.same (h : Env w0 w obs) (i : Nat) {ob : Ob} (hi : obs[i]? = some ob) : Env w0 w (obs.set i ob) := by
  rw [setIs _ _ _ hi]
  exact h
theorem infoN3 : (Tryz.prog.info? 76).map (fun i => (i.zero, i.size, i.bytes)) = some (some (.agg #[.int .u8 0, .int .i64 0, .int .i64 0]), 3, 24) := by kernel_rfl
theorem rnCellsP {w : World} {b off n cap : Nat} {l : List Rn} (h : KN.R w (.slice (some ⟨b, off, none⟩) n cap) l) {k : Nat} {x : Rn} (hx : l[k]? = some x) : w.cell? ⟨b, off + k * 3, none⟩ = some (.int .u8 x.k) ∧ w.cell? ⟨b, off + k * 3 + 1, none⟩ = some (.int .i64 x.s) ∧ w.cell? ⟨b, off + k * 3 + 2, none⟩ = some (.int .i64 x.c) := by
  obtain ⟨b', off', e, _, hc⟩ := Knd.R.get h hx
  injection e with e
  injection e with e1 e2
  subst e1 e2
  have c1 := hc 1 _ rfl
  have c2 := hc 2 _ rfl
  rw [← Nat.add_assoc] at c1 c2
  exact ⟨hc 0 _ rfl, c1, c2⟩
theorem KN_last {w1 : World} {g cap N : Nat} {l : List Rn} {x : Rn} (c : Int) (h1 : KN.O w1 (.slice (some ⟨g, 0, none⟩) N cap) (l ++ [x])) :
    KN.O (w1.setCell ⟨g, l.length * 3 + 2, none⟩ (.int .i64 c)) (.slice (some ⟨g, 0, none⟩) N cap) (l ++ [⟨x.k, x.s, c⟩]) := by
  have hN : N = l.length + 1 := by
    rcases h1.2 with ⟨hv, _⟩ | ⟨g', cap', cur, hv, _⟩
    · simp at hv
    · injection hv with _ e _; simpa using e
  subst hN
  unfold Knd.O at *
  rw [show (l ++ [x]).length = l.length + 1 from by simp] at h1
  rw [show (l ++ [(⟨x.k, x.s, c⟩ : Rn)]).length = l.length + 1 from by simp]
  have q := ownsRow_setCells [.int .i64 c] w1 (KN.fl (l ++ [x])) (l.length * 3 + 2) h1
  have e1 : KN.fl (l ++ [x]) = (KN.fl l ++ [.int .u8 x.k, .int .i64 x.s]) ++ [.int .i64 x.c] := by rw [KN.fl_app, KN.fl_one]; simp [KN]
  have e2 : KN.fl (l ++ [(⟨x.k, x.s, c⟩ : Rn)]) = (KN.fl l ++ [.int .u8 x.k, .int .i64 x.s]) ++ [.int .i64 c] := by rw [KN.fl_app, KN.fl_one]; simp [KN]
  have e3 : (KN.fl l ++ [Value.int .u8 x.k, .int .i64 x.s]).length = l.length * 3 + 2 := by rw [List.length_append, KN.fl_len]; rfl
  have e4 := putAt_app [.int .i64 c] (KN.fl l ++ [.int .u8 x.k, .int .i64 x.s]) [.int .i64 x.c] (by simp)
  have e5 : putAt ((KN.fl l ++ [.int .u8 x.k, .int .i64 x.s]) ++ [.int .i64 x.c]) (l.length * 3 + 2) [.int .i64 c] = (KN.fl l ++ [.int .u8 x.k, .int .i64 x.s]) ++ [.int .i64 c] := by rw [← e3, e4]; simp
  rw [e1, e5] at q
  rw [e2]
  exact q
set_option maxHeartbeats 4000000 in
theorem rput_env (h : Env w0 w obs) (i : Nat) {v : Value} {rs : List Rn} (hi : obs[i]? = some (obRuns v rs)) (k s n : Int) (hl : rs.length ≤ 100000) (hb : ∀ r ∈ rs, 0 ≤ r.c ∧ r.c ≤ 2000000000000) (hn : n ≤ 2000000000000) :
    Calls Tryz.prog 20 #[v, .int .u8 k, .int .i64 s, .int .i64 n] w fun e w' => ∃ v', e = .returned v' ∧ Env w0 w' (obs.set i (obRuns v' (timesN rs ⟨k, s, n⟩))) := by
  have H := Lib.hid h
  have HI := Lib.hid hi
  obtain ⟨ao, cap, rfl, c1, c2, _⟩ := (show KN.R w v rs from h.kR i hi).any
  clear h hi
  by_cases hn1 : n < 1
  · have t1 : decide (n < 1) = true := decide_eq_true hn1
    rw [timesN_off hn1]
    clear hn1
    go_enter Tryz.func20, Tryz.ntmps20
    go_wp2_with fail
    go_ret
    exact ⟨_, rfl, (H.out.below ((Below.refl _ _).alloc (Nat.le_refl _) _)).same i HI.out⟩
  have t1 : decide (n < 1) = false := decide_eq_false hn1
  rw [timesN_on hn1]
  have HW := Lib.hid (H.out.below ((Below.refl _ _).alloc (Nat.le_refl _) (.cells #[.int .u8 k, .int .i64 s] 64)))
  have HBK := Lib.hid (Blk.new w 64 #[.int .u8 k, .int .i64 s])
  rcases List.eq_nil_or_concat rs with rfl | ⟨l0, x, rfl⟩
  · rw [show noteL [] k s n = [] ++ [⟨k, s, n⟩] from rfl]
    go_enter Tryz.func20, Tryz.ntmps20
    go_wp2_with fail
    go_quiet (fail)
    go_upto_region 7 with fail
    have h5 := HW.out.draw nq
    have hk5 := HBK.out.only ((Only.refl (fun _ => False) _).draw nq) (fun h => h)
    obtain ⟨w5, hw5⟩ : ∃ y, (w.alloc (.cells #[.int .u8 k, .int .i64 s] 64)).drewN nq = y := ⟨_, rfl⟩
    obtain ⟨E, hE⟩ : ∃ y, w.heap.size = y := ⟨_, rfl⟩
    rw [hw5] at h5 hk5 ⊢
    rw [hE] at hk5
    simp only [hE]
    have f0 : w5.cell? ⟨E, 0, none⟩ = some (.int .u8 k) := hk5.cellAt 0 rfl
    have f1 : w5.cell? ⟨E, 1, none⟩ = some (.int .i64 s) := hk5.cellAt 1 rfl
    have H5 := Lib.hid h5
    have HOWN := Lib.hid (Env.row (H5.out.below ((Below.refl _ _).alloc (Nat.le_refl _) (.cells #[.int .u8 k, .int .i64 s, .int .i64 n] 76))) i HI.out)
    clear hw5 hE h5 hk5
    obtain ⟨i0, hi0, hz0, hz1, hz2⟩ := info_parts infoN3
    go_wp2_with (at_builtin; refine wpList_append_lies _ rfl _ _ 33 rfl 0 76 i0 _ 3 24 Tryz.underlying33 hi0 hz0 hz1 hz2 rfl (by decide) (.slice ao 0 cap) 0 (KN.fl ([] : List Rn)) rfl HOWN.out ⟨w5.heap.size, 0, none⟩ 1 1 [.int .u8 k, .int .i64 s, .int .i64 n] rfl rfl (World.news_of_block (heap_alloc_new _ _)) (KN.one ⟨k, s, n⟩) (by decide) (by unfold maxLen; omega) (by omega) (Nat.zero_le _) _ rfl ?_)
    intro g cg w7 k1 k2 k3 k4
    clear hi0 hz0 hz1 hz2
    have h8 : Env w0 w7 (obs.set i (obRuns (.slice (some ⟨g, 0, none⟩) (0 + 1) cg) (([] : List Rn) ++ [⟨k, s, n⟩]))) := by
      have hb8 := H5.out.below ((Below.refl _ _).alloc (Nat.le_refl _) (.cells #[.int .u8 k, .int .i64 s, .int .i64 n] 76))
      refine hb8.rowUp i HI.out ?_ k2 ?_
      · show w7.ownsRow 0 KN.e KN.sz _ (([] : List Rn) ++ [(⟨k, s, n⟩ : Rn)]).length (KN.fl (([] : List Rn) ++ [⟨k, s, n⟩]))
        rw [KN.fl_app, KN.fl_one, List.length_append]
        exact k1
      · rcases k3 with k3 | k3
        · exact .inl k3.symm
        · exact .inr (by rw [k3]; simp [Value.ownBlock])
    have H8 := Lib.hid h8
    clear h8 k1 k2 k3 k4
    go_wp2_with fail
    go_ret
    exact ⟨_, rfl, H8.out⟩
  · rw [List.concat_eq_append] at *
    have hlen : (l0 ++ [x]).length = l0.length + 1 := by simp
    rw [hlen] at hl c1 HI ⊢
    have hO := Env.kO (K := KN) HW.out i HI.out
    have hxc := hb x (by simp)
    rcases hO.2 with ⟨hnil, _⟩ | ⟨g, cp, cur, heq, _, hblk, _⟩
    · exact absurd hnil (by simp)
    injection heq with e1 e2 e3
    subst e1
    have hR : KN.R _ _ _ := hO.rd
    have hcs := rnCellsP hR (k := l0.length) (x := x) (by simp)
    have fz : World.frozen? _ ⟨g, l0.length * 3 + 2, none⟩ = false := Blk.unfrozen hblk (l0.length * 3 + 2)
    simp only [Nat.zero_add] at hcs
    obtain ⟨d0, d1, d2⟩ := hcs
    have hlm : IntKind.i64.wrap (((l0.length + 1 : Nat) : Int) - 1) = (l0.length : Int) := by rw [IntWalk.i64_in _ (by omega)]; omega
    have bl : 0 ≤ (l0.length : Int) ∧ (l0.length : Int) < ((l0.length + 1 : Nat) : Int) := by omega
    have t0 : decide (0 < ((l0.length + 1 : Nat) : Int)) = true := decide_eq_true (by omega)
    by_cases he : x.k = k ∧ x.s = s
    · have b1 : (x.k == k) = true := by rw [he.1]; exact beq_self_eq_true _
      have b2 : (x.s == s) = true := by rw [he.2]; exact beq_self_eq_true _
      have hnl : noteL (l0 ++ [x]) k s n = l0 ++ [⟨x.k, x.s, x.c + n⟩] := by rw [← he.1, ← he.2]; exact noteL_same _ _ _
      rw [hnl]
      have hwc : IntKind.i64.wrap (x.c + n) = x.c + n := IntWalk.i64_in _ (by omega)
      clear hnl he hR hO hblk e2 e3 hb hxc
      go_enter Tryz.func20, Tryz.ntmps20
      go_wp2_with fail
      go_quiet (fail)
      go_wp2_with fail
      go_ret
      refine ⟨_, rfl, ?_⟩
      have h5 := HW.out.draw nq
      exact Env.turnK (K := KN) h5 i HI.out (KN_last (x.c + n) (Env.kO (K := KN) h5 i HI.out)) ((Only.refl (fpv (.slice (some ⟨g, 0, none⟩) (l0.length + 1) cap)) _).set (p := ⟨g, l0.length * 3 + 2, none⟩) (.inl rfl) _)
    · have hnl : noteL (l0 ++ [x]) k s n = l0 ++ [x] ++ [⟨k, s, n⟩] := noteL_other _ _ _ _ _ he
      rw [hnl]
      have hcase : ((x.k == k) = false) ∨ ((x.k == k) = true ∧ (x.s == s) = false) := by
        by_cases e : x.k = k
        · right
          refine ⟨by rw [e]; exact beq_self_eq_true _, ?_⟩
          rw [beq_eq_false_iff_ne]
          exact fun e2 => he ⟨e, e2⟩
        · left
          rw [beq_eq_false_iff_ne]
          exact e
      clear hnl he hR hO hblk e2 e3 hb hxc fz
      rcases hcase with b1 | ⟨b1, b2⟩
      all_goals
        go_enter Tryz.func20, Tryz.ntmps20
        go_wp2_with fail
        go_quiet (fail)
        go_upto_region 7 with fail
        have h5 := HW.out.draw nq
        have hk5 := HBK.out.only ((Only.refl (fun _ => False) _).draw nq) (fun h => h)
        obtain ⟨w5, hw5⟩ : ∃ y, (w.alloc (.cells #[.int .u8 k, .int .i64 s] 64)).drewN nq = y := ⟨_, rfl⟩
        obtain ⟨E, hE⟩ : ∃ y, w.heap.size = y := ⟨_, rfl⟩
        rw [hw5] at h5 hk5 ⊢
        rw [hE] at hk5
        simp only [hE]
        have f0 : w5.cell? ⟨E, 0, none⟩ = some (.int .u8 k) := hk5.cellAt 0 rfl
        have f1 : w5.cell? ⟨E, 1, none⟩ = some (.int .i64 s) := hk5.cellAt 1 rfl
        have H5 := Lib.hid h5
        have hown0 := (Env.row (H5.out.below ((Below.refl _ _).alloc (Nat.le_refl _) (.cells #[.int .u8 k, .int .i64 s, .int .i64 n] 76))) i HI.out)
        rw [hlen] at hown0
        have HOWN := Lib.hid hown0
        clear hown0
        clear hw5 hE h5 hk5
        obtain ⟨i0, hi0, hz0, hz1, hz2⟩ := info_parts infoN3
        go_wp2_with (at_builtin; refine wpList_append_lies _ rfl _ _ 33 rfl 0 76 i0 _ 3 24 Tryz.underlying33 hi0 hz0 hz1 hz2 rfl (by decide) (.slice (some ⟨g, 0, none⟩) (l0.length + 1) cap) (l0.length + 1) (KN.fl (l0 ++ [x])) rfl HOWN.out ⟨w5.heap.size, 0, none⟩ 1 1 [.int .u8 k, .int .i64 s, .int .i64 n] rfl rfl (World.news_of_block (heap_alloc_new _ _)) (KN.one ⟨k, s, n⟩) (by decide) (by unfold maxLen; omega) (by omega) (Nat.zero_le _) _ rfl ?_)
        intro g2 cg w7 k1 k2 k3 k4
        clear hi0 hz0 hz1 hz2
        have h8 : Env w0 w7 (obs.set i (obRuns (.slice (some ⟨g2, 0, none⟩) (l0.length + 1 + 1) cg) (l0 ++ [x] ++ [⟨k, s, n⟩]))) := by
          have hb8 := H5.out.below ((Below.refl _ _).alloc (Nat.le_refl _) (.cells #[.int .u8 k, .int .i64 s, .int .i64 n] 76))
          refine hb8.rowUp i HI.out ?_ k2 ?_
          · show w7.ownsRow 0 KN.e KN.sz _ (l0 ++ [x] ++ [(⟨k, s, n⟩ : Rn)]).length (KN.fl (l0 ++ [x] ++ [⟨k, s, n⟩]))
            rw [KN.fl_app, KN.fl_one, List.length_append, hlen]
            exact k1
          · rcases k3 with k3 | k3
            · exact .inl k3.symm
            · exact .inr (by rw [k3]; simp [Value.ownBlock])
        have H8 := Lib.hid h8
        clear h8 k1 k2 k3 k4
        go_wp2_with fail
        go_ret
        exact ⟨_, rfl, H8.out⟩
end
end Go.Proofs.YtkidijjhedjifaaGreat
