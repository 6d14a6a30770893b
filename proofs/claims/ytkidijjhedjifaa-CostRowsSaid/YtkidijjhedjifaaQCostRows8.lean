/- Each, Codes, Runs: all operations of a list. -/
import Derived.Test.YtkidijjhedjifaaRows
import Derived.Deep.AppendLies
import Derived.Test.YtkidijjhedjifaaQCostRows0
import Derived.Test.YtkidijjhedjifaaQCostRows1
import Derived.Test.YtkidijjhedjifaaQCostRows2
import Derived.Test.YtkidijjhedjifaaQCostRows7
/- Do: an operation whole. -/
namespace Go.Proofs.Ytkidijjhedjifaa
open Go.RowKit
set_option maxRecDepth 100000
set_option linter.unusedVariables false
set_option linter.unusedSimpArgs false
attribute [local go_sem] Oper.semAt_some
/-- a skeleton as it may be in memory -/
structure OKsk (s : Sk) : Prop where
  hk : okU s.kind
  ha : okI s.handle
  hl : okU s.alg
  hc : okI s.count
  ho : okI s.out
  hd : okI s.data
  hm : okI s.more
theorem OKsk.clip {s : Sk} (h : OKsk s) : OKsk s.clip := ⟨h.hk, h.ha, h.hl, h.hc, h.ho, by have := h.hd; unfold okI at *; show _ ≤ max 0 s.data ∧ max 0 s.data ≤ _; omega, by have := h.hm; unfold okI at *; show _ ≤ max 0 s.more ∧ max 0 s.more ≤ _; omega⟩
section
variable {w0 w : World} {obs : List Ob} {p m k : Nat} {σ : Hs}
theorem run_store_nilf (P : Program) (w : World) (a : Addr) (m : Mode) : (store a .nilFunc m).run P w = stored P w a .nilFunc m := run_store P w a _ m rfl
theorem run_store_fun (P : Program) (w : World) (a : Addr) (f : Fn) (x y : Array Value) (m : Mode) : (store a (.func f x y) m).run P w = stored P w a (.func f x y) m := run_store P w a _ m rfl
attribute [local go_sem] run_store_nilf run_store_fun
theorem ne_nil (m : Nat) (w : World) : (binOp BinOp.neq 57 (.map (some m)) (.map none)).run Try.prog w = .ok (.bool true) w := by
  first | kernel_rfl | rfl | simp [binOp]
theorem made_any (h : PubAt w p m k σ) : Calls Try.prog 46 #[pV p] w fun e w' => e = .returned (.bool true) ∧ w = w' := by
  have c0 := h.blk.cellAt 0 (v := .map (some m)) rfl
  have hl := h.blk.lt
  have hne := ne_nil m
  clear h
  unfold pV
  go_enter Try.func46, Try.ntmps46
  go_wp2
  go_ret
  exact ⟨rfl, rfl⟩
theorem RB_one (r : Rn) (h : r.c ≤ 1) : RB 1 [r] := ⟨by simp [tot]; exact h, by simp⟩
theorem RB.all {l : List Rn} : ∀ {c : Int} {rs : List Rn}, RB c rs → (∀ r ∈ l, OKe r) → RB (c + 40000000 * (l.length : Int)) (l.foldl timesN rs) := by
  induction l with
  | nil => intro c rs h _; simpa using h
  | cons r l ih =>
    intro c rs h hl
    have h1 := h.note r (hl r (by simp)).c1 (by omega)
    have h2 := ih h1 (fun x hx => hl x (by simp [hx]))
    rw [List.foldl_cons]
    have e : c + 40000000 + 40000000 * (l.length : Int) = c + 40000000 * (((r :: l).length : Nat) : Int) := by rw [List.length_cons]; omega
    rw [← e]
    exact h2
theorem evS_len (σ : Hs) (s : Sk) : (evS σ s).length ≤ 3 := by
  unfold evS beginE
  simp only
  split
  · split
    · simp
    · split <;> simp
  split
  · simp
  split
  · simp
  split
  · simp
  split
  · simp
  split
  · simp
  split <;> simp
theorem closeRun {w0 w : World} {M obs obs' : List Ob} {v : Value} {rs rs' : List Rn} (h : Env w0 w (M ++ [obRuns v rs])) (hp : Pre M obs) (he : obs' = obs) (hr : rs' = rs) : Env w0 w (obs' ++ [obRuns v rs']) := by
  subst he
  subst hr
  have hlen : obs'.length ≤ M.length := by
    by_cases h0 : obs'.length = 0
    · omega
    · have := hp (obs'.length - 1) (by omega)
      rw [List.getElem?_eq_getElem (show obs'.length - 1 < obs'.length by omega)] at this
      have := (List.getElem?_eq_some_iff.1 this).1
      omega
  refine h.pick (fun j => if j < obs'.length then j else M.length) ?_ ?_
  · intro a b ha hb hab
    rw [List.length_append, List.length_singleton] at ha hb
    split at hab <;> split at hab <;> omega
  · intro j ob hj
    by_cases e : j < obs'.length
    · rw [if_pos e, List.getElem?_append_left (by omega), hp j e]
      rw [List.getElem?_append_left e] at hj
      exact hj
    · rw [if_neg e]
      have hl := (List.getElem?_eq_some_iff.1 hj).1
      rw [List.length_append, List.length_singleton] at hl
      have : j = obs'.length := by omega
      subst this
      have e2 : (obs' ++ [obRuns v rs'])[obs'.length]? = some (obRuns v rs') := by rw [List.getElem?_append_right (Nat.le_refl _), Nat.sub_self]; rfl
      rw [e2] at hj
      rw [List.getElem?_append_right (Nat.le_refl _), Nat.sub_self]
      exact hj
theorem call_kdC {kn : Nat} (h : 1 ≤ kn ∧ kn ≤ 10) (args : Array Value) (w : World) : (callFunc (kdC kn) args).run Try.prog w = .ok (.enter (kdC kn) args) w := by
  rcases ten h with rfl | rfl | rfl | rfl | rfl | rfl | rfl | rfl | rfl | rfl <;> first | rfl | kernel_rfl
theorem call_kdO {kn : Nat} (h : 1 ≤ kn ∧ kn ≤ 10) (args : Array Value) (w : World) : (callFunc (kdO kn) args).run Try.prog w = .ok (.enter (kdO kn) args) w := by
  rcases ten h with rfl | rfl | rfl | rfl | rfl | rfl | rfl | rfl | rfl | rfl <;> first | rfl | kernel_rfl
theorem kdV_some {kn : Nat} (h : 1 ≤ kn) : kdV kn = .agg #[.func (.func (kdC kn)) #[] #[], .func (.func (kdO kn)) #[] #[]] := by
  unfold kdV
  rw [if_neg (by omega)]
structure SRun (p k B : Nat) (kn : Int) (kv : Value) (is : Bool) (W : World) : Prop where
  c : W.cell? ⟨p, 1, none⟩ = some (.map (some k))
  b0 : W.cell? ⟨B, 0, none⟩ = some (.int .u8 kn)
  look : (Instr.lookup 58 (.map (some k)) (.int .u8 kn) true).run Try.prog W = .ok (.tuple #[kv, .bool is]) W
theorem SRun.fc {p k B : Nat} {kn : Int} {kv : Value} {is : Bool} (W : World) (h : SRun p k B kn kv is W) : W.cell? ⟨p, 1, none⟩ = some (.map (some k)) := h.c
theorem SRun.f0 {p k B : Nat} {kn : Int} {kv : Value} {is : Bool} (W : World) (h : SRun p k B kn kv is W) : W.cell? ⟨B, 0, none⟩ = some (.int .u8 kn) := h.b0
theorem SRun.fl {p k B : Nat} {kn : Int} {kv : Value} {is : Bool} (W : World) (h : SRun p k B kn kv is W) : (Instr.lookup 58 (.map (some k)) (.int .u8 kn) true).run Try.prog W = .ok (.tuple #[kv, .bool is]) W := h.look
set_option maxHeartbeats 8000000 in
theorem do_env (h : Env w0 w obs) (i : Nat) (hi : obs[i]? = some (obPub p m k σ)) {mm : Int} (hok : OKh mm σ) (hmm : mm ≤ 700000000) (s0 : Sk) (hs : OKsk s0) :
    Calls Try.prog 28 #[pV p, skV s0] w fun e w' => ∃ v, e = .returned (.tuple #[v, .int .i64 (codeD σ s0)]) ∧ Env w0 w' (obs.set i (obPub p m k (nxD σ s0)) ++ [obRuns v (runsD σ s0)]) := by
  obtain ⟨s, hse⟩ : ∃ s, s0.clip = s := ⟨_, rfl⟩
  have hil1 := (List.getElem?_eq_some_iff.1 hi).1
  have HS : Hid (OKsk s) := by rw [← hse]; exact Lib.hid hs.clip
  have hd0 : 0 ≤ s.data ∧ 0 ≤ s.more := by rw [← hse]; exact ⟨by show 0 ≤ max 0 s0.data; omega, by show 0 ≤ max 0 s0.more; omega⟩
  have hkr := hs.hk
  unfold okU at hkr
  have HOK := Lib.hid hok
  have HI := Lib.hid hi
  have HE := Lib.hid h
  have e0 : s0.kind = s.kind ∧ s0.handle = s.handle ∧ s0.alg = s.alg ∧ s0.count = s.count ∧ s0.out = s.out := by rw [← hse]; exact ⟨rfl, rfl, rfl, rfl, rfl⟩
  obtain ⟨e1, e2, e3, e4, e5⟩ := e0
  have hdm : s.data = max 0 s0.data ∧ s.more = max 0 s0.more := by rw [← hse]; exact ⟨rfl, rfl⟩
  obtain ⟨hdm1, hdm2⟩ := hdm
  have HC : Hid (codeD σ s0 = codeS σ s ∧ runsD σ s0 = noteL ((if codeS σ s = 0 then evS σ s else []).foldl timesN (noteL [] 11 s.kind 1)) 12 (codeS σ s) 1 ∧ nxD σ s0 = if codeS σ s = 0 then nxS σ s else σ) := by
    rw [← hse]
    exact Lib.hid ⟨rfl, rfl, rfl⟩
  obtain ⟨kn, hkn⟩ : ∃ kn : Nat, s.kind = (kn : Int) := ⟨s.kind.toNat, by omega⟩
  have HKN := Lib.hid hkn
  have hkn255 : kn ≤ 255 := by omega
  clear hkn
  have HP := Lib.hid (made_any (h.pub i hi))
  clear h hi hok hs
  unfold skV
  rw [e1, e2, e3, e4, e5]
  rw [e1] at hkr
  clear e1 e2 e3 e4 e5 hse
  unfold pV at HP ⊢
  go_enter Try.func28, Try.ntmps28
  go_wp2_with fail
  have HB0 : Hid (∀ wx, Below w.heap.size w wx → Calls Try.prog 46 #[.pointer (some ⟨p, 0, none⟩)] wx fun e w' => e = .returned (.bool true) ∧ wx = w') := Lib.hid (fun wx hb => made_any ((HE.out.below hb).pub i HI.out))
  refine (HB0.out _ ((Below.refl _ _).alloc (Nat.le_refl _) _)).mono ?_
  rintro e wz ⟨rfl, rfl⟩
  clear HP HB0
  go_upto_region 3 with fail
  go_cut [] from 10 to 20 (fun wx => wx = w.alloc (.cells #[.int .u8 s.kind, .int .i64 s.handle, .int .u8 s.alg, .int .i64 s.count, .int .i64 s.out, .int .i64 s.data, .int .i64 s.more] 43))
  case first =>
    go_wp2_with fail
    all_goals go_meet
    all_goals first | rw [show s.data = s0.data from by omega, show s.more = s0.more from by omega] | rw [show s.data = s0.data from by omega, show s.more = 0 from by omega] | rw [show s.data = 0 from by omega, show s.more = s0.more from by omega] | rw [show s.data = 0 from by omega, show s.more = 0 from by omega]
  case rest =>
    subst hcut
    have h1 := HE.out.newK 43 (skCells s)
    obtain ⟨B, hB⟩ : ∃ y, w.heap.size = y := ⟨_, rfl⟩
    obtain ⟨w1, hw1⟩ : ∃ y, w.alloc (.cells #[.int .u8 s.kind, .int .i64 s.handle, .int .u8 s.alg, .int .i64 s.count, .int .i64 s.out, .int .i64 s.data, .int .i64 s.more] 43) = y := ⟨_, rfl⟩
    unfold skCells at h1
    rw [hw1, hB] at h1
    try rw [hw1]
    try rw [hB]
    have H1 := Lib.hid h1
    clear h1 hw1 hB hdm1 hdm2
    go_wp2_with fail
    refine (newP_env' H1.out).mono ?_
    rintro e w2 ⟨q, rfl, h2⟩
    obtain ⟨M, hM⟩ : ∃ M, obs ++ [obK B 43 #[.int .u8 s.kind, .int .i64 s.handle, .int .u8 s.alg, .int .i64 s.count, .int .i64 s.out, .int .i64 s.data, .int .i64 s.more]] ++ [obP q (some [])] = M := ⟨_, rfl⟩
    have L0 : Hid (M[i]? = some (obPub p m k σ) ∧ M[obs.length]? = some (obK B 43 (skCells s)) ∧ M[obs.length + 1]? = some (obP q (some []))) := by
      rw [← hM]
      exact Lib.hid ⟨atL (atL HI.out), atL (atR 0), by rw [show obs.length + 1 = (obs ++ [obK B 43 #[.int .u8 s.kind, .int .i64 s.handle, .int .u8 s.alg, .int .i64 s.count, .int .i64 s.out, .int .i64 s.data, .int .i64 s.more]]).length from by simp]; exact atR 0⟩
    have P0 : Hid (Pre M obs) := by rw [← hM]; exact Lib.hid (Pre.app2 _ _ _)
    rw [hM] at h2
    have H2 := Lib.hid h2
    have HML := Lib.hid hM
    clear h2 hM H1
    have hwk : IntKind.i64.wrap s.kind = s.kind := IntWalk.i64_in _ (by omega)
    have sc := H2.out.sc i obs.length L0.out.1 L0.out.2.1 HS.out.ha
    have b0 := sc.b0
    have b1 := sc.b1
    have b2 := sc.b2
    have b3 := sc.b3
    have b4 := sc.b4
    have b5 := sc.b5
    have b6 := sc.b6
    clear sc
    go_wp2_with fail
    clear b0 b1 b2 b3 b4 b5 b6
    refine (noteS_env H2.out (obs.length + 1) L0.out.2.2 11 s.kind (c := 0) ⟨by simp [tot], by simp⟩ (by omega)).mono ?_
    rintro e w3 ⟨rfl, h3⟩
    obtain ⟨M3, hM3⟩ : ∃ M3, M.set (obs.length + 1) (obP q (some (noteL [] 11 s.kind 1))) = M3 := ⟨_, rfl⟩
    have h3' : Env w0 w3 M3 := by rw [← hM3]; exact h3
    have L3 : Hid (M3[i]? = some (obPub p m k σ) ∧ M3[obs.length]? = some (obK B 43 (skCells s)) ∧ M3[obs.length + 1]? = some (obP q (some (noteL [] 11 s.kind 1)))) := by
      rw [← hM3]
      exact Lib.hid ⟨by rw [List.getElem?_set_ne (by omega)]; exact L0.out.1, by rw [List.getElem?_set_ne (by omega)]; exact L0.out.2.1, List.getElem?_set_self (List.getElem?_eq_some_iff.1 L0.out.2.2).1⟩
    have P3 : Hid (Pre M3 obs) := by rw [← hM3]; exact Lib.hid (P0.out.far _ (by omega) _)
    have HLN : Hid (M3.length = obs.length + 2) := by rw [← hM3, List.length_set, ← HML.out]; exact Lib.hid (by simp)
    have H3 := Lib.hid h3'
    clear h3 h3' hM3 H2 L0 P0
    go_upto_region 7 with fail
    have hSR : ∀ (kv : Value) (is : Bool) (W : World) (X : List Ob), kv = kdV (if 1 ≤ kn ∧ kn ≤ 10 then kn else 0) → is = decide (1 ≤ kn ∧ kn ≤ 10) → Env w0 W (M3 ++ X) → SRun p k B s.kind kv is W := fun kv is W X hkv his hE => by
      have h1 := hE.pub i (atL L3.out.1)
      refine ⟨h1.blk.cellAt 1 rfl, (hE.blk obs.length (atL L3.out.2.1)).cellAt 0 rfl, ?_⟩
      rw [HKN.out, hkv, his]
      exact h1.kinds.look (by omega)
    have HSR := Lib.hid hSR
    clear hSR
    by_cases hk : 1 ≤ kn ∧ kn ≤ 10
    · have hkv : (Value.agg #[.func (.func (kdC kn)) #[] #[], .func (.func (kdO kn)) #[] #[]]) = kdV (if 1 ≤ kn ∧ kn ≤ 10 then kn else 0) := by rw [if_pos hk, kdV_some hk.1]
      have his : true = decide (1 ≤ kn ∧ kn ≤ 10) := (decide_eq_true hk).symm
      have HKV := Lib.hid (And.intro hkv his)
      have HKK := Lib.hid hk
      have hcf := call_kdC hk
      have hof := call_kdO hk
      obtain ⟨fc, hfc⟩ : ∃ y, kdC kn = y := ⟨_, rfl⟩
      obtain ⟨fo, hfo⟩ : ∃ y, kdO kn = y := ⟨_, rfl⟩
      rw [hfc, hfo] at HKV
      rw [hfc] at hcf
      rw [hfo] at hof
      have HF := Lib.hid (And.intro hfc hfo)
      clear hkv his hk hfc hfo
      refine hd_start (SRun p k B s.kind (.agg #[.func (.func fc) #[] #[], .func (.func fo) #[] #[]]) true) (by kernel_rfl) ?_
      intro w4 hw'
      have H4 := Lib.hid (H3.out.draw 1)
      rw [← hw'] at H4
      clear hw' H3
      have S4 := HSR.out _ _ w4 [] HKV.out.1 HKV.out.2 (by rw [List.append_nil]; exact H4.out)
      refine hd_take (v := ?_) 0 rfl (by kernel_rfl) (fun _ _ d _ _ h => (by cases d <;> exact h)) (by kernel_rfl) S4 (fun w' hS => ?_) ?_
      rotate_left
      focus (have q0 := SRun.fc w' hS; have q1 := SRun.f0 w' hS; have q2 := SRun.fl w' hS; clear hS; go_simp; try rfl; done)
      simp only [List.getElem_toArray, List.getElem_cons_succ, List.getElem_cons_zero, Act.put, List.setIfInBounds_toArray, List.set_cons_zero, List.set_cons_succ]
      refine hd_take (v := ?_) 1 rfl (by kernel_rfl) (fun _ _ d _ _ h => (by cases d <;> exact h)) (by kernel_rfl) S4 (fun w' hS => ?_) ?_
      rotate_left
      focus (have q0 := SRun.fc w' hS; have q1 := SRun.f0 w' hS; have q2 := SRun.fl w' hS; clear hS; go_simp; try rfl; done)
      simp only [List.getElem_toArray, List.getElem_cons_succ, List.getElem_cons_zero, Act.put, List.setIfInBounds_toArray, List.set_cons_zero, List.set_cons_succ]
      refine hd_take (v := ?_) 2 rfl (by kernel_rfl) (fun _ _ d _ _ h => (by cases d <;> exact h)) (by kernel_rfl) S4 (fun w' hS => ?_) ?_
      rotate_left
      focus (have q0 := SRun.fc w' hS; have q1 := SRun.f0 w' hS; have q2 := SRun.fl w' hS; clear hS; go_simp; try rfl; done)
      simp only [List.getElem_toArray, List.getElem_cons_succ, List.getElem_cons_zero, Act.put, List.setIfInBounds_toArray, List.set_cons_zero, List.set_cons_succ]
      refine hd_take (v := ?_) 3 rfl (by kernel_rfl) (fun _ _ d _ _ h => (by cases d <;> exact h)) (by kernel_rfl) S4 (fun w' hS => ?_) ?_
      rotate_left
      focus (have q0 := SRun.fc w' hS; have q1 := SRun.f0 w' hS; have q2 := SRun.fl w' hS; clear hS; go_simp; try rfl; done)
      simp only [List.getElem_toArray, List.getElem_cons_succ, List.getElem_cons_zero, Act.put, List.setIfInBounds_toArray, List.set_cons_zero, List.set_cons_succ]
      refine hd_take (v := ?_) 4 rfl (by kernel_rfl) (fun _ _ d _ _ h => (by cases d <;> exact h)) (by kernel_rfl) S4 (fun w' hS => ?_) ?_
      rotate_left
      focus (have q0 := SRun.fc w' hS; have q1 := SRun.f0 w' hS; have q2 := SRun.fl w' hS; clear hS; go_simp; try rfl; done)
      simp only [List.getElem_toArray, List.getElem_cons_succ, List.getElem_cons_zero, Act.put, List.setIfInBounds_toArray, List.set_cons_zero, List.set_cons_succ]
      refine hd_take (v := ?_) 5 rfl (by kernel_rfl) (fun _ _ d _ _ h => (by cases d <;> exact h)) (by kernel_rfl) S4 (fun w' hS => ?_) ?_
      rotate_left
      focus (have q0 := SRun.fc w' hS; have q1 := SRun.f0 w' hS; have q2 := SRun.fl w' hS; clear hS; go_simp; try rfl; done)
      simp only [List.getElem_toArray, List.getElem_cons_succ, List.getElem_cons_zero, Act.put, List.setIfInBounds_toArray, List.set_cons_zero, List.set_cons_succ]
      refine hd_take (v := ?_) 6 rfl (by kernel_rfl) (fun _ _ d _ _ h => (by cases d <;> exact h)) (by kernel_rfl) S4 (fun w' hS => ?_) ?_
      rotate_left
      focus (have q0 := SRun.fc w' hS; have q1 := SRun.f0 w' hS; have q2 := SRun.fl w' hS; clear hS; go_simp; try rfl; done)
      simp only [List.getElem_toArray, List.getElem_cons_succ, List.getElem_cons_zero, Act.put, List.setIfInBounds_toArray, List.set_cons_zero, List.set_cons_succ]
      refine hd_take (v := ?_) 7 rfl (by kernel_rfl) (fun _ _ d _ _ h => (by cases d <;> exact h)) (by kernel_rfl) S4 (fun w' hS => ?_) ?_
      rotate_left
      focus (have q0 := SRun.fc w' hS; have q1 := SRun.f0 w' hS; have q2 := SRun.fl w' hS; clear hS; go_simp; try rfl; done)
      simp only [List.getElem_toArray, List.getElem_cons_succ, List.getElem_cons_zero, Act.put, List.setIfInBounds_toArray, List.set_cons_zero, List.set_cons_succ]
      refine hd_take (v := ?_) 8 rfl (by kernel_rfl) (fun _ _ d _ _ h => (by cases d <;> exact h)) (by kernel_rfl) S4 (fun w' hS => ?_) ?_
      rotate_left
      focus (have q0 := SRun.fc w' hS; have q1 := SRun.f0 w' hS; have q2 := SRun.fl w' hS; clear hS; go_simp; try rfl; done)
      simp only [List.getElem_toArray, List.getElem_cons_succ, List.getElem_cons_zero, Act.put, List.setIfInBounds_toArray, List.set_cons_zero, List.set_cons_succ]
      refine hd_take (v := ?_) 9 rfl (by kernel_rfl) (fun _ _ d _ _ h => (by cases d <;> exact h)) (by kernel_rfl) S4 (fun w' hS => ?_) ?_
      rotate_left
      focus (have q0 := SRun.fc w' hS; have q1 := SRun.f0 w' hS; have q2 := SRun.fl w' hS; clear hS; go_simp; try rfl; done)
      simp only [List.getElem_toArray, List.getElem_cons_succ, List.getElem_cons_zero, Act.put, List.setIfInBounds_toArray, List.set_cons_zero, List.set_cons_succ]
      have h5 := H4.out.newK 85 #[.func (.func fc) #[] #[], .func (.func fo) #[] #[]]
      have h5z := H4.out.newK 85 #[.nilFunc, .nilFunc]
      have S5z := HSR.out _ _ _ _ HKV.out.1 HKV.out.2 h5z
      have S5 := HSR.out _ _ _ _ HKV.out.1 HKV.out.2 h5
      refine hd_one 10 (by kernel_rfl) ?_
      refine op_run rfl (by kernel_rfl) (by go_simp; first | done | exact ⟨rfl, rfl⟩ | rfl) ?_
      refine ⟨S5z, ?_⟩
      simp only [List.getElem_toArray, List.getElem_cons_succ, List.getElem_cons_zero, Act.put, List.setIfInBounds_toArray, List.set_cons_zero, List.set_cons_succ]
      refine hd_one 11 (by kernel_rfl) ?_
      refine op_skip rfl (by kernel_rfl) (by go_simp; first | done | rfl) ?_
      refine ⟨S5, ?_⟩
      simp only [List.getElem_toArray, List.getElem_cons_succ, List.getElem_cons_zero, Act.put, List.setIfInBounds_toArray, List.set_cons_zero, List.set_cons_succ]
      refine hd_take (v := ?_) 12 rfl (by kernel_rfl) (fun _ _ d _ _ h => (by cases d <;> exact h)) (by kernel_rfl) S5 (fun w' hS => ?_) ?_
      rotate_left
      focus (clear hS; go_simp; try rfl; done)
      simp only [List.getElem_toArray, List.getElem_cons_succ, List.getElem_cons_zero, Act.put, List.setIfInBounds_toArray, List.set_cons_zero, List.set_cons_succ]
      refine hd_done (by kernel_rfl) ?_
      clear S4 S5 S5z h5z H4
      obtain ⟨B2, hB2⟩ : ∃ y, w4.heap.size = y := ⟨_, rfl⟩
      obtain ⟨w5, hw5⟩ : ∃ y, w4.alloc (.cells #[.func (.func fc) #[] #[], .func (.func fo) #[] #[]] 85) = y := ⟨_, rfl⟩
      rw [hw5, hB2] at h5
      try rw [hw5]
      try rw [hB2]
      clear hw5 hB2
      obtain ⟨M5, hM5⟩ : ∃ y, M3 ++ [obK B2 85 #[.func (.func fc) #[] #[], .func (.func fo) #[] #[]]] = y := ⟨_, rfl⟩
      have hm3 : M3.length = obs.length + 2 := HLN.out
      have L5 : Hid (M5[i]? = some (obPub p m k σ) ∧ M5[obs.length]? = some (obK B 43 (skCells s)) ∧ M5[obs.length + 1]? = some (obP q (some (noteL [] 11 s.kind 1)))) := by rw [← hM5]; exact Lib.hid ⟨atL L3.out.1, atL L3.out.2.1, atL L3.out.2.2⟩
      have J5 : Hid (M5[obs.length + 2]? = some (obK B2 85 #[.func (.func fc) #[] #[], .func (.func fo) #[] #[]])) := by rw [← hM5, ← hm3]; exact Lib.hid (atR 0)
      have P5 : Hid (Pre M5 obs) := by
        rw [← hM5]
        exact Lib.hid (fun j hj => by rw [List.getElem?_append_left (by omega)]; exact P3.out j hj)
      rw [hM5] at h5
      have H5 := Lib.hid h5
      clear h5 hM5 hm3
      have kb := H5.out.blk (obs.length + 2) J5.out
      have k0 := kb.cellAt 0 rfl
      have k1 := kb.cellAt 1 rfl
      clear kb
      have sc := H5.out.sc i obs.length L5.out.1 L5.out.2.1 HS.out.ha
      have b0 := sc.b0
      have b1 := sc.b1
      have b2 := sc.b2
      have b3 := sc.b3
      have b4 := sc.b4
      have b5 := sc.b5
      have b6 := sc.b6
      clear sc
      go_wp2_with fail
      clear b0 b1 b2 b3 b4 b5 b6
      clear k0 k1
      have hca := code_all (H5.out.pub i L5.out.1) kn HKK.out s HKN.out HS.out.ha
      rw [HF.out.1] at hca
      refine hca.mono ?_
      rintro e w6 ⟨rfl, hb⟩
      have H6 := Lib.hid (H5.out.below hb)
      clear hb
      by_cases hc : codeS σ s = 0
      · have HCZ := Lib.hid hc
        rw [hc]
        clear hc
        have kb := H6.out.blk (obs.length + 2) J5.out
        have k0 := kb.cellAt 0 rfl
        have k1 := kb.cellAt 1 rfl
        clear kb
        have sc := H6.out.sc i obs.length L5.out.1 L5.out.2.1 HS.out.ha
        have b0 := sc.b0
        have b1 := sc.b1
        have b2 := sc.b2
        have b3 := sc.b3
        have b4 := sc.b4
        have b5 := sc.b5
        have b6 := sc.b6
        clear sc
        go_wp2_with fail
        clear b0 b1 b2 b3 b4 b5 b6
        clear k0 k1
        have hda := do_all H6.out i (obs.length + 1) (by omega) L5.out.1 L5.out.2.2 kn HKK.out s HKN.out HS.out.ha HOK.out hmm hd0.1 hd0.2 HCZ.out (cb := 1) (RB_one ⟨11, s.kind, 1⟩ (Int.le_refl 1)) (by omega)
        rw [HF.out.2] at hda
        refine hda.mono ?_
        rintro e w7 ⟨rfl, h7⟩
        obtain ⟨rs, hrs⟩ : ∃ rs, (evS σ s).foldl timesN (noteL [] 11 s.kind 1) = rs := ⟨_, rfl⟩
        rw [hrs] at h7
        have hrb : RB 120000001 rs := by
          rw [← hrs]
          have h1 := RB.all (l := evS σ s) (RB_one ⟨11, s.kind, 1⟩ (Int.le_refl 1)) (events_ok HOK.out hd0.1 hd0.2 HCZ.out).1
          have h2 := evS_len σ s
          exact ⟨by have := h1.1; show tot ((evS σ s).foldl timesN [⟨11, s.kind, 1⟩]) ≤ _; omega, by have := h1.2; show ((((evS σ s).foldl timesN [⟨11, s.kind, 1⟩]).length : Nat) : Int) ≤ _; omega⟩
        obtain ⟨σ', hσ⟩ : ∃ y, nxS σ s = y := ⟨_, rfl⟩
        rw [hσ] at h7
        have HRS := Lib.hid (And.intro hrs (And.intro hσ hrb))
        obtain ⟨M7, hM7⟩ : ∃ y, (M5.set (obs.length + 1) (obP q (some rs))).set i (obPub p m k σ') = y := ⟨_, rfl⟩
        have L7 : Hid (M7[i]? = some (obPub p m k σ') ∧ True ∧ M7[obs.length + 1]? = some (obP q (some rs))) := by
          rw [← hM7]
          exact Lib.hid ⟨List.getElem?_set_self (by rw [List.length_set]; exact (List.getElem?_eq_some_iff.1 L5.out.1).1), trivial, by rw [List.getElem?_set_ne (by omega)]; exact List.getElem?_set_self (List.getElem?_eq_some_iff.1 L5.out.2.2).1⟩
        have P7 : Hid (Pre M7 (obs.set i (obPub p m k σ'))) := by
          rw [← hM7]
          exact Lib.hid ((P5.out.far (obs.length + 1) (by omega) _).set i hil1 _)
        rw [hM7] at h7
        have H7 := Lib.hid h7
        clear h7 hM7 hrs hσ hrb H6
        go_wp2_with fail
        refine (noteS_env H7.out (obs.length + 1) L7.out.2.2 12 0 HRS.out.2.2 (by omega)).mono ?_
        rintro e w20 ⟨rfl, h20⟩
        have H20 := Lib.hid h20
        clear h20
        go_wp2_with fail
        refine (runsP_env' H20.out (obs.length + 1) (List.getElem?_set_self (List.getElem?_eq_some_iff.1 L7.out.2.2).1) (by have := noteL_len1 rs 12 0 1; have := HRS.out.2.2.2; show (timesN rs ⟨12, 0, 1⟩).length ≤ _; unfold timesN; simp only; split <;> omega)).mono ?_
        rintro e w21 ⟨v, rfl, h21⟩
        have H21 := Lib.hid h21
        clear h21
        go_wp2_with fail
        go_ret2
        refine ⟨v, by rw [HC.out.1, HCZ.out]; rfl, ?_⟩
        rw [HC.out.2.1, HC.out.2.2, HCZ.out, if_pos rfl, if_pos rfl, HRS.out.1, HRS.out.2.1]
        have e9 := P7.out.far (obs.length + 1) (by rw [List.length_set]; omega) (obP q (some (timesN rs ⟨12, 0, 1⟩)))
        exact closeRun H21.out e9 rfl rfl
      · obtain ⟨cc, hcc⟩ : ∃ y, codeS σ s = y := ⟨_, rfl⟩
        rw [hcc] at hc ⊢
        have HCC := Lib.hid (And.intro hcc hc)
        have qc : (cc == (0 : Int)) = false := by rw [beq_eq_false_iff_ne]; exact hc
        clear hcc hc
        go_wp2_with fail
        refine (noteS_env H6.out (obs.length + 1) L5.out.2.2 12 cc (RB_one ⟨11, s.kind, 1⟩ (Int.le_refl 1)) (by omega)).mono ?_
        rintro e w20 ⟨rfl, h20⟩
        have H20 := Lib.hid h20
        clear h20
        go_wp2_with fail
        refine (runsP_env' H20.out (obs.length + 1) (List.getElem?_set_self (List.getElem?_eq_some_iff.1 L5.out.2.2).1) (by first | (simp [timesN, noteL]; done) | (simp [timesN, noteL]; omega) | (show (noteL (noteL [] 11 s.kind 1) 12 cc 1).length ≤ _; have := noteL_len1 (noteL [] 11 s.kind 1) 12 (cc) 1; have : (noteL [] 11 s.kind 1).length = 1 := rfl; omega))).mono ?_
        rintro e w21 ⟨v, rfl, h21⟩
        have H21 := Lib.hid h21
        clear h21
        go_wp2_with fail
        go_ret2
        refine ⟨v, by rw [HC.out.1, HCC.out.1]; rfl, ?_⟩
        rw [HC.out.2.1, HC.out.2.2, HCC.out.1, if_neg HCC.out.2, if_neg HCC.out.2]
        have e9 := P5.out.far (obs.length + 1) (by omega) (obP q (some (timesN (noteL [] 11 s.kind 1) ⟨12, cc, 1⟩)))
        exact closeRun H21.out e9 (setIs _ _ _ HI.out) rfl
    · have hkn := HKN.out
      have hz : codeS σ s = 3 := by
        unfold codeS
        rw [if_neg (by omega), if_neg (by omega), if_neg (by omega), if_neg (by omega), if_neg (by omega), if_neg (by omega), if_neg (by omega), if_neg (by omega), if_neg (by omega), if_neg (by omega)]
      have HZ := Lib.hid hz
      have hkv : (Value.agg #[.nilFunc, .nilFunc]) = kdV (if 1 ≤ kn ∧ kn ≤ 10 then kn else 0) := by rw [if_neg hk]; rfl
      have his : false = decide (1 ≤ kn ∧ kn ≤ 10) := (decide_eq_false hk).symm
      have HKV := Lib.hid (And.intro hkv his)
      clear hz hkv his hk hkn
      refine hd_start (SRun p k B s.kind (.agg #[.nilFunc, .nilFunc]) false) (by kernel_rfl) ?_
      intro w4 hw'
      have H4 := Lib.hid (H3.out.draw 1)
      rw [← hw'] at H4
      clear hw' H3
      have S4 := HSR.out _ _ w4 [] HKV.out.1 HKV.out.2 (by rw [List.append_nil]; exact H4.out)
      refine hd_take (v := ?_) 0 rfl (by kernel_rfl) (fun _ _ d _ _ h => (by cases d <;> exact h)) (by kernel_rfl) S4 (fun w' hS => ?_) ?_
      rotate_left
      focus (have q0 := SRun.fc w' hS; have q1 := SRun.f0 w' hS; have q2 := SRun.fl w' hS; clear hS; go_simp; try rfl; done)
      simp only [List.getElem_toArray, List.getElem_cons_succ, List.getElem_cons_zero, Act.put, List.setIfInBounds_toArray, List.set_cons_zero, List.set_cons_succ]
      refine hd_take (v := ?_) 1 rfl (by kernel_rfl) (fun _ _ d _ _ h => (by cases d <;> exact h)) (by kernel_rfl) S4 (fun w' hS => ?_) ?_
      rotate_left
      focus (have q0 := SRun.fc w' hS; have q1 := SRun.f0 w' hS; have q2 := SRun.fl w' hS; clear hS; go_simp; try rfl; done)
      simp only [List.getElem_toArray, List.getElem_cons_succ, List.getElem_cons_zero, Act.put, List.setIfInBounds_toArray, List.set_cons_zero, List.set_cons_succ]
      refine hd_take (v := ?_) 2 rfl (by kernel_rfl) (fun _ _ d _ _ h => (by cases d <;> exact h)) (by kernel_rfl) S4 (fun w' hS => ?_) ?_
      rotate_left
      focus (have q0 := SRun.fc w' hS; have q1 := SRun.f0 w' hS; have q2 := SRun.fl w' hS; clear hS; go_simp; try rfl; done)
      simp only [List.getElem_toArray, List.getElem_cons_succ, List.getElem_cons_zero, Act.put, List.setIfInBounds_toArray, List.set_cons_zero, List.set_cons_succ]
      refine hd_take (v := ?_) 3 rfl (by kernel_rfl) (fun _ _ d _ _ h => (by cases d <;> exact h)) (by kernel_rfl) S4 (fun w' hS => ?_) ?_
      rotate_left
      focus (have q0 := SRun.fc w' hS; have q1 := SRun.f0 w' hS; have q2 := SRun.fl w' hS; clear hS; go_simp; try rfl; done)
      simp only [List.getElem_toArray, List.getElem_cons_succ, List.getElem_cons_zero, Act.put, List.setIfInBounds_toArray, List.set_cons_zero, List.set_cons_succ]
      refine hd_take (v := ?_) 4 rfl (by kernel_rfl) (fun _ _ d _ _ h => (by cases d <;> exact h)) (by kernel_rfl) S4 (fun w' hS => ?_) ?_
      rotate_left
      focus (have q0 := SRun.fc w' hS; have q1 := SRun.f0 w' hS; have q2 := SRun.fl w' hS; clear hS; go_simp; try rfl; done)
      simp only [List.getElem_toArray, List.getElem_cons_succ, List.getElem_cons_zero, Act.put, List.setIfInBounds_toArray, List.set_cons_zero, List.set_cons_succ]
      refine hd_take (v := ?_) 5 rfl (by kernel_rfl) (fun _ _ d _ _ h => (by cases d <;> exact h)) (by kernel_rfl) S4 (fun w' hS => ?_) ?_
      rotate_left
      focus (have q0 := SRun.fc w' hS; have q1 := SRun.f0 w' hS; have q2 := SRun.fl w' hS; clear hS; go_simp; try rfl; done)
      simp only [List.getElem_toArray, List.getElem_cons_succ, List.getElem_cons_zero, Act.put, List.setIfInBounds_toArray, List.set_cons_zero, List.set_cons_succ]
      refine hd_take (v := ?_) 6 rfl (by kernel_rfl) (fun _ _ d _ _ h => (by cases d <;> exact h)) (by kernel_rfl) S4 (fun w' hS => ?_) ?_
      rotate_left
      focus (have q0 := SRun.fc w' hS; have q1 := SRun.f0 w' hS; have q2 := SRun.fl w' hS; clear hS; go_simp; try rfl; done)
      simp only [List.getElem_toArray, List.getElem_cons_succ, List.getElem_cons_zero, Act.put, List.setIfInBounds_toArray, List.set_cons_zero, List.set_cons_succ]
      refine hd_take (v := ?_) 7 rfl (by kernel_rfl) (fun _ _ d _ _ h => (by cases d <;> exact h)) (by kernel_rfl) S4 (fun w' hS => ?_) ?_
      rotate_left
      focus (have q0 := SRun.fc w' hS; have q1 := SRun.f0 w' hS; have q2 := SRun.fl w' hS; clear hS; go_simp; try rfl; done)
      simp only [List.getElem_toArray, List.getElem_cons_succ, List.getElem_cons_zero, Act.put, List.setIfInBounds_toArray, List.set_cons_zero, List.set_cons_succ]
      refine hd_take (v := ?_) 8 rfl (by kernel_rfl) (fun _ _ d _ _ h => (by cases d <;> exact h)) (by kernel_rfl) S4 (fun w' hS => ?_) ?_
      rotate_left
      focus (have q0 := SRun.fc w' hS; have q1 := SRun.f0 w' hS; have q2 := SRun.fl w' hS; clear hS; go_simp; try rfl; done)
      simp only [List.getElem_toArray, List.getElem_cons_succ, List.getElem_cons_zero, Act.put, List.setIfInBounds_toArray, List.set_cons_zero, List.set_cons_succ]
      refine hd_take (v := ?_) 9 rfl (by kernel_rfl) (fun _ _ d _ _ h => (by cases d <;> exact h)) (by kernel_rfl) S4 (fun w' hS => ?_) ?_
      rotate_left
      focus (have q0 := SRun.fc w' hS; have q1 := SRun.f0 w' hS; have q2 := SRun.fl w' hS; clear hS; go_simp; try rfl; done)
      simp only [List.getElem_toArray, List.getElem_cons_succ, List.getElem_cons_zero, Act.put, List.setIfInBounds_toArray, List.set_cons_zero, List.set_cons_succ]
      have h5 := H4.out.newK 85 #[.nilFunc, .nilFunc]
      have S5 := HSR.out _ _ _ _ HKV.out.1 HKV.out.2 h5
      refine hd_one 10 (by kernel_rfl) ?_
      refine op_run rfl (by kernel_rfl) (by go_simp; first | done | exact ⟨rfl, rfl⟩ | rfl) ?_
      refine ⟨S5, ?_⟩
      simp only [List.getElem_toArray, List.getElem_cons_succ, List.getElem_cons_zero, Act.put, List.setIfInBounds_toArray, List.set_cons_zero, List.set_cons_succ]
      refine hd_one 11 (by kernel_rfl) ?_
      refine op_skip rfl (by kernel_rfl) (by go_simp; first | done | rfl) ?_
      refine ⟨S5, ?_⟩
      simp only [List.getElem_toArray, List.getElem_cons_succ, List.getElem_cons_zero, Act.put, List.setIfInBounds_toArray, List.set_cons_zero, List.set_cons_succ]
      refine hd_take (v := ?_) 12 rfl (by kernel_rfl) (fun _ _ d _ _ h => (by cases d <;> exact h)) (by kernel_rfl) S5 (fun w' hS => ?_) ?_
      rotate_left
      focus (clear hS; go_simp; try rfl; done)
      simp only [List.getElem_toArray, List.getElem_cons_succ, List.getElem_cons_zero, Act.put, List.setIfInBounds_toArray, List.set_cons_zero, List.set_cons_succ]
      refine hd_done (by kernel_rfl) ?_
      have H5 : Hid (Env w0 (w4.alloc (.cells #[.nilFunc, .nilFunc] 85)) M3) := Lib.hid h5.keepL
      clear S4 S5 h5 H4
      go_wp2_with fail
      refine (noteS_env H5.out (obs.length + 1) L3.out.2.2 12 3 (RB_one ⟨11, s.kind, 1⟩ (Int.le_refl 1)) (by omega)).mono ?_
      rintro e w20 ⟨rfl, h20⟩
      have H20 := Lib.hid h20
      clear h20
      go_wp2_with fail
      refine (runsP_env' H20.out (obs.length + 1) (List.getElem?_set_self (List.getElem?_eq_some_iff.1 L3.out.2.2).1) (by first | (simp [timesN, noteL]; done) | (simp [timesN, noteL]; omega) | (show (noteL (noteL [] 11 s.kind 1) 12 3 1).length ≤ _; have := noteL_len1 (noteL [] 11 s.kind 1) 12 (3) 1; have : (noteL [] 11 s.kind 1).length = 1 := rfl; omega))).mono ?_
      rintro e w21 ⟨v, rfl, h21⟩
      have H21 := Lib.hid h21
      clear h21
      go_wp2_with fail
      go_ret2
      refine ⟨v, by rw [HC.out.1, HZ.out]; rfl, ?_⟩
      rw [HC.out.2.1, HC.out.2.2, HZ.out]
      have e9 := P3.out.far (obs.length + 1) (by omega) (obP q (some (timesN (noteL [] 11 s.kind 1) ⟨12, 3, 1⟩)))
      exact closeRun H21.out e9 (by rw [if_neg (by decide)]; exact setIs _ _ _ HI.out) rfl

end
end Go.Proofs.Ytkidijjhedjifaa
/- A list of lists as ONE thing of a law's world: its row, and each list's own row, all apart. It takes in a list that was a thing of its own; in the end it falls into its parts. No program in sight. -/
namespace Go.Proofs.Ytkidijjhedjifaa
open Go.RowKit
set_option maxRecDepth 100000
set_option linter.unusedVariables false
set_option linter.unusedSimpArgs false

/-- one list: its value, how many elements, its cells -/
structure Mem1 where
  v : Value
  n : Nat
  cs : List Value
section
variable (st e : TypeId) (sz : Nat)
structure LLat (w : World) (u : Value) (vs : List Value) (es : List Mem1) : Prop where
  row : w.ownsRow 0 st 1 u vs.length vs
  mem : ∀ (j : Nat) (p : Mem1), es[j]? = some p → w.ownsRow 0 e sz p.v p.n p.cs
  out : ∀ (j : Nat) (p : Mem1), es[j]? = some p → ∀ x, fpv p.v x → ¬ fpv u x
  two : ∀ (i j : Nat) (p q : Mem1), i ≠ j → es[i]? = some p → es[j]? = some q → ∀ x, fpv p.v x → ¬ fpv q.v x
def llF (u : Value) (es : List Mem1) : Nat → Prop := fun x => fpv u x ∨ ∃ (j : Nat) (p : Mem1), es[j]? = some p ∧ fpv p.v x
def obLL (u : Value) (vs : List Value) (es : List Mem1) : Ob where
  at' w F := LLat st e sz w u vs es ∧ F = llF u es
  keep h ho hd := by
    obtain ⟨h, rfl⟩ := h
    exact ⟨⟨ownsRow_keep h.row ho fun x hx => hd x (.inl hx), fun j p hp => ownsRow_keep (h.mem j p hp) ho fun x hx => hd x (.inr ⟨j, p, hp, hx⟩), h.out, h.two⟩, rfl⟩
  lt h := by
    obtain ⟨h, rfl⟩ := h
    rintro x (hx | ⟨j, p, hp, hx⟩)
    · exact (World.ownsRow.lt h.row x hx).2
    · exact (World.ownsRow.lt (h.mem j p hp) x hx).2
variable {st e sz}
theorem Env.ll {w0 w : World} {obs : List Ob} (h : Env w0 w obs) (i : Nat) {u : Value} {vs : List Value} {es : List Mem1} (hi : obs[i]? = some (obLL st e sz u vs es)) : LLat st e sz w u vs es := by
  obtain ⟨F, h1, _⟩ := h.get i hi
  exact h1.1
theorem Env.llNil {w0 w : World} {obs : List Ob} (h : Env w0 w obs) : Env w0 w (obs ++ [obLL st e sz (.slice none 0 0) [] []]) :=
  h.push (F' := llF (.slice none 0 0) []) _ ⟨⟨World.ownsRow_nil w 0 st 1, fun j p hp => by simp at hp, fun j p hp => by simp at hp, fun i j p q _ hp => by simp at hp⟩, rfl⟩ (Below.refl _ _) (fun x hx => by
    rcases hx with hx | ⟨j, p, hp, _⟩
    · simp [fpv, Value.ownBlock] at hx
    · simp at hp)
/-- two things become one (the second is the last) -/
theorem Env.merge {w0 w : World} {obs : List Ob} {ob2 : Ob} (h : Env w0 w (obs ++ [ob2])) (i : Nat) {ob1 : Ob} (hi : obs[i]? = some ob1) (ob3 : Ob)
    (hm : ∀ F1 F2, ob1.at' w F1 → ob2.at' w F2 → (∀ x, F1 x → ¬ F2 x) → ob3.at' w (fun x => F1 x ∨ F2 x)) : Env w0 w (obs.set i ob3) := by
  obtain ⟨own, hs, ho⟩ := h
  have hil : i < obs.length := (List.getElem?_eq_some_iff.1 hi).1
  obtain ⟨F1, a1, b1⟩ := ho i ob1 (by rw [List.getElem?_append_left hil]; exact hi)
  obtain ⟨F2, a2, b2⟩ := ho obs.length ob2 (by simp)
  refine ⟨fun x => if own x = obs.length + 1 then i + 1 else own x, ⟨hs.1, fun x hx => ?_⟩, fun j ob hj => ?_⟩
  · have := hs.2 x hx
    show (if own x = obs.length + 1 then i + 1 else own x) = 0
    rw [this, if_neg (by omega)]
  · by_cases hji : j = i
    · subst hji
      rw [List.getElem?_set_self hil] at hj
      injection hj with hj
      subst hj
      refine ⟨_, hm F1 F2 a1 a2 (fun x h1 h2 => ?_), fun x hx => ?_⟩
      · have := (b1 x h1).1
        have := (b2 x h2).1
        omega
      · rcases hx with hx | hx
        · refine ⟨?_, (b1 x hx).2⟩
          show (if own x = obs.length + 1 then j + 1 else own x) = j + 1
          rw [(b1 x hx).1, if_neg (by omega)]
        · refine ⟨?_, (b2 x hx).2⟩
          show (if own x = obs.length + 1 then j + 1 else own x) = j + 1
          rw [(b2 x hx).1, if_pos rfl]
    · rw [List.getElem?_set_ne (by omega)] at hj
      have hjl : j < obs.length := (List.getElem?_eq_some_iff.1 hj).1
      obtain ⟨F, c1, c2⟩ := ho j ob (by rw [List.getElem?_append_left hjl]; exact hj)
      refine ⟨F, c1, fun x hx => ⟨?_, (c2 x hx).2⟩⟩
      show (if own x = obs.length + 1 then i + 1 else own x) = j + 1
      rw [(c2 x hx).1, if_neg (by omega)]
theorem llF_add (u : Value) (es : List Mem1) (m : Mem1) : (fun x => llF u es x ∨ fpv m.v x) = llF u (es ++ [m]) := by
  funext x
  apply propext
  constructor
  · rintro ((hx | ⟨j, p, hp, hx⟩) | hx)
    · exact .inl hx
    · exact .inr ⟨j, p, by rw [List.getElem?_append_left (List.getElem?_eq_some_iff.1 hp).1]; exact hp, hx⟩
    · exact .inr ⟨es.length, m, by simp, hx⟩
  · rintro (hx | ⟨j, p, hp, hx⟩)
    · exact .inl (.inl hx)
    · rcases Nat.lt_or_ge j es.length with hj | hj
      · rw [List.getElem?_append_left hj] at hp
        exact .inl (.inr ⟨j, p, hp, hx⟩)
      · rw [List.getElem?_append_right hj] at hp
        rcases hk : j - es.length with _ | k
        · rw [hk] at hp
          simp at hp
          subst hp
          exact .inr hx
        · rw [hk] at hp
          simp at hp
theorem add_get (es : List Mem1) (m : Mem1) (j : Nat) (p : Mem1) (h : (es ++ [m])[j]? = some p) : (j < es.length ∧ es[j]? = some p) ∨ (j = es.length ∧ p = m) := by
  rcases Nat.lt_or_ge j es.length with hj | hj
  · rw [List.getElem?_append_left hj] at h
    exact .inl ⟨hj, h⟩
  · rw [List.getElem?_append_right hj] at h
    rcases hk : j - es.length with _ | k
    · rw [hk] at h
      simp at h
      exact .inr ⟨by omega, h.symm⟩
    · rw [hk] at h
      simp at h
/-- the last thing is taken in; the row is not yet written -/
theorem Env.llIn {w0 w : World} {obs : List Ob} {v : Value} {n : Nat} {cs : List Value} (h : Env w0 w (obs ++ [obE e sz v n cs])) (i : Nat) {u : Value} {vs : List Value} {es : List Mem1} (hi : obs[i]? = some (obLL st e sz u vs es)) :
    Env w0 w (obs.set i (obLL st e sz u vs (es ++ [⟨v, n, cs⟩]))) := by
  refine h.merge i hi _ ?_
  rintro F1 F2 ⟨h1, rfl⟩ ⟨h2, rfl⟩ hd
  refine ⟨⟨h1.row, fun j p hp => ?_, fun j p hp x hx => ?_, fun a b p q hab hp hq x hx => ?_⟩, llF_add u es ⟨v, n, cs⟩⟩
  · rcases add_get _ _ _ _ hp with ⟨_, hp⟩ | ⟨_, rfl⟩
    · exact h1.mem j p hp
    · exact h2
  · rcases add_get _ _ _ _ hp with ⟨_, hp⟩ | ⟨_, rfl⟩
    · exact h1.out j p hp x hx
    · exact fun hu => hd x (.inl hu) hx
  · rcases add_get _ _ _ _ hp with ⟨_, hp⟩ | ⟨e1, rfl⟩
    · rcases add_get _ _ _ _ hq with ⟨_, hq⟩ | ⟨e2, rfl⟩
      · exact h1.two a b p q hab hp hq x hx
      · exact hd x (.inr ⟨a, p, hp, hx⟩)
    · rcases add_get _ _ _ _ hq with ⟨_, hq⟩ | ⟨e2, rfl⟩
      · exact fun hx2 => hd x (.inr ⟨b, q, hq, hx2⟩) hx
      · exact absurd (e1.trans e2.symm) hab
/-- the row is written on -/
theorem Env.llRow {w0 w w' : World} {obs : List Ob} (h : Env w0 w obs) (i : Nat) {u u' : Value} {vs vs' : List Value} {es : List Mem1} (hi : obs[i]? = some (obLL st e sz u vs es))
    (hown : w'.ownsRow 0 st 1 u' vs'.length vs') (hg : w.grownBy w' u.ownBlock) (hat : u'.ownBlock = u.ownBlock ∨ u'.ownBlock = some w.heap.size) : Env w0 w' (obs.set i (obLL st e sz u' vs' es)) := by
  obtain ⟨F, ⟨h1, rfl⟩, h2, h3, h4⟩ := h.get i hi
  have ho : Only (fpv u) w w' := Only.grown (Only.refl _ w) hg (fun k hk => .inl hk)
  have hu : ∀ x, fpv u' x → fpv u x ∨ w.heap.size ≤ x := by
    intro x hx
    have hx' : u'.ownBlock = some x := hx
    rcases hat with hat | hat
    · rw [hat] at hx'
      exact .inl hx'
    · rw [hat] at hx'
      injection hx' with hx'
      exact .inr (by omega)
  refine h4 w' (llF u' es) (obLL st e sz u' vs' es) ⟨⟨hown, fun j p hp => ownsRow_keep (h1.mem j p hp) ho (h1.out j p hp), fun j p hp x hx hx2 => ?_, h1.two⟩, rfl⟩ (ho.mono fun x hx => .inl hx) (fun x hx => ?_)
  · rcases hu x hx2 with hx3 | hx3
    · exact h1.out j p hp x hx hx3
    · have := (World.ownsRow.lt (h1.mem j p hp) x hx).2
      omega
  · rcases hx with hx | hx
    · rcases hu x hx with hx | hx
      · exact .inl (.inl hx)
      · exact .inr hx
    · exact .inl (.inr hx)
open Classical in
/-- it falls into its parts -/
theorem Env.llOut {w0 w : World} {u : Value} {vs : List Value} {es : List Mem1} {rest : List Ob} (h : Env w0 w (obLL st e sz u vs es :: rest)) (T : Nat → Ob) (hT : ∀ (j : Nat) (p : Mem1), es[j]? = some p → T j = obE e sz p.v p.n p.cs) :
    Env w0 w (obE st 1 u vs.length vs :: ((List.range es.length).map T ++ rest)) := by
  obtain ⟨own, hs, ho⟩ := h
  obtain ⟨F, ⟨h1, hF⟩, hb⟩ := ho 0 _ rfl
  subst hF
  refine ⟨fun x => if own x = 0 then 0 else if own x = 1 then (if fpv u x then 1 else if hh : ∃ (j : Nat) (p : Mem1), es[j]? = some p ∧ fpv p.v x then Classical.choose hh + 2 else 0) else own x + es.length, ⟨hs.1, fun x hx => ?_⟩, fun k ob hk => ?_⟩
  · show (if own x = 0 then 0 else _) = 0
    rw [if_pos (hs.2 x hx)]
  · rcases k with _ | k
    · simp at hk
      subst hk
      refine ⟨fpv u, ⟨h1.row, rfl⟩, fun x hx => ⟨?_, (hb x (.inl hx)).2⟩⟩
      have e1 := (hb x (.inl hx)).1
      show (if own x = 0 then 0 else _) = 1
      rw [if_neg (by omega), if_pos (by omega), if_pos hx]
    · rw [List.getElem?_cons_succ] at hk
      rcases Nat.lt_or_ge k es.length with hkl | hkl
      · rw [List.getElem?_append_left (by simpa using hkl), List.getElem?_map, List.getElem?_range hkl] at hk
        simp at hk
        obtain ⟨p, hp⟩ : ∃ p, es[k]? = some p := ⟨_, List.getElem?_eq_getElem hkl⟩
        rw [hT k p hp] at hk
        subst hk
        refine ⟨fpv p.v, ⟨h1.mem k p hp, rfl⟩, fun x hx => ⟨?_, (hb x (.inr ⟨k, p, hp, hx⟩)).2⟩⟩
        have e1 := (hb x (.inr ⟨k, p, hp, hx⟩)).1
        have hh : ∃ (j : Nat) (p : Mem1), es[j]? = some p ∧ fpv p.v x := ⟨k, p, hp, hx⟩
        show (if own x = 0 then 0 else _) = k + 1 + 1
        rw [if_neg (by omega), if_pos (by omega), if_neg (h1.out k p hp x hx), dif_pos hh]
        obtain ⟨q, hq, hqx⟩ := Classical.choose_spec hh
        by_cases hjk : Classical.choose hh = k
        · rw [hjk]
        · exact absurd hqx (h1.two k _ p q (fun e => hjk e.symm) hp hq x hx)
      · rw [List.getElem?_append_right (by simpa using hkl)] at hk
        rw [List.length_map, List.length_range] at hk
        obtain ⟨F, c1, c2⟩ := ho (k - es.length + 1) ob (by rw [List.getElem?_cons_succ]; exact hk)
        refine ⟨F, c1, fun x hx => ⟨?_, (c2 x hx).2⟩⟩
        have e1 := (c2 x hx).1
        show (if own x = 0 then 0 else _) = k + 1 + 1
        rw [if_neg (by omega), if_neg (by omega)]
        omega
end
end Go.Proofs.Ytkidijjhedjifaa
/- Lists of runs that were told, kept in a list of lists: one thing of a law's world (obTR); another one behind, read one, all of them handed to ApartRuns. No statement's program in sight but the kit's ApartRuns. -/
namespace Go.Proofs.Ytkidijjhedjifaa
open Go.RowKit
set_option maxRecDepth 100000
set_option linter.unusedVariables false
set_option linter.unusedSimpArgs false

def mkMR (p : Value × List Rn) : Mem1 := ⟨p.1, p.2.length, KN.fl p.2⟩
def obTR (u : Value) (ts : List (Value × List Rn)) : Ob := obLL 31 51 3 u (ts.map (·.1)) (ts.map mkMR)
theorem obTR_form {w0 w : World} {obs : List Ob} (h : Env w0 w obs) (i : Nat) {u : Value} {ts : List (Value × List Rn)} (hi : obs[i]? = some (obTR u ts)) : ∃ ao cap, u = .slice ao ts.length cap ∧ ts.length ≤ cap ∧ cap ≤ 9223372036854775807 := by
  have hl := (h.ll i hi).row
  rw [List.length_map] at hl
  rcases hl.2 with ⟨rfl, h0⟩ | ⟨g, cap, cur, rfl, _, hg, hnc, hcm, _, htake⟩
  · exact ⟨none, 0, by rw [h0], by omega, by omega⟩
  · exact ⟨some ⟨g, 0, none⟩, cap, rfl, hnc, hcm⟩
/-- one list more, that was the last thing -/
theorem obTR_more {w0 w w' : World} {obs : List Ob} {v : Value} {l : List Rn} (h : Env w0 w (obs ++ [obRuns v l])) (hb : Below w.heap.size w w') (i : Nat) {u u' : Value} {ts : List (Value × List Rn)} (hi : obs[i]? = some (obTR u ts)) {w2 : World}
    (hown : w2.ownsRow 0 31 1 u' (ts.length + 1) (ts.map (·.1) ++ [v])) (hg : w'.grownBy w2 u.ownBlock) (hat : u'.ownBlock = u.ownBlock ∨ u'.ownBlock = some w'.heap.size) : Env w0 w2 (obs.set i (obTR u' (ts ++ [(v, l)]))) := by
  have h1 : Env w0 w (obs.set i (obLL 31 51 3 u (ts.map (·.1)) (ts.map mkMR ++ [mkMR (v, l)]))) := Env.llIn (e := 51) (sz := 3) (v := v) (n := l.length) (cs := KN.fl l) h i hi
  have hil : i < obs.length := (List.getElem?_eq_some_iff.1 hi).1
  have h2 := (h1.below hb).llRow i (u' := u') (vs' := ts.map (·.1) ++ [v]) (List.getElem?_set_self hil) (by rw [List.length_append, List.length_map, List.length_singleton]; exact hown) hg hat
  rw [List.set_set] at h2
  unfold obTR
  rw [List.map_append, List.map_append]
  exact h2
theorem one_sliceR {ao : Option Addr} {n c : Nat} : ∀ u ∈ [Value.slice ao n c], u.oneCell' = true := by
  intro u hu
  simp at hu
  subst hu
  rfl
theorem wpList_append_TR {w0 w1 : World} {obs : List Ob} {ao : Option Addr} {c : Nat} {l : List Rn} (h : Env w0 w1 (obs ++ [obRuns (.slice ao l.length c) l])) (i : Nat) {u : Value} {ts : List (Value × List Rn)} (hi : obs[i]? = some (obTR u ts)) {a : Act} {o : Oper} {Q : Exit → Act → World → Prop} {ops : Array Oper} {rest : List Oper}
    (s x : Operand) (hgd : o.guard = none) (ho : o.op = .call { callee := .builtin .append, args := #[s, x], argTypes := #[25, 25] }) (hs : a.eval s = u) (hx : a.eval x = .slice (some ⟨w1.heap.size, 0, none⟩) 1 1) (hn : ts.length ≤ 5000000000000)
    (kk : ∀ u' w', Env w0 w' (obs.set i (obTR u' (ts ++ [(.slice ao l.length c, l)]))) → wpList Try.prog ops Q rest (a.put o.dst u') w') : wpList Try.prog ops Q (o :: rest) a (w1.alloc (.cells #[.slice ao l.length c] 31)) := by
  obtain ⟨i0, hi0, hz0, hz1, hz2⟩ := info_parts infoNs
  have hb : Below w1.heap.size w1 (w1.alloc (.cells #[.slice ao l.length c] 31)) := (Below.refl _ _).alloc (Nat.le_refl _) _
  have hil : i < obs.length := (List.getElem?_eq_some_iff.1 hi).1
  have hi2 : (obs ++ [obRuns (.slice ao l.length c) l])[i]? = some (obTR u ts) := by rw [List.getElem?_append_left hil]; exact hi
  have hrow := ((h.below hb).ll i hi2).row
  rw [List.length_map] at hrow
  refine wpList_append_lies _ hgd s x 25 ho 0 31 i0 _ 1 24 Try.underlying25 hi0 hz0 hz1 hz2 rfl (by decide) u ts.length (ts.map (·.1)) hs hrow ⟨w1.heap.size, 0, none⟩ 1 1 [.slice ao l.length c] hx rfl (World.news_of_block (heap_alloc_new w1 (.cells #[.slice ao l.length c] 31))) one_sliceR (by decide) (by unfold maxLen; omega) (by omega) (Nat.zero_le _) _ rfl ?_
  intro g cap w' h1 h2 h3 h4
  exact kk _ _ (obTR_more h hb i hi h1 h2 (by
    rcases h3 with h3 | h3
    · exact .inl (by rw [h3]; rfl)
    · exact .inr (by rw [h3]; rfl)))
theorem obTR_get {w0 w : World} {obs : List Ob} (h : Env w0 w obs) (i : Nat) {u : Value} {ts : List (Value × List Rn)} (hi : obs[i]? = some (obTR u ts)) {j : Nat} {v : Value} {l : List Rn} (hj : ts[j]? = some (v, l)) : KN.R w v l := by
  have := (h.ll i hi).mem j (mkMR (v, l)) (by rw [List.getElem?_map, hj]; rfl)
  exact Knd.O.rd this
theorem obTR_cell {w0 w : World} {obs : List Ob} (h : Env w0 w obs) (i : Nat) {g n c : Nat} {ts : List (Value × List Rn)} (hi : obs[i]? = some (obTR (.slice (some ⟨g, 0, none⟩) n c) ts)) {j : Nat} {v : Value} {l : List Rn} (hj : ts[j]? = some (v, l)) : w.cell? ⟨g, j, none⟩ = some v := by
  have hr := (h.ll i hi).row
  rcases hr.2 with ⟨hv, _⟩ | ⟨g', cap', cur, hv, _⟩
  · cases hv
  · injection hv with _ e2 _
    have hn : n = ts.length := by rw [e2]; exact List.length_map _
    rw [← e2] at hr
    have hl : j < ts.length := (List.getElem?_eq_some_iff.1 hj).1
    rw [World.ownsRow.cellAt hr j (by omega), List.getElem?_map, hj]
    rfl
theorem obTR_slice {w0 w : World} {obs : List Ob} (h : Env w0 w obs) (i : Nat) {u : Value} {ts : List (Value × List Rn)} (hi : obs[i]? = some (obTR u ts)) (h0 : 0 < ts.length) : ∃ g c, u = .slice (some ⟨g, 0, none⟩) ts.length c ∧ ts.length ≤ c ∧ c ≤ 9223372036854775807 := by
  have hr := (h.ll i hi).row
  rw [List.length_map] at hr
  rcases hr.2 with ⟨_, hv⟩ | ⟨g', cap', cur, hv, _, _, h1, h2, _⟩
  · omega
  · exact ⟨g', cap', hv, h1, h2⟩
end Go.Proofs.Ytkidijjhedjifaa
/- The kit's functions on lists (Codes). Conditions: a list and six more fit into 2^47 bytes. -/
namespace Go.Proofs.Ytkidijjhedjifaa
open Go.RowKit
set_option maxRecDepth 100000
set_option linter.unusedVariables false
set_option linter.unusedSimpArgs false
def KC : Knd Int := ⟨45, 1, fun x => [.int .i64 x], by decide, fun _ => rfl, fun x u hu => by simp at hu; subst hu; rfl⟩
theorem infoC : (Try.prog.info? 45).map (fun i => (i.zero, i.size, i.bytes)) = some (some (.int .i64 0), 1, 8) := by kernel_rfl
def mkC (k i : Int) : Int := -1000 * k - i - 7
theorem markC_any (k i : Int) (w : World) (hk : 0 ≤ k) (hk' : k ≤ 1000000) (hi : 0 ≤ i) (hi' : i ≤ 1000000000000000) :
    Calls Try.prog 42 #[.int .i64 k, .int .i64 i] w fun e w' => e = .returned (.int .i64 (mkC k i)) ∧ w = w' := by
  show Calls _ _ _ _ fun e w' => e = .returned (.int .i64 (-1000 * k - i - 7)) ∧ w = w'
  go_enter Try.func42, Try.ntmps42
  go_wp2
  go_ret
  exact ⟨rfl, rfl⟩
def eqC (x y : Int) : Bool := (x == y)
theorem eqcC (x y : Int) : ((x == y) = true ∧ eqC x y = true) ∨ ((x == y) = false ∧ eqC x y = false) := by
  unfold eqC
  cases h0 : (x == y) <;> simp
set_option maxHeartbeats 2000000 in
theorem sameC_any (u v : Value) (xs ys : List Int) (w : World) (hu : KC.R w u xs) (hv : KC.R w v ys) :
    Calls Try.prog 13 #[u, v] w fun e w' => e = .returned (.bool (sameL eqC xs ys)) ∧ ∃ m, w' = w.drewN m := by
  have HU := Lib.hid hu
  have HV := Lib.hid hv
  obtain ⟨ao, cap, rfl, h1, h2, _⟩ := hu.any
  obtain ⟨bo, dap, rfl, h3, h4, _⟩ := hv.any
  clear hu hv
  have hla : xs.length ≤ 9223372036854775807 := by omega
  have hlb : ys.length ≤ 9223372036854775807 := by omega
  obtain ⟨b, hb⟩ : ∃ b, sameL eqC xs ys = b := ⟨_, rfl⟩
  rw [hb]
  unfold sameL at hb
  by_cases hl : xs.length = ys.length
  · rw [if_pos hl] at hb
    have HS := Lib.hid hb
    have hlI : ((xs.length : Int) != (ys.length : Int)) = false := by rw [hl]; simp
    have HL := Lib.hid hl
    clear hl hb
    go_enter Try.func13, Try.ntmps13
    go_wp2_with fail
    go_loopw [5] (fun i w1 => ∃ k : Nat, k ≤ xs.length ∧ i = .int .i64 (k : Int) ∧ Hid (sameTo' eqC xs ys (xs.length - k) k = b) ∧ ∃ m, w1 = w.drewN m) (fun i _ => xs.length - (intOf i).toNat)
    case atStart => exact ⟨0, Nat.zero_le _, rfl, HS, 0, rfl⟩
    case round =>
      obtain ⟨k, hk, rfl, HE, m, rfl⟩ := hrel
      by_cases hlt : k < xs.length
      · have hlt2 : k < ys.length := by rw [← HL.out]; exact hlt
        obtain ⟨x, hx⟩ : ∃ x, xs[k]? = some x := ⟨_, List.getElem?_eq_getElem hlt⟩
        obtain ⟨y, hy⟩ : ∃ y, ys[k]? = some y := ⟨_, List.getElem?_eq_getElem hlt2⟩
        obtain ⟨g, off, rfl, _, dd⟩ := HU.out.get hx
        obtain ⟨g2, off2, rfl, _, ee⟩ := HV.out.get hy
        have HE2 : Hid ((if eqC x y then sameTo' eqC xs ys (xs.length - (k + 1)) (k + 1) else false) = b) := by
          have h := HE.out
          rw [show xs.length - k = (xs.length - (k + 1)) + 1 from by omega] at h
          exact Lib.hid (sameTo_step hx hy h)
        clear HE hx hy
        have d0 : w.cell? ⟨g, off + k, none⟩ = some (.int .i64 x) := by have h := dd 0 _ rfl; rw [show off + (k * KC.sz + 0) = off + k from by show off + (k * 1 + 0) = _; omega] at h; exact h
        have e0 : w.cell? ⟨g2, off2 + k, none⟩ = some (.int .i64 y) := by have h := ee 0 _ rfl; rw [show off2 + (k * KC.sz + 0) = off2 + k from by show off2 + (k * 1 + 0) = _; omega] at h; exact h
        clear dd ee
        have hq := eqcC x y
        rcases hq with ⟨h0, he⟩ | ⟨h0, he⟩
        · have HE3 : Hid (sameTo' eqC xs ys (xs.length - (k + 1)) (k + 1) = b) := by
            have h := HE2.out
            rw [if_pos he] at h
            exact Lib.hid h
          clear HE2
          go_wp2_with fail
          go_quiet ((fail))
          go_wp2_with fail
          go_roundw
          case rel => exact ⟨k + 1, by omega, by go_num, HE3, m + nq, rfl⟩
          case measure => simp [intOf]; omega
        all_goals
          have HE3 : Hid (b = false) := by
            have h := HE2.out
            rw [he] at h
            exact Lib.hid h.symm
          clear HE2
          go_wp2_with fail
          go_quiet ((fail))
          go_wp2
          go_ret
          exact ⟨by rw [HE3.out]; rfl, m + nq, by simp⟩
      · obtain rfl : k = xs.length := by omega
        have HF : Hid (b = true) := by
          have h := HE.out
          rw [Nat.sub_self] at h
          exact Lib.hid h.symm
        go_wp2
        go_ret
        exact ⟨by rw [HF.out]; rfl, m, rfl⟩
  · rw [if_neg hl] at hb
    have hlI : ((xs.length : Int) != (ys.length : Int)) = true := by simp; omega
    have HF := Lib.hid hb
    clear hl hb
    go_enter Try.func13, Try.ntmps13
    go_wp2
    go_ret
    exact ⟨by rw [← HF.out]; rfl, 0, rfl⟩
theorem infoCs : (Try.prog.info? 27).map (fun i => (i.zero, i.size, i.bytes)) = some (some (.slice none 0 0), 1, 24) := by kernel_rfl
def MC : Mkr := Mkr.ofK KC 27 mkC
theorem MC_get (k n i : Nat) (h : i < n) : (MC.marks k n)[i]? = some (.int .i64 (mkC ((k : Int) + 10) (i : Int))) := by
  have := MC.marks_get k 0 (by decide) n i h
  simpa [MC, Mkr.ofK, KC] using this
set_option maxHeartbeats 4000000 in
theorem apartCodes_any {w0 w : World} (u : Value) (vs : List Value) (n : Nat → Nat) (c : Nat → List Value) (rest : List Ob) (h : AEnv MC w0 w u vs (fun j => obE MC.e MC.sz (Tv vs j) (n j) (c j)) rest)
    (hn : ∀ j, j < vs.length → n j ≤ 17592186044410) (hl : vs.length ≤ 900000) :
    Calls Try.prog 21 #[u] w fun e w' => e = .returned (.bool true) ∧ Env w0 w' rest := by
  have hc : ∀ j, j < vs.length → (c j).length = n j * MC.sz := fun j hj => (Env.row h (j + 1) (AEnv.at (w0 := w0) (w := w) j hj)).1
  have HC := Lib.hid hc
  have HN := Lib.hid hn
  obtain ⟨ao, capu, rfl, hcu, hcm, hao⟩ := header h.row
  have HAO := Lib.hid hao
  have H0 : Hid (AEnv MC w0 w (.slice ao vs.length capu) vs (T1 MC vs n c 0 0) rest) := Lib.hid (h.same fun j hj => T1_zero vs n c j)
  clear hc hn hao h
  obtain ⟨N, hN⟩ : ∃ N, N = vs.length := ⟨_, rfl⟩
  have HNN := Lib.hid hN
  rw [← hN] at hl hcu H0
  rw [← hN]
  clear hN
  go_enter Try.func21, Try.ntmps21
  go_wp2_with fail
  go_loopw [3] (fun i w1 => ∃ (k : Nat), k ≤ N ∧ i = .int .i64 (k : Int) ∧ Hid (AEnv MC w0 w1 (.slice ao N capu) vs (T1 MC vs n c k 0) rest)) (fun i _ => N - (intOf i).toNat)
  case atStart => exact ⟨0, Nat.zero_le _, rfl, H0⟩
  case round =>
    clear H0
    obtain ⟨k, hk, rfl, H1⟩ := hrel
    by_cases hlt : k < N
    · have hkv : k < vs.length := by rw [← HNN.out]; exact hlt
      have hr1 := Env.row H1.out (k + 1) (by rw [AEnv.at (w0 := w0) (w := wr) k hkv, T1_self])
      obtain ⟨m, hm⟩ : ∃ m, n k = m := ⟨_, rfl⟩
      have hnk := HN.out k hkv
      rw [hm] at hr1 hnk
      obtain ⟨ak, capk, hvk, hck, hcmk, hak⟩ := header hr1
      obtain ⟨gu, rfl⟩ := HAO.out (by rw [← HNN.out]; omega)
      have hu1 := H1.out.row
      rw [← HNN.out] at hu1
      have c0 := World.ownsRow.cellAt hu1 k (by omega)
      rw [Tv_get hkv, hvk] at c0
      have HM := Lib.hid hm
      have HVK := Lib.hid hvk
      have HAK := Lib.hid hak
      have HKV := Lib.hid hkv
      clear hr1 hu1 hm hvk hak hkv
      go_wp2_with fail
      obtain ⟨wx, hwx⟩ : ∃ x, x = wr := ⟨_, rfl⟩
      go_loopw [4] (fun i w1 => ∃ (j : Nat), j ≤ m ∧ i = .int .i64 (j : Int) ∧ Hid (AEnv MC w0 w1 (.slice (some ⟨gu, 0, none⟩) N capu) vs (T1 MC vs n c k j) rest)) (fun i _ => m - (intOf i).toNat)
      case atStart => exact ⟨0, Nat.zero_le _, rfl, H1⟩
      case round =>
        clear c0
        obtain ⟨j, hj, rfl, H2⟩ := hrel
        have hu2 := H2.out.row
        rw [← HNN.out] at hu2
        have c0 := World.ownsRow.cellAt hu2 k (by omega)
        rw [Tv_get HKV.out, HVK.out] at c0
        clear hu2
        by_cases hjn : j < m
        · obtain ⟨g, rfl⟩ := HAK.out (by omega)
          have hr2 := Env.row H2.out (k + 1) (by rw [AEnv.at (w0 := w0) (w := wr) k HKV.out, T1_self])
          rw [HM.out, HVK.out] at hr2
          have c1 := World.ownsRow.cellAt hr2 j (by show j < m * 1; omega)
          have f1 := World.ownsRow.frozenAt hr2 j
          rw [List.getElem?_eq_getElem (by rw [hr2.1]; show j < m * 1; omega)] at c1
          generalize ((MC.to k (c k) j)[j]'_) = z at c1
          clear hr2
          go_wp2_with fail
          have hwk : IntKind.i64.wrap ((k : Int) + 10) = (k : Int) + 10 := IntWalk.i64_in _ (by omega)
          refine wp_region_tame (fun w' => w' = wr.drewN 1) 0 10 (by kernel_rfl) (by kernel_rfl) (fun _ _ d _ _ h => (by cases d <;> exact h)) rfl (by decide) ?_
          simp only [List.take_succ_cons, List.take_zero, List.drop_succ_cons, List.drop_zero]
          refine wpPre_nil ?_
          refine wpTame_run (v := ?_) (by decide) rfl (fun w' hS => ?_) ?_
          rotate_left
          focus (subst hS; go_simp; try rfl; done)
          simp only [Act.put, List.setIfInBounds_toArray, List.set_cons_zero, List.set_cons_succ]
          refine wpTame_run (v := ?_) (by decide) rfl (fun w' hS => ?_) ?_
          rotate_left
          focus (subst hS; go_simp; try rfl; done)
          simp only [Act.put, List.setIfInBounds_toArray, List.set_cons_zero, List.set_cons_succ]
          refine wpTame_run (v := ?_) (by decide) rfl (fun w' hS => ?_) ?_
          rotate_left
          focus (subst hS; go_simp; try rfl; done)
          simp only [Act.put, List.setIfInBounds_toArray, List.set_cons_zero, List.set_cons_succ]
          refine wpTame_run (v := ?_) (by decide) rfl (fun w' hS => ?_) ?_
          rotate_left
          focus (subst hS; go_simp; try rfl; done)
          simp only [Act.put, List.setIfInBounds_toArray, List.set_cons_zero, List.set_cons_succ]
          refine wpTame_run (v := ?_) (by decide) rfl (fun w' hS => ?_) ?_
          rotate_left
          focus (subst hS; go_simp; try rfl; done)
          simp only [Act.put, List.setIfInBounds_toArray, List.set_cons_zero, List.set_cons_succ]
          refine wpTame_run (v := ?_) (by decide) rfl (fun w' hS => ?_) ?_
          rotate_left
          focus (subst hS; go_simp; try rfl; done)
          simp only [Act.put, List.setIfInBounds_toArray, List.set_cons_zero, List.set_cons_succ]
          refine wpTame_run (v := ?_) (by decide) rfl (fun w' hS => ?_) ?_
          rotate_left
          focus (subst hS; go_simp; try rfl; done)
          simp only [Act.put, List.setIfInBounds_toArray, List.set_cons_zero, List.set_cons_succ]
          refine wpTame_run (v := ?_) (by decide) rfl (fun w' hS => ?_) ?_
          rotate_left
          focus (subst hS; go_simp; try rfl; done)
          simp only [Act.put, List.setIfInBounds_toArray, List.set_cons_zero, List.set_cons_succ]
          refine wpTame_call (v := .int .i64 (mkC ((k : Int) + 10) (j : Int))) (by decide) rfl (fun w' h => ?_) (fun w' h => (markC_any ((k : Int) + 10) j w' (by omega) (by omega) (by omega) (by omega)).mono fun e w'' ⟨he, hw⟩ => ⟨he, by rw [← hw]; exact h⟩) ?_
          · subst h; go_simp; try rfl
          simp only [Act.put, List.setIfInBounds_toArray, List.set_cons_zero, List.set_cons_succ]
          refine wpTame_run (v := ?_) (by decide) rfl (fun w' hS => ?_) ?_
          rotate_left
          focus (subst hS; go_simp; try rfl; done)
          simp only [Act.put, List.setIfInBounds_toArray, List.set_cons_zero, List.set_cons_succ]
          refine wpTame_nil ?_
          rintro w' rfl
          go_wp2_with fail
          go_roundw
          case rel =>
            have hh := H2.out.mark HKV.out (HC.out k HKV.out) (by rw [HM.out]; exact hjn) HVK.out 1
            rw [show j * MC.sz = j from Nat.mul_one j] at hh
            exact ⟨j + 1, by omega, by go_num, Lib.hid hh⟩
          case measure => simp [intOf]; omega
        · obtain rfl : j = m := by omega
          have H3 : Hid (AEnv MC w0 wr (.slice (some ⟨gu, 0, none⟩) N capu) vs (T1 MC vs n c (k + 1) 0) rest) := by
            have h := H2.out
            rw [← HM.out] at h
            exact Lib.hid (h.next (HC.out k HKV.out))
          go_wp2_with fail
          go_roundw
          case rel => exact ⟨k + 1, by omega, by go_num, H3⟩
          case measure => simp [intOf]; omega
    · obtain rfl : k = N := by omega
      have P0 : Hid (PEnv MC w0 wr (.slice ao k capu) vs n rest 0 none (.slice none 0 0) []) := by
        have h := H1.out
        rw [HNN.out] at h ⊢
        exact Lib.hid (PEnv.start h)
      clear H1
      go_wp2_with fail
      obtain ⟨wq, hwq⟩ : ∃ x, x = wr := ⟨_, rfl⟩
      go_loopw [5, 6] (fun gsv i w1 => ∃ (p : Nat) (gs : List Value), p ≤ k ∧ i = .int .i64 (p : Int) ∧ Hid (gs.length = p) ∧ Hid (PEnv MC w0 w1 (.slice ao k capu) vs n rest p none gsv gs)) (fun _ i _ => k - (intOf i).toNat)
      case atStart => exact ⟨0, [], Nat.zero_le _, rfl, Lib.hid rfl, P0⟩
      case round =>
        clear P0
        obtain ⟨p, gs, hp, rfl, HGS, P⟩ := hrel
        by_cases hlt : p < k
        · have hkv : p < vs.length := by rw [← HNN.out]; exact hlt
          have hd := P.out.hd hkv
          have hr1 := Env.row P.out (p + 1) (by rw [AEnv.at (w0 := w0) (w := wr) p hkv, T2_self])
          obtain ⟨m, hm⟩ : ∃ m, n p = m := ⟨_, rfl⟩
          have hnk := HN.out p hkv
          rw [hm] at hr1 hnk
          obtain ⟨ak, capk, hvk, hck, hcmk, hak⟩ := header hr1
          obtain ⟨gu, rfl⟩ := HAO.out (by rw [← HNN.out]; omega)
          have hu1 := P.out.row
          rw [← HNN.out] at hu1
          have c0 := World.ownsRow.cellAt hu1 p (by omega)
          rw [Tv_get hkv, hvk] at c0
          have PT := P.out.take hkv
          rw [hvk] at PT
          have HM := Lib.hid hm
          have HVK := Lib.hid hvk
          have HKV := Lib.hid hkv
          have HD := Lib.hid hd
          have HPT := Lib.hid PT
          clear hr1 hu1 hm hvk hak hkv hd PT P
          go_wp2_with fail
          obtain ⟨wy, hwy⟩ : ∃ x, x = wr := ⟨_, rfl⟩
          go_loopw [7, 8] (fun g i w1 => ∃ (j : Nat), j ≤ 6 ∧ i = .int .i64 (j : Int) ∧ Hid (PEnv MC w0 w1 (.slice (some ⟨gu, 0, none⟩) k capu) vs n rest p (some (g, j)) u5 gs)) (fun _ i _ => 6 - (intOf i).toNat)
          case atStart => exact ⟨0, by omega, rfl, HPT⟩
          case round =>
            clear HPT c0
            obtain ⟨j, hj, rfl, PJ⟩ := hrel
            have hu1 := PJ.out.row
            rw [← HNN.out] at hu1
            have c0 := World.ownsRow.cellAt hu1 p (by omega)
            rw [Tv_get HKV.out, HVK.out] at c0
            clear hu1
            by_cases hj6 : j < 6
            · obtain ⟨x, hx⟩ : ∃ x, mkC ((p : Int) + 10) ((m : Int) + j) = x := ⟨_, rfl⟩
              have hel : MC.el p (m + j) = [.int .i64 x] := by rw [← hx]; rfl
              have PA := PJ.out.below ((Below.refl wr.heap.size wr).alloc (Nat.le_refl _) (.cells #[.int .i64 x] 45))
              have HOWN : (wr.alloc (.cells #[.int .i64 x] 45)).ownsRow 0 45 1 u7 (m + j) (MC.marks p (m + j)) := by
                have h := PA.gone HKV.out
                rw [HM.out] at h
                exact h
              have HPA := Lib.hid PA
              have HEL := Lib.hid hel
              clear PA hel
              have hwk : IntKind.i64.wrap ((p : Int) + 10) = (p : Int) + 10 := IntWalk.i64_in _ (by omega)
              go_wp2_with fail
              refine (markC_any ((p : Int) + 10) ((m : Int) + j) _ (by omega) (by omega) (by omega) (by omega)).mono ?_
              rintro e w' ⟨he, rfl⟩
              rw [hx] at he
              subst he
              clear hx
              obtain ⟨i0, hi, hz0, hz1, hz2⟩ := info_parts infoC
              go_wp2_with (at_builtin; refine wpList_append_keep _ rfl _ _ 27 rfl 45 i0 _ 1 8 Try.underlying27 hi hz0 hz1 hz2 rfl (by decide) u7 (m + j) (MC.marks p (m + j)) rfl HOWN ⟨wr.heap.size, 0, none⟩ 1 1 [.int .i64 x] rfl rfl (World.news_of_block (heap_alloc_new _ _)) (KC.one x) (by unfold maxLen; omega) (by omega) (by decide) ?_)
              intro v' w2 hown hgrow hat hne
              have HP2 : Hid (PEnv MC w0 w2 (.slice (some ⟨gu, 0, none⟩) k capu) vs n rest p (some (v', j + 1)) u5 gs) := by
                have hm := HM.out
                subst hm
                rw [← HEL.out] at hown
                exact Lib.hid (HPA.out.more HKV.out HD.out hown hgrow (by simpa using hat))
              clear hown hgrow hat hne HOWN hi hz0 hz1 hz2 c0
              go_wp2_with fail
              go_roundw
              case rel => exact ⟨j + 1, by omega, by go_num, HP2⟩
              case measure => simp [intOf]; omega
            · obtain rfl : j = 6 := by omega
              have hg := PJ.out.gone HKV.out
              obtain ⟨ag, capg, hug, _, _, _⟩ := header hg
              subst hug
              have HPA := Lib.hid (PJ.out.below ((Below.refl wr.heap.size wr).alloc (Nat.le_refl _) (.cells #[.slice ag (n p + 6) capg] 27)))
              have HROW : (wr.alloc (.cells #[.slice ag (n p + 6) capg] 27)).ownsRow 0 27 1 u5 p gs := by
                have h := HPA.out.gs
                rw [HGS.out] at h
                exact h
              clear hg c0
              obtain ⟨i0, hi, hz0, hz1, hz2⟩ := info_parts infoCs
              go_wp2_with (at_builtin; refine wpList_append_keep _ rfl _ _ 37 rfl 27 i0 _ 1 24 Try.underlying37 hi hz0 hz1 hz2 rfl (by decide) u5 p gs rfl HROW ⟨wr.heap.size, 0, none⟩ 1 1 [.slice ag (n p + 6) capg] rfl rfl (World.news_of_block (heap_alloc_new _ _)) (fun u hu => by simp at hu; subst hu; rfl) (by unfold maxLen; omega) (by omega) (by decide) ?_)
              intro v' w2 hown hgrow hat hne
              have HP2 : Hid (PEnv MC w0 w2 (.slice (some ⟨gu, 0, none⟩) k capu) vs n rest (p + 1) none v' (gs ++ [.slice ag (n p + 6) capg])) := by
                refine Lib.hid (HPA.out.kept HGS.out (by rw [HGS.out]; exact hown) hgrow ?_)
                rcases hat with hat | hat
                · exact .inl hat
                · exact .inr (by simpa using hat.1)
              clear hown hgrow hat hne HROW hi hz0 hz1 hz2
              go_wp2_with fail
              go_roundw
              case rel => exact ⟨p + 1, _, by omega, by go_num, Lib.hid (by rw [List.length_append, HGS.out]; rfl), HP2⟩
              case measure => simp [intOf]; omega
        · obtain rfl : p = k := by omega
          have hg := P.out.gs
          rw [HGS.out] at hg
          obtain ⟨ag, capg, hug, hcg, hcmg, hag⟩ := header hg
          subst hug
          have HROW := Lib.hid hg
          have HAG := Lib.hid hag
          have hu1 := P.out.row
          rw [← HNN.out] at hu1
          have HU := Lib.hid hu1
          have HR : Hid (∀ q, q < p → wr.ownsRow 0 45 1 (Tv gs q) (n q + 6) (MC.marks q (n q + 6)) ∧ Sl wr 1 (Tv vs q) (n q) (MC.marks q (n q)) ∧ n q ≤ 17592186044410) := Lib.hid (fun q hq => by
            have h := P.out
            have hq' : q < vs.length := by rw [← HNN.out]; exact hq
            have h2 := h
            rw [HNN.out] at h2
            obtain ⟨h3, h4⟩ := h2.rows q hq'
            exact ⟨h3, h4, HN.out q hq'⟩)
          have HEND : Hid (∀ m, Env w0 (wr.drewN m) rest) := Lib.hid (fun m => P.out.drop.draw m)
          clear hg hag hu1 P
          go_wp2_with fail
          obtain ⟨w3, rfl⟩ : ∃ w3 : World, w3 = wr := ⟨_, rfl⟩
          go_loopw [9] (fun i w1 => ∃ (q d : Nat), q ≤ p ∧ i = .int .i64 (q : Int) ∧ w1 = w3.drewN d) (fun i _ => p - (intOf i).toNat)
          case atStart => exact ⟨0, 0, Nat.zero_le _, rfl, rfl⟩
          case round =>
            obtain ⟨q, d, hq, rfl, rfl⟩ := hrel
            by_cases hlt : q < p
            · obtain ⟨h3, h4, hnq⟩ := HR.out q hlt
              obtain ⟨gu, rfl⟩ := HAO.out (by rw [← HNN.out]; omega)
              obtain ⟨gg, rfl⟩ := HAG.out (by omega)
              obtain ⟨m, hm⟩ : ∃ m, n q = m := ⟨_, rfl⟩
              rw [hm] at h3 h4 hnq
              obtain ⟨a1, cap1, hv1, hc1, hcm1, ha1⟩ := header h3
              obtain ⟨g1, rfl⟩ := ha1 (by omega)
              obtain ⟨a2, cap2, hv2, hc2, hcm2, ha2, ha3⟩ := h4.form
              have d1 := World.ownsRow.cellAt HROW.out q (by omega)
              rw [Tv_get (by rw [HGS.out]; exact hlt), hv1] at d1
              have d2 := World.ownsRow.cellAt HU.out q (by omega)
              rw [Tv_get (by rw [← HNN.out]; exact hlt), hv2] at d2
              rw [hv1] at h3
              have H3 := Lib.hid h3
              have HA3 := Lib.hid ha3
              clear h3 h4 hm hv1 hv2 ha1 ha2 ha3
              go_wp2_with fail
              go_loopw [10] (fun i w1 => ∃ (j d : Nat), j ≤ m + 6 ∧ i = .int .i64 (j : Int) ∧ w1 = w3.drewN d) (fun i _ => m + 6 - (intOf i).toNat)
              case atStart => exact ⟨0, d, Nat.zero_le _, rfl, rfl⟩
              case round =>
                obtain ⟨j, d, hj, rfl, rfl⟩ := hrel
                by_cases hjn : j < m + 6
                · have d3 := World.ownsRow.cellAt H3.out j (by omega)
                  rw [MC_get _ _ _ (by omega)] at d3
                  have hz : (mkC ((q : Int) + 10) (j : Int) != mkC ((q : Int) + 10) (j : Int)) = false := by simp
                  have hwk : IntKind.i64.wrap ((q : Int) + 10) = (q : Int) + 10 := IntWalk.i64_in _ (by omega)
                  by_cases hjm : j < m
                  · obtain ⟨b, off, rfl, d4⟩ := HA3.out j _ (MC_get q m j hjm)
                    go_wp2_with fail
                    go_quiet ((go_at_call 42; exact (markC_any ((q : Int) + 10) j _ (by omega) (by omega) (by omega) (by omega)).mono fun e w' ⟨he, hw⟩ => ⟨he, _, hw.symm⟩))
                    go_wp2_with fail
                    go_roundw
                    case rel => exact ⟨j + 1, _, by omega, by go_num, rfl⟩
                    case measure => simp [intOf]; omega
                  · have hd : decide ((j : Int) < (m : Int)) = false := by simpa using hjm
                    go_wp2_with fail
                    go_quiet ((go_at_call 42; exact (markC_any ((q : Int) + 10) j _ (by omega) (by omega) (by omega) (by omega)).mono fun e w' ⟨he, hw⟩ => ⟨he, _, hw.symm⟩))
                    go_wp2_with fail
                    go_roundw
                    case rel => exact ⟨j + 1, _, by omega, by go_num, rfl⟩
                    case measure => simp [intOf]; omega
                · go_wp2_with fail
                  go_roundw
                  case rel => exact ⟨q + 1, d, by omega, by go_num, rfl⟩
                  case measure => simp [intOf]; omega
            · go_wp2_with fail
              go_ret
              exact ⟨rfl, HEND.out _⟩
end Go.Proofs.Ytkidijjhedjifaa
namespace Go.Proofs.Ytkidijjhedjifaa
open Go.RowKit
set_option maxRecDepth 100000
set_option linter.unusedVariables false
set_option linter.unusedSimpArgs false
attribute [local go_sem] Oper.semAt_some
def KS : Knd Sk := ⟨43, 7, fun s => [.int .u8 s.kind, .int .i64 s.handle, .int .u8 s.alg, .int .i64 s.count, .int .i64 s.out, .int .i64 s.data, .int .i64 s.more], by decide, fun _ => rfl, fun x u hu => by simp at hu; rcases hu with rfl | rfl | rfl | rfl | rfl | rfl | rfl <;> rfl⟩
/-- element j, cell by cell -/
structure SkAt (w : World) (b o : Nat) (s : Sk) : Prop where
  c0 : w.cell? ⟨b, o, none⟩ = some (.int .u8 s.kind)
  c1 : w.cell? ⟨b, o + 1, none⟩ = some (.int .i64 s.handle)
  c2 : w.cell? ⟨b, o + 2, none⟩ = some (.int .u8 s.alg)
  c3 : w.cell? ⟨b, o + 3, none⟩ = some (.int .i64 s.count)
  c4 : w.cell? ⟨b, o + 4, none⟩ = some (.int .i64 s.out)
  c5 : w.cell? ⟨b, o + 5, none⟩ = some (.int .i64 s.data)
  c6 : w.cell? ⟨b, o + 6, none⟩ = some (.int .i64 s.more)
theorem KS.elem {w : World} {ao : Option Addr} {n cap : Nat} {l : List Sk} (h : KS.R w (.slice ao n cap) l) {j : Nat} {s : Sk} (hs : l[j]? = some s) : ∃ b off, ao = some ⟨b, off, none⟩ ∧ b < w.heap.size ∧ SkAt w b (off + j * 7) s := by
  obtain ⟨b, off, e, hlt, hc⟩ := Knd.R.get h hs
  refine ⟨b, off, e, hlt, hc 0 _ rfl, ?_, ?_, ?_, ?_, ?_, ?_⟩
  · have := hc 1 _ rfl
    rw [← Nat.add_assoc] at this
    exact this
  · have := hc 2 _ rfl
    rw [← Nat.add_assoc] at this
    exact this
  · have := hc 3 _ rfl
    rw [← Nat.add_assoc] at this
    exact this
  · have := hc 4 _ rfl
    rw [← Nat.add_assoc] at this
    exact this
  · have := hc 5 _ rfl
    rw [← Nat.add_assoc] at this
    exact this
  · have := hc 6 _ rfl
    rw [← Nat.add_assoc] at this
    exact this
theorem Env.omit {w0 w : World} {A B : List Ob} {x : Ob} (h : Env w0 w (A ++ [x] ++ B)) : Env w0 w (A ++ B) := by
  rw [List.append_assoc] at h
  refine h.pick (fun j => if j < A.length then j else j + 1) (fun i j _ _ he => ?_) (fun j ob hj => ?_)
  · split at he <;> split at he <;> omega
  · by_cases hlt : j < A.length
    · rw [if_pos hlt]
      rw [List.getElem?_append_left hlt] at hj ⊢
      exact hj
    · rw [if_neg hlt]
      rw [List.getElem?_append_right (by omega)] at hj ⊢
      rw [show j + 1 - A.length = (j - A.length) + 1 from by omega]
      exact hj
/-- a list of skeletons that is read while things come behind -/
def RdS (w0 : World) (obs : List Ob) (v : Value) (l : List Sk) : Prop := ∀ wx L, Env w0 wx (obs ++ L) → KS.R wx v l
theorem RdS.old {w0 : World} {obs : List Ob} {v : Value} {l : List Sk} (h : KS.R w0 v l) : RdS w0 obs v l := fun wx L he => he.oldK h
theorem RdS.more {w0 : World} {obs : List Ob} {v : Value} {l : List Sk} (h : RdS w0 obs v l) (M : List Ob) : RdS w0 (obs ++ M) v l := fun wx L he => h wx (M ++ L) (by rw [← List.append_assoc]; exact he)
theorem stTo_step (l : List Sk) {j : Nat} {s : Sk} (h : l[j]? = some s) : stTo l (j + 1) = nxD (stTo l j) s := by
  show (match l[j]? with | some s => nxD (stTo l j) s | none => stTo l j) = _
  rw [h]
theorem eachTo_step (l : List Sk) {j : Nat} {s : Sk} (h : l[j]? = some s) : eachTo l (j + 1) = eachTo l j ++ [runsD (stTo l j) s] := by
  show eachTo l j ++ [runsD (stTo l j) (l.getD j _)] = _
  rw [List.getD_eq_getElem?_getD, h]
  rfl
theorem codesTo_step (l : List Sk) {j : Nat} {s : Sk} (h : l[j]? = some s) : codesTo l (j + 1) = codesTo l j ++ [codeD (stTo l j) s] := by
  show codesTo l j ++ [codeD (stTo l j) (l.getD j _)] = _
  rw [List.getD_eq_getElem?_getD, h]
  rfl
section
variable {w0 w : World} {obs : List Ob}
set_option maxHeartbeats 4000000 in
theorem each_env (h : Env w0 w obs) {v : Value} {l : List Sk} (hv : RdS w0 obs v l) (hok : ∀ s ∈ l, OKsk s) (hl : l.length ≤ 300) :
    Calls Try.prog 11 #[v] w fun e w' => ∃ u ts, e = .returned u ∧ ts.map (·.2) = eachL l ∧ Env w0 w' (obs ++ [obTR u ts]) := by
  have HE := Lib.hid h
  have HV := Lib.hid hv
  have HOK := Lib.hid hok
  obtain ⟨ao, cap, hvf, hc1, hc2, _⟩ := (hv w [] (by rw [List.append_nil]; exact h)).any
  subst hvf
  clear h hv hok
  go_enter Try.func11, Try.ntmps11
  go_wp2_with fail
  refine (new_env HE.out).mono ?_
  rintro e w1 ⟨p, m, k, rfl, h1⟩
  have h2 : Env w0 w1 (obs ++ [obPub p m k hs0] ++ [obTR (.slice none 0 0) []]) := h1.llNil (st := 31) (e := 51) (sz := 3)
  rw [List.append_assoc] at h2
  have H2 := Lib.hid h2
  clear h1 h2
  unfold pV
  go_wp2_with fail
  go_loopw [4, 12] (fun ov iv wx => ∃ j : Nat, j ≤ l.length ∧ iv = .int .i64 (j : Int) ∧ ∃ ts, Hid (ts.map (·.2) = eachTo l j) ∧ Hid (Env w0 wx (obs ++ [obPub p m k (stTo l j), obTR ov ts]))) (fun _ iv _ => l.length - (intOf iv).toNat)
  case atStart => exact ⟨0, Nat.zero_le _, rfl, [], Lib.hid rfl, H2⟩
  case round =>
    obtain ⟨j, hj, rfl, ts, HT, HL⟩ := hrel
    clear H2
    by_cases hlt : j < l.length
    · obtain ⟨s, hs⟩ : ∃ s, l[j]? = some s := ⟨_, List.getElem?_eq_getElem hlt⟩
      have t3 : decide ((j : Int) < (l.length : Int)) = true := by rw [decide_eq_true_eq]; omega
      obtain ⟨b, off, hao, hbl, hsk⟩ := KS.elem (HV.out wr _ HL.out) hs
      subst hao
      have c0 := hsk.c0
      have c1 := hsk.c1
      have c2 := hsk.c2
      have c3 := hsk.c3
      have c4 := hsk.c4
      have c5 := hsk.c5
      have c6 := hsk.c6
      have bj : 0 ≤ (j : Int) ∧ (j : Int) < (l.length : Int) := by omega
      have HSS := Lib.hid hs
      clear hsk hs
      go_wp2_with fail
      clear c0 c1 c2 c3 c4 c5 c6
      refine (do_env (HL.out.below ((Below.refl _ _).alloc (Nat.le_refl _) _)) obs.length (atR 0) (stTo_ok l j) (by omega) s (HOK.out s (List.mem_of_getElem? HSS.out))).mono ?_
      rintro e w2 ⟨v, rfl, h2⟩
      obtain ⟨rs, hrs⟩ : ∃ rs, runsD (stTo l j) s = rs := ⟨_, rfl⟩
      rw [hrs, ← stTo_step l HSS.out] at h2
      have h3 : Env w0 w2 ((obs ++ [obPub p m k (stTo l (j + 1)), obTR u4 ts]) ++ [obRuns v rs]) := by
        rw [List.set_append_right _ _ (Nat.le_refl _), Nat.sub_self] at h2
        exact h2
      obtain ⟨vo, vc, hvv⟩ := (h3.runs (obs ++ [obPub p m k (stTo l (j + 1)), obTR u4 ts]).length (atR 0)).any
      subst hvv
      have H3 := Lib.hid h3
      have HRS := Lib.hid hrs
      have hlen : ts.length = j := by
        have := congrArg List.length HT.out
        rw [List.length_map, eachTo_len] at this
        exact this
      have hI : (obs ++ [obPub p m k (stTo l (j + 1)), obTR u4 ts])[obs.length + 1]? = some (obTR u4 ts) := atR 1
      have HI := Lib.hid hI
      have htl : ts.length ≤ 5000000000000 := by omega
      clear h2 h3 hrs hI
      go_wp2_with (at_builtin; refine wpList_append_TR (obs := obs ++ [obPub p m k (stTo l (j + 1)), obTR u4 ts]) H3.out (obs.length + 1) HI.out _ _ rfl rfl rfl rfl htl ?_)
      intro u8 w7 h7
      have h8 : Env w0 w7 (obs ++ [obPub p m k (stTo l (j + 1)), obTR u8 (ts ++ [(.slice vo rs.length vc, rs)])]) := by
        first
        | exact h7
        | (rw [List.set_append_right _ _ (by omega), show obs.length + 1 - obs.length = 1 from by omega] at h7; exact h7)
        | (have e9 : (obs ++ [obPub p m k (stTo l (j + 1)), obTR u4 ts]).set (obs.length + 1) (obTR u8 (ts ++ [(.slice vo rs.length vc, rs)])) = obs ++ [obPub p m k (stTo l (j + 1)), obTR u8 (ts ++ [(.slice vo rs.length vc, rs)])] := by
            rw [List.set_append_right _ _ (by omega), show obs.length + 1 - obs.length = 1 from by omega]
            rfl
           rw [e9] at h7
           exact h7)
      have H8 := Lib.hid h8
      have HT8 : Hid ((ts ++ [((Value.slice vo rs.length vc), rs)]).map (·.2) = eachTo l (j + 1)) := by
        rw [List.map_append, HT.out, eachTo_step l HSS.out, HRS.out]
        exact Lib.hid rfl
      clear h7 h8 H3 HI htl hlen
      have hw1 : IntKind.i64.wrap ((j : Int) + 1) = ((j + 1 : Nat) : Int) := by rw [IntWalk.i64_in _ (by omega)]; omega
      go_wp2_with fail
      refine ⟨⟨j + 1, by omega, rfl, _, HT8, H8⟩, ?_⟩
      simp only [intOf]
      omega
    · have t3 : decide ((j : Int) < (l.length : Int)) = false := by rw [decide_eq_false_iff_not]; omega
      have hjl : j = l.length := by omega
      go_wp2_with fail
      go_ret
      rw [hjl] at HT HL
      refine ⟨_, ts, rfl, HT.out, ?_⟩
      exact Env.omit (A := obs) (x := obPub p m k (stTo l l.length)) (B := [obTR u4 ts]) (by simpa using HL.out)
theorem Env.rowUp {w0 w : World} {obs : List Ob} (h : Env w0 w obs) (i : Nat) {e : TypeId} {size n : Nat} {v : Value} {cs : List Value} (hi : obs[i]? = some (obE e size v n cs)) {v' : Value} {n' : Nat} {cs' : List Value} {w' : World} (hown : w'.ownsRow 0 e size v' n' cs') (hg : w.grownBy w' v.ownBlock) (hat : v'.ownBlock = v.ownBlock ∨ v'.ownBlock = some w.heap.size) : Env w0 w' (obs.set i (obE e size v' n' cs')) := by
  obtain ⟨F, h1, _, _, h4⟩ := h.get i hi
  obtain ⟨_, rfl⟩ := h1
  refine h4 w' (fpv v') (obE e size v' n' cs') ⟨hown, rfl⟩ (Only.grown (Only.refl _ w) hg (fun k hk => .inl hk)) (fun x hx => ?_)
  have hx' : v'.ownBlock = some x := hx
  rcases hat with hat | hat
  · left
    show v.ownBlock = some x
    rw [← hat]
    exact hx
  · right
    rw [hat] at hx'
    injection hx' with hx'
    omega
theorem one_int {q : IntKind} {x : Int} : ∀ u ∈ [Value.int q x], u.oneCell' = true := by
  intro u hu
  simp at hu
  subst hu
  rfl
theorem max_len {n : Nat} (h : n ≤ 1000) : n + 1 ≤ maxLen := by unfold maxLen; omega
set_option maxHeartbeats 4000000 in
theorem codes_env (h : Env w0 w obs) {v : Value} {l : List Sk} (hv : RdS w0 obs v l) (hok : ∀ s ∈ l, OKsk s) (hl : l.length ≤ 300) :
    Calls Try.prog 12 #[v] w fun e w' => ∃ u, e = .returned u ∧ Env w0 w' (obs ++ [KC.ob u (codesL l)]) := by
  obtain ⟨i0, hi, hz0, hz1, hz2⟩ := info_parts infoC
  have HII := Lib.hid (And.intro hi (And.intro hz0 (And.intro hz1 hz2)))
  clear hi hz0 hz1 hz2
  have HE := Lib.hid h
  have HV := Lib.hid hv
  have HOK := Lib.hid hok
  obtain ⟨ao, cap, hvf, hc1, hc2, _⟩ := (hv w [] (by rw [List.append_nil]; exact h)).any
  subst hvf
  clear h hv hok
  go_enter Try.func12, Try.ntmps12
  go_wp2_with fail
  refine (new_env HE.out).mono ?_
  rintro e w1 ⟨p, m, k, rfl, h1⟩
  have h2 : Env w0 w1 (obs ++ [obPub p m k hs0] ++ [KC.ob (.slice none 0 0) []]) := h1.pushNil KC
  rw [List.append_assoc] at h2
  have H2 := Lib.hid h2
  clear h1 h2
  unfold pV
  go_wp2_with fail
  go_loopw [4, 12] (fun ov iv wx => ∃ j : Nat, j ≤ l.length ∧ iv = .int .i64 (j : Int) ∧ Hid (Env w0 wx (obs ++ [obPub p m k (stTo l j), KC.ob ov (codesTo l j)]))) (fun _ iv _ => l.length - (intOf iv).toNat)
  case atStart => exact ⟨0, Nat.zero_le _, rfl, H2⟩
  case round =>
    obtain ⟨j, hj, rfl, HL⟩ := hrel
    clear H2
    by_cases hlt : j < l.length
    · obtain ⟨s, hs⟩ : ∃ s, l[j]? = some s := ⟨_, List.getElem?_eq_getElem hlt⟩
      have t3 : decide ((j : Int) < (l.length : Int)) = true := by rw [decide_eq_true_eq]; omega
      obtain ⟨b, off, hao, hbl, hsk⟩ := KS.elem (HV.out wr _ HL.out) hs
      subst hao
      have c0 := hsk.c0
      have c1 := hsk.c1
      have c2 := hsk.c2
      have c3 := hsk.c3
      have c4 := hsk.c4
      have c5 := hsk.c5
      have c6 := hsk.c6
      have bj : 0 ≤ (j : Int) ∧ (j : Int) < (l.length : Int) := by omega
      have HSS := Lib.hid hs
      clear hsk hs
      go_wp2_with fail
      clear c0 c1 c2 c3 c4 c5 c6
      refine (do_env (HL.out.below ((Below.refl _ _).alloc (Nat.le_refl _) _)) obs.length (atR 0) (stTo_ok l j) (by omega) s (HOK.out s (List.mem_of_getElem? HSS.out))).mono ?_
      rintro e w2 ⟨v, rfl, h2⟩
      obtain ⟨cd, hcd⟩ : ∃ cd, codeD (stTo l j) s = cd := ⟨_, rfl⟩
      rw [hcd]
      rw [← stTo_step l HSS.out] at h2
      have h3 : Env w0 w2 (obs ++ [obPub p m k (stTo l (j + 1)), KC.ob u4 (codesTo l j)]) := by
        rw [List.set_append_right _ _ (Nat.le_refl _), Nat.sub_self] at h2
        exact h2.keepL
      have H3 := Lib.hid h3
      have HCD := Lib.hid hcd
      have hlen : (codesTo l j).length = j := codesTo_len l j
      have hown0 := Env.row (H3.out.below ((Below.refl _ _).alloc (Nat.le_refl _) (.cells #[.int .i64 cd] 45))) (obs.length + 1) (atR 1)
      rw [hlen] at hown0
      have HOWN := Lib.hid hown0
      have hjm : j ≤ 300 := by omega
      clear h2 h3 hcd hlen hown0
      obtain ⟨hi, hz0, hz1, hz2⟩ := HII.out
      go_wp2_with (at_builtin; refine wpList_append_lies _ rfl _ _ 27 rfl 0 45 i0 _ 1 8 Try.underlying27 hi hz0 hz1 hz2 rfl (by decide) u4 j (KC.fl (codesTo l j)) rfl HOWN.out ⟨w2.heap.size, 0, none⟩ 1 1 [.int .i64 cd] rfl rfl (World.news_of_block (heap_alloc_new _ _)) one_int (by decide) (max_len (by omega)) (by omega) (Nat.zero_le _) _ rfl ?_)
      intro g cg w7 k1 k2 k3 k4
      clear hi hz0 hz1 hz2
      have h8 : Env w0 w7 ((obs ++ [obPub p m k (stTo l (j + 1)), KC.ob u4 (codesTo l j)]).set (obs.length + 1) (KC.ob (.slice (some ⟨g, 0, none⟩) (j + 1) cg) (codesTo l (j + 1)))) := by
        have hb := H3.out.below ((Below.refl _ _).alloc (Nat.le_refl _) (.cells #[.int .i64 cd] 45))
        refine hb.rowUp (obs.length + 1) (atR 1) ?_ k2 ?_
        · rw [codesTo_step l HSS.out, HCD.out]
          show w7.ownsRow 0 KC.e KC.sz _ (codesTo l j ++ [cd]).length (KC.fl (codesTo l j ++ [cd]))
          rw [KC.fl_app, KC.fl_one, List.length_append, codesTo_len]
          exact k1
        · rcases k3 with k3 | k3
          · exact .inl (by rw [k3]; rfl)
          · exact .inr (by rw [k3]; simp [Value.ownBlock])
      have h9 : Env w0 w7 (obs ++ [obPub p m k (stTo l (j + 1)), KC.ob (.slice (some ⟨g, 0, none⟩) (j + 1) cg) (codesTo l (j + 1))]) := by
        rw [List.set_append_right _ _ (by omega), show obs.length + 1 - obs.length = 1 from by omega] at h8
        exact h8
      have H9 := Lib.hid h9
      clear h8 h9 k1 k2 k3 k4 HOWN H3
      have hw1 : IntKind.i64.wrap ((j : Int) + 1) = ((j + 1 : Nat) : Int) := by rw [IntWalk.i64_in _ (by omega)]; omega
      go_wp2_with fail
      refine ⟨⟨j + 1, by omega, rfl, H9⟩, ?_⟩
      simp only [intOf]
      omega
    · have t3 : decide ((j : Int) < (l.length : Int)) = false := by rw [decide_eq_false_iff_not]; omega
      have hjl : j = l.length := by omega
      go_wp2_with fail
      go_ret
      rw [hjl] at HL
      refine ⟨_, rfl, ?_⟩
      unfold codesL
      exact Env.omit (A := obs) (x := obPub p m k (stTo l l.length)) (B := [KC.ob u4 (codesTo l l.length)]) (by simpa using HL.out)
theorem part_ok {a r : List Rn} (ha : Nrm a) (hr : Nrm r) (k : Nat) : Nrm (noteAll a (r.take k)) ∧ tot (noteAll a (r.take k)) ≤ tot a + tot r := by
  have hp := hr.posi
  refine ⟨Nrm.all _ ha, ?_⟩
  rw [tot_noteAll _ _ (fun x hx => by have := hp x (List.mem_of_mem_take hx); omega)]
  have e : tot r = sumE (r.take k) + tot (r.drop k) := by
    have h1 := tot_append (r.take k) (r.drop k)
    rw [List.take_append_drop] at h1
    exact h1
  have := tot_nonneg (r.drop k) (fun x hx => hp x (List.mem_of_mem_drop hx))
  omega
theorem noteAll_step (a r : List Rn) {k : Nat} {x : Rn} (h : r[k]? = some x) : noteAll a (r.take (k + 1)) = timesN (noteAll a (r.take k)) x := by
  have e : r.take (k + 1) = r.take k ++ [x] := by rw [List.take_add_one, h]; rfl
  rw [e]
  show (r.take k ++ [x]).foldl noteT a = _
  rw [List.foldl_append]
  rfl
theorem timesL_env {w0 w : World} {obs : List Ob} (h : Env w0 w obs) (i : Nat) {q : Value} {rs : List Rn} (hi : obs[i]? = some (obP q (some rs))) (k s n : Int) (hr : Room (some rs) n) :
    Calls Try.prog 36 #[q, .agg #[.int .u8 k, .int .i64 s], .int .i64 n] w fun e w' => e = .returned (.tuple #[]) ∧ Env w0 w' (obs.set i (obP q (some (timesN rs ⟨k, s, n⟩)))) := by
  refine (timesP_env h i hi k s n hr).mono fun e w' ⟨he, h3⟩ => ⟨he, ?_⟩
  have e1 : timesO (some rs) k s n = some (timesN rs ⟨k, s, n⟩) := by
    unfold timesO timesN
    simp only
    split <;> rfl
  rw [e1] at h3
  exact h3
theorem allTo_step (l : List Sk) {j : Nat} {s : Sk} (h : l[j]? = some s) : allTo l (j + 1) = noteAll (allTo l j) (runsD (stTo l j) s) := by
  show noteAll (allTo l j) (runsD (stTo l j) (l.getD j _)) = _
  rw [List.getD_eq_getElem?_getD, h]
  rfl
set_option maxHeartbeats 4000000 in
theorem runs_env (h : Env w0 w obs) {v : Value} {l : List Sk} (hv : RdS w0 obs v l) (hok : ∀ s ∈ l, OKsk s) (hl : l.length ≤ 300) :
    Calls Try.prog 16 #[v] w fun e w' => ∃ u, e = .returned u ∧ Env w0 w' (obs ++ [obRuns u (allTo l l.length)]) := by
  have HE := Lib.hid h
  have HV := Lib.hid hv
  have HOK := Lib.hid hok
  obtain ⟨ao, cap, hvf, hc1, hc2, _⟩ := (hv w [] (by rw [List.append_nil]; exact h)).any
  subst hvf
  clear h hv hok
  go_enter Try.func16, Try.ntmps16
  go_wp2_with fail
  refine (newP_env' HE.out).mono ?_
  rintro e w1 ⟨q, rfl, h1⟩
  have H1 := Lib.hid h1
  clear h1
  go_wp2_with fail
  refine (each_env H1.out (HV.out.more _) HOK.out hl).mono ?_
  rintro e w2 ⟨u, ts, rfl, hts, h2⟩
  rw [List.append_assoc] at h2
  have H2 : Hid (Env w0 w2 (obs ++ [obP q (some []), obTR u ts])) := Lib.hid h2
  have HT := Lib.hid hts
  have htl : ts.length = l.length := by
    have := congrArg List.length hts
    rw [List.length_map] at this
    rw [this]
    exact eachTo_len l _
  obtain ⟨uo, uc, hu, hu1, hu2⟩ := obTR_form h2 (obs.length + 1) (u := u) (ts := ts) (atR 1)
  rw [htl] at hu hu1
  subst hu
  have HTL := Lib.hid htl
  clear h2 hts H1 htl
  go_wp2_with fail
  go_loopw [12] (fun iv wx => ∃ j : Nat, j ≤ l.length ∧ iv = .int .i64 (j : Int) ∧ Hid (Env w0 wx (obs ++ [obP q (some (allTo l j)), obTR (.slice uo l.length uc) ts]))) (fun iv _ => l.length - (intOf iv).toNat)
  case atStart => exact ⟨0, Nat.zero_le _, rfl, H2⟩
  case round =>
    obtain ⟨j, hj, rfl, HL⟩ := hrel
    clear H2
    by_cases hlt : j < l.length
    · obtain ⟨s, hs⟩ : ∃ s, l[j]? = some s := ⟨_, List.getElem?_eq_getElem hlt⟩
      have t3 : decide ((j : Int) < (l.length : Int)) = true := by rw [decide_eq_true_eq]; omega
      have bj : 0 ≤ (j : Int) ∧ (j : Int) < (l.length : Int) := by omega
      obtain ⟨⟨rv, r⟩, hr⟩ : ∃ y, ts[j]? = some y := ⟨_, List.getElem?_eq_getElem (by rw [HTL.out]; exact hlt)⟩
      have hrr : r = runsD (stTo l j) s := by
        have e1 := congrArg (fun z => z[j]?) HT.out
        simp only [List.getElem?_map, hr, Option.map_some] at e1
        unfold eachL at e1
        rw [eachTo_get l _ j hlt, List.getD_eq_getElem?_getD, hs] at e1
        injection e1
      have hnr := runsD_ok (stTo_ok l j) s
      rw [← hrr] at hnr
      have hna := allTo_ok l j
      have hst := allTo_step l hs
      rw [← hrr] at hst
      have HR := Lib.hid (And.intro hr (And.intro hnr (And.intro hna hst)))
      obtain ⟨ug, ucc, hug, _, _⟩ := obTR_slice HL.out (obs.length + 1) (u := .slice uo l.length uc) (ts := ts) (atR 1) (by rw [HTL.out]; omega)
      injection hug with q1 q2 q3
      subst q1
      subst q3
      have d0 := obTR_cell (n := l.length) (c := uc) HL.out (obs.length + 1) (atR 1) hr
      obtain ⟨ro, rc, rfl, hrl1, hrl2, _⟩ := (obTR_get HL.out (obs.length + 1) (atR 1) hr).any
      have hrlen : r.length ≤ 200000000 := by
        have := tot_nonneg r hnr.1.nrm.posi
        omega
      clear hr hrr hnr hna hst hs q2
      go_wp2_with fail
      clear d0
      go_loopw [18] (fun kv wx => ∃ k : Nat, k ≤ r.length ∧ kv = .int .i64 (k : Int) ∧ Hid (Env w0 wx (obs ++ [obP q (some (noteAll (allTo l j) (r.take k))), obTR (.slice (some ⟨ug, 0, none⟩) l.length uc) ts]))) (fun kv _ => r.length - (intOf kv).toNat)
      case atStart => exact ⟨0, Nat.zero_le _, rfl, HL⟩
      case round =>
        obtain ⟨k, hk, rfl, HK⟩ := hrel
        clear HL
        by_cases hkl : k < r.length
        · obtain ⟨x, hx⟩ : ∃ x, r[k]? = some x := ⟨_, List.getElem?_eq_getElem hkl⟩
          have t4 : decide ((k : Int) < (r.length : Int)) = true := by rw [decide_eq_true_eq]; omega
          have bk : 0 ≤ (k : Int) ∧ (k : Int) < (r.length : Int) := by omega
          obtain ⟨b, off, hao, hbl, hc⟩ := Knd.R.get (obTR_get HK.out (obs.length + 1) (atR 1) HR.out.1) hx
          subst hao
          have c0 := hc 0 _ rfl
          have c1 := hc 1 _ rfl
          have c2 := hc 2 _ rfl
          rw [← Nat.add_assoc] at c1 c2
          have c0 : wr.cell? ⟨b, off + k * 3, none⟩ = some (.int .u8 x.k) := c0
          have c1 : wr.cell? ⟨b, off + k * 3 + 1, none⟩ = some (.int .i64 x.s) := c1
          have c2 : wr.cell? ⟨b, off + k * 3 + 2, none⟩ = some (.int .i64 x.c) := c2
          have HX := Lib.hid hx
          have p1 := part_ok HR.out.2.2.1.1 HR.out.2.1.1.nrm k
          have p2 := part_ok HR.out.2.2.1.1 HR.out.2.1.1.nrm (k + 1)
          have hst := noteAll_step (allTo l j) r hx
          have hxp : 1 ≤ x.c := HR.out.2.1.1.nrm.posi x (List.mem_of_getElem? hx)
          have b1 := HR.out.2.2.1.2.2
          have b2 := HR.out.2.1.2.2.2
          have hroom : Room (some (noteAll (allTo l j) (r.take k))) x.c := by
            have e1 : tot (timesN (noteAll (allTo l j) (r.take k)) x) = tot (noteAll (allTo l j) (r.take k)) + x.c := by
              unfold timesN
              rw [if_neg (by omega), tot_note]
            rw [hst, e1] at p2
            have h3 := tot_nonneg _ p1.1.posi
            exact Room.some (by omega) (by omega)
          have HRM := Lib.hid hroom
          have HST := Lib.hid hst
          clear p1 p2 hst hxp b1 b2 hroom hx hc
          go_wp2_with fail
          clear c0 c1 c2
          refine (timesL_env (HK.out.below ((Below.refl _ _).alloc (Nat.le_refl _) _)) obs.length (atR 0) x.k x.s x.c HRM.out).mono ?_
          rintro e w5 ⟨rfl, h5⟩
          have h6 : Env w0 w5 (obs ++ [obP q (some (noteAll (allTo l j) (r.take (k + 1)))), obTR (.slice (some ⟨ug, 0, none⟩) l.length uc) ts]) := by
            rw [List.set_append_right _ _ (Nat.le_refl _), Nat.sub_self] at h5
            rw [HST.out]
            exact h5
          have H6 := Lib.hid h6
          clear h5 h6 HK
          have hw1 : IntKind.i64.wrap ((k : Int) + 1) = ((k + 1 : Nat) : Int) := by rw [IntWalk.i64_in _ (by omega)]; omega
          go_wp2_with fail
          refine ⟨⟨k + 1, by omega, rfl, H6⟩, ?_⟩
          simp only [intOf]
          omega
        · have t4 : decide ((k : Int) < (r.length : Int)) = false := by rw [decide_eq_false_iff_not]; omega
          have hkr : k = r.length := by omega
          subst hkr
          have h6 : Env w0 wr (obs ++ [obP q (some (allTo l (j + 1))), obTR (.slice (some ⟨ug, 0, none⟩) l.length uc) ts]) := by
            rw [HR.out.2.2.2]
            have := HK.out
            rw [List.take_length] at this
            exact this
          have H6 := Lib.hid h6
          clear h6 HK
          have hw1 : IntKind.i64.wrap ((j : Int) + 1) = ((j + 1 : Nat) : Int) := by rw [IntWalk.i64_in _ (by omega)]; omega
          go_wp2_with fail
          refine ⟨⟨j + 1, by omega, rfl, H6⟩, ?_⟩
          simp only [intOf]
          omega
    · have t3 : decide ((j : Int) < (l.length : Int)) = false := by rw [decide_eq_false_iff_not]; omega
      have hjl : j = l.length := by omega
      rw [hjl] at HL
      have hna := allTo_ok l l.length
      have hlen : (allTo l l.length).length ≤ 5497558138880 := by
        have := tot_nonneg _ hna.1.posi
        have := hna.2.2
        omega
      have HLEN := Lib.hid hlen
      clear hna hlen
      go_wp2_with fail
      refine (runsP_env' HL.out obs.length (atR 0) HLEN.out).mono ?_
      rintro e w5 ⟨v, rfl, h5⟩
      have H5 := Lib.hid h5
      clear h5
      go_wp2_with fail
      go_ret
      refine ⟨v, rfl, ?_⟩
      have h9 : Env w0 w5 (obs ++ [obP q (some (allTo l l.length))] ++ [obTR (.slice uo l.length uc) ts, obRuns v (allTo l l.length)]) := by simpa using H5.out
      have h10 := h9.omit
      exact Env.omit (A := obs) (x := obTR (.slice uo l.length uc) ts) (B := [obRuns v (allTo l l.length)]) (by simpa using h10)
end
end Go.Proofs.Ytkidijjhedjifaa
