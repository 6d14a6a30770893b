/- The statement CmacScript: for every input turnkey/turnkeylaw13.CmacScript returns true, and each argument reads as it did. Its walk is proved in MacScript; here is the step from the walk to the row. -/
import Derived.Test.YtpampcokonicfaaRows
import Derived.JoinedCond
import Derived.Test.YtpampcokonicfaaQCmacScript11
import Derived.Test.YtpampcokonicfaaQCmacScript2
/- CmacScript: two Macs, call by call, beside the document's. Condition: what the arguments read is of bulk at most 2^20 (the second form). -/
namespace Go.Proofs.Ytpampcokonicfaa
open Go.RowKit
set_option maxRecDepth 100000
set_option linter.unusedVariables false
set_option linter.unusedSimpArgs false
attribute [local go_sem] Oper.semAt_some
/-! ### how many bytes -/
def sumM (ls : List Ac13) : Nat → Nat
  | 0 => 0
  | n + 1 => sumM ls n + min ((ls[n]?.map (fun s => s.dat.length)).getD 0) 5000
theorem sumM_le (ls : List Ac13) : ∀ n, sumM ls n ≤ 5000 * n
  | 0 => Nat.le_refl _
  | n + 1 => by
    have := sumM_le ls n
    unfold sumM
    omega
theorem sumM_mono (ls : List Ac13) : ∀ n m, n ≤ m → sumM ls n ≤ sumM ls m
  | n, 0, h => by
    have : n = 0 := by omega
    subst this
    exact Nat.le_refl _
  | n, m + 1, h => by
    by_cases e : n = m + 1
    · subst e
      exact Nat.le_refl _
    · have := sumM_mono ls n m (by omega)
      show _ ≤ sumM ls m + _
      omega
theorem sumM_step (ls : List Ac13) {n : Nat} {s : Ac13} (h : ls[n]? = some s) : sumM ls (n + 1) = sumM ls n + min s.dat.length 5000 := by
  show sumM ls n + min ((ls[n]?.map (fun s => s.dat.length)).getD 0) 5000 = _
  rw [h]
  rfl
theorem sumM_real (ls : List Ac13) {n : Nat} {s : Ac13} (h : ls[n]? = some s) (hs : sumM ls ls.length ≤ 4000) : sumM ls n + s.dat.length = sumM ls (n + 1) ∧ sumM ls (n + 1) ≤ 4000 := by
  have hn : n < ls.length := (List.getElem?_eq_some_iff.1 h).1
  have h1 := sumM_mono ls (n + 1) ls.length (by omega)
  have h2 := sumM_step ls h
  omega
set_option maxHeartbeats 2000000 in
theorem long13 {w : World} {v : Value} {ls : List Ac13} (h : InA13 w v ls) (hl : ls.length ≤ 60) :
    Calls Try.prog 33 #[v] w fun e w' => e = .returned (.bool (decide (4000 < sumM ls ls.length))) ∧ w = w' := by
  obtain ⟨ao, cap, rfl, hc1, hc2, _, hat⟩ := h
  have HAT := Lib.hid hat
  obtain ⟨B, hB⟩ : ∃ B, decide (4000 < sumM ls ls.length) = B := ⟨_, rfl⟩
  rw [hB]
  have HB := Lib.hid hB
  clear hat hB
  go_enter Try.func33, Try.ntmps33
  go_wp2_with fail
  go_loopw [3, 4] (fun sv iv wx => ∃ i : Nat, i ≤ ls.length ∧ iv = .int .i64 (i : Int) ∧ sv = .int .i64 (sumM ls i : Int) ∧ wx = w) (fun _ i _ => ls.length - (intOf i).toNat)
  case atStart => refine ⟨0, Nat.zero_le _, ?_⟩; simp [sumM]
  case round =>
    obtain ⟨i, hi, rfl, rfl, rfl⟩ := hrel
    by_cases hlt : i < ls.length
    · obtain ⟨y, hy⟩ : ∃ y, ls[i]? = some y := ⟨_, List.getElem?_eq_getElem hlt⟩
      obtain ⟨b, off, c, d, hb, c0, c1, c2, c3, c4, hbs, hbl, hds, hdl⟩ := HAT.out i y hy
      subst hb
      obtain ⟨co, cc, rfl, g1, g2, _⟩ := hds.form
      have t3 : decide ((i : Int) < (ls.length : Int)) = true := by rw [decide_eq_true_eq]; omega
      have bi : 0 ≤ (i : Int) ∧ (i : Int) < (ls.length : Int) := by omega
      have hst := Lib.hid (sumM_step ls hy)
      have hle := sumM_le ls i
      obtain ⟨a, ha⟩ : ∃ a, sumM ls i = a := ⟨_, rfl⟩
      have ha6 : a ≤ 300000 := by omega
      rw [ha]
      have HA := Lib.hid ha
      obtain ⟨mn, hmn⟩ : ∃ mn, min y.dat.length 5000 = mn := ⟨_, rfl⟩
      have hmn5 : mn ≤ 5000 := by omega
      have hmI : (if (5000 : Int) < (y.dat.length : Int) then (5000 : Int) else (y.dat.length : Int)) = (mn : Int) := by split <;> omega
      have HM := Lib.hid hmn
      have hw1 : IntKind.i64.wrap ((i : Int) + 1) = ((i + 1 : Nat) : Int) := by rw [IntWalk.i64_in _ (by omega)]; omega
      have hw2 : IntKind.i64.wrap ((a : Int) + (mn : Int)) = ((a + mn : Nat) : Int) := by rw [IntWalk.i64_in _ (by omega)]; omega
      clear c0 c1 c2 c4 hbs hbl hds hy hle ha hmn
      go_wp2_with fail
      refine ⟨⟨i + 1, by omega, rfl, ?_, by first | trivial | rfl⟩, ?_⟩
      · rw [hst.out, HA.out, HM.out]
        first | rfl | omega | skip
      · simp only [intOf]
        omega
    · have t3 : decide ((i : Int) < (ls.length : Int)) = false := by rw [decide_eq_false_iff_not]; omega
      have hil : i = ls.length := by omega
      subst hil
      obtain ⟨a, ha⟩ : ∃ a, sumM ls ls.length = a := ⟨_, rfl⟩
      have hB' := HB.out
      rw [ha] at hB' ⊢
      have hB2 : decide ((4000 : Int) < (a : Int)) = B := by
        rw [← hB']
        exact decide_eq_decide.2 (by omega)
      clear hB' ha
      go_wp2_with fail
      go_ret
      exact ⟨rfl, rfl⟩
/-! ### the law's world -/
def x013 : St13 := ⟨.no, .no, none, none, .slice none 0 0, .slice none 0 0, [], [], []⟩
theorem OK13.start : OK13 0 0 x013 := ⟨trivial, trivial, by simp [x013, tot], by simp [x013, tot], by simp [x013], by simp [x013], rfl, fun y hy => by simp [x013] at hy, Nat.le_refl _, Nat.le_refl _⟩
theorem Env.pushNone {w0 w : World} {obs : List Ob} (h : Env w0 w obs) (ob : Ob) (hat : ob.at' w (fun _ => False)) : Env w0 w (obs ++ [ob]) :=
  h.push (F' := fun _ => False) ob hat (Below.refl _ _) (fun x hx => hx.elim)
theorem Env.toldNilX {w0 w : World} {obs : List Ob} (h : Env w0 w obs) : Env w0 w (obs ++ [AX.obT (.slice none 0 0) []]) := h.llNilX (st := 22) (sz := 1)
theorem WM_start {w0 w : World} {P : Nat} {pl pw : Value} (h : Env w0 w [obP pl (some []), obR pw (some []), obK P 68 #[.pointer none, .pointer none, .pointer none, .pointer none, pl, pw, .slice none 0 0, .slice none 0 0]]) : Env w0 w (WM P pl pw x013) := by
  have h1 := (h.pushNone (obC (.pointer none) none) ⟨rfl, rfl⟩).pushNone (obC (.pointer none) none) ⟨rfl, rfl⟩
  have h2 := h1.pushNone (obM2 none none) ⟨trivial, trivial, fun x y hx => (by cases hx), fun x y hx => (by cases hx), fun x hx => hx.elim⟩
  have h3 := h2.toldNilX.toldNilX
  have h5 := (h3.pushNone (obP (.pointer none) none) (LgP.nil w)).pushNone (obR (.pointer none) none) ⟨rfl, rfl⟩
  have h6 := (h5.pushNone (obC (.pointer none) none) ⟨rfl, rfl⟩).pushNone (obC (.pointer none) none) ⟨rfl, rfl⟩
  refine h6.pick (fun j => [2, 0, 1, 3, 4, 5, 6, 7, 8, 9, 10, 11].getD j 0) ?_ ?_
  · intro i j hi hj
    rw [WM_len] at hi hj
    exact (by decide : ∀ i, i < 12 → ∀ j, j < 12 → [2, 0, 1, 3, 4, 5, 6, 7, 8, 9, 10, 11].getD i 0 = [2, 0, 1, 3, 4, 5, 6, 7, 8, 9, 10, 11].getD j 0 → i = j) i hi j hj
  · intro j ob hj
    match j, hj with
    | 0, hj | 1, hj | 2, hj | 3, hj | 4, hj | 5, hj | 6, hj | 7, hj | 8, hj | 9, hj | 10, hj | 11, hj => exact hj
    | j + 12, hj => simp [WM] at hj
/-- the law's world behind calls -/
def CS13 (w wx : World) (P : Nat) (pl pw : Value) (i m : Nat) : Prop := ∃ x, Env w wx (WM P pl pw x) ∧ OK13 i m x
structure Sc (P : Nat) (pl pw : Value) (W : World) : Prop where
  l : W.cell? ⟨P, 4, none⟩ = some pl
  w : W.cell? ⟨P, 5, none⟩ = some pw
theorem Sc.fl {P : Nat} {pl pw : Value} (W : World) (h : Sc P pl pw W) : W.cell? ⟨P, 4, none⟩ = some pl := h.l
theorem Sc.fw {P : Nat} {pl pw : Value} (W : World) (h : Sc P pl pw W) : W.cell? ⟨P, 5, none⟩ = some pw := h.w
theorem CS13.sc {w wx : World} {P : Nat} {pl pw : Value} {i m : Nat} (h : CS13 w wx P pl pw i m) : Sc P pl pw wx := by
  obtain ⟨x, h, _⟩ := h
  exact ⟨(h.blk 0 rfl).cellAt 4 rfl, (h.blk 0 rfl).cellAt 5 rfl⟩
theorem make13' {w0 w : World} {P : Nat} {pl pw : Value} {i m : Nat} (h : CS13 w0 w P pl pw i m) (hi : i ≤ 1000) (k : Nat) (hk : k < 2) {u : Value} {key : List UInt8} (hu : Bs w0 u key) (hkl : key.length + 6 ≤ 140737488355328) :
    Calls Try.prog 35 #[.pointer (some ⟨P, 0, none⟩), .int .i64 (k : Int), u, pl, pw] w fun e w' => e = .returned (.bool true) ∧ CS13 w0 w' P pl pw (i + 1) m := by
  obtain ⟨x, h, hx⟩ := h
  have h' : Env w0 w (WM P pl pw x ++ []) := by rw [List.append_nil]; exact h
  refine (make13 h' hx hi k hk hu hkl (.inl ⟨rfl, rfl, rfl, rfl, rfl⟩)).mono fun e w' hM => ?_
  obtain ⟨he, x', h1, h2⟩ := hM.ex
  rw [List.append_nil] at h1
  exact ⟨he, x', h1, h2⟩
theorem act13' {w0 w : World} {P : Nat} {pl pw : Value} {i m : Nat} (h : CS13 w0 w P pl pw i m) (hi : i ≤ 900) (on kd : Int) {kv dv : Value} {key dl : List UInt8} (mute : Bool) (hkv : Bs w0 kv key) (hkl : key.length + 6 ≤ 140737488355328) (hdv : Bs w0 dv dl) (hdl : m + dl.length ≤ 4000) :
    Calls Try.prog 36 #[.pointer (some ⟨P, 0, none⟩), actV13 on kd kv dv mute] w fun e w' => e = .returned (.bool true) ∧ CS13 w0 w' P pl pw (i + 2) (m + dl.length) := by
  obtain ⟨x, h, hx⟩ := h
  exact (act13 h hx hi on kd mute hkv hkl hdv hdl).mono fun e w' h => ⟨h.ex.1, h.ex.2⟩
/-- what the comparison of what was told reads -/
structure Sf (P gu gv j : Nat) (u v a b : Value) (W : World) : Prop where
  u : W.cell? ⟨P, 6, none⟩ = some u
  v : W.cell? ⟨P, 7, none⟩ = some v
  a : W.cell? ⟨gu, j, none⟩ = some a
  b : W.cell? ⟨gv, j, none⟩ = some b
theorem Sf.fu {P gu gv j : Nat} {u v a b : Value} (W : World) (h : Sf P gu gv j u v a b W) : W.cell? ⟨P, 6, none⟩ = some u := h.u
theorem Sf.fv {P gu gv j : Nat} {u v a b : Value} (W : World) (h : Sf P gu gv j u v a b W) : W.cell? ⟨P, 7, none⟩ = some v := h.v
theorem Sf.fa {P gu gv j : Nat} {u v a b : Value} (W : World) (h : Sf P gu gv j u v a b W) : W.cell? ⟨gu, j, none⟩ = some a := h.a
theorem Sf.fb {P gu gv j : Nat} {u v a b : Value} (W : World) (h : Sf P gu gv j u v a b W) : W.cell? ⟨gv, j, none⟩ = some b := h.b
theorem F6.f {P : Nat} {pl pw fv : Value} (W : World) (h : W.cell? ⟨P, 6, none⟩ = some fv ∧ Sc P pl pw W) : W.cell? ⟨P, 6, none⟩ = some fv := h.1
theorem F6.l {P : Nat} {pl pw fv : Value} (W : World) (h : W.cell? ⟨P, 6, none⟩ = some fv ∧ Sc P pl pw W) : W.cell? ⟨P, 4, none⟩ = some pl := h.2.l
theorem F6.w {P : Nat} {pl pw fv : Value} (W : World) (h : W.cell? ⟨P, 6, none⟩ = some fv ∧ Sc P pl pw W) : W.cell? ⟨P, 5, none⟩ = some pw := h.2.w
set_option maxHeartbeats 8000000 in
theorem cmacScript.walk {w : World} (v0 : Value) (key : List UInt8) (e0 : InU w v0 key) (v1 : Value) (other : List UInt8) (e1 : InU w v1 other) (v2 : Value) (acts : List Ac13) (e2 : InA13 w v2 acts) :
    Calls Try.prog 7 #[v0, v1, v2] w fun e w' => e = .returned (.bool true) ∧ Below w.heap.size w w' := by
  have E2 := Lib.hid e2
  obtain ⟨ao, cap, rfl, hc1, hc2, _, hat⟩ := e2
  have HAT := Lib.hid hat
  have E0 := Lib.hid e0
  have E1 := Lib.hid e1
  clear hat e0 e1
  go_enter Try.func7, Try.ntmps7
  by_cases hlen : 60 < acts.length
  · have t1 : decide (60 < (acts.length : Int)) = true := by rw [decide_eq_true_eq]; omega
    have t2 : decide (60 < acts.length) = true := by rw [decide_eq_true_eq]; omega
    clear hlen
    go_wp2_with fail
    go_ret
    exact ⟨rfl, Below.refl _ _⟩
  · have t1 : decide (60 < (acts.length : Int)) = false := by rw [decide_eq_false_iff_not]; omega
    have t2 : decide (60 < acts.length) = false := by rw [decide_eq_false_iff_not]; omega
    go_wp2_with fail
    refine (long13 E2.out (by omega)).mono ?_
    rintro e w1 ⟨rfl, rfl⟩
    by_cases hlong : 4000 < sumM acts acts.length
    · rw [decide_eq_true hlong]
      clear hlong
      go_wp2_with fail
      go_ret
      exact ⟨rfl, Below.refl _ _⟩
    rw [decide_eq_false hlong]
    have hsum : sumM acts acts.length ≤ 4000 := by omega
    have HSUM := Lib.hid hsum
    clear hlong hsum E2
    go_wp2_with fail
    refine (newP_envB (Env.start w)).mono ?_
    rintro e w2 ⟨p, rfl, h5⟩
    have H2 := Lib.hid h5
    clear h5 t1 t2
    go_wp2_with fail
    refine (newR_env' H2.out).mono ?_
    rintro e w3 ⟨q, rfl, h5⟩
    have H3 := Lib.hid h5
    clear h5 H2
    go_upto_region 4 with fail
    have h6 := WM_start (H3.out.newK 68 #[.pointer none, .pointer none, .pointer none, .pointer none, .pointer (some ⟨p, 0, none⟩), .pointer (some ⟨q, 0, none⟩), .slice none 0 0, .slice none 0 0])
    obtain ⟨P, hP⟩ : ∃ y, w3.heap.size = y := ⟨_, rfl⟩
    obtain ⟨w4, hw4⟩ : ∃ y, w3.alloc (.cells #[.pointer none, .pointer none, .pointer none, .pointer none, .pointer (some ⟨p, 0, none⟩), .pointer (some ⟨q, 0, none⟩), .slice none 0 0, .slice none 0 0] 68) = y := ⟨_, rfl⟩
    rw [hP, hw4] at h6
    have H6 : Hid (CS13 w w4 P (.pointer (some ⟨p, 0, none⟩)) (.pointer (some ⟨q, 0, none⟩)) 0 0) := Lib.hid ⟨_, h6, OK13.start⟩
    clear h6 H3
    try rw [hP]
    try rw [hw4]
    clear hP hw4
    refine hd_start (Sc P (.pointer (some ⟨p, 0, none⟩)) (.pointer (some ⟨q, 0, none⟩))) (by kernel_rfl) ?_
    intro w5 hw'
    subst hw'
    have H7 : Hid (CS13 w (w4.drewN 1) P (.pointer (some ⟨p, 0, none⟩)) (.pointer (some ⟨q, 0, none⟩)) 0 0) := by
      obtain ⟨y, h, hy⟩ := H6.out
      exact Lib.hid ⟨y, h.draw 1, hy⟩
    clear H6
    have S7 := H7.out.sc
    refine hd_take (v := ?_) 0 rfl (by kernel_rfl) (fun _ _ d _ _ h => (by cases d <;> exact h)) (by kernel_rfl) S7 (fun w' hS => ?_) ?_
    rotate_left
    focus (have q0 := Sc.fl w' hS; have q1 := Sc.fw w' hS; clear hS; go_simp; try rfl; done)
    simp only [List.getElem_toArray, List.getElem_cons_succ, List.getElem_cons_zero, Act.put, List.setIfInBounds_toArray, List.set_cons_zero, List.set_cons_succ]
    refine hd_take (v := ?_) 1 rfl (by kernel_rfl) (fun _ _ d _ _ h => (by cases d <;> exact h)) (by kernel_rfl) S7 (fun w' hS => ?_) ?_
    rotate_left
    focus (have q0 := Sc.fl w' hS; have q1 := Sc.fw w' hS; clear hS; go_simp; try rfl; done)
    simp only [List.getElem_toArray, List.getElem_cons_succ, List.getElem_cons_zero, Act.put, List.setIfInBounds_toArray, List.set_cons_zero, List.set_cons_succ]
    refine hd_take (v := ?_) 2 rfl (by kernel_rfl) (fun _ _ d _ _ h => (by cases d <;> exact h)) (by kernel_rfl) S7 (fun w' hS => ?_) ?_
    rotate_left
    focus (have q0 := Sc.fl w' hS; have q1 := Sc.fw w' hS; clear hS; go_simp; try rfl; done)
    simp only [List.getElem_toArray, List.getElem_cons_succ, List.getElem_cons_zero, Act.put, List.setIfInBounds_toArray, List.set_cons_zero, List.set_cons_succ]
    refine hd_take (v := ?_) 3 rfl (by kernel_rfl) (fun _ _ d _ _ h => (by cases d <;> exact h)) (by kernel_rfl) S7 (fun w' hS => ?_) ?_
    rotate_left
    focus (have q0 := Sc.fl w' hS; have q1 := Sc.fw w' hS; clear hS; go_simp; try rfl; done)
    simp only [List.getElem_toArray, List.getElem_cons_succ, List.getElem_cons_zero, Act.put, List.setIfInBounds_toArray, List.set_cons_zero, List.set_cons_succ]
    refine hd_take (v := ?_) 4 rfl (by kernel_rfl) (fun _ _ d _ _ h => (by cases d <;> exact h)) (by kernel_rfl) S7 (fun w' hS => ?_) ?_
    rotate_left
    focus (have q0 := Sc.fl w' hS; have q1 := Sc.fw w' hS; clear hS; go_simp; try rfl; done)
    simp only [List.getElem_toArray, List.getElem_cons_succ, List.getElem_cons_zero, Act.put, List.setIfInBounds_toArray, List.set_cons_zero, List.set_cons_succ]
    refine hd_take (v := ?_) 5 rfl (by kernel_rfl) (fun _ _ d _ _ h => (by cases d <;> exact h)) (by kernel_rfl) S7 (fun w' hS => ?_) ?_
    rotate_left
    focus (have q0 := Sc.fl w' hS; have q1 := Sc.fw w' hS; clear hS; go_simp; try rfl; done)
    simp only [List.getElem_toArray, List.getElem_cons_succ, List.getElem_cons_zero, Act.put, List.setIfInBounds_toArray, List.set_cons_zero, List.set_cons_succ]
    refine hd_take (v := ?_) 6 rfl (by kernel_rfl) (fun _ _ d _ _ h => (by cases d <;> exact h)) (by kernel_rfl) S7 (fun w' hS => ?_) ?_
    rotate_left
    focus (have q0 := Sc.fl w' hS; have q1 := Sc.fw w' hS; clear hS; go_simp; try rfl; done)
    simp only [List.getElem_toArray, List.getElem_cons_succ, List.getElem_cons_zero, Act.put, List.setIfInBounds_toArray, List.set_cons_zero, List.set_cons_succ]
    refine hd_take (v := ?_) 7 rfl (by kernel_rfl) (fun _ _ d _ _ h => (by cases d <;> exact h)) (by kernel_rfl) S7 (fun w' hS => ?_) ?_
    rotate_left
    focus (have q0 := Sc.fl w' hS; have q1 := Sc.fw w' hS; clear hS; go_simp; try rfl; done)
    simp only [List.getElem_toArray, List.getElem_cons_succ, List.getElem_cons_zero, Act.put, List.setIfInBounds_toArray, List.set_cons_zero, List.set_cons_succ]
    refine hd_take (v := ?_) 8 rfl (by kernel_rfl) (fun _ _ d _ _ h => (by cases d <;> exact h)) (by kernel_rfl) S7 (fun w' hS => ?_) ?_
    rotate_left
    focus (have q0 := Sc.fl w' hS; have q1 := Sc.fw w' hS; clear hS; go_simp; try rfl; done)
    simp only [List.getElem_toArray, List.getElem_cons_succ, List.getElem_cons_zero, Act.put, List.setIfInBounds_toArray, List.set_cons_zero, List.set_cons_succ]
    refine hd_take (v := ?_) 9 rfl (by kernel_rfl) (fun _ _ d _ _ h => (by cases d <;> exact h)) (by kernel_rfl) S7 (fun w' hS => ?_) ?_
    rotate_left
    focus (have q0 := Sc.fl w' hS; have q1 := Sc.fw w' hS; clear hS; go_simp; try rfl; done)
    simp only [List.getElem_toArray, List.getElem_cons_succ, List.getElem_cons_zero, Act.put, List.setIfInBounds_toArray, List.set_cons_zero, List.set_cons_succ]
    refine hd_one 10 (by kernel_rfl) ?_
    refine op_call rfl (by kernel_rfl) (by go_simp; first | exact ⟨rfl, rfl⟩ | rfl) ?_
    refine (make13' H7.out (by omega) 0 (by omega) E0.out.1 (by have := E0.out.2; omega)).mono ?_
    rintro e w6 ⟨he, h5⟩
    subst he
    have H8 := Lib.hid h5
    clear h5
    have hS2 := H8.out.sc
    have S8 := hS2
    refine ⟨_, rfl, hS2, ?_⟩
    simp only [List.getElem_toArray, List.getElem_cons_succ, List.getElem_cons_zero, Act.put, List.setIfInBounds_toArray, List.set_cons_zero, List.set_cons_succ]
    refine hd_take (v := ?_) 11 rfl (by kernel_rfl) (fun _ _ d _ _ h => (by cases d <;> exact h)) (by kernel_rfl) S8 (fun w' hS => ?_) ?_
    rotate_left
    focus (have q0 := Sc.fl w' hS; have q1 := Sc.fw w' hS; clear hS; go_simp; try rfl; done)
    simp only [List.getElem_toArray, List.getElem_cons_succ, List.getElem_cons_zero, Act.put, List.setIfInBounds_toArray, List.set_cons_zero, List.set_cons_succ]
    refine hd_take (v := ?_) 12 rfl (by kernel_rfl) (fun _ _ d _ _ h => (by cases d <;> exact h)) (by kernel_rfl) S8 (fun w' hS => ?_) ?_
    rotate_left
    focus (have q0 := Sc.fl w' hS; have q1 := Sc.fw w' hS; clear hS; go_simp; try rfl; done)
    simp only [List.getElem_toArray, List.getElem_cons_succ, List.getElem_cons_zero, Act.put, List.setIfInBounds_toArray, List.set_cons_zero, List.set_cons_succ]
    refine hd_take (v := ?_) 13 rfl (by kernel_rfl) (fun _ _ d _ _ h => (by cases d <;> exact h)) (by kernel_rfl) S8 (fun w' hS => ?_) ?_
    rotate_left
    focus (have q0 := Sc.fl w' hS; have q1 := Sc.fw w' hS; clear hS; go_simp; try rfl; done)
    simp only [List.getElem_toArray, List.getElem_cons_succ, List.getElem_cons_zero, Act.put, List.setIfInBounds_toArray, List.set_cons_zero, List.set_cons_succ]
    refine hd_take (v := ?_) 14 rfl (by kernel_rfl) (fun _ _ d _ _ h => (by cases d <;> exact h)) (by kernel_rfl) S8 (fun w' hS => ?_) ?_
    rotate_left
    focus (have q0 := Sc.fl w' hS; have q1 := Sc.fw w' hS; clear hS; go_simp; try rfl; done)
    simp only [List.getElem_toArray, List.getElem_cons_succ, List.getElem_cons_zero, Act.put, List.setIfInBounds_toArray, List.set_cons_zero, List.set_cons_succ]
    refine hd_take (v := ?_) 15 rfl (by kernel_rfl) (fun _ _ d _ _ h => (by cases d <;> exact h)) (by kernel_rfl) S8 (fun w' hS => ?_) ?_
    rotate_left
    focus (have q0 := Sc.fl w' hS; have q1 := Sc.fw w' hS; clear hS; go_simp; try rfl; done)
    simp only [List.getElem_toArray, List.getElem_cons_succ, List.getElem_cons_zero, Act.put, List.setIfInBounds_toArray, List.set_cons_zero, List.set_cons_succ]
    refine hd_take (v := ?_) 16 rfl (by kernel_rfl) (fun _ _ d _ _ h => (by cases d <;> exact h)) (by kernel_rfl) S8 (fun w' hS => ?_) ?_
    rotate_left
    focus (have q0 := Sc.fl w' hS; have q1 := Sc.fw w' hS; clear hS; go_simp; try rfl; done)
    simp only [List.getElem_toArray, List.getElem_cons_succ, List.getElem_cons_zero, Act.put, List.setIfInBounds_toArray, List.set_cons_zero, List.set_cons_succ]
    refine hd_take (v := ?_) 17 rfl (by kernel_rfl) (fun _ _ d _ _ h => (by cases d <;> exact h)) (by kernel_rfl) S8 (fun w' hS => ?_) ?_
    rotate_left
    focus (have q0 := Sc.fl w' hS; have q1 := Sc.fw w' hS; clear hS; go_simp; try rfl; done)
    simp only [List.getElem_toArray, List.getElem_cons_succ, List.getElem_cons_zero, Act.put, List.setIfInBounds_toArray, List.set_cons_zero, List.set_cons_succ]
    refine hd_take (v := ?_) 18 rfl (by kernel_rfl) (fun _ _ d _ _ h => (by cases d <;> exact h)) (by kernel_rfl) S8 (fun w' hS => ?_) ?_
    rotate_left
    focus (have q0 := Sc.fl w' hS; have q1 := Sc.fw w' hS; clear hS; go_simp; try rfl; done)
    simp only [List.getElem_toArray, List.getElem_cons_succ, List.getElem_cons_zero, Act.put, List.setIfInBounds_toArray, List.set_cons_zero, List.set_cons_succ]
    refine hd_take (v := ?_) 19 rfl (by kernel_rfl) (fun _ _ d _ _ h => (by cases d <;> exact h)) (by kernel_rfl) S8 (fun w' hS => ?_) ?_
    rotate_left
    focus (have q0 := Sc.fl w' hS; have q1 := Sc.fw w' hS; clear hS; go_simp; try rfl; done)
    simp only [List.getElem_toArray, List.getElem_cons_succ, List.getElem_cons_zero, Act.put, List.setIfInBounds_toArray, List.set_cons_zero, List.set_cons_succ]
    refine hd_take (v := ?_) 20 rfl (by kernel_rfl) (fun _ _ d _ _ h => (by cases d <;> exact h)) (by kernel_rfl) S8 (fun w' hS => ?_) ?_
    rotate_left
    focus (have q0 := Sc.fl w' hS; have q1 := Sc.fw w' hS; clear hS; go_simp; try rfl; done)
    simp only [List.getElem_toArray, List.getElem_cons_succ, List.getElem_cons_zero, Act.put, List.setIfInBounds_toArray, List.set_cons_zero, List.set_cons_succ]
    refine hd_take (v := ?_) 21 rfl (by kernel_rfl) (fun _ _ d _ _ h => (by cases d <;> exact h)) (by kernel_rfl) S8 (fun w' hS => ?_) ?_
    rotate_left
    focus (have q0 := Sc.fl w' hS; have q1 := Sc.fw w' hS; clear hS; go_simp; try rfl; done)
    simp only [List.getElem_toArray, List.getElem_cons_succ, List.getElem_cons_zero, Act.put, List.setIfInBounds_toArray, List.set_cons_zero, List.set_cons_succ]
    refine hd_take (v := ?_) 22 rfl (by kernel_rfl) (fun _ _ d _ _ h => (by cases d <;> exact h)) (by kernel_rfl) S8 (fun w' hS => ?_) ?_
    rotate_left
    focus (have q0 := Sc.fl w' hS; have q1 := Sc.fw w' hS; clear hS; go_simp; try rfl; done)
    simp only [List.getElem_toArray, List.getElem_cons_succ, List.getElem_cons_zero, Act.put, List.setIfInBounds_toArray, List.set_cons_zero, List.set_cons_succ]
    refine hd_one 23 (by kernel_rfl) ?_
    refine op_call rfl (by kernel_rfl) (by go_simp; first | exact ⟨rfl, rfl⟩ | rfl) ?_
    refine (make13' H8.out (by omega) 1 (by omega) E1.out.1 (by have := E1.out.2; omega)).mono ?_
    rintro e w7 ⟨he, h5⟩
    subst he
    have H9 := Lib.hid h5
    clear h5
    have hS2 := H9.out.sc
    have S9 := hS2
    refine ⟨_, rfl, hS2, ?_⟩
    simp only [List.getElem_toArray, List.getElem_cons_succ, List.getElem_cons_zero, Act.put, List.setIfInBounds_toArray, List.set_cons_zero, List.set_cons_succ]
    refine hd_take (v := ?_) 24 rfl (by kernel_rfl) (fun _ _ d _ _ h => (by cases d <;> exact h)) (by kernel_rfl) S9 (fun w' hS => ?_) ?_
    rotate_left
    focus (clear hS; go_simp; try rfl; done)
    simp only [List.getElem_toArray, List.getElem_cons_succ, List.getElem_cons_zero, Act.put, List.setIfInBounds_toArray, List.set_cons_zero, List.set_cons_succ]
    refine hd_take (v := ?_) 25 rfl (by kernel_rfl) (fun _ _ d _ _ h => (by cases d <;> exact h)) (by kernel_rfl) S9 (fun w' hS => ?_) ?_
    rotate_left
    focus (clear hS; go_simp; try rfl; done)
    simp only [List.getElem_toArray, List.getElem_cons_succ, List.getElem_cons_zero, Act.put, List.setIfInBounds_toArray, List.set_cons_zero, List.set_cons_succ]
    refine hd_done (by kernel_rfl) ?_
    clear S7 S8 S9 H7 H8
    go_wp2_with fail
    go_loopw [8] (fun iv wx => ∃ i : Nat, i ≤ acts.length ∧ iv = .int .i64 (i : Int) ∧ Hid (CS13 w wx P (.pointer (some ⟨p, 0, none⟩)) (.pointer (some ⟨q, 0, none⟩)) (2 * i + 2) (sumM acts i))) (fun i _ => acts.length - (intOf i).toNat)
    case atStart => exact ⟨0, Nat.zero_le _, rfl, H9⟩
    case round =>
      obtain ⟨i, hi, rfl, H⟩ := hrel
      clear H9
      by_cases hlt : i < acts.length
      · obtain ⟨y, hy⟩ : ∃ y, acts[i]? = some y := ⟨_, List.getElem?_eq_getElem hlt⟩
        obtain ⟨b, off, cv, dv, hb, c0, c1, c2, c3, c4, hbs, hbl, hds, hdl⟩ := HAT.out i y hy
        subst hb
        have hblt : b < w.heap.size := World.block_lt_of_cell? w _ c0
        obtain ⟨co, cc, rfl, _⟩ := hbs.form
        obtain ⟨eo, ec, rfl, _⟩ := hds.form
        have hbase : Below w.heap.size w wr := by
          obtain ⟨z, h, _⟩ := H.out
          exact h.base
        have d0 := (hbase.cell hblt).trans c0
        have d1 := (hbase.cell hblt).trans c1
        have d2 := (hbase.cell hblt).trans c2
        have d3 := (hbase.cell hblt).trans c3
        have d4 := (hbase.cell hblt).trans c4
        have HBS := Lib.hid (And.intro hbs (And.intro hbl hds))
        have t3 : decide ((i : Int) < (acts.length : Int)) = true := by rw [decide_eq_true_eq]; omega
        have bi : 0 ≤ (i : Int) ∧ (i : Int) < (acts.length : Int) := by omega
        have HR := Lib.hid (sumM_real acts hy HSUM.out)
        clear c0 c1 c2 c3 c4 hbs hbl hds hdl hbase hy
        go_wp2_with fail
        refine (act13' H.out (by omega) y.on y.kd y.mute HBS.out.1 (by have := HBS.out.2.1; omega) HBS.out.2.2 (by have := HR.out; omega)).mono ?_
        rintro e w8 ⟨rfl, h5⟩
        rw [HR.out.1] at h5
        have H8 := Lib.hid h5
        clear h5 d0 d1 d2 d3 d4 H
        have hw1 : IntKind.i64.wrap ((i : Int) + 1) = ((i + 1 : Nat) : Int) := by rw [IntWalk.i64_in _ (by omega)]; omega
        go_wp2_with fail
        refine ⟨⟨i + 1, by omega, rfl, by rw [show 2 * (i + 1) + 2 = 2 * i + 2 + 2 from by omega]; exact H8⟩, ?_⟩
        simp only [intOf]
        omega
      · have t3 : decide ((i : Int) < (acts.length : Int)) = false := by rw [decide_eq_false_iff_not]; omega
        have hil : i = acts.length := by omega
        obtain ⟨n, hn, hn102⟩ : ∃ n, 2 * i + 2 = n ∧ n ≤ 122 := ⟨_, rfl, by omega⟩
        obtain ⟨m, hm, hm4⟩ : ∃ m, sumM acts i = m ∧ m ≤ 4000 := ⟨_, rfl, by rw [hil]; exact HSUM.out⟩
        rw [hn, hm] at H
        clear hn hm hil
        go_wp2_with fail
        go_loopw [9] (fun kv wx => ∃ k : Nat, k ≤ 2 ∧ kv = .int .i64 (k : Int) ∧ Hid (CS13 w wx P (.pointer (some ⟨p, 0, none⟩)) (.pointer (some ⟨q, 0, none⟩)) (n + 4 * k) m)) (fun k _ => 2 - (intOf k).toNat)
        case atStart => exact ⟨0, by omega, rfl, H⟩
        case round =>
          obtain ⟨k, hk, rfl, HK⟩ := hrel
          clear H
          by_cases hk2 : k < 2
          · have t4 : decide ((k : Int) < 2) = true := by rw [decide_eq_true_eq]; omega
            go_wp2_with fail
            refine (act13' HK.out (by omega) (k : Int) 5 false (Bs.nil w) (by simp) (Bs.nil w) (by simp; omega)).mono ?_
            rintro e w5 ⟨rfl, h5⟩
            have H5 : Hid (CS13 w w5 P (.pointer (some ⟨p, 0, none⟩)) (.pointer (some ⟨q, 0, none⟩)) (n + 4 * k + 2) m) := Lib.hid h5
            clear h5 HK
            go_wp2_with fail
            refine (act13' H5.out (by omega) (k : Int) 1 false (Bs.nil w) (by simp) (Bs.nil w) (by simp; omega)).mono ?_
            rintro e w6 ⟨rfl, h5⟩
            have H6 : Hid (CS13 w w6 P (.pointer (some ⟨p, 0, none⟩)) (.pointer (some ⟨q, 0, none⟩)) (n + 4 * k + 2 + 2) m) := Lib.hid h5
            clear h5 H5
            have hw1 : IntKind.i64.wrap ((k : Int) + 1) = ((k + 1 : Nat) : Int) := by rw [IntWalk.i64_in _ (by omega)]; omega
            go_wp2_with fail
            refine ⟨⟨k + 1, by omega, rfl, by rw [show n + 4 * (k + 1) = n + 4 * k + 2 + 2 from by omega]; exact H6⟩, ?_⟩
            simp only [intOf]
            omega
          · have t4 : decide ((k : Int) < 2) = false := by rw [decide_eq_false_iff_not]; omega
            obtain ⟨x, hE, hx⟩ := HK.out
            have HE0 := Lib.hid hE
            have HX := Lib.hid hx
            obtain ⟨fo, fc, hfv, hf1, hf2⟩ := AX.obT_form hE 6 (u := x.tv) (ts := x.ts) rfl
            obtain ⟨go, gc, hwv, hg1, hg2⟩ := AX.obT_form hE 7 (u := x.wv) (ts := x.ws) rfl
            have HFV := Lib.hid (And.intro hfv hwv)
            have hwl := hx.wl
            have htl := hx.tl
            rw [hwl] at hg1
            clear hE hx HK hfv hwv
            have HWL := Lib.hid hwl
            clear hwl
            go_wp2_with fail
            go_loopw [10] (fun jv wx => ∃ j : Nat, j ≤ x.ts.length ∧ jv = .int .i64 (j : Int) ∧ Hid (Env w wx (WM P (.pointer (some ⟨p, 0, none⟩)) (.pointer (some ⟨q, 0, none⟩)) x))) (fun j _ => x.ts.length - (intOf j).toNat)
            case atStart => exact ⟨0, Nat.zero_le _, rfl, HE0⟩
            case round =>
              obtain ⟨j, hj, rfl, HE⟩ := hrel
              clear HE0
              have e6 : wr.cell? ⟨P, 6, none⟩ = some (.slice fo x.ts.length fc) := by rw [← HFV.out.1]; exact (HE.out.blk 0 rfl).cellAt 6 rfl
              by_cases hjl : j < x.ts.length
              · have t6 : decide ((j : Int) < (x.ts.length : Int)) = true := by rw [decide_eq_true_eq]; omega
                obtain ⟨⟨xv, l⟩, hx⟩ : ∃ z, x.ts[j]? = some z := ⟨_, List.getElem?_eq_getElem hjl⟩
                obtain ⟨⟨yv, l'⟩, hy⟩ : ∃ z, x.ws[j]? = some z := ⟨_, List.getElem?_eq_getElem (by have := HWL.out; omega)⟩
                have hll : l = l' := by
                  have e := congrArg (fun z => z[j]?) HX.out.same
                  simpa [List.getElem?_map, hx, hy] using e
                subst hll
                obtain ⟨gu, cu, hgu, _, _⟩ := AX.obT_slice HE.out 6 (u := x.tv) (ts := x.ts) rfl (by omega)
                obtain ⟨gv, cv, hgv, _, _⟩ := AX.obT_slice HE.out 7 (u := x.wv) (ts := x.ws) rfl (by have := HWL.out; omega)
                have hfu : (Value.slice fo x.ts.length fc) = .slice (some ⟨gu, 0, none⟩) x.ts.length cu := HFV.out.1.symm.trans hgu
                have hfw : (Value.slice go x.ws.length gc) = .slice (some ⟨gv, 0, none⟩) x.ws.length cv := HFV.out.2.symm.trans hgv
                injection hfu with q1 _ q2
                injection hfw with q3 _ q4
                subst q1; subst q2; subst q3; subst q4
                have hsf : ∀ W, Env w W (WM P (.pointer (some ⟨p, 0, none⟩)) (.pointer (some ⟨q, 0, none⟩)) x) → Sf P gu gv j (.slice (some ⟨gu, 0, none⟩) x.ts.length fc) (.slice (some ⟨gv, 0, none⟩) x.ts.length gc) xv yv W := fun W hW =>
                  ⟨by rw [← HFV.out.1]; exact (hW.blk 0 rfl).cellAt 6 rfl, by rw [← HWL.out, ← HFV.out.2]; exact (hW.blk 0 rfl).cellAt 7 rfl, AX.obT_cell (n := x.ts.length) (c := fc) hW 6 (by rw [← HFV.out.1]; rfl) hx, AX.obT_cell (n := x.ws.length) (c := gc) hW 7 (by rw [← HFV.out.2]; rfl) hy⟩
                have HSF := Lib.hid hsf
                have bx : Bs wr xv l := AX.obT_get HE.out 6 (u := x.tv) rfl hx
                have byy : Bs wr yv l := AX.obT_get HE.out 7 (u := x.wv) rfl hy
                obtain ⟨xo, xc, rfl, _⟩ := bx.form
                obtain ⟨yo, yc, rfl, _⟩ := byy.form
                have HXY := Lib.hid (And.intro hx hy)
                have bj : 0 ≤ (j : Int) ∧ (j : Int) < (x.ts.length : Int) := by omega
                clear hsf hx hy hgu hgv bx byy
                go_upto_region 19 with fail
                clear e6
                refine hd_start (Sf P gu gv j (.slice (some ⟨gu, 0, none⟩) x.ts.length fc) (.slice (some ⟨gv, 0, none⟩) x.ts.length gc) (.slice xo l.length xc) (.slice yo l.length yc)) (by kernel_rfl) ?_
                intro w4 hw'
                have H4 := Lib.hid (HE.out.draw 1)
                rw [← hw'] at H4
                clear hw' HE
                have S4 := HSF.out _ H4.out
                refine hd_take (v := ?_) 0 rfl (by kernel_rfl) (fun _ _ d _ _ h => (by cases d <;> exact h)) (by kernel_rfl) S4 (fun w' hS => ?_) ?_
                rotate_left
                focus (have q0 := Sf.fu w' hS; have q1 := Sf.fv w' hS; have q2 := Sf.fa w' hS; have q3 := Sf.fb w' hS; clear hS; go_simp; try rfl; done)
                simp only [List.getElem_toArray, List.getElem_cons_succ, List.getElem_cons_zero, Act.put, List.setIfInBounds_toArray, List.set_cons_zero, List.set_cons_succ]
                refine hd_take (v := ?_) 1 rfl (by kernel_rfl) (fun _ _ d _ _ h => (by cases d <;> exact h)) (by kernel_rfl) S4 (fun w' hS => ?_) ?_
                rotate_left
                focus (have q0 := Sf.fu w' hS; have q1 := Sf.fv w' hS; have q2 := Sf.fa w' hS; have q3 := Sf.fb w' hS; clear hS; go_simp; try rfl; done)
                simp only [List.getElem_toArray, List.getElem_cons_succ, List.getElem_cons_zero, Act.put, List.setIfInBounds_toArray, List.set_cons_zero, List.set_cons_succ]
                refine hd_take (v := ?_) 2 rfl (by kernel_rfl) (fun _ _ d _ _ h => (by cases d <;> exact h)) (by kernel_rfl) S4 (fun w' hS => ?_) ?_
                rotate_left
                focus (have q0 := Sf.fu w' hS; have q1 := Sf.fv w' hS; have q2 := Sf.fa w' hS; have q3 := Sf.fb w' hS; clear hS; go_simp; try rfl; done)
                simp only [List.getElem_toArray, List.getElem_cons_succ, List.getElem_cons_zero, Act.put, List.setIfInBounds_toArray, List.set_cons_zero, List.set_cons_succ]
                refine hd_take (v := ?_) 3 rfl (by kernel_rfl) (fun _ _ d _ _ h => (by cases d <;> exact h)) (by kernel_rfl) S4 (fun w' hS => ?_) ?_
                rotate_left
                focus (have q0 := Sf.fu w' hS; have q1 := Sf.fv w' hS; have q2 := Sf.fa w' hS; have q3 := Sf.fb w' hS; clear hS; go_simp; try rfl; done)
                simp only [List.getElem_toArray, List.getElem_cons_succ, List.getElem_cons_zero, Act.put, List.setIfInBounds_toArray, List.set_cons_zero, List.set_cons_succ]
                refine hd_take (v := ?_) 4 rfl (by kernel_rfl) (fun _ _ d _ _ h => (by cases d <;> exact h)) (by kernel_rfl) S4 (fun w' hS => ?_) ?_
                rotate_left
                focus (have q0 := Sf.fu w' hS; have q1 := Sf.fv w' hS; have q2 := Sf.fa w' hS; have q3 := Sf.fb w' hS; clear hS; go_simp; try rfl; done)
                simp only [List.getElem_toArray, List.getElem_cons_succ, List.getElem_cons_zero, Act.put, List.setIfInBounds_toArray, List.set_cons_zero, List.set_cons_succ]
                refine hd_take (v := ?_) 5 rfl (by kernel_rfl) (fun _ _ d _ _ h => (by cases d <;> exact h)) (by kernel_rfl) S4 (fun w' hS => ?_) ?_
                rotate_left
                focus (have q0 := Sf.fu w' hS; have q1 := Sf.fv w' hS; have q2 := Sf.fa w' hS; have q3 := Sf.fb w' hS; clear hS; go_simp; try rfl; done)
                simp only [List.getElem_toArray, List.getElem_cons_succ, List.getElem_cons_zero, Act.put, List.setIfInBounds_toArray, List.set_cons_zero, List.set_cons_succ]
                refine hd_take (v := ?_) 6 rfl (by kernel_rfl) (fun _ _ d _ _ h => (by cases d <;> exact h)) (by kernel_rfl) S4 (fun w' hS => ?_) ?_
                rotate_left
                focus (have q0 := Sf.fu w' hS; have q1 := Sf.fv w' hS; have q2 := Sf.fa w' hS; have q3 := Sf.fb w' hS; clear hS; go_simp; try rfl; done)
                simp only [List.getElem_toArray, List.getElem_cons_succ, List.getElem_cons_zero, Act.put, List.setIfInBounds_toArray, List.set_cons_zero, List.set_cons_succ]
                refine hd_take (v := ?_) 7 rfl (by kernel_rfl) (fun _ _ d _ _ h => (by cases d <;> exact h)) (by kernel_rfl) S4 (fun w' hS => ?_) ?_
                rotate_left
                focus (have q0 := Sf.fu w' hS; have q1 := Sf.fv w' hS; have q2 := Sf.fa w' hS; have q3 := Sf.fb w' hS; clear hS; go_simp; try rfl; done)
                simp only [List.getElem_toArray, List.getElem_cons_succ, List.getElem_cons_zero, Act.put, List.setIfInBounds_toArray, List.set_cons_zero, List.set_cons_succ]
                refine hd_take (v := ?_) 8 rfl (by kernel_rfl) (fun _ _ d _ _ h => (by cases d <;> exact h)) (by kernel_rfl) S4 (fun w' hS => ?_) ?_
                rotate_left
                focus (have q0 := Sf.fu w' hS; have q1 := Sf.fv w' hS; have q2 := Sf.fa w' hS; have q3 := Sf.fb w' hS; clear hS; go_simp; try rfl; done)
                simp only [List.getElem_toArray, List.getElem_cons_succ, List.getElem_cons_zero, Act.put, List.setIfInBounds_toArray, List.set_cons_zero, List.set_cons_succ]
                refine hd_take (v := ?_) 9 rfl (by kernel_rfl) (fun _ _ d _ _ h => (by cases d <;> exact h)) (by kernel_rfl) S4 (fun w' hS => ?_) ?_
                rotate_left
                focus (have q0 := Sf.fu w' hS; have q1 := Sf.fv w' hS; have q2 := Sf.fa w' hS; have q3 := Sf.fb w' hS; clear hS; go_simp; try rfl; done)
                simp only [List.getElem_toArray, List.getElem_cons_succ, List.getElem_cons_zero, Act.put, List.setIfInBounds_toArray, List.set_cons_zero, List.set_cons_succ]
                refine hd_take (v := ?_) 10 rfl (by kernel_rfl) (fun _ _ d _ _ h => (by cases d <;> exact h)) (by kernel_rfl) S4 (fun w' hS => ?_) ?_
                rotate_left
                focus (have q0 := Sf.fu w' hS; have q1 := Sf.fv w' hS; have q2 := Sf.fa w' hS; have q3 := Sf.fb w' hS; clear hS; go_simp; try rfl; done)
                simp only [List.getElem_toArray, List.getElem_cons_succ, List.getElem_cons_zero, Act.put, List.setIfInBounds_toArray, List.set_cons_zero, List.set_cons_succ]
                refine hd_take (v := ?_) 11 rfl (by kernel_rfl) (fun _ _ d _ _ h => (by cases d <;> exact h)) (by kernel_rfl) S4 (fun w' hS => ?_) ?_
                rotate_left
                focus (have q0 := Sf.fu w' hS; have q1 := Sf.fv w' hS; have q2 := Sf.fa w' hS; have q3 := Sf.fb w' hS; clear hS; go_simp; try rfl; done)
                simp only [List.getElem_toArray, List.getElem_cons_succ, List.getElem_cons_zero, Act.put, List.setIfInBounds_toArray, List.set_cons_zero, List.set_cons_succ]
                refine hd_take (v := ?_) 12 rfl (by kernel_rfl) (fun _ _ d _ _ h => (by cases d <;> exact h)) (by kernel_rfl) S4 (fun w' hS => ?_) ?_
                rotate_left
                focus (have q0 := Sf.fu w' hS; have q1 := Sf.fv w' hS; have q2 := Sf.fa w' hS; have q3 := Sf.fb w' hS; clear hS; go_simp; try rfl; done)
                simp only [List.getElem_toArray, List.getElem_cons_succ, List.getElem_cons_zero, Act.put, List.setIfInBounds_toArray, List.set_cons_zero, List.set_cons_succ]
                refine hd_take (v := ?_) 13 rfl (by kernel_rfl) (fun _ _ d _ _ h => (by cases d <;> exact h)) (by kernel_rfl) S4 (fun w' hS => ?_) ?_
                rotate_left
                focus (have q0 := Sf.fu w' hS; have q1 := Sf.fv w' hS; have q2 := Sf.fa w' hS; have q3 := Sf.fb w' hS; clear hS; go_simp; try rfl; done)
                simp only [List.getElem_toArray, List.getElem_cons_succ, List.getElem_cons_zero, Act.put, List.setIfInBounds_toArray, List.set_cons_zero, List.set_cons_succ]
                refine hd_one 14 (by kernel_rfl) ?_
                refine op_call rfl (by kernel_rfl) (by go_simp; first | exact ⟨rfl, rfl⟩ | rfl) ?_
                refine (sameBytes_env H4.out (AX.obT_get H4.out 6 (u := x.tv) rfl HXY.out.1) (AX.obT_get H4.out 7 (u := x.wv) rfl HXY.out.2)).mono ?_
                rintro e w5 ⟨he, h5⟩
                rw [decide_eq_true rfl] at he
                subst he
                have H5 := Lib.hid h5
                clear h5
                have hS2 := HSF.out _ H5.out
                have S5 := hS2
                refine ⟨_, rfl, hS2, ?_⟩
                simp only [List.getElem_toArray, List.getElem_cons_succ, List.getElem_cons_zero, Act.put, List.setIfInBounds_toArray, List.set_cons_zero, List.set_cons_succ]
                refine hd_take (v := ?_) 15 rfl (by kernel_rfl) (fun _ _ d _ _ h => (by cases d <;> exact h)) (by kernel_rfl) S5 (fun w' hS => ?_) ?_
                rotate_left
                focus (clear hS; go_simp; try rfl; done)
                simp only [List.getElem_toArray, List.getElem_cons_succ, List.getElem_cons_zero, Act.put, List.setIfInBounds_toArray, List.set_cons_zero, List.set_cons_succ]
                refine hd_done (by kernel_rfl) ?_
                clear S4 S5 HSF
                have hw1 : IntKind.i64.wrap ((j : Int) + 1) = ((j + 1 : Nat) : Int) := by rw [IntWalk.i64_in _ (by omega)]; omega
                go_wp2_with fail
                refine ⟨⟨j + 1, by omega, rfl, H5⟩, ?_⟩
                simp only [intOf]
                omega
              · have t6 : decide ((j : Int) < (x.ts.length : Int)) = false := by rw [decide_eq_false_iff_not]; omega
                go_upto_region 21 with fail
                clear e6 t6
                have htop : Env w wr (AX.obT x.tv x.ts :: [obK P 68 (pairM (.pointer (some ⟨p, 0, none⟩)) (.pointer (some ⟨q, 0, none⟩)) x), obP (.pointer (some ⟨p, 0, none⟩)) (some x.rs), obR (.pointer (some ⟨q, 0, none⟩)) (some x.rs)]) := by
                  refine HE.out.pick (fun j => [6, 0, 1, 2].getD j 0) ?_ ?_
                  · intro i j hi hj
                    simp at hi hj
                    exact (by decide : ∀ i, i < 4 → ∀ j, j < 4 → [6, 0, 1, 2].getD i 0 = [6, 0, 1, 2].getD j 0 → i = j) i hi j hj
                  · intro j ob hj
                    match j, hj with
                    | 0, hj | 1, hj | 2, hj | 3, hj => exact hj
                    | j + 4, hj => simp at hj
                have HT := Lib.hid htop
                clear htop HE
                refine hd_start (fun W => W.cell? ⟨P, 6, none⟩ = some (.slice fo x.ts.length fc) ∧ Sc P (.pointer (some ⟨p, 0, none⟩)) (.pointer (some ⟨q, 0, none⟩)) W) (by kernel_rfl) ?_
                intro w4 hw'
                have H4 := Lib.hid (HT.out.draw 1)
                rw [← hw'] at H4
                clear hw' HT
                have hsc : ∀ (W : World) (i : Nat) (L : List Ob), Env w W L → L[i]? = some (obK P 68 (pairM (.pointer (some ⟨p, 0, none⟩)) (.pointer (some ⟨q, 0, none⟩)) x)) → W.cell? ⟨P, 6, none⟩ = some (.slice fo x.ts.length fc) ∧ Sc P (.pointer (some ⟨p, 0, none⟩)) (.pointer (some ⟨q, 0, none⟩)) W := fun W i L hW hi => ⟨by rw [← HFV.out.1]; exact (hW.blk i hi).cellAt 6 rfl, (hW.blk i hi).cellAt 4 rfl, (hW.blk i hi).cellAt 5 rfl⟩
                have HSC := Lib.hid hsc
                clear hsc
                have S4 := HSC.out _ 1 _ H4.out rfl
                refine hd_take (v := ?_) 0 rfl (by kernel_rfl) (fun _ _ d _ _ h => (by cases d <;> exact h)) (by kernel_rfl) S4 (fun w' hS => ?_) ?_
                rotate_left
                focus (have q0 := F6.f w' hS; clear hS; go_simp; try rfl; done)
                simp only [List.getElem_toArray, List.getElem_cons_succ, List.getElem_cons_zero, Act.put, List.setIfInBounds_toArray, List.set_cons_zero, List.set_cons_succ]
                refine hd_take (v := ?_) 1 rfl (by kernel_rfl) (fun _ _ d _ _ h => (by cases d <;> exact h)) (by kernel_rfl) S4 (fun w' hS => ?_) ?_
                rotate_left
                focus (have q0 := F6.f w' hS; clear hS; go_simp; try rfl; done)
                simp only [List.getElem_toArray, List.getElem_cons_succ, List.getElem_cons_zero, Act.put, List.setIfInBounds_toArray, List.set_cons_zero, List.set_cons_succ]
                refine hd_take (v := ?_) 2 rfl (by kernel_rfl) (fun _ _ d _ _ h => (by cases d <;> exact h)) (by kernel_rfl) S4 (fun w' hS => ?_) ?_
                rotate_left
                focus (have q0 := F6.f w' hS; clear hS; go_simp; try rfl; done)
                simp only [List.getElem_toArray, List.getElem_cons_succ, List.getElem_cons_zero, Act.put, List.setIfInBounds_toArray, List.set_cons_zero, List.set_cons_succ]
                refine hd_take (v := ?_) 3 rfl (by kernel_rfl) (fun _ _ d _ _ h => (by cases d <;> exact h)) (by kernel_rfl) S4 (fun w' hS => ?_) ?_
                rotate_left
                focus (have q0 := F6.f w' hS; clear hS; go_simp; try rfl; done)
                simp only [List.getElem_toArray, List.getElem_cons_succ, List.getElem_cons_zero, Act.put, List.setIfInBounds_toArray, List.set_cons_zero, List.set_cons_succ]
                refine hd_one 4 (by kernel_rfl) ?_
                refine op_call rfl (by kernel_rfl) (by go_simp; first | exact ⟨rfl, rfl⟩ | rfl) ?_
                refine (AX.apart_told (u := .slice fo x.ts.length fc) (by rw [← HFV.out.1]; exact H4.out) (fun y hy => by have := HX.out.small y hy; omega) (by omega)).mono ?_
                rintro e w5 ⟨he, h5⟩
                subst he
                have H5 := Lib.hid h5
                clear h5
                have hS2 := HSC.out _ 0 _ H5.out rfl
                have S5 := hS2
                refine ⟨_, rfl, hS2, ?_⟩
                simp only [List.getElem_toArray, List.getElem_cons_succ, List.getElem_cons_zero, Act.put, List.setIfInBounds_toArray, List.set_cons_zero, List.set_cons_succ]
                refine hd_take (v := ?_) 5 rfl (by kernel_rfl) (fun _ _ d _ _ h => (by cases d <;> exact h)) (by kernel_rfl) S5 (fun w' hS => ?_) ?_
                rotate_left
                focus (have q0 := F6.l w' hS; have q1 := F6.w w' hS; clear hS; go_simp; try rfl; done)
                simp only [List.getElem_toArray, List.getElem_cons_succ, List.getElem_cons_zero, Act.put, List.setIfInBounds_toArray, List.set_cons_zero, List.set_cons_succ]
                refine hd_take (v := ?_) 6 rfl (by kernel_rfl) (fun _ _ d _ _ h => (by cases d <;> exact h)) (by kernel_rfl) S5 (fun w' hS => ?_) ?_
                rotate_left
                focus (have q0 := F6.l w' hS; have q1 := F6.w w' hS; clear hS; go_simp; try rfl; done)
                simp only [List.getElem_toArray, List.getElem_cons_succ, List.getElem_cons_zero, Act.put, List.setIfInBounds_toArray, List.set_cons_zero, List.set_cons_succ]
                refine hd_take (v := ?_) 7 rfl (by kernel_rfl) (fun _ _ d _ _ h => (by cases d <;> exact h)) (by kernel_rfl) S5 (fun w' hS => ?_) ?_
                rotate_left
                focus (have q0 := F6.l w' hS; have q1 := F6.w w' hS; clear hS; go_simp; try rfl; done)
                simp only [List.getElem_toArray, List.getElem_cons_succ, List.getElem_cons_zero, Act.put, List.setIfInBounds_toArray, List.set_cons_zero, List.set_cons_succ]
                refine hd_take (v := ?_) 8 rfl (by kernel_rfl) (fun _ _ d _ _ h => (by cases d <;> exact h)) (by kernel_rfl) S5 (fun w' hS => ?_) ?_
                rotate_left
                focus (have q0 := F6.l w' hS; have q1 := F6.w w' hS; clear hS; go_simp; try rfl; done)
                simp only [List.getElem_toArray, List.getElem_cons_succ, List.getElem_cons_zero, Act.put, List.setIfInBounds_toArray, List.set_cons_zero, List.set_cons_succ]
                refine hd_take (v := ?_) 9 rfl (by kernel_rfl) (fun _ _ d _ _ h => (by cases d <;> exact h)) (by kernel_rfl) S5 (fun w' hS => ?_) ?_
                rotate_left
                focus (have q0 := F6.l w' hS; have q1 := F6.w w' hS; clear hS; go_simp; try rfl; done)
                simp only [List.getElem_toArray, List.getElem_cons_succ, List.getElem_cons_zero, Act.put, List.setIfInBounds_toArray, List.set_cons_zero, List.set_cons_succ]
                refine hd_take (v := ?_) 11 rfl (by kernel_rfl) (fun _ _ d _ _ h => (by cases d <;> exact h)) (by kernel_rfl) S5 (fun w' hS => ?_) ?_
                rotate_left
                focus (have q0 := F6.l w' hS; have q1 := F6.w w' hS; clear hS; go_simp; try rfl; done)
                simp only [List.getElem_toArray, List.getElem_cons_succ, List.getElem_cons_zero, Act.put, List.setIfInBounds_toArray, List.set_cons_zero, List.set_cons_succ]
                refine hd_take (v := ?_) 12 rfl (by kernel_rfl) (fun _ _ d _ _ h => (by cases d <;> exact h)) (by kernel_rfl) S5 (fun w' hS => ?_) ?_
                rotate_left
                focus (have q0 := F6.l w' hS; have q1 := F6.w w' hS; clear hS; go_simp; try rfl; done)
                simp only [List.getElem_toArray, List.getElem_cons_succ, List.getElem_cons_zero, Act.put, List.setIfInBounds_toArray, List.set_cons_zero, List.set_cons_succ]
                refine hd_take (v := ?_) 13 rfl (by kernel_rfl) (fun _ _ d _ _ h => (by cases d <;> exact h)) (by kernel_rfl) S5 (fun w' hS => ?_) ?_
                rotate_left
                focus (have q0 := F6.l w' hS; have q1 := F6.w w' hS; clear hS; go_simp; try rfl; done)
                simp only [List.getElem_toArray, List.getElem_cons_succ, List.getElem_cons_zero, Act.put, List.setIfInBounds_toArray, List.set_cons_zero, List.set_cons_succ]
                refine hd_take (v := ?_) 14 rfl (by kernel_rfl) (fun _ _ d _ _ h => (by cases d <;> exact h)) (by kernel_rfl) S5 (fun w' hS => ?_) ?_
                rotate_left
                focus (have q0 := F6.l w' hS; have q1 := F6.w w' hS; clear hS; go_simp; try rfl; done)
                simp only [List.getElem_toArray, List.getElem_cons_succ, List.getElem_cons_zero, Act.put, List.setIfInBounds_toArray, List.set_cons_zero, List.set_cons_succ]
                refine hd_one 10 (by kernel_rfl) ?_
                refine op_call rfl (by kernel_rfl) (by go_simp; first | exact ⟨rfl, rfl⟩ | rfl) ?_
                refine (runsP_env' H5.out 1 rfl (by have := HX.out.len; omega)).mono ?_
                rintro e w6 ⟨rv, he, h5⟩
                subst he
                have H6 := Lib.hid h5
                clear h5
                have hS2 := HSC.out _ 0 _ H6.out rfl
                have S6 := hS2
                refine ⟨_, rfl, hS2, ?_⟩
                simp only [List.getElem_toArray, List.getElem_cons_succ, List.getElem_cons_zero, Act.put, List.setIfInBounds_toArray, List.set_cons_zero, List.set_cons_succ]
                refine hd_one 15 (by kernel_rfl) ?_
                refine op_call rfl (by kernel_rfl) (by go_simp; first | exact ⟨rfl, rfl⟩ | rfl) ?_
                refine (runsR_env' H6.out 2 rfl (by have := HX.out.len; omega)).mono ?_
                rintro e w7 ⟨qv, he, h5⟩
                subst he
                have H7 := Lib.hid h5
                clear h5
                have hS2 := HSC.out _ 0 _ H7.out rfl
                have S7 := hS2
                refine ⟨_, rfl, hS2, ?_⟩
                simp only [List.getElem_toArray, List.getElem_cons_succ, List.getElem_cons_zero, Act.put, List.setIfInBounds_toArray, List.set_cons_zero, List.set_cons_succ]
                refine hd_one 16 (by kernel_rfl) ?_
                refine op_call rfl (by kernel_rfl) (by go_simp; first | exact ⟨rfl, rfl⟩ | rfl) ?_
                refine (sameRuns_env' H7.out (H7.out.runs (v := rv) (l := x.rs) 3 rfl).rd (H7.out.runs (v := qv) (l := x.rs) 4 rfl).rd).mono ?_
                rintro e w8 ⟨he, h5⟩
                rw [decide_eq_true rfl] at he
                subst he
                have H8 := Lib.hid h5
                clear h5
                have hS2 := HSC.out _ 0 _ H8.out rfl
                have S8 := hS2
                refine ⟨_, rfl, hS2, ?_⟩
                simp only [List.getElem_toArray, List.getElem_cons_succ, List.getElem_cons_zero, Act.put, List.setIfInBounds_toArray, List.set_cons_zero, List.set_cons_succ]
                refine hd_take (v := ?_) 17 rfl (by kernel_rfl) (fun _ _ d _ _ h => (by cases d <;> exact h)) (by kernel_rfl) S8 (fun w' hS => ?_) ?_
                rotate_left
                focus (clear hS; go_simp; try rfl; done)
                simp only [List.getElem_toArray, List.getElem_cons_succ, List.getElem_cons_zero, Act.put, List.setIfInBounds_toArray, List.set_cons_zero, List.set_cons_succ]
                refine hd_take (v := ?_) 18 rfl (by kernel_rfl) (fun _ _ d _ _ h => (by cases d <;> exact h)) (by kernel_rfl) S8 (fun w' hS => ?_) ?_
                rotate_left
                focus (clear hS; go_simp; try rfl; done)
                simp only [List.getElem_toArray, List.getElem_cons_succ, List.getElem_cons_zero, Act.put, List.setIfInBounds_toArray, List.set_cons_zero, List.set_cons_succ]
                refine hd_done (by kernel_rfl) ?_
                clear S4 S5 S6 S7 S8
                go_wp2_with fail
                go_ret
                exact ⟨rfl, H8.out.base⟩
end Go.Proofs.Ytpampcokonicfaa
namespace Go.Proofs.Ytpampcokonicfaa.cmacScript
open Go.ChangeShapes Go.WideShapes Go.ChangeAt Go.RowKit
set_option linter.unusedVariables false

set_option maxRecDepth 100000 in
theorem lifted (os : Os) (started : os.Started) (H : Type) (enc : TypeId × Value → H) (F : Stop.Interp) :
    ReturnsInHanded {} Try.checked os 7 .any ((Rows.OpenSpec.upto Rows.cmacScriptSpec).pre6 enc Try.prog Try.f7 Rows.cmacScriptUptoRow.domain false) (((Rows.OpenSpec.upto Rows.cmacScriptSpec).at F).post enc Try.prog Try.f7 false true false false) := by
  refine returnsInHanded_of_cond (C := Try.checked) (s := (Rows.OpenSpec.upto Rows.cmacScriptSpec)) (k := Rows.uptoSmall) rfl own started (by kernel_rfl) Try.func7
    (OpenSpec.witness (enc := enc) (C := Try.checked) (s := (Rows.OpenSpec.upto Rows.cmacScriptSpec)) (k := Rows.uptoSmall) rfl false ⟨#[], #[.slice none 0 0, .slice none 0 0, .slice none 0 0], []⟩ 8 (by kernel_rfl) (by kernel_rfl) (by kernel_rfl)
      (x := ([.nil, .nil, .nil], [], [])) (by kernel_rfl) rfl (by kernel_rfl)) ?_
  intro W base args ds gs before hval0 hW _ hk _
  have hval : ∀ (j : Nat) t v, Try.f7.params[j]? = some t → args[j]? = some v → Value.okWide Try.prog W .any base t v := hval0
  have hW' := hW
  obtain ⟨p, q, hA0, hV, rfl, hfz, hnd⟩ := hW
  have hA : DataW.TrodAll enc Try.prog W 0 (fun _ => true) true Try.f7.params.toList args.toList ds p := hA0
  rw [Try.params7] at hA hval
  obtain ⟨v0, vs0, d0, ds0, p0, q0, hargs, rfl, rfl, h0, r0⟩ := trodAll_cons hA
  obtain ⟨v1, vs1, d1, ds1, p1, q1, rfl, rfl, rfl, h1, r1⟩ := trodAll_cons r0
  obtain ⟨v2, vs2, d2, ds2, p2, q2, rfl, rfl, rfl, h2, r2⟩ := trodAll_cons r1
  obtain ⟨rfl, rfl, rfl⟩ := trodAll_nil r2
  obtain rfl : args = #[v0, v1, v2] := by cases args; simp_all
  obtain ⟨rfl, rfl⟩ := trodVars_none hV
  obtain ⟨a0, e0⟩ := openBytesU hk (by simp) (hval 0 22 v0 rfl rfl) h0
  obtain ⟨a1, e1⟩ := openBytesU hk (by simp) (hval 1 22 v1 rfl rfl) h1
  obtain ⟨a2, e2⟩ := openActs13 hk (by simp) (hval 2 59 v2 rfl rfl) h2
  clear hA0 hval0
  simp only [List.append_nil] at hW'
  refine (walk v0 a0 e0 v1 a1 e1 v2 a2 e2).mono fun e W' ⟨he, hg⟩ => ?_
  subst he
  exact ⟨_, rfl, law_post laidOut (by kernel_rfl) rfl rfl Try.underlying4 hW' hg rfl rfl rfl⟩

theorem over : Rows.cmacScriptUptoRow.holds Try.pinned (Rows.OpenSpec.upto Rows.cmacScriptSpec) :=
  OpenClaim.holds_of_cond 7 Try.f7 rfl rfl rfl rfl rfl rfl rfl ⟨rfl, rfl, rfl, rfl, rfl⟩ rfl rfl rfl rfl rfl (by kernel_rfl) Try.func7 (by kernel_rfl)
    (of_decide_eq_true (by kernel_rfl)) (by unfold Func.isWrapper; rw [if_neg (of_decide_eq_false (by kernel_rfl))]; exact ⟨rfl, rfl⟩)
    (fun os started H enc _ F => lifted os started H enc F)

theorem proved : Rows.CmacScriptUptoSaid := over
end Go.Proofs.Ytpampcokonicfaa.cmacScript
