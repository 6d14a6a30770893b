/- Tag of whole messages, the program's and the document's. -/
import Derived.Test.YtpampcokonicfaaRows
import Derived.Test.YtpampcokonicfaaQCmacScript2
import Derived.Test.YtpampcokonicfaaQCmacScript3
import Derived.Test.YtpampcokonicfaaQCmacScript5
import Derived.Test.YtpampcokonicfaaQCmacScript7
import Derived.Test.YtpampcokonicfaaQCmacScript8
/- The document's Macs: two of them, which may share keys and messages, as ONE thing of a law's world; is, aes, Sum, Form, Reset, Clone. -/
namespace Go.Proofs.Ytpampcokonicfaa
open Go.RowKit
set_option maxRecDepth 100000
set_option linter.unusedVariables false
set_option linter.unusedSimpArgs false
/-- one of the document's Macs -/
structure Rm where
  b : Nat
  ka : Option Addr
  kc : Nat
  ma : Option Addr
  mc : Nat
  made : Bool
  key : List UInt8
  msg : List UInt8
def Rm.v (r : Rm) : Value := .pointer (some ⟨r.b, 0, none⟩)
def Rm.kv (r : Rm) : Value := .slice r.ka r.key.length r.kc
def Rm.mv (r : Rm) : Value := .slice r.ma r.msg.length r.mc
structure RmP (w : World) (F : Nat → Prop) (r : Rm) : Prop where
  blk : Blk w r.b 118 #[r.kv, r.mv, .bool r.made]
  ks : Bs w r.kv r.key
  ms : Bs w r.mv r.msg
  fb : F r.b
  kin : r.key ≠ [] → ∀ x, r.kv.ownBlock = some x → F x ∧ x ≠ r.b
  min : r.msg ≠ [] → ∀ x, r.mv.ownBlock = some x → F x ∧ x ≠ r.b
  right : RightLen r.key.length
theorem RmP.only {w w' : World} {F S : Nat → Prop} {r : Rm} (h : RmP w F r) (ho : Only S w w') (hd : ∀ x, F x → ¬ S x) : RmP w' F r :=
  ⟨h.blk.only ho (hd _ h.fb), h.ks.only' ho (fun h0 x hx => hd x (h.kin h0 x hx).1), h.ms.only' ho (fun h0 x hx => hd x (h.min h0 x hx).1), h.fb, h.kin, h.min, h.right⟩
theorem RmP.below {w w' : World} {F : Nat → Prop} {r : Rm} (h : RmP w F r) (hb : Below w.heap.size w w') : RmP w' F r := h.only (Only.nothing hb) (fun _ _ h => h)
theorem RmP.wider {w : World} {F F' : Nat → Prop} {r : Rm} (h : RmP w F r) (hF : ∀ x, F x → F' x) : RmP w F' r :=
  ⟨h.blk, h.ks, h.ms, hF _ h.fb, fun h0 x hx => ⟨hF x (h.kin h0 x hx).1, (h.kin h0 x hx).2⟩, fun h0 x hx => ⟨hF x (h.min h0 x hx).1, (h.min h0 x hx).2⟩, h.right⟩
def RmO (w : World) (F : Nat → Prop) : Option Rm → Prop
  | none => True
  | some r => RmP w F r
def rmV : Option Rm → Value
  | none => .pointer none
  | some r => r.v
def rmMade : Option Rm → Bool
  | none => false
  | some r => r.made
/-- no part of s is r's own block -/
def rmApart (r s : Option Rm) : Prop := ∀ x y, r = some x → s = some y → x.b ≠ y.b ∧ (y.key ≠ [] → ∀ z, y.kv.ownBlock = some z → z ≠ x.b) ∧ (y.msg ≠ [] → ∀ z, y.mv.ownBlock = some z → z ≠ x.b)
theorem RmO.only {w w' : World} {F S : Nat → Prop} {r : Option Rm} (h : RmO w F r) (ho : Only S w w') (hd : ∀ x, F x → ¬ S x) : RmO w' F r := by
  cases r with
  | none => trivial
  | some r => exact RmP.only h ho hd
def obM2 (r s : Option Rm) : Ob where
  at' w F := RmO w F r ∧ RmO w F s ∧ rmApart r s ∧ rmApart s r ∧ ∀ x, F x → x < w.heap.size
  keep h ho hd := ⟨h.1.only ho hd, h.2.1.only ho hd, h.2.2.1, h.2.2.2.1, fun x hx => Nat.lt_of_lt_of_le (h.2.2.2.2 x hx) ho.size⟩
  lt h := h.2.2.2.2
def sideM (k : Nat) (r s : Option Rm) : Option Rm := if k = 0 then r else s
section
variable {w0 w : World} {obs : List Ob}
theorem Env.m2 (h : Env w0 w obs) (i : Nat) {r s : Option Rm} (hi : obs[i]? = some (obM2 r s)) (k : Nat) : ∀ c, sideM k r s = some c → ∃ F, RmP w F c := by
  obtain ⟨F, h1, _⟩ := h.get i hi
  intro c hc
  unfold sideM at hc
  split at hc
  · have := h1.1
    rw [hc] at this
    exact ⟨F, this⟩
  · have := h1.2.1
    rw [hc] at this
    exact ⟨F, this⟩
theorem rmIs_env (h : Env w0 w obs) (i : Nat) {r s : Option Rm} (hi : obs[i]? = some (obM2 r s)) (k : Nat) :
    Calls Try.prog 74 #[rmV (sideM k r s)] w fun e w' => e = .returned (.bool (rmMade (sideM k r s))) ∧ w = w' := by
  have hp := h.m2 i hi k
  clear h
  generalize sideM k r s = x at hp
  cases x with
  | none =>
    clear hp
    simp only [rmV, rmMade]
    go_enter Try.func74, Try.ntmps74
    go_wp2
    go_ret
    exact ⟨rfl, rfl⟩
  | some c =>
    obtain ⟨F, hc⟩ := hp c rfl
    have c2 := hc.blk.cellAt 2 rfl
    have hbl := hc.blk.lt
    simp only [rmV, Rm.v, rmMade]
    clear hp hc
    go_enter Try.func74, Try.ntmps74
    go_wp2
    go_ret
    exact ⟨rfl, rfl⟩
theorem rmIs_made (h : Env w0 w obs) (i : Nat) {r s : Option Rm} (hi : obs[i]? = some (obM2 r s)) (k : Nat) (c : Rm) (hc : sideM k r s = some c) (hm : c.made = true) :
    Calls Try.prog 74 #[.pointer (some ⟨c.b, 0, none⟩)] w fun e w' => e = .returned (.bool true) ∧ w = w' := by
  have h1 := rmIs_env h i hi k
  rw [hc] at h1
  have h2 : rmMade (some c) = true := hm
  rw [h2] at h1
  exact h1
theorem rmAes_env (h : Env w0 w obs) (i j : Nat) {r s : Option Rm} {q : Value} {o : Option (List Rn)} (hi : obs[i]? = some (obM2 r s)) (hj : obs[j]? = some (obR q o)) (k : Nat) (c : Rm) (hc : sideM k r s = some c) (n : Int) (hb : Room o n) :
    Calls Try.prog 73 #[c.v, q, .int .i64 n] w fun e w' => e = .returned (.tuple #[]) ∧ Env w0 w' (obs.set j (obR q (timesO o 5 c.key.length n))) := by
  obtain ⟨F, hp⟩ := h.m2 i hi k c hc
  have c0 := hp.blk.cellAt 0 rfl
  have hbl := hp.blk.lt
  have HE := Lib.hid h
  unfold Rm.kv at c0
  clear h hp
  unfold Rm.v
  go_enter Try.func73, Try.ntmps73
  go_wp2_with fail
  refine (timesR_env HE.out j hj 5 c.key.length n hb).mono ?_
  rintro e w2 ⟨rfl, h5⟩
  have H5 := Lib.hid h5
  clear h5
  go_wp2
  refine bodyPost_end (results_none rfl _ _ _) rfl ?_
  exact ⟨rfl, H5.out⟩
structure SR (c : Rm) (W : World) : Prop where
  a : W.cell? ⟨c.b, 0, none⟩ = some (.slice c.ka c.key.length c.kc)
  b : W.cell? ⟨c.b, 1, none⟩ = some (.slice c.ma c.msg.length c.mc)
theorem SR.fa {c : Rm} (W : World) (h : SR c W) : W.cell? ⟨c.b, 0, none⟩ = some (.slice c.ka c.key.length c.kc) := h.a
theorem SR.fb {c : Rm} (W : World) (h : SR c W) : W.cell? ⟨c.b, 1, none⟩ = some (.slice c.ma c.msg.length c.mc) := h.b
theorem RmP.sr {F : Nat → Prop} {c : Rm} (h : RmP w F c) : SR c w := ⟨h.blk.cellAt 0 rfl, h.blk.cellAt 1 rfl⟩
set_option maxHeartbeats 1000000 in
theorem rmSum_env (h : Env w0 w obs) (i j : Nat) (hij : i ≠ j) {r s : Option Rm} {q : Value} {o : Option (List Rn)} (hi : obs[i]? = some (obM2 r s)) (hj : obs[j]? = some (obR q o)) (hb : Room o 1) (k : Nat) (c : Rm) (hc : sideM k r s = some c) (hm : c.made = true) (hl : c.msg.length ≤ 140737488350000) :
    Calls Try.prog 58 #[c.v, q] w fun e w' => ∃ v, e = .returned (.tuple #[v, .int .i64 0]) ∧ Env w0 w' (obs.set j (obR q (timesO o 5 c.key.length 1)) ++ [obB v (tagR c.key c.msg)]) := by
  have HE := Lib.hid h
  have HC := Lib.hid hc
  have hi2 : (obs.set j (obR q (timesO o 5 c.key.length 1)))[i]? = some (obM2 r s) := by rw [List.getElem?_set_ne (by omega)]; exact hi
  clear h
  clear hc
  unfold Rm.v
  go_enter Try.func58, Try.ntmps58
  go_wp2_with fail
  refine (rmIs_made HE.out i hi k c HC.out hm).mono ?_
  rintro e w' ⟨rfl, rfl⟩
  go_wp2_with fail
  refine (rmAes_env HE.out i j hi hj k c HC.out 1 hb).mono ?_
  rintro e w2 ⟨rfl, h5⟩
  have H5 := Lib.hid h5
  clear h5 HE
  go_upto_region 4 with fail
  refine hd_start (SR c) (by kernel_rfl) ?_
  intro w3 hw'
  have H6 := Lib.hid (H5.out.draw 1)
  rw [← hw'] at H6
  clear hw' H5
  obtain ⟨F, hp⟩ := H6.out.m2 i hi2 k c HC.out
  have S3 := hp.sr
  have HP := Lib.hid hp
  clear hp
  refine hd_take (v := ?_) 0 rfl (by kernel_rfl) (fun _ _ d _ _ h => (by cases d <;> exact h)) (by kernel_rfl) S3 (fun w' hS => ?_) ?_
  rotate_left
  focus (have q0 := SR.fa w' hS; have q1 := SR.fb w' hS; clear hS; go_simp; try rfl; done)
  simp only [List.getElem_toArray, List.getElem_cons_succ, List.getElem_cons_zero, Act.put, List.setIfInBounds_toArray, List.set_cons_zero, List.set_cons_succ]
  refine hd_take (v := ?_) 1 rfl (by kernel_rfl) (fun _ _ d _ _ h => (by cases d <;> exact h)) (by kernel_rfl) S3 (fun w' hS => ?_) ?_
  rotate_left
  focus (have q0 := SR.fa w' hS; have q1 := SR.fb w' hS; clear hS; go_simp; try rfl; done)
  simp only [List.getElem_toArray, List.getElem_cons_succ, List.getElem_cons_zero, Act.put, List.setIfInBounds_toArray, List.set_cons_zero, List.set_cons_succ]
  refine hd_take (v := ?_) 2 rfl (by kernel_rfl) (fun _ _ d _ _ h => (by cases d <;> exact h)) (by kernel_rfl) S3 (fun w' hS => ?_) ?_
  rotate_left
  focus (have q0 := SR.fa w' hS; have q1 := SR.fb w' hS; clear hS; go_simp; try rfl; done)
  simp only [List.getElem_toArray, List.getElem_cons_succ, List.getElem_cons_zero, Act.put, List.setIfInBounds_toArray, List.set_cons_zero, List.set_cons_succ]
  refine hd_take (v := ?_) 3 rfl (by kernel_rfl) (fun _ _ d _ _ h => (by cases d <;> exact h)) (by kernel_rfl) S3 (fun w' hS => ?_) ?_
  rotate_left
  focus (have q0 := SR.fa w' hS; have q1 := SR.fb w' hS; clear hS; go_simp; try rfl; done)
  simp only [List.getElem_toArray, List.getElem_cons_succ, List.getElem_cons_zero, Act.put, List.setIfInBounds_toArray, List.set_cons_zero, List.set_cons_succ]
  refine hd_take (v := ?_) 4 rfl (by kernel_rfl) (fun _ _ d _ _ h => (by cases d <;> exact h)) (by kernel_rfl) S3 (fun w' hS => ?_) ?_
  rotate_left
  focus (have q0 := SR.fa w' hS; have q1 := SR.fb w' hS; clear hS; go_simp; try rfl; done)
  simp only [List.getElem_toArray, List.getElem_cons_succ, List.getElem_cons_zero, Act.put, List.setIfInBounds_toArray, List.set_cons_zero, List.set_cons_succ]
  refine hd_take (v := ?_) 5 rfl (by kernel_rfl) (fun _ _ d _ _ h => (by cases d <;> exact h)) (by kernel_rfl) S3 (fun w' hS => ?_) ?_
  rotate_left
  focus (have q0 := SR.fa w' hS; have q1 := SR.fb w' hS; clear hS; go_simp; try rfl; done)
  simp only [List.getElem_toArray, List.getElem_cons_succ, List.getElem_cons_zero, Act.put, List.setIfInBounds_toArray, List.set_cons_zero, List.set_cons_succ]
  refine hd_take (v := ?_) 6 rfl (by kernel_rfl) (fun _ _ d _ _ h => (by cases d <;> exact h)) (by kernel_rfl) S3 (fun w' hS => ?_) ?_
  rotate_left
  focus (have q0 := SR.fa w' hS; have q1 := SR.fb w' hS; clear hS; go_simp; try rfl; done)
  simp only [List.getElem_toArray, List.getElem_cons_succ, List.getElem_cons_zero, Act.put, List.setIfInBounds_toArray, List.set_cons_zero, List.set_cons_succ]
  refine hd_take (v := ?_) 7 rfl (by kernel_rfl) (fun _ _ d _ _ h => (by cases d <;> exact h)) (by kernel_rfl) S3 (fun w' hS => ?_) ?_
  rotate_left
  focus (have q0 := SR.fa w' hS; have q1 := SR.fb w' hS; clear hS; go_simp; try rfl; done)
  simp only [List.getElem_toArray, List.getElem_cons_succ, List.getElem_cons_zero, Act.put, List.setIfInBounds_toArray, List.set_cons_zero, List.set_cons_succ]
  refine hd_one 8 (by kernel_rfl) ?_
  refine op_call rfl (by kernel_rfl) (by go_simp; first | exact ⟨rfl, rfl⟩ | rfl) ?_
  refine (rof13_any _ _ c.key c.msg w3 HP.out.ks HP.out.ms HP.out.right hl).mono ?_
  rintro e w4 ⟨v, he, q1, q2, q3⟩
  subst he
  have H7 := Lib.hid (H6.out.pushB q1 q2 q3)
  have hS2 := (HP.out.below q2).sr
  have S4 := hS2
  clear q1 q2 q3
  refine ⟨_, rfl, hS2, ?_⟩
  simp only [List.getElem_toArray, List.getElem_cons_succ, List.getElem_cons_zero, Act.put, List.setIfInBounds_toArray, List.set_cons_zero, List.set_cons_succ]
  refine hd_take (v := ?_) 9 rfl (by kernel_rfl) (fun _ _ d _ _ h => (by cases d <;> exact h)) (by kernel_rfl) S4 (fun w' hS => ?_) ?_
  rotate_left
  focus (clear hS; go_simp; try rfl; done)
  simp only [List.getElem_toArray, List.getElem_cons_succ, List.getElem_cons_zero, Act.put, List.setIfInBounds_toArray, List.set_cons_zero, List.set_cons_succ]
  refine hd_take (v := ?_) 10 rfl (by kernel_rfl) (fun _ _ d _ _ h => (by cases d <;> exact h)) (by kernel_rfl) S4 (fun w' hS => ?_) ?_
  rotate_left
  focus (clear hS; go_simp; try rfl; done)
  simp only [List.getElem_toArray, List.getElem_cons_succ, List.getElem_cons_zero, Act.put, List.setIfInBounds_toArray, List.set_cons_zero, List.set_cons_succ]
  refine hd_done (by kernel_rfl) ?_
  clear S3 S4
  go_wp2
  go_ret2
  exact ⟨_, rfl, H7.out⟩
set_option maxHeartbeats 1000000 in
theorem rmForm_env (h : Env w0 w obs) (i : Nat) {r s : Option Rm} (hi : obs[i]? = some (obM2 r s)) (k : Nat) (c : Rm) (hc : sideM k r s = some c) (hm : c.made = true) (hl : c.msg.length ≤ 140737488350000) :
    Calls Try.prog 63 #[c.v] w fun e w' => ∃ v, e = .returned v ∧ Env w0 w' (obs ++ [obB v (formR c.key c.msg)]) := by
  have HE := Lib.hid h
  have HC := Lib.hid hc
  clear h
  clear hc
  unfold Rm.v
  go_enter Try.func63, Try.ntmps63
  go_wp2_with fail
  refine (rmIs_made HE.out i hi k c HC.out hm).mono ?_
  rintro e w' ⟨rfl, rfl⟩
  go_upto_region 3 with fail
  refine hd_start (SR c) (by kernel_rfl) ?_
  intro w3 hw'
  have H6 := Lib.hid (HE.out.draw 1)
  rw [← hw'] at H6
  clear hw' HE
  obtain ⟨F, hp⟩ := H6.out.m2 i hi k c HC.out
  have S3 := hp.sr
  have HP := Lib.hid hp
  clear hp
  refine hd_take (v := ?_) 0 rfl (by kernel_rfl) (fun _ _ d _ _ h => (by cases d <;> exact h)) (by kernel_rfl) S3 (fun w' hS => ?_) ?_
  rotate_left
  focus (have q0 := SR.fa w' hS; have q1 := SR.fb w' hS; clear hS; go_simp; try rfl; done)
  simp only [List.getElem_toArray, List.getElem_cons_succ, List.getElem_cons_zero, Act.put, List.setIfInBounds_toArray, List.set_cons_zero, List.set_cons_succ]
  refine hd_take (v := ?_) 1 rfl (by kernel_rfl) (fun _ _ d _ _ h => (by cases d <;> exact h)) (by kernel_rfl) S3 (fun w' hS => ?_) ?_
  rotate_left
  focus (have q0 := SR.fa w' hS; have q1 := SR.fb w' hS; clear hS; go_simp; try rfl; done)
  simp only [List.getElem_toArray, List.getElem_cons_succ, List.getElem_cons_zero, Act.put, List.setIfInBounds_toArray, List.set_cons_zero, List.set_cons_succ]
  refine hd_take (v := ?_) 2 rfl (by kernel_rfl) (fun _ _ d _ _ h => (by cases d <;> exact h)) (by kernel_rfl) S3 (fun w' hS => ?_) ?_
  rotate_left
  focus (have q0 := SR.fa w' hS; have q1 := SR.fb w' hS; clear hS; go_simp; try rfl; done)
  simp only [List.getElem_toArray, List.getElem_cons_succ, List.getElem_cons_zero, Act.put, List.setIfInBounds_toArray, List.set_cons_zero, List.set_cons_succ]
  refine hd_take (v := ?_) 3 rfl (by kernel_rfl) (fun _ _ d _ _ h => (by cases d <;> exact h)) (by kernel_rfl) S3 (fun w' hS => ?_) ?_
  rotate_left
  focus (have q0 := SR.fa w' hS; have q1 := SR.fb w' hS; clear hS; go_simp; try rfl; done)
  simp only [List.getElem_toArray, List.getElem_cons_succ, List.getElem_cons_zero, Act.put, List.setIfInBounds_toArray, List.set_cons_zero, List.set_cons_succ]
  refine hd_take (v := ?_) 4 rfl (by kernel_rfl) (fun _ _ d _ _ h => (by cases d <;> exact h)) (by kernel_rfl) S3 (fun w' hS => ?_) ?_
  rotate_left
  focus (have q0 := SR.fa w' hS; have q1 := SR.fb w' hS; clear hS; go_simp; try rfl; done)
  simp only [List.getElem_toArray, List.getElem_cons_succ, List.getElem_cons_zero, Act.put, List.setIfInBounds_toArray, List.set_cons_zero, List.set_cons_succ]
  refine hd_take (v := ?_) 5 rfl (by kernel_rfl) (fun _ _ d _ _ h => (by cases d <;> exact h)) (by kernel_rfl) S3 (fun w' hS => ?_) ?_
  rotate_left
  focus (have q0 := SR.fa w' hS; have q1 := SR.fb w' hS; clear hS; go_simp; try rfl; done)
  simp only [List.getElem_toArray, List.getElem_cons_succ, List.getElem_cons_zero, Act.put, List.setIfInBounds_toArray, List.set_cons_zero, List.set_cons_succ]
  refine hd_take (v := ?_) 6 rfl (by kernel_rfl) (fun _ _ d _ _ h => (by cases d <;> exact h)) (by kernel_rfl) S3 (fun w' hS => ?_) ?_
  rotate_left
  focus (have q0 := SR.fa w' hS; have q1 := SR.fb w' hS; clear hS; go_simp; try rfl; done)
  simp only [List.getElem_toArray, List.getElem_cons_succ, List.getElem_cons_zero, Act.put, List.setIfInBounds_toArray, List.set_cons_zero, List.set_cons_succ]
  refine hd_take (v := ?_) 7 rfl (by kernel_rfl) (fun _ _ d _ _ h => (by cases d <;> exact h)) (by kernel_rfl) S3 (fun w' hS => ?_) ?_
  rotate_left
  focus (have q0 := SR.fa w' hS; have q1 := SR.fb w' hS; clear hS; go_simp; try rfl; done)
  simp only [List.getElem_toArray, List.getElem_cons_succ, List.getElem_cons_zero, Act.put, List.setIfInBounds_toArray, List.set_cons_zero, List.set_cons_succ]
  refine hd_one 8 (by kernel_rfl) ?_
  refine op_call rfl (by kernel_rfl) (by go_simp; first | exact ⟨rfl, rfl⟩ | rfl) ?_
  refine (rformOf13_any _ _ c.key c.msg w3 HP.out.ks HP.out.ms HP.out.right hl).mono ?_
  rintro e w4 ⟨v, he, q1, q2, q3⟩
  subst he
  have H7 := Lib.hid (H6.out.pushB q1 q2 q3)
  have hS2 := (HP.out.below q2).sr
  have S4 := hS2
  clear q1 q2 q3
  refine ⟨_, rfl, hS2, ?_⟩
  simp only [List.getElem_toArray, List.getElem_cons_succ, List.getElem_cons_zero, Act.put, List.setIfInBounds_toArray, List.set_cons_zero, List.set_cons_succ]
  refine hd_take (v := ?_) 9 rfl (by kernel_rfl) (fun _ _ d _ _ h => (by cases d <;> exact h)) (by kernel_rfl) S4 (fun w' hS => ?_) ?_
  rotate_left
  focus (clear hS; go_simp; try rfl; done)
  simp only [List.getElem_toArray, List.getElem_cons_succ, List.getElem_cons_zero, Act.put, List.setIfInBounds_toArray, List.set_cons_zero, List.set_cons_succ]
  refine hd_done (by kernel_rfl) ?_
  clear S3 S4
  go_wp2
  go_ret
  exact ⟨_, rfl, H7.out⟩
end
end Go.Proofs.Ytpampcokonicfaa
/- The document's Macs: what is none; Reset, Clone. -/
namespace Go.Proofs.Ytpampcokonicfaa
open Go.RowKit
set_option maxRecDepth 100000
set_option linter.unusedVariables false
set_option linter.unusedSimpArgs false
/-- the other side is x then; side k turns -/
def mth1 (k : Nat) (r x : Option Rm) : Option Rm := if k = 0 then r else x
def mth2 (k : Nat) (s x : Option Rm) : Option Rm := if k = 0 then x else s
def mpt1 (k : Nat) (r x : Option Rm) : Option Rm := if k = 0 then x else r
def mpt2 (k : Nat) (s x : Option Rm) : Option Rm := if k = 0 then s else x
section
variable {w0 w : World} {obs : List Ob}
theorem rmIs_not (h : Env w0 w obs) (i : Nat) {r s : Option Rm} (hi : obs[i]? = some (obM2 r s)) (k : Nat) (hm : rmMade (sideM k r s) = false) :
    Calls Try.prog 74 #[rmV (sideM k r s)] w fun e w' => e = .returned (.bool false) ∧ w = w' := by
  have h1 := rmIs_env h i hi k
  rw [hm] at h1
  exact h1
theorem rmSum_no (h : Env w0 w obs) (i : Nat) {r s : Option Rm} (hi : obs[i]? = some (obM2 r s)) (k : Nat) (hm : rmMade (sideM k r s) = false) (q : Value) :
    Calls Try.prog 58 #[rmV (sideM k r s), q] w fun e w' => e = .returned (.tuple #[.slice none 0 0, .int .i64 1]) ∧ w = w' := by
  have HI := Lib.hid (rmIs_not h i hi k hm)
  clear h hm
  generalize rmV (sideM k r s) = p at HI ⊢
  go_enter Try.func58, Try.ntmps58
  go_wp2_with fail
  refine HI.out.mono ?_
  rintro e w' ⟨rfl, rfl⟩
  go_wp2
  go_ret2
  exact ⟨rfl, rfl⟩
theorem rmForm_no (h : Env w0 w obs) (i : Nat) {r s : Option Rm} (hi : obs[i]? = some (obM2 r s)) (k : Nat) (hm : rmMade (sideM k r s) = false) :
    Calls Try.prog 63 #[rmV (sideM k r s)] w fun e w' => e = .returned (.slice none 0 0) ∧ w = w' := by
  have HI := Lib.hid (rmIs_not h i hi k hm)
  clear h hm
  generalize rmV (sideM k r s) = p at HI ⊢
  go_enter Try.func63, Try.ntmps63
  go_wp2_with fail
  refine HI.out.mono ?_
  rintro e w' ⟨rfl, rfl⟩
  go_wp2
  go_ret
  exact ⟨rfl, rfl⟩
theorem rmReset_no (h : Env w0 w obs) (i : Nat) {r s : Option Rm} (hi : obs[i]? = some (obM2 r s)) (k : Nat) (hm : rmMade (sideM k r s) = false) :
    Calls Try.prog 60 #[rmV (sideM k r s)] w fun e w' => e = .returned (.int .i64 1) ∧ w = w' := by
  have HI := Lib.hid (rmIs_not h i hi k hm)
  clear h hm
  generalize rmV (sideM k r s) = p at HI ⊢
  go_enter Try.func60, Try.ntmps60
  go_wp2_with fail
  refine HI.out.mono ?_
  rintro e w' ⟨rfl, rfl⟩
  go_wp2
  go_ret
  exact ⟨rfl, rfl⟩
theorem rmClone_no (h : Env w0 w obs) (i : Nat) {r s : Option Rm} (hi : obs[i]? = some (obM2 r s)) (k : Nat) (hm : rmMade (sideM k r s) = false) :
    Calls Try.prog 61 #[rmV (sideM k r s)] w fun e w' => e = .returned (.tuple #[.pointer none, .int .i64 1]) ∧ w = w' := by
  have HI := Lib.hid (rmIs_not h i hi k hm)
  clear h hm
  generalize rmV (sideM k r s) = p at HI ⊢
  go_enter Try.func61, Try.ntmps61
  go_wp2_with fail
  refine HI.out.mono ?_
  rintro e w' ⟨rfl, rfl⟩
  go_wp2
  go_ret2
  exact ⟨rfl, rfl⟩
theorem rmWipe_no (h : Env w0 w obs) (i : Nat) {r s : Option Rm} (hi : obs[i]? = some (obM2 r s)) (k : Nat) (hm : rmMade (sideM k r s) = false) (q : Value) :
    Calls Try.prog 62 #[rmV (sideM k r s), q] w fun e w' => e = .returned (.int .i64 1) ∧ w = w' := by
  have HI := Lib.hid (rmIs_not h i hi k hm)
  clear h hm
  generalize rmV (sideM k r s) = p at HI ⊢
  go_enter Try.func62, Try.ntmps62
  go_wp2_with fail
  refine HI.out.mono ?_
  rintro e w' ⟨rfl, rfl⟩
  go_wp2
  go_ret
  exact ⟨rfl, rfl⟩
theorem rmWrite_no (h : Env w0 w obs) (i : Nat) {r s : Option Rm} (hi : obs[i]? = some (obM2 r s)) (k : Nat) (hm : rmMade (sideM k r s) = false) (q : Value) (ao : Option Addr) (n cap : Nat) :
    Calls Try.prog 57 #[rmV (sideM k r s), q, .slice ao n cap] w fun e w' => e = .returned (.int .i64 1) ∧ w = w' := by
  have HI := Lib.hid (rmIs_not h i hi k hm)
  clear h hm
  generalize rmV (sideM k r s) = p at HI ⊢
  go_enter Try.func57, Try.ntmps57
  go_wp2_with fail
  refine HI.out.mono ?_
  rintro e w' ⟨rfl, rfl⟩
  go_wp2
  go_ret
  exact ⟨rfl, rfl⟩
/-- a clone in a new block -/
theorem Rm.fresh {F : Nat → Prop} {c : Rm} (hc : RmP w F c) (hF : ∀ x, F x → x < w.heap.size) {w' : World} (hb : Below w.heap.size w w') (b' : Nat) (hb' : w.heap.size ≤ b') (hk : Blk w' b' 118 #[c.kv, c.mv, .bool true]) :
    RmP w' (fun x => F x ∨ x = b') { c with b := b', made := true } ∧ rmApart (some c) (some { c with b := b', made := true }) ∧ rmApart (some { c with b := b', made := true }) (some c) := by
  have hfb := hF _ hc.fb
  refine ⟨⟨hk, hc.ks.grow hb, hc.ms.grow hb, .inr rfl, fun h0 x hx => ?_, fun h0 x hx => ?_, hc.right⟩, ?_, ?_⟩
  · have h1 := hc.kin h0 x hx
    have := hF _ h1.1
    exact ⟨.inl h1.1, by show x ≠ b'; omega⟩
  · have h1 := hc.min h0 x hx
    have := hF _ h1.1
    exact ⟨.inl h1.1, by show x ≠ b'; omega⟩
  · intro x y hx hy
    injection hx with hx; injection hy with hy
    subst hx; subst hy
    exact ⟨by show c.b ≠ b'; omega, fun h0 z hz => (hc.kin h0 z hz).2, fun h0 z hz => (hc.min h0 z hz).2⟩
  · intro x y hx hy
    injection hx with hx; injection hy with hy
    subst hx; subst hy
    refine ⟨by show b' ≠ c.b; omega, fun h0 z hz => ?_, fun h0 z hz => ?_⟩
    · have := hF _ (hc.kin h0 z hz).1
      show z ≠ b'; omega
    · have := hF _ (hc.min h0 z hz).1
      show z ≠ b'; omega
theorem rmClone_env (h : Env w0 w obs) (i : Nat) {r s : Option Rm} (hi : obs[i]? = some (obM2 r s)) (k : Nat) (hk : k < 2) (c : Rm) (hc : sideM k r s = some c) (hm : c.made = true) :
    Calls Try.prog 61 #[c.v] w fun e w' => ∃ b' : Nat, e = .returned (.tuple #[.pointer (some ⟨b', 0, none⟩), .int .i64 0]) ∧ Env w0 w' (obs.set i (obM2 (mth1 k r (some { c with b := b', made := true })) (mth2 k s (some { c with b := b', made := true })))) := by
  have HIS := Lib.hid (rmIs_made h i hi k c hc hm)
  obtain ⟨F, hat, _, _, hup⟩ := h.get i hi
  obtain ⟨F2, hp⟩ := h.m2 i hi k c hc
  have sr := hp.sr
  have c0 := sr.a
  have c1 := sr.b
  have hbl := hp.blk.lt
  have hup2 : ∀ w' b', Below w.heap.size w w' → w.heap.size ≤ b' → Blk w' b' 118 #[c.kv, c.mv, .bool true] → Env w0 w' (obs.set i (obM2 (mth1 k r (some { c with b := b', made := true })) (mth2 k s (some { c with b := b', made := true })))) := by
    intro w' b' hb hb' hbk
    obtain ⟨a1, a2, a3, a4, a5⟩ := hat
    refine hup w' (fun x => F x ∨ x = b') _ ?_ (Only.of_below hb _) (fun x hx => hx.imp id (fun e => by omega))
    have hlt : ∀ x, (F x ∨ x = b') → x < w'.heap.size := fun x hx => by
      rcases hx with hx | hx
      · exact Nat.lt_of_lt_of_le (a5 x hx) hb.size
      · rw [hx]; exact hbk.lt
    have up : ∀ {x : Option Rm}, RmO w F x → RmO w' (fun x => F x ∨ x = b') x := fun {x} hx => by
      cases x with
      | none => trivial
      | some y => exact (RmP.below hx hb).wider (fun x hx => .inl hx)
    rcases (by omega : k = 0 ∨ k = 1) with rfl | rfl
    · have hr : r = some c := hc
      subst hr
      obtain ⟨f1, f2, f3⟩ := Rm.fresh a1 a5 hb b' hb' hbk
      exact ⟨up a1, f1, f2, f3, hlt⟩
    · have hs : s = some c := hc
      subst hs
      obtain ⟨f1, f2, f3⟩ := Rm.fresh a2 a5 hb b' hb' hbk
      exact ⟨f1, up a2, f3, f2, hlt⟩
  have HUP := Lib.hid hup2
  clear hup2 hup hat h hp sr
  unfold Rm.v
  go_enter Try.func61, Try.ntmps61
  go_wp2_with fail
  refine HIS.out.mono ?_
  rintro e w' ⟨rfl, rfl⟩
  go_wp2_with fail
  go_region
  all_goals go_wp2_with fail
  all_goals go_ret2
  exact ⟨_, rfl, HUP.out _ _ ((drew_below w 1).alloc (Nat.le_refl _) _) (Nat.le_refl _) (Blk.at rfl rfl)⟩
end
end Go.Proofs.Ytpampcokonicfaa
/- The document's Macs: Reset, Wipe, Write. -/
namespace Go.Proofs.Ytpampcokonicfaa
open Go.RowKit
set_option maxRecDepth 100000
set_option linter.unusedVariables false
set_option linter.unusedSimpArgs false
section
variable {w0 w : World} {obs : List Ob}
theorem RmP.beside {F : Nat → Prop} {c y : Rm} {w3 : World} (h : RmP w F y) (ha : rmApart (some c) (some y)) (ho : Only (fun x => x = c.b) w w3) : RmP w3 F y := by
  obtain ⟨h1, h2, h3⟩ := ha c y rfl rfl
  exact ⟨h.blk.only ho (fun e => h1 e.symm), h.ks.only' ho (fun h0 x hx => h2 h0 x hx), h.ms.only' ho (fun h0 x hx => h3 h0 x hx), h.fb, h.kin, h.min, h.right⟩
/-- a Mac has turned: its message or whether it is one -/
theorem rmPut (h : Env w0 w obs) (i : Nat) {r s : Option Rm} (hi : obs[i]? = some (obM2 r s)) (k : Nat) (hk : k < 2) (c : Rm) (hc : sideM k r s = some c) (c' : Rm) (hb : c'.b = c.b) (hkey : c'.key = c.key) (hkv : c'.kv = c.kv) {w3 : World} (ho : Only (fun x => x = c.b) w w3)
    (hmsg : c'.msg ≠ [] → ∀ z, c'.mv.ownBlock = some z → w.heap.size ≤ z ∨ (c.msg ≠ [] ∧ c.mv.ownBlock = some z)) (hblk : Blk w3 c'.b 118 #[c'.kv, c'.mv, .bool c'.made]) (hms : Bs w3 c'.mv c'.msg) :
    Env w0 w3 (obs.set i (obM2 (mpt1 k r (some c')) (mpt2 k s (some c')))) := by
  obtain ⟨F, ⟨a1, a2, a3, a4, a5⟩, _, _, hup⟩ := h.get i hi
  have hs3 := ho.size
  -- both sides' facts, whichever side it is
  have main : ∀ (y : Option Rm), RmP w F c → RmO w F y → rmApart (some c) y → rmApart y (some c) →
      RmP w3 (fun x => F x ∨ (w.heap.size ≤ x ∧ x < w3.heap.size)) c' ∧ RmO w3 (fun x => F x ∨ (w.heap.size ≤ x ∧ x < w3.heap.size)) y ∧ rmApart (some c') y ∧ rmApart y (some c') := by
    intro y hcP hy h1 h2
    have hcb := a5 _ hcP.fb
    refine ⟨⟨hblk, ?_, hms, ?_, ?_, ?_, ?_⟩, ?_, ?_, ?_⟩
    · rw [hkv, hkey]
      exact hcP.ks.only' ho (fun h0 x hx => (hcP.kin h0 x hx).2)
    · rw [hb]; exact .inl hcP.fb
    · rw [hkey, hkv, hb]
      exact fun h0 x hx => ⟨.inl (hcP.kin h0 x hx).1, (hcP.kin h0 x hx).2⟩
    · intro h0 x hx
      rw [hb]
      rcases hmsg h0 x hx with hh | ⟨h01, hh⟩
      · exact ⟨.inr ⟨hh, hms.inside h0 x hx⟩, by omega⟩
      · exact ⟨.inl (hcP.min h01 x hh).1, (hcP.min h01 x hh).2⟩
    · rw [hkey]; exact hcP.right
    · cases y with
      | none => trivial
      | some y => exact (RmP.beside hy h1 ho).wider (fun x hx => .inl hx)
    · intro a b' ha hb'
      injection ha with ha
      subst ha
      obtain ⟨q1, q2, q3⟩ := h1 c b' rfl hb'
      exact ⟨by rw [hb]; exact q1, fun h0 z hz => by rw [hb]; exact q2 h0 z hz, fun h0 z hz => by rw [hb]; exact q3 h0 z hz⟩
    · intro a b' ha hb'
      injection hb' with hb'
      subst hb'
      obtain ⟨q1, q2, q3⟩ := h2 a c ha rfl
      have hab : a.b < w.heap.size := by
        rw [ha] at hy
        exact a5 _ (RmP.fb hy)
      refine ⟨by rw [hb]; exact q1, ?_, fun h0 z hz => ?_⟩
      · rw [hkey, hkv]; exact q2
      · rcases hmsg h0 z hz with hh | ⟨h01, hh⟩
        · omega
        · exact q3 h01 z hh
  refine hup w3 (fun x => F x ∨ (w.heap.size ≤ x ∧ x < w3.heap.size)) _ ?_ ?_ (fun x hx => hx.imp id (fun e => e.1))
  · have hlt : ∀ x, (F x ∨ (w.heap.size ≤ x ∧ x < w3.heap.size)) → x < w3.heap.size := fun x hx => by
      rcases hx with hx | hx
      · exact Nat.lt_of_lt_of_le (a5 x hx) hs3
      · exact hx.2
    rcases (by omega : k = 0 ∨ k = 1) with rfl | rfl
    · have hr : r = some c := hc
      subst hr
      obtain ⟨m1, m2, m3, m4⟩ := main s a1 a2 a3 a4
      exact ⟨m1, m2, m3, m4, hlt⟩
    · have hs : s = some c := hc
      subst hs
      obtain ⟨m1, m2, m3, m4⟩ := main r a2 a1 a4 a3
      exact ⟨m2, m1, m4, m3, hlt⟩
  · have hFc : F c.b := by
      have hc2 := hc
      unfold sideM at hc2
      split at hc2
      · rw [hc2] at a1; exact RmP.fb a1
      · rw [hc2] at a2; exact RmP.fb a2
    exact ho.mono (fun x hx => by rw [hx]; exact hFc)
theorem rmReset_env (h : Env w0 w obs) (i : Nat) {r s : Option Rm} (hi : obs[i]? = some (obM2 r s)) (k : Nat) (hk : k < 2) (c : Rm) (hc : sideM k r s = some c) (hm : c.made = true) :
    Calls Try.prog 60 #[c.v] w fun e w' => ∃ c' : Rm, e = .returned (.int .i64 0) ∧ c'.b = c.b ∧ c'.made = true ∧ c'.key = c.key ∧ c'.msg = [] ∧ Env w0 w' (obs.set i (obM2 (mpt1 k r (some c')) (mpt2 k s (some c')))) := by
  have HIS := Lib.hid (rmIs_made h i hi k c hc hm)
  obtain ⟨F2, hp⟩ := h.m2 i hi k c hc
  have c1 := hp.sr.b
  have f1 := hp.blk.unfrozen 1
  have hbl := hp.blk.lt
  have h3 := rmPut h i hi k hk c hc { c with ma := none, mc := 0, msg := [] } rfl rfl rfl ((Only.refl (fun x => x = c.b) w).set (p := ⟨c.b, 1, none⟩) (.inl rfl) (.slice none 0 0)) (fun h0 => absurd rfl h0) (hp.blk.set 1 (.slice none 0 0)) (Bs.nil _)
  have H3 := Lib.hid h3
  clear h h3 hp
  unfold Rm.v
  go_enter Try.func60, Try.ntmps60
  go_wp2_with fail
  refine HIS.out.mono ?_
  rintro e w' ⟨rfl, rfl⟩
  go_wp2
  go_ret
  exact ⟨{ c with ma := none, mc := 0, msg := [] }, rfl, rfl, hm, rfl, rfl, H3.out⟩
theorem formR_len (key p : List UInt8) (hk : RightLen key.length) : (formR key p).length = 16 * (key.length / 4 + 6 + 1) + 65 := by
  rw [formR_eq]
  have hs : (sched key).length = 240 := sched_len key (by unfold RightLen at hk; omega)
  simp only [List.length_append, List.length_take, dbl_length, List.length_singleton, hs, blkAt_len, chainN_len (fun b => enc_len _ _ _)]
  unfold RightLen at hk
  omega
theorem rmWipe_env (h : Env w0 w obs) (i j : Nat) (hij : i ≠ j) {r s : Option Rm} {q : Value} {o : Option (List Rn)} (hi : obs[i]? = some (obM2 r s)) (hj : obs[j]? = some (obR q o)) (hb : Room o 1) (k : Nat) (hk : k < 2) (c : Rm) (hc : sideM k r s = some c) (hm : c.made = true) (hl : c.msg.length ≤ 140737488350000) :
    Calls Try.prog 62 #[c.v, q] w fun e w' => e = .returned (.int .i64 0) ∧ Env w0 w' ((obs.set j (obR q (noteO o 8 ((16 * (c.key.length / 4 + 6 + 1) + 65 : Nat) : Int) 1))).set i (obM2 (mpt1 k r (some { c with made := false })) (mpt2 k s (some { c with made := false })))) := by
  have HIS := Lib.hid (rmIs_made h i hi k c hc hm)
  have HE := Lib.hid h
  have HC := Lib.hid hc
  obtain ⟨F0, hp0⟩ := h.m2 i hi k c hc
  have hright := hp0.right
  have hlo := (List.getElem?_eq_some_iff.1 hj).1
  have hflen := formR_len c.key c.msg hright
  clear h hc hp0
  unfold Rm.v
  go_enter Try.func62, Try.ntmps62
  go_wp2_with fail
  refine HIS.out.mono ?_
  rintro e w' ⟨rfl, rfl⟩
  go_wp2_with fail
  refine (rmForm_env HE.out i hi k c HC.out hm hl).mono ?_
  rintro e w1 ⟨v, rfl, h1⟩
  obtain ⟨oa, oc, hv, _⟩ := (h1.bytes obs.length (v := v) (l := formR c.key c.msg) ((atApp obs [_] 0).trans rfl)).rd.form
  rw [hflen] at hv
  obtain ⟨z, hz⟩ : ∃ z, 16 * (c.key.length / 4 + 6 + 1) + 65 = z := ⟨_, rfl⟩
  rw [hz] at hv
  subst hv
  have H1 := Lib.hid h1
  have HZ := Lib.hid hz
  clear h1 hflen hz HE
  go_wp2_with fail
  refine (noteR_env' H1.out j (by rw [List.getElem?_append_left hlo]; exact hj) 8 (z : Int) hb).mono ?_
  rintro e w2 ⟨rfl, h5⟩
  rw [List.set_append_left _ _ hlo] at h5
  have h6 := h5.drop
  obtain ⟨O, hO⟩ : ∃ x, obs.set j (obR q (noteO o 8 (z : Int) 1)) = x := ⟨_, rfl⟩
  have hi2 : O[i]? = some (obM2 r s) := by rw [← hO, List.getElem?_set_ne (by omega)]; exact hi
  rw [hO] at h6
  obtain ⟨F, hp2⟩ := h6.m2 i hi2 k c HC.out
  have d2 := hp2.blk.cellAt 2 rfl
  have df := hp2.blk.unfrozen 2
  have dl := hp2.blk.lt
  have HO := Lib.hid hO
  have ho : Only (fun x => x = c.b) w2 (w2.setCell ⟨c.b, 2, none⟩ (.bool false)) := (Only.refl (fun x => x = c.b) w2).set (p := ⟨c.b, 2, none⟩) (.inl rfl) _
  have h7 := rmPut h6 i hi2 k hk c HC.out { c with made := false } rfl rfl rfl ho (fun h0 z hz => .inr ⟨h0, hz⟩) (hp2.blk.set 2 (.bool false)) (hp2.ms.only' ho (fun h0 x hx => (hp2.min h0 x hx).2))
  have H7 := Lib.hid h7
  clear h5 h6 h7 hO H1 hp2 ho
  go_wp2
  go_ret
  refine ⟨rfl, ?_⟩
  rw [HZ.out, HO.out]
  exact H7.out
theorem sideM_put (k : Nat) (r s x : Option Rm) : sideM k (mpt1 k r x) (mpt2 k s x) = x := by
  unfold sideM mpt1 mpt2
  split <;> rfl
set_option maxHeartbeats 1000000 in
theorem rmWrite_env (h : Env w0 w obs) (i j : Nat) (hij : i ≠ j) {r s : Option Rm} {q : Value} {o : Option (List Rn)} (hi : obs[i]? = some (obM2 r s)) (hj : obs[j]? = some (obR q o)) (k : Nat) (hk : k < 2) (c : Rm) (hc : sideM k r s = some c) (hm : c.made = true) {u : Value} {p : List UInt8} (hu : Bs w0 u p)
    (hl : c.msg.length + p.length ≤ 140737488350000) (hb : Room o ((nBlk (c.msg ++ p).length : Int) - (nBlk c.msg.length : Int))) :
    Calls Try.prog 57 #[c.v, q, u] w fun e w' => ∃ c' : Rm, e = .returned (.int .i64 0) ∧ c'.b = c.b ∧ c'.made = true ∧ c'.key = c.key ∧ c'.msg = c.msg ++ p ∧ Env w0 w' ((obs.set i (obM2 (mpt1 k r (some c')) (mpt2 k s (some c')))).set j (obR q (timesO o 5 c.key.length ((nBlk (c.msg ++ p).length : Int) - (nBlk c.msg.length : Int))))) := by
  have HIS := Lib.hid (rmIs_made h i hi k c hc hm)
  obtain ⟨F2, hp⟩ := h.m2 i hi k c hc
  have c1 := hp.sr.b
  have hbl := hp.blk.lt
  have HP := Lib.hid hp
  have HE := Lib.hid h
  have HU := Lib.hid hu
  have HUO := Lib.hid (h.old hu)
  obtain ⟨uo, uc, rfl, hu1, hu2, _, _⟩ := hu.form
  obtain ⟨mo, mc, hmv, hm1, hm2, _, _⟩ := hp.ms.form
  have hlo : c.msg.length ≤ 140737488350000 := by omega
  have hln : (c.msg ++ p).length ≤ 140737488350000 := by rw [List.length_append]; exact hl
  have HB1 : Hid (∀ W : World, Calls Try.prog 75 #[.int .i64 (c.msg.length : Int)] W fun e w' => e = .returned (.int .i64 (nBlk c.msg.length : Int)) ∧ W = w') := Lib.hid (fun W => rblocks_any _ W (by omega))
  have HB2 : Hid (∀ W : World, Calls Try.prog 75 #[.int .i64 ((c.msg.length + p.length : Nat) : Int)] W fun e w' => e = .returned (.int .i64 (nBlk (c.msg ++ p).length : Int)) ∧ W = w') := Lib.hid (fun W => by rw [← List.length_append]; exact rblocks_any _ W (by omega))
  have hn1 : nBlk c.msg.length ≤ 8796093022209 := by unfold nBlk; split <;> omega
  have hn2 : nBlk (c.msg ++ p).length ≤ 8796093022209 := by unfold nBlk; split <;> omega
  obtain ⟨N1, hN1⟩ : ∃ y, nBlk c.msg.length = y := ⟨_, rfl⟩
  obtain ⟨N2, hN2⟩ : ∃ y, nBlk (c.msg ++ p).length = y := ⟨_, rfl⟩
  rw [hN1] at HB1 hn1 hb
  rw [hN2] at HB2 hn2 hb
  have HNN := Lib.hid (And.intro hN1 hN2)
  obtain ⟨i0, hi0, hz0, hz1, hz2⟩ := info_parts info8
  have HI := Lib.hid (And.intro hi0 (And.intro hz0 (And.intro hz1 hz2)))
  have hown0 : w.ownsRow 0 5 1 (.slice none 0 0) 0 [] := World.ownsRow_nil w 0 _ 1
  have hy := Sl.of_bytes hp.ms
  unfold Rm.mv at hy
  clear h hp hu hN1 hN2 hmv hm1 hm2 hln
  unfold Rm.v
  go_enter Try.func57, Try.ntmps57
  go_wp2_with fail
  refine HIS.out.mono ?_
  rintro e w' ⟨rfl, rfl⟩
  go_wp2_with fail
  refine (HB1.out w).mono ?_
  rintro e w' ⟨rfl, rfl⟩
  go_wp2_with (at_builtin; refine wpList_append_sl _ rfl _ _ 22 rfl 5 i0 _ 1 1 Try.underlying22 hi0 hz0 hz1 hz2 rfl (by decide) (.slice none 0 0) 0 [] rfl hown0 (.slice c.ma c.msg.length c.mc) c.msg.length (c.msg.map B) rfl hy (by unfold maxLen; omega) (by omega) ?_)
  intro v1 w1 hown hgrow hat
  have hob : OB w1 v1 c.msg := by unfold OB; simpa using hown
  have hbel : Below w.heap.size w w1 := (Below.refl w.heap.size w).grown hgrow (Nat.le_refl _) (fun k hk => by simp [Value.ownBlock] at hk)
  have hfr : ∀ x, fpv v1 x → w.heap.size ≤ x := fun x hx => by
    have hx' : v1.ownBlock = some x := hx
    rcases hat with hat | hat
    · rw [hat] at hx'; simp [Value.ownBlock] at hx'
    · rw [hat] at hx'; simp at hx'; omega
  have hy2 := Sl.of_bytes (HUO.out.grow hbel)
  have hob2 := hob
  unfold OB at hob2
  obtain ⟨oa1, oc1, hv1, _⟩ := hob.rd.form
  subst hv1
  clear hown hgrow hat hown0 hy c1
  have c1 : w1.cell? ⟨c.b, 1, none⟩ = some (.slice c.ma c.msg.length c.mc) := (hbel.cell hbl).trans HP.out.sr.b
  go_wp2_with (at_builtin; refine wpList_append_sl _ rfl _ _ 22 rfl 5 i0 _ 1 1 Try.underlying22 hi0 hz0 hz1 hz2 rfl (by decide) (.slice oa1 c.msg.length oc1) c.msg.length (c.msg.map B) rfl hob2 (.slice uo p.length uc) p.length (p.map B) rfl hy2 (by unfold maxLen; omega) (by omega) ?_)
  intro v2 w2 hown hgrow hat _
  have hob3 : OB w2 v2 (c.msg ++ p) := by
    unfold OB
    rw [List.length_append, List.map_append]
    exact hown
  have ho2 : Only (fun x => x = c.b) w w2 := (Only.of_below hbel _).trans (Only.grown (Only.refl _ w1) hgrow (fun k hk => .inl hk) : Only (fpv (.slice oa1 c.msg.length oc1)) w1 w2) (fun x hx => .inr (hfr x hx))
  have hbw2 : Blk w2 c.b 118 #[c.kv, c.mv, .bool c.made] := by
    have hg1 : Only (fpv (.slice oa1 c.msg.length oc1)) w1 w2 := Only.grown (Only.refl _ w1) hgrow (fun k hk => .inl hk)
    exact (HP.out.blk.below hbel hbl).only hg1 (fun hx => by have := hfr _ hx; omega)
  have hfr2 : ∀ z, v2.ownBlock = some z → w.heap.size ≤ z := fun z hz => by
    have hs := hbel.size
    rcases hat with hat | hat
    · exact hfr z (by show (Value.slice oa1 c.msg.length oc1).ownBlock = some z; rw [← hat]; exact hz)
    · rw [hat] at hz; injection hz with hz; omega
  obtain ⟨oa2, oc2, hv2, _⟩ := hob3.rd.form
  rw [List.length_append] at hv2
  subst hv2
  have d1 := hbw2.cellAt 1 rfl
  have df := hbw2.unfrozen 1
  have dl := hbw2.lt
  have ho3 : Only (fun x => x = c.b) w (w2.setCell ⟨c.b, 1, none⟩ (.slice oa2 (c.msg.length + p.length) oc2)) := ho2.set (p := ⟨c.b, 1, none⟩) (.inl rfl) _
  have hobs3 : Bs (w2.setCell ⟨c.b, 1, none⟩ (.slice oa2 (c.msg.length + p.length) oc2)) (.slice oa2 (c.msg ++ p).length oc2) (c.msg ++ p) := by
    rw [List.length_append]
    exact hob3.rd.only' ((Only.refl (fun x => x = c.b) w2).set (p := ⟨c.b, 1, none⟩) (.inl rfl) _) (fun _ x hx e => by have := hfr2 x hx; omega)
  have hput := rmPut HE.out i hi k hk c hc { c with ma := oa2, mc := oc2, msg := c.msg ++ p } rfl rfl rfl ho3 (fun _ z hz => .inl (hfr2 z (by rw [← List.length_append]; exact hz))) (by
    have h := hbw2.set 1 (.slice oa2 (c.msg.length + p.length) oc2)
    show Blk _ c.b _ #[c.kv, .slice oa2 (c.msg ++ p).length oc2, .bool c.made]
    rw [List.length_append]
    exact h) hobs3
  have H3 := Lib.hid hput
  clear hown hgrow hat hob hob2 hob3 hfr hfr2 hy2 hbel ho2 ho3 hobs3 hput hbw2 c1 hi0 hz0 hz1 hz2
  have hilt := (List.getElem?_eq_some_iff.1 hi).1
  go_upto_region 7 with fail
  clear d1 df dl
  obtain ⟨w3, hw3⟩ : ∃ y, w2.setCell ⟨c.b, 1, none⟩ (.slice oa2 (c.msg.length + p.length) oc2) = y := ⟨_, rfl⟩
  rw [hw3] at H3 ⊢
  clear hw3
  obtain ⟨c', hc'⟩ : ∃ y : Rm, { c with ma := oa2, mc := oc2, msg := c.msg ++ p } = y := ⟨_, rfl⟩
  rw [hc'] at H3
  obtain ⟨O, hO⟩ : ∃ y, obs.set i (obM2 (mpt1 k r (some c')) (mpt2 k s (some c'))) = y := ⟨_, rfl⟩
  have hiO : O[i]? = some (obM2 (mpt1 k r (some c')) (mpt2 k s (some c'))) := by rw [← hO]; exact List.getElem?_set_self hilt
  have hjO : O[j]? = some (obR q o) := by rw [← hO, List.getElem?_set_ne (by omega)]; exact hj
  rw [hO] at H3
  obtain ⟨F3, hp3⟩ := H3.out.m2 i hiO k c' (sideM_put _ _ _ _)
  have e1 : w3.cell? ⟨c.b, 1, none⟩ = some (.slice oa2 (c.msg.length + p.length) oc2) := by
    have h := hp3.sr.b
    rw [← hc'] at h
    rw [← List.length_append]
    exact h
  have hHO := Lib.hid (And.intro hO hc')
  clear hp3 hO
  go_wp2_with fail
  refine (HB2.out w3).mono ?_
  rintro e w' ⟨rfl, rfl⟩
  have hkeyl : c'.key.length = c.key.length := by rw [← hc']
  have hvv : c'.v = .pointer (some ⟨c.b, 0, none⟩) := by rw [← hc']; rfl
  have hae := rmAes_env H3.out i j hiO hjO k c' (sideM_put _ _ _ _) ((N2 : Int) - (N1 : Int)) hb
  rw [hvv, hkeyl] at hae
  have HAE := Lib.hid hae
  clear hae hvv hkeyl hc'
  go_wp2_with fail
  refine HAE.out.mono ?_
  rintro e w4 ⟨rfl, h5⟩
  have H5 := Lib.hid h5
  clear h5 e1
  go_wp2
  go_ret
  refine ⟨c', rfl, by rw [← hHO.out.2], by rw [← hHO.out.2]; exact hm, by rw [← hHO.out.2], by rw [← hHO.out.2], ?_⟩
  rw [HNN.out.1, HNN.out.2, hHO.out.1]
  exact H5.out
end
end Go.Proofs.Ytpampcokonicfaa
/- The document's cipher: Wipe and New over a law's world. -/
namespace Go.Proofs.Ytpampcokonicfaa
open Go.RowKit
set_option maxRecDepth 100000
set_option linter.unusedVariables false
set_option linter.unusedSimpArgs false
def offC (c : Rc) : Rc := { c with made := false }
def off1 (k : Nat) (r : Option Rc) : Option Rc := if k = 0 then r.map offC else r
def off2 (k : Nat) (s : Option Rc) : Option Rc := if k = 0 then s else s.map offC
/-- side k is x -/
def put1 (k : Nat) (r x : Option Rc) : Option Rc := if k = 0 then x else r
def put2 (k : Nat) (s x : Option Rc) : Option Rc := if k = 0 then s else x
theorem rcApart.symm {r s : Option Rc} (h : rcApart r s) : rcApart s r := fun x y hx hy => by
  obtain ⟨a, b, c, d, e⟩ := h y x hy hx
  exact ⟨fun e => a e.symm, d, e, b, c⟩
section
variable {w0 w : World} {obs : List Ob}
theorem right_any (n : Nat) (w : World) (b : Bool) (hb : b = decide (n = 16 ∨ n = 24 ∨ n = 32)) : Calls Try.prog 71 #[.int .i64 (n : Int)] w fun e w' => e = .returned (.bool b) ∧ w = w' := by
  have hcase : (n = 16) ∨ (n ≠ 16 ∧ n = 24) ∨ (n ≠ 16 ∧ n ≠ 24 ∧ n = 32) ∨ (n ≠ 16 ∧ n ≠ 24 ∧ n ≠ 32) := by omega
  rcases hcase with h | ⟨h1, h⟩ | ⟨h1, h2, h⟩ | ⟨h1, h2, h3⟩
  · have t1 : ((n : Int) == 16) = true := by rw [h]; rfl
    obtain rfl : b = true := by rw [hb, decide_eq_true_eq]; omega
    clear hb h
    go_enter Try.func71, Try.ntmps71
    go_wp2
    go_ret
    exact ⟨rfl, rfl⟩
  · have t1 : ((n : Int) == 16) = false := by rw [beq_eq_false_iff_ne]; omega
    have t2 : ((n : Int) == 24) = true := by rw [h]; rfl
    obtain rfl : b = true := by rw [hb, decide_eq_true_eq]; omega
    clear hb h h1
    go_enter Try.func71, Try.ntmps71
    go_wp2
    go_ret
    exact ⟨rfl, rfl⟩
  · have t1 : ((n : Int) == 16) = false := by rw [beq_eq_false_iff_ne]; omega
    have t2 : ((n : Int) == 24) = false := by rw [beq_eq_false_iff_ne]; omega
    have t3 : ((n : Int) == 32) = true := by rw [h]; rfl
    obtain rfl : b = true := by rw [hb, decide_eq_true_eq]; omega
    clear hb h h1 h2
    go_enter Try.func71, Try.ntmps71
    go_wp2
    go_ret
    exact ⟨rfl, rfl⟩
  · have t1 : ((n : Int) == 16) = false := by rw [beq_eq_false_iff_ne]; omega
    have t2 : ((n : Int) == 24) = false := by rw [beq_eq_false_iff_ne]; omega
    have t3 : ((n : Int) == 32) = false := by rw [beq_eq_false_iff_ne]; omega
    obtain rfl : b = false := by rw [hb, decide_eq_false_iff_not]; omega
    clear hb h1 h2 h3
    go_enter Try.func71, Try.ntmps71
    go_wp2
    go_ret
    exact ⟨rfl, rfl⟩
end
end Go.Proofs.Ytpampcokonicfaa
/- The document's Macs: New, Tag. -/
namespace Go.Proofs.Ytpampcokonicfaa
open Go.RowKit
set_option maxRecDepth 100000
set_option linter.unusedVariables false
set_option linter.unusedSimpArgs false
section
variable {w0 w : World} {obs : List Ob}
theorem rmNew_no {u q : Value} {key : List UInt8} (hu : Bs w u key) (hk : ¬ RightLen key.length) :
    Calls Try.prog 53 #[q, u] w fun e w' => e = .returned (.tuple #[.pointer none, .int .i64 7]) ∧ w = w' := by
  obtain ⟨ao, cap, rfl, h1, h2, _, _⟩ := hu.form
  have hb : false = decide (key.length = 16 ∨ key.length = 24 ∨ key.length = 32) := by
    symm
    rw [decide_eq_false_iff_not]
    exact hk
  have HB := Lib.hid hb
  clear hu hb
  go_enter Try.func53, Try.ntmps53
  go_wp2_with fail
  refine (right_any key.length w false HB.out).mono ?_
  rintro e w1 ⟨rfl, rfl⟩
  go_wp2
  go_ret2
  exact ⟨rfl, rfl⟩
/-- a Mac made in new blocks, put at side k -/
theorem rmMake (h : Env w0 w obs) (i : Nat) {r s : Option Rm} (hi : obs[i]? = some (obM2 r s)) (k : Nat) (hk : k < 2) (c : Rm) {w3 : World} (hb : Below w.heap.size w w3) (hc : w.heap.size ≤ c.b) (hblk : Blk w3 c.b 118 #[c.kv, c.mv, .bool c.made]) (hks : Bs w3 c.kv c.key) (hkf : c.key ≠ [] → ∀ x, c.kv.ownBlock = some x → w.heap.size ≤ x ∧ x ≠ c.b) (hmsg : c.msg = []) (hms : Bs w3 c.mv c.msg) (hr : RightLen c.key.length) :
    Env w0 w3 (obs.set i (obM2 (mpt1 k r (some c)) (mpt2 k s (some c)))) := by
  obtain ⟨F, ⟨a1, a2, a3, a4, a5⟩, _, _, hup⟩ := h.get i hi
  have hcP : RmP w3 (fun x => F x ∨ (w.heap.size ≤ x ∧ x < w3.heap.size)) c :=
    ⟨hblk, hks, hms, .inr ⟨hc, hblk.lt⟩, fun h0 x hx => ⟨.inr ⟨(hkf h0 x hx).1, hks.inside h0 x hx⟩, (hkf h0 x hx).2⟩, fun h0 => absurd hmsg h0, hr⟩
  have up : ∀ {x : Option Rm}, RmO w F x → RmO w3 (fun x => F x ∨ (w.heap.size ≤ x ∧ x < w3.heap.size)) x := fun {x} hx => by
    cases x with
    | none => trivial
    | some y => exact (RmP.below hx hb).wider (fun x hx => .inl hx)
  have ap1 : ∀ {x : Option Rm}, RmO w F x → rmApart (some c) x := fun {x} hx a y ha hy => by
    injection ha with ha
    subst ha
    rw [hy] at hx
    have e1 := a5 _ (RmP.fb hx)
    refine ⟨by omega, fun h0 z hz => ?_, fun h0 z hz => ?_⟩
    · have := a5 _ (RmP.kin hx h0 z hz).1
      omega
    · have := a5 _ (RmP.min hx h0 z hz).1
      omega
  have ap2 : ∀ {x : Option Rm}, RmO w F x → rmApart x (some c) := fun {x} hx a y ha hy => by
    injection hy with hy
    subst hy
    rw [ha] at hx
    have e1 := a5 _ (RmP.fb hx)
    refine ⟨by omega, fun h0 z hz => ?_, fun h0 => absurd hmsg h0⟩
    have := (hkf h0 z hz).1
    omega
  refine hup w3 (fun x => F x ∨ (w.heap.size ≤ x ∧ x < w3.heap.size)) _ ?_ (Only.of_below hb _) (fun x hx => hx.imp id (fun e => e.1))
  have hlt : ∀ x, (F x ∨ (w.heap.size ≤ x ∧ x < w3.heap.size)) → x < w3.heap.size := fun x hx => by
    rcases hx with hx | hx
    · exact Nat.lt_of_lt_of_le (a5 x hx) hb.size
    · exact hx.2
  rcases (by omega : k = 0 ∨ k = 1) with rfl | rfl
  · exact ⟨hcP, up a2, ap1 a2, ap2 a2, hlt⟩
  · exact ⟨up a1, hcP, ap2 a1, ap1 a1, hlt⟩
set_option maxHeartbeats 1000000 in
theorem rmNew_env (h : Env w0 w obs) (i j : Nat) (hij : i ≠ j) {r s : Option Rm} {q : Value} {o : Option (List Rn)} (hi : obs[i]? = some (obM2 r s)) (hj : obs[j]? = some (obR q o)) (hb : Room o 1) (k : Nat) (hk : k < 2) {u : Value} {key : List UInt8} (hu : Bs w0 u key) (hr : RightLen key.length) (hb2 : Room (noteO o 4 key.length 1) 1) :
    Calls Try.prog 53 #[q, u] w fun e w' => ∃ c : Rm, e = .returned (.tuple #[c.v, .int .i64 0]) ∧ c.made = true ∧ c.key = key ∧ c.msg = [] ∧ Env w0 w' ((obs.set i (obM2 (mpt1 k r (some c)) (mpt2 k s (some c)))).set j (obR q (timesO (noteO o 4 key.length 1) 5 key.length 1))) := by
  have HUO := Lib.hid (h.old hu)
  obtain ⟨ao, cap, rfl, h1, h2, _, _⟩ := hu.form
  have hb1 : true = decide (key.length = 16 ∨ key.length = 24 ∨ key.length = 32) := by
    symm
    rw [decide_eq_true_eq]
    exact hr
  have HB1 := Lib.hid hb1
  have HE := Lib.hid h
  have hk32 : key.length ≤ 32 := by rcases hr with h | h | h <;> omega
  have HR := Lib.hid hr
  have hilt := (List.getElem?_eq_some_iff.1 hi).1
  obtain ⟨i0, hi0, hz0, hz1, hz2⟩ := info_parts info8
  clear hb1 hu h hr
  go_enter Try.func53, Try.ntmps53
  go_wp2_with fail
  refine (right_any key.length w true HB1.out).mono ?_
  rintro e w1 ⟨rfl, rfl⟩
  go_upto_region 4 with fail
  obtain ⟨b, hbb⟩ : ∃ y, w.heap.size = y := ⟨_, rfl⟩
  obtain ⟨w1, hw1⟩ : ∃ y, w.alloc (.cells #[.slice none 0 0, .slice none 0 0, .bool true] 118) = y := ⟨_, rfl⟩
  have hbw1 : Below w.heap.size w w1 := by rw [← hw1]; exact (Below.refl _ _).alloc (Nat.le_refl _) _
  have hB1 : Blk w1 b 118 #[.slice none 0 0, .slice none 0 0, .bool true] := by rw [← hw1, ← hbb]; exact Blk.at rfl rfl
  rw [hw1, hbb]
  have HBB := Lib.hid hbb
  clear hw1 hbb
  have c0 := hB1.cellAt 0 rfl
  have hbl := hB1.lt
  have hown0 : w1.ownsRow 0 5 1 (.slice none 0 0) 0 [] := World.ownsRow_nil w1 0 _ 1
  have hy := Sl.of_bytes (HUO.out.grow hbw1)
  go_wp2_with (at_builtin; refine wpList_append_sl _ rfl _ _ 22 rfl 5 i0 _ 1 1 Try.underlying22 hi0 hz0 hz1 hz2 rfl (by decide) (.slice none 0 0) 0 [] rfl hown0 (.slice ao key.length cap) key.length (key.map B) rfl hy (by unfold maxLen; omega) (by omega) ?_)
  intro v1 w2 hown hgrow hat
  have hob : OB w2 v1 key := by unfold OB; simpa using hown
  have hbel : Below w1.heap.size w1 w2 := (Below.refl w1.heap.size w1).grown hgrow (Nat.le_refl _) (fun k hk => by simp [Value.ownBlock] at hk)
  have hfr : ∀ x, v1.ownBlock = some x → w1.heap.size ≤ x := fun x hx' => by
    rcases hat with hat | hat
    · rw [hat] at hx'; simp [Value.ownBlock] at hx'
    · rw [hat] at hx'; simp at hx'; omega
  obtain ⟨oa1, oc1, hv1, _⟩ := hob.rd.form
  subst hv1
  have hB2 := hB1.below hbel hbl
  have d0 := hB2.cellAt 0 rfl
  have df := hB2.unfrozen 0
  have dl := hB2.lt
  obtain ⟨c, hcc⟩ : ∃ y : Rm, ⟨b, oa1, oc1, none, 0, true, key, []⟩ = y := ⟨_, rfl⟩
  have hmk : Env w0 (w2.setCell ⟨b, 0, none⟩ (.slice oa1 key.length oc1)) (obs.set i (obM2 (mpt1 k r (some c)) (mpt2 k s (some c)))) := by
    rw [← hcc]
    refine rmMake HE.out i hi k hk ⟨b, oa1, oc1, none, 0, true, key, []⟩ ?_ (by show w.heap.size ≤ b; have := HBB.out; omega) ?_ ?_ (fun h0 x hx => ?_) rfl (Bs.nil _) HR.out
    · have h9 : Below w.heap.size w w2 := hbw1.trans (hbel.mono hbw1.size)
      exact h9.setCell (by show w.heap.size ≤ b; have := HBB.out; omega) _
    · exact hB2.set 0 _
    · exact hob.rd.only' ((Only.refl (fun x => x = b) w2).set (p := ⟨b, 0, none⟩) (.inl rfl) _) (fun _ x hx e => by have := hfr x hx; omega)
    · have h1 := hfr x hx
      have h2 := hbw1.size
      have h3 := HBB.out
      exact ⟨by omega, by show x ≠ b; omega⟩
  have H3 := Lib.hid hmk
  clear hown hgrow hat hown0 hy hob hbel hfr hmk hB1 hB2 c0 hi0 hz0 hz1 hz2 HE hbw1
  go_upto_region 5 with fail
  clear d0 df dl
  obtain ⟨w3, hw3⟩ : ∃ y, w2.setCell ⟨b, 0, none⟩ (.slice oa1 key.length oc1) = y := ⟨_, rfl⟩
  rw [hw3] at H3 ⊢
  clear hw3
  obtain ⟨O, hO⟩ : ∃ y, obs.set i (obM2 (mpt1 k r (some c)) (mpt2 k s (some c))) = y := ⟨_, rfl⟩
  have hiO : O[i]? = some (obM2 (mpt1 k r (some c)) (mpt2 k s (some c))) := by rw [← hO]; exact List.getElem?_set_self hilt
  have hjO : O[j]? = some (obR q o) := by rw [← hO, List.getElem?_set_ne (by omega)]; exact hj
  rw [hO] at H3
  have HO := Lib.hid (And.intro hO hcc)
  have hcv : c.v = .pointer (some ⟨b, 0, none⟩) := by rw [← hcc]; rfl
  have hck : c.key = key := by rw [← hcc]
  clear hO hcc
  have hjlt := (List.getElem?_eq_some_iff.1 hjO).1
  go_wp2_with fail
  refine (noteR_env' H3.out j hjO 4 key.length hb).mono ?_
  rintro e w4 ⟨rfl, h5⟩
  have hae := rmAes_env h5 i j (by rw [List.getElem?_set_ne (by omega)]; exact hiO) (List.getElem?_set_self hjlt) k c (sideM_put _ _ _ _) 1 hb2
  rw [hcv, hck, List.set_set] at hae
  have HAE := Lib.hid hae
  clear hae hcv hck h5
  go_wp2_with fail
  refine HAE.out.mono ?_
  rintro e w5 ⟨rfl, h6⟩
  have H6 := Lib.hid h6
  clear h6
  go_wp2
  go_ret2
  refine ⟨c, by rw [← HO.out.2]; rfl, by rw [← HO.out.2], by rw [← HO.out.2], by rw [← HO.out.2], ?_⟩
  rw [HO.out.1]
  exact H6.out
end
end Go.Proofs.Ytpampcokonicfaa
/- The contracts of package cmac without a ledger, over a world that is a list of things. -/
namespace Go.Proofs.Ytpampcokonicfaa
open Go.RowKit
set_option maxRecDepth 100000
set_option linter.unusedVariables false
set_option linter.unusedSimpArgs false
def mcC (c : Nat) (key : List UInt8) : Ob := obC (.pointer (some ⟨c, 0, none⟩)) (some (key.length, sched key))
def mcB (b c : Nat) (m : MacS) : Ob := obK b 76 (macC (.pointer (some ⟨c, 0, none⟩)) m)
def mcT (g : Nat) (T : List UInt8) : Ob := obK g 31 (barr T)
section
variable {w0 w : World} {obs : List Ob}
/-- a thing in the middle is forgotten -/
theorem Env.cut {A B : List Ob} {x : Ob} (h : Env w0 w (A ++ [x] ++ B)) : Env w0 w (A ++ B) := by
  rw [List.append_assoc] at h
  refine h.pick (fun j => if j < A.length then j else j + 1) (fun i j _ _ he => ?_) (fun j ob hj => ?_)
  · split at he <;> split at he <;> omega
  · by_cases hlt : j < A.length
    · rw [if_pos hlt]
      rw [List.getElem?_append_left hlt] at hj ⊢
      exact hj
    · rw [if_neg hlt]
      rw [List.getElem?_append_right (by omega)] at hj ⊢
      rw [show j + 1 - A.length = (j - A.length) + 1 from by omega]
      simpa using hj
def nilP : Ob := obP (.pointer none) none
theorem Env.pushNilP (h : Env w0 w obs) : Env w0 w (obs ++ [nilP]) := h.push (F' := fun _ => False) nilP (LgP.nil w) (Below.refl _ _) (fun x hx => hx.elim)
theorem at_end {α : Type} {A : List α} {x : α} : (A ++ [x])[A.length]? = some x := by simp
theorem set_end {α : Type} {A : List α} {x y : α} : (A ++ [x]).set A.length y = A ++ [y] := by simp
theorem Src.more {i : Nat} {u : Value} {xs : List UInt8} (h : Src w0 w obs i u xs) (x : Ob) : Src w0 w (obs ++ [x]) i u xs :=
  ⟨h.1, fun h0 y hy => by
    rcases h.2 h0 y hy with hh | ⟨j, v, l, hj, hv, hvx⟩
    · exact .inl hh
    · exact .inr ⟨j, v, l, hj, at_l hv, hvx⟩⟩
theorem newM_nil (h : Env w0 w obs) {u : Value} {key : List UInt8} (hu : Src w0 w obs obs.length u key) (hk : RightLen key.length) :
    Calls Try.prog 10 #[.pointer none, u] w fun e w' => ∃ b c : Nat, e = .returned (.tuple #[.pointer (some ⟨b, 0, none⟩), .int .i64 0]) ∧ Env w0 w' (obs ++ [mcC c key, mcB b c (stM key []).1]) :=
  (newMac_env h.pushNilP obs.length at_end (Room.none 1) (Room.none 1) (hu.more _) hk).mono fun e w' ⟨b, c, he, h1⟩ => ⟨b, c, he, by
    rw [set_end] at h1
    exact h1.cut⟩
/-- New of any key -/
theorem newM_both (h : Env w0 w obs) {u : Value} {key : List UInt8} (hu : Src w0 w obs obs.length u key) :
    Calls Try.prog 10 #[.pointer none, u] w fun e w' => (RightLen key.length ∧ ∃ b c : Nat, e = .returned (.tuple #[.pointer (some ⟨b, 0, none⟩), .int .i64 0]) ∧ Env w0 w' (obs ++ [mcC c key, mcB b c (stM key []).1])) ∨
      (¬ RightLen key.length ∧ e = .returned (.tuple #[.pointer none, .int .i64 7]) ∧ Env w0 w' obs) := by
  by_cases hk : RightLen key.length
  · exact (newM_nil h hu hk).mono fun e w' hh => .inl ⟨hk, hh⟩
  · exact (newM_off _ u key w hu.1 hk).mono fun e w' ⟨he, hw⟩ => .inr ⟨hk, he, by rw [← hw]; exact h⟩
theorem writeK_nil (h : Env w0 w obs) (i j : Nat) (hij : i ≠ j) {b c : Nat} {key p0 : List UInt8} (hk : RightLen key.length) (hi : obs[i]? = some (mcC c key)) (hj : obs[j]? = some (mcB b c (stM key p0).1))
    {u : Value} {p : List UInt8} (hp : ∀ wx obs', Env w0 wx obs' → (∀ x ob, x ≠ j → obs[x]? = some ob → obs'[x]? = some ob) → Bs wx u p) :
    Calls Try.prog 21 #[.pointer (some ⟨b, 0, none⟩), .pointer none, u] w fun e w' => e = .returned (.int .i64 0) ∧ Env w0 w' (obs.set j (mcB b c (stM key (p0 ++ p)).1)) := by
  have hil : i < obs.length := (List.getElem?_eq_some_iff.1 hi).1
  have hjl : j < obs.length := (List.getElem?_eq_some_iff.1 hj).1
  refine (writeK_env h.pushNilP i j obs.length hij (by omega) (by omega) hk (at_l hi) (at_l hj) at_end (u := u) (p := p) (fun wx obs' he hx => hp wx obs' he (fun x ob hxj hxo => hx x ob (by have := (List.getElem?_eq_some_iff.1 hxo).1; omega) hxj (at_l hxo))) (RoomN.none _ _)).mono fun e w' ⟨he, h1⟩ => ⟨he, ?_⟩
  rw [notedN_none, set_end, List.set_append_left _ _ hjl] at h1
  exact h1.drop
theorem sumK_nil (h : Env w0 w obs) (i j : Nat) (hij : i ≠ j) {b c : Nat} {key p : List UInt8} (hk : RightLen key.length) (hi : obs[i]? = some (mcC c key)) (hj : obs[j]? = some (mcB b c (stM key p).1)) :
    Calls Try.prog 22 #[.pointer (some ⟨b, 0, none⟩), .pointer none] w fun e w' => ∃ g : Nat, e = .returned (.tuple #[.slice (some ⟨g, 0, none⟩) 16 16, .int .i64 0]) ∧ Env w0 w' (obs ++ [mcT g (tagK key p)]) := by
  have hil : i < obs.length := (List.getElem?_eq_some_iff.1 hi).1
  have hjl : j < obs.length := (List.getElem?_eq_some_iff.1 hj).1
  refine (sumM_env h.pushNilP i j obs.length hij (by omega) (by omega) (at_l hi) (at_l hj) at_end (Room.none 1) (stM_ok key p) hk.bd.1).mono fun e w' ⟨g, he, h1⟩ => ⟨g, he, ?_⟩
  rw [set_end] at h1
  exact h1.cut
theorem wipeK_nil (h : Env w0 w obs) (i j : Nat) (hij : i ≠ j) {b c : Nat} {key p : List UInt8} (hk : RightLen key.length) (hi : obs[i]? = some (mcC c key)) (hj : obs[j]? = some (mcB b c (stM key p).1)) :
    Calls Try.prog 32 #[.pointer (some ⟨b, 0, none⟩), .pointer none] w fun e w' => e = .returned (.int .i64 0) ∧ Env w0 w' ((obs.set i (obC (.pointer (some ⟨c, 0, none⟩)) (some (0, zeroK)))).set j (obK b 76 (macC (.pointer none) zM))) := by
  have hil : i < obs.length := (List.getElem?_eq_some_iff.1 hi).1
  have hjl : j < obs.length := (List.getElem?_eq_some_iff.1 hj).1
  refine (wipeM_env h.pushNilP i j obs.length hij (by omega) (by omega) (at_l hi) (at_l hj) at_end (Room.none 1) (stM_ok key p) hk.bd.1 hk.bd.2.1 (sched_len key (by have := hk.bd; omega))).mono fun e w' ⟨he, h1⟩ => ⟨he, ?_⟩
  rw [set_end, List.set_append_left _ _ hil, List.set_append_left _ _ (by rw [List.length_set]; exact hjl)] at h1
  exact h1.drop
theorem tagK_nil (h : Env w0 w obs) {v u : Value} {key p : List UInt8} (hk : RightLen key.length) (hv : Src w0 w obs obs.length v key) (hu : ∀ (wx : World) (obs' : List Ob), Env w0 wx obs' → (∀ (x : Nat) (ob : Ob), obs[x]? = some ob → obs'[x]? = some ob) → Bs wx u p) :
    Calls Try.prog 18 #[.pointer none, v, u] w fun e w' => ∃ g : Nat, e = .returned (.tuple #[.slice (some ⟨g, 0, none⟩) 16 16, .int .i64 0]) ∧ Env w0 w' (obs ++ [mcT g (tagK key p)]) := by
  refine (tagM_env h.pushNilP obs.length at_end hk (hv.more _) (u := u) (p := p) (fun wx obs' he hx => hu wx obs' he (fun x ob hxo => hx x ob (by have := (List.getElem?_eq_some_iff.1 hxo).1; omega) (at_l hxo))) (Room.none 1) (RoomN.none _ _)).mono fun e w' ⟨g, he, h1⟩ => ⟨g, he, ?_⟩
  rw [show noteO none 4 key.length 1 = none from rfl, notedN_none, set_end] at h1
  exact h1.cut
theorem Env.tagB (h : Env w0 w obs) (i : Nat) {g : Nat} {T : List UInt8} (hT : T.length = 16) (hi : obs[i]? = some (mcT g T)) : Bs w (.slice (some ⟨g, 0, none⟩) 16 16) T := Env.tagR h i hT hi
end
end Go.Proofs.Ytpampcokonicfaa
/- Rows of one's own in a block of whatever type: their cells, what an append leaves. No program in sight. -/
namespace Go.Proofs.Ytpampcokonicfaa
open Go.RowKit
set_option maxRecDepth 100000
set_option linter.unusedVariables false
set_option linter.unusedSimpArgs false
def OwnsX (w : World) (base size : Nat) (v : Value) (n : Nat) (xs : List Value) : Prop := ∃ t, w.ownsRow base t size v n xs
section
variable {w w' : World} {base size n : Nat} {v : Value} {xs : List Value}
theorem OwnsX.of {t : TypeId} (h : w.ownsRow base t size v n xs) : OwnsX w base size v n xs := ⟨t, h⟩
theorem OwnsX.keep (h : OwnsX w base size v n xs) {S : Nat → Prop} (ho : Only S w w') (hd : ∀ x, fpv v x → ¬ S x) : OwnsX w' base size v n xs := by
  obtain ⟨t, h⟩ := h
  exact ⟨t, ownsRow_keep h ho hd⟩
theorem OwnsX.lt (h : OwnsX w base size v n xs) : ∀ x, fpv v x → x < w.heap.size := by
  obtain ⟨t, h⟩ := h
  exact fun x hx => (World.ownsRow.lt h x hx).2
theorem OwnsX.len (h : OwnsX w base size v n xs) : xs.length = n * size := by
  obtain ⟨t, h⟩ := h
  exact h.1
theorem OwnsX.hd (h : OwnsX w base size v n xs) : (v = .slice none 0 0 ∧ n = 0) ∨ ∃ g cap, v = .slice (some ⟨g, 0, none⟩) n cap := by
  obtain ⟨t, h⟩ := h
  rcases h.2 with h2 | ⟨g, cap, cur, rfl, _⟩
  · exact .inl h2
  · exact .inr ⟨g, cap, rfl⟩
theorem OwnsX.form (h : OwnsX w base size v n xs) (h0 : 0 < n) : ∃ g cap, v = .slice (some ⟨g, 0, none⟩) n cap ∧ True := by
  obtain ⟨t, h⟩ := h
  obtain ⟨g, cap, hv, _⟩ := World.ownsRow.form h h0
  exact ⟨g, cap, hv, trivial⟩
theorem OwnsX.cellAt {g cap : Nat} (h : OwnsX w base size (.slice (some ⟨g, 0, none⟩) n cap) n xs) (j : Nat) (hj : j < n * size) : w.cell? ⟨g, j, none⟩ = xs[j]? := by
  obtain ⟨t, h⟩ := h
  exact World.ownsRow.cellAt h j hj
theorem OwnsX.frozenAt {g cap : Nat} (h : OwnsX w base size (.slice (some ⟨g, 0, none⟩) n cap) n xs) (j : Nat) : w.frozen? ⟨g, j, none⟩ = false := by
  obtain ⟨t, h⟩ := h
  exact World.ownsRow.frozenAt h j
theorem OwnsX.sl (h : OwnsX w base size v n xs) (h1 : ∀ u ∈ xs, u.oneCell' = true) : Sl w size v n xs := by
  obtain ⟨t, h⟩ := h
  exact Sl.of_own h h1
theorem OwnsX.header (h : OwnsX w base size v n xs) : ∃ ao cap, v = .slice ao n cap ∧ n ≤ cap ∧ cap ≤ 9223372036854775807 ∧ (0 < n → ∃ g, ao = some ⟨g, 0, none⟩) := by
  obtain ⟨t, h⟩ := h
  exact Go.Proofs.Ytpampcokonicfaa.header h
end
def obX (size : Nat) (v : Value) (n : Nat) (cs : List Value) : Ob := ⟨fun w F => OwnsX w 0 size v n cs ∧ F = fpv v, fun h ho hd => ⟨h.1.keep ho (by rw [← h.2]; exact hd), h.2⟩, fun h => by rw [h.2]; exact h.1.lt⟩
section
variable {w0 w w' : World} {obs : List Ob}
theorem Env.rowX (h : Env w0 w obs) (i : Nat) {size n : Nat} {v : Value} {cs : List Value} (hi : obs[i]? = some (obX size v n cs)) : OwnsX w 0 size v n cs := by
  obtain ⟨F, h1, _⟩ := h.get i hi
  exact h1.1
theorem Env.turnX (h : Env w0 w obs) (i : Nat) {size n : Nat} {v : Value} {cs : List Value} (hi : obs[i]? = some (obX size v n cs)) {n' : Nat} {cs' : List Value} (hb : OwnsX w' 0 size v n' cs') (ho : Only (fpv v) w w') :
    Env w0 w' (obs.set i (obX size v n' cs')) := by
  obtain ⟨F, h1, _, _, h4⟩ := h.get i hi
  obtain ⟨_, rfl⟩ := h1
  exact h4 w' (fpv v) (obX size v n' cs') ⟨hb, rfl⟩ ho (fun x hx => .inl hx)
/-- a thing is known by less -/
theorem Env.weak (h : Env w0 w obs) (i : Nat) {a b : Ob} (hi : obs[i]? = some a) (hab : ∀ F, a.at' w F → b.at' w F) : Env w0 w (obs.set i b) := by
  obtain ⟨F, h1, _, _, h4⟩ := h.get i hi
  exact h4 w F b (hab F h1) (Only.refl _ _) (fun x hx => .inl hx)
end
/-- a list of bytes in a row of one's own, of whatever type -/
def obBX (v : Value) (l : List UInt8) : Ob := obX 1 v l.length (l.map B)
section
variable {w0 w w' : World} {obs : List Ob}
theorem Env.lastB {v : Value} {l : List UInt8} (h : Env w0 w (obs ++ [obB v l])) : Env w0 w (obs ++ [obBX v l]) := by
  have h1 := h.weak obs.length (a := obB v l) (b := obBX v l) (by simp) (fun F hF => ⟨⟨_, hF.1⟩, hF.2⟩)
  rw [List.set_append_right _ _ (Nat.le_refl _), Nat.sub_self] at h1
  exact h1
theorem Env.lastK {g : Nat} {t : TypeId} {l : List UInt8} (hl : l.length ≤ 9223372036854775807) (h : Env w0 w (obs ++ [obK g t (barr l)])) : Env w0 w (obs ++ [obBX (.slice (some ⟨g, 0, none⟩) l.length l.length) l]) := by
  have h1 := h.weak obs.length (a := obK g t (barr l)) (b := obBX (.slice (some ⟨g, 0, none⟩) l.length l.length) l) (by simp) (fun F hF => ⟨⟨_, Blk.owns hF.1 hl⟩, by
    rw [hF.2]
    funext x
    simp [fpv, Value.ownBlock, eq_comm]⟩)
  rw [List.set_append_right _ _ (Nat.le_refl _), Nat.sub_self] at h1
  exact h1
theorem Env.bytesX (h : Env w0 w obs) (i : Nat) {v : Value} {l : List UInt8} (hi : obs[i]? = some (obBX v l)) : Bs w v l := ((h.rowX i hi).sl (bytes_one l)).bytes
end
section
variable {P : Program} (w : World)
theorem run_append_X (t ty e : TypeId) (i : TypeInfo) (z : Value) (size bytes : Nat) (ht : P.underlying t = some (.slice e)) (hi : P.info? e = some i) (hz : i.zero = some z)
    (hsize : i.size = size) (hby : i.bytes = bytes) (hzs : z.cells.size = size) (hsz : 0 < size)
    (v : Value) (n : Nat) (xs : List Value) (hown : OwnsX w 0 size v n xs) (a : Addr) (m c : Nat) (news : List Value) (hl : news.length = m * size) (hnews : ∀ j u, news[j]? = some u → w.cell? (a.add j) = some u) (h1 : ∀ u ∈ news, u.oneCell' = true)
    (h63 : n + m ≤ maxLen) (hbytes : (n + m) * bytes ≤ 140737488355328) (hm : 0 < m) :
    ∃ v' w', (Builtin.append_ #[t, t] ty #[v, .slice (some a) m c]).run P w = .ok v' w' ∧ OwnsX w' 0 size v' (n + m) (xs ++ news) ∧ w.grownBy w' v.ownBlock ∧
      (v'.ownBlock = v.ownBlock ∨ v'.ownBlock = some w.heap.size ∧ ∀ b, b < w.heap.size → w'.heap[b]? = w.heap[b]?) ∧ v' ≠ .slice none 0 0 := by
  obtain ⟨t0, hown⟩ := hown
  rcases hown.2 with ⟨rfl, rfl⟩ | ⟨g, cap, cur, rfl, hbg, hg, hnc, hcm, hcs, htake⟩
  · have hx : xs = [] := List.eq_nil_of_length_eq_zero (by simpa using hown.1)
    subst hx
    obtain ⟨v', w', hr, g1, g2, g3, g4⟩ := run_append_keep (P := P) w t ty e i z size bytes ht hi hz hsize hby hzs hsz (.slice none 0 0) 0 [] (World.ownsRow_nil w 0 e size) a m c news hl hnews h1 h63 hbytes hm
    exact ⟨v', w', hr, ⟨e, g1⟩, g2, g3, g4⟩
  · subst hsize; subst hby
    have hsmall : n + m ≤ 9223372036854775807 := by simp only [maxLen] at h63; omega
    have hlen : (xs ++ news).length = (n + m) * i.size := by rw [List.length_append, hown.1, hl, Nat.add_mul]
    by_cases hroom : n + m ≤ cap
    · have hfit : n * i.size + news.length ≤ cur.size := by rw [hl, hcs, ← Nat.add_mul]; exact Nat.mul_le_mul_right _ hroom
      have hr : (Builtin.append_ #[t, t] ty #[.slice (some ⟨g, 0, none⟩) n cap, .slice (some a) m c]).run P w = .ok (.slice (some ⟨g, 0, none⟩) (n + m) cap) (w.setRow g (cur.toList.take (n * i.size) ++ news ++ cur.toList.drop (n * i.size + news.length)).toArray) := by
        have hf := run_firstCells_some (P := P) w i.size m a m c news hl hnews
        have hst := run_storeCells_at P g (n * i.size) t0 news 0 cur w hg (by simpa using hfit) h1
        simp only [Nat.add_zero] at hst
        simp [Builtin.append_, run_underlying ht, sizeOf, typeInfo, hi, Builtin.lenOf, hroom, hf, Addr.add_lit, hst]
      refine ⟨_, _, hr, ⟨t0, hlen, .inr ⟨g, cap, _, rfl, hbg, setRow_heap w g cur _ t0 _ hg, hroom, hcm, ?_, ?_⟩⟩, ⟨rfl, rfl, rfl, by simp, fun k _ hk => setRow_other w g k _ (fun e => hk (by simp [Value.ownBlock, e]))⟩, Or.inl rfl, by simp⟩
      · simp only [List.size_toArray, List.length_append, List.length_take, List.length_drop, Array.length_toList]
        omega
      · rw [htake, ← hlen]
        exact List.take_left
    · have holds : ∀ j u, xs[j]? = some u → w.cell? ((⟨g, 0, none⟩ : Addr).add j) = some u := hown.cells (g := g) rfl
      have hr := run_append_grow (P := P) w t ty e i z ht hi hz ⟨g, 0, none⟩ n cap xs hown.1 holds a m c news hl hnews (by omega) (by omega) (growslice_fits (by omega) hbytes)
      have hge := grownCap_ge w (n + m) cap e
      have hcm : grownCap w (n + m) cap e ≤ maxLen := grownCap_le_maxLen w (n + m) cap e h63
      refine ⟨_, _, hr, ⟨e, hlen, .inr ⟨w.heap.size, _, _, rfl, Nat.zero_le _, heap_alloc_new w.drew _, hge, hcm, ?_, ?_⟩⟩, ⟨rfl, rfl, rfl, by simp, fun k hk _ => heap_alloc_old w.drew _ hk⟩, Or.inr ⟨rfl, fun b hb => heap_alloc_old w.drew _ hb⟩, by simp⟩
      · simp only [Array.size_append, List.size_toArray, size_zeroCells, hzs, hown.1, hl, ← Nat.add_mul]
        congr 1
        omega
      · simp only [Array.toList_append, List.append_assoc]
        rw [← List.append_assoc, ← hlen]
        exact List.take_left
theorem wpList_append_X {ops : Array Oper} {rest : List Oper} {o : Oper} {a : Act} {Q : Exit → Act → World → Prop} (hgd : o.guard = none) (s x : Operand) (t : TypeId)
    (ho : o.op = .call { callee := .builtin .append, args := #[s, x], argTypes := #[t, t] })
    (e : TypeId) (i : TypeInfo) (z : Value) (size bytes : Nat) (ht : P.underlying t = some (.slice e)) (hi : P.info? e = some i) (hz : i.zero = some z)
    (hsize : i.size = size) (hby : i.bytes = bytes) (hzs : z.cells.size = size) (hsz : 0 < size)
    (v : Value) (n : Nat) (xs : List Value) (hs : a.eval s = v) (hown : OwnsX w 0 size v n xs) (ad : Addr) (m c : Nat) (news : List Value) (hx : a.eval x = .slice (some ad) m c)
    (hl : news.length = m * size) (hnews : ∀ j u, news[j]? = some u → w.cell? (ad.add j) = some u) (h1 : ∀ u ∈ news, u.oneCell' = true)
    (h63 : n + m ≤ maxLen) (hbytes : (n + m) * bytes ≤ 140737488355328) (hm : 0 < m)
    (h : ∀ v' w', OwnsX w' 0 size v' (n + m) (xs ++ news) → w.grownBy w' v.ownBlock → (v'.ownBlock = v.ownBlock ∨ v'.ownBlock = some w.heap.size ∧ ∀ b, b < w.heap.size → w'.heap[b]? = w.heap[b]?) → v' ≠ .slice none 0 0 → wpList P ops Q rest (a.put o.dst v') w') : wpList P ops Q (o :: rest) a w :=
  wpList_plain hgd fun _ hK => by
    obtain ⟨v', w', hr, g1, g2, g3, g4⟩ := run_append_X (P := P) w t o.type e i z size bytes ht hi hz hsize hby hzs hsz v n xs hown ad m c news hl hnews h1 h63 hbytes hm
    unfold Oper.wp execOp
    simp only [ho, resolve, invoke, builtin, Sem.run_bind, Sem.run_pure, Result.andThen_ok, List.map_toArray, List.map_cons, List.map_nil, hs, hx, hr]
    exact hK _ _ (h v' w' g1 g2 g3 g4)
end
theorem OwnsX.setCells {base : Nat} {size g n cap : Nat} (vs : List Value) (w : World) (xs : List Value) (o : Nat) (h : OwnsX w base size (.slice (some ⟨g, 0, none⟩) n cap) n xs) (put : List Value → Nat → List Value → List Value)
    (hp : ∀ t, w.ownsRow base t size (.slice (some ⟨g, 0, none⟩) n cap) n xs → (w.setCells g o vs).ownsRow base t size (.slice (some ⟨g, 0, none⟩) n cap) n (put xs o vs)) : OwnsX (w.setCells g o vs) base size (.slice (some ⟨g, 0, none⟩) n cap) n (put xs o vs) := by
  obtain ⟨t, h⟩ := h
  exact ⟨t, hp t h⟩
end Go.Proofs.Ytpampcokonicfaa
/- A Mac of the program and the document's: one state of both, one answer of both; what both record. -/
namespace Go.Proofs.Ytpampcokonicfaa
open Go.RowKit
set_option maxRecDepth 100000
set_option linter.unusedVariables false
set_option linter.unusedSimpArgs false
/-- a Mac of the program: none; of a key and a message; wiped -/
inductive Pm where
  | no
  | live (b c : Nat) (key msg : List UInt8)
  | off (b c : Nat)
def Pm.v : Pm → Value
  | .no => .pointer none
  | .live b _ _ _ => .pointer (some ⟨b, 0, none⟩)
  | .off b _ => .pointer (some ⟨b, 0, none⟩)
def Pm.oc : Pm → Ob
  | .no => obC (.pointer none) none
  | .live _ c key _ => mcC c key
  | .off _ c => obC (.pointer (some ⟨c, 0, none⟩)) (some (0, zeroK))
def Pm.om : Pm → Ob
  | .no => obC (.pointer none) none
  | .live b c key msg => mcB b c (stM key msg).1
  | .off b _ => obK b 76 (macC (.pointer none) zM)
def Pm.made : Pm → Bool
  | .live _ _ _ _ => true
  | _ => false
def Pm.code (p : Pm) : Int := if p.made = true then 0 else 1
/-- the same Mac -/
def relM : Pm → Option Rm → Prop
  | .no, none => True
  | .live _ _ key msg, some r => r.made = true ∧ r.key = key ∧ r.msg = msg ∧ RightLen key.length
  | .off _ _, some r => r.made = false
  | _, _ => False
theorem relM.made {p : Pm} {R : Option Rm} (h : relM p R) : rmMade R = p.made := by
  match p, R, h with
  | .no, none, _ => rfl
  | .live _ _ _ _, some r, h => exact h.1
  | .off _ _, some r, h => exact h
theorem relM.isNone {p : Pm} {R : Option Rm} (h : relM p R) : R = none ↔ p = .no := by
  match p, R, h with
  | .no, none, _ => simp
  | .live _ _ _ _, some r, h => simp
  | .off _ _, some r, h => simp
theorem Pm.is_live {p : Pm} (h : p.made = true) : ∃ b c key msg, p = .live b c key msg := by
  match p, h with
  | .live b c key msg, _ => exact ⟨b, c, key, msg, rfl⟩
theorem relM.get {b c : Nat} {key msg : List UInt8} {R : Option Rm} (h : relM (.live b c key msg) R) : ∃ r, R = some r ∧ r.made = true ∧ r.key = key ∧ r.msg = msg ∧ RightLen key.length := by
  match R, h with
  | some r, h => exact ⟨r, rfl, h⟩
def Pm.tag : Pm → List UInt8
  | .live _ _ key msg => tagR key msg
  | _ => []
def Pm.form : Pm → List UInt8
  | .live _ _ key msg => formR key msg
  | _ => []
def Pm.write (p : Pm) (d : List UInt8) : Pm := match p with
  | .live b c key msg => .live b c key (msg ++ d)
  | p => p
def Pm.reset : Pm → Pm
  | .live b c key _ => .live b c key []
  | p => p
def Pm.wipe : Pm → Pm
  | .live b c _ _ => .off b c
  | p => p
def Pm.noteW (p : Pm) (d : List UInt8) (o : Option (List Rn)) : Option (List Rn) := match p with
  | .live _ _ key msg => notedN o key.length (lastB (msg ++ d).length - lastB msg.length)
  | _ => o
def Pm.noteS (p : Pm) (o : Option (List Rn)) : Option (List Rn) := match p with
  | .live _ _ key _ => noteO o 5 key.length 1
  | _ => o
def Pm.noteX (p : Pm) (o : Option (List Rn)) : Option (List Rn) := match p with
  | .live _ _ key _ => noteO o 8 ((16 * (key.length / 4 + 6 + 1) + 65 : Nat) : Int) 1
  | _ => o
def noteN (o : Option (List Rn)) (n : Nat) : Option (List Rn) := noteO (noteO o 4 n 1) 5 n 1
def noteT (o : Option (List Rn)) (n l : Nat) : Option (List Rn) := notedN (noteO o 4 n 1) n (lastB l + 2)
def Pm.msgLen : Pm → Nat
  | .live _ _ _ msg => msg.length
  | _ => 0
theorem tagOf_is (key p : List UInt8) : tagOf (sched key) key.length (stM key p).1 = tagR key p := by
  rw [stM_is]
  unfold tagOf tagR restM lastOf keyOf
  simp only
  have hl := lastN_le p
  have e : p.length - 16 * lastB p.length = lastN p := rfl
  rw [e]
  by_cases h : lastN p = 16
  · rw [if_neg (by omega), if_neg (by omega), if_pos h]
  · rw [if_pos (by omega), if_pos (by omega), if_neg h]
theorem tagK_is (key p : List UInt8) : tagK key p = tagR key p := tagOf_is key p
theorem formOf_is (key p : List UInt8) : formOf (sched key) key.length (stM key p).1 = formR key p := by
  rw [stM_is]
  rfl
theorem lastB_le {a b : Nat} (h : a ≤ b) : lastB a ≤ lastB b := by
  unfold lastB nBlk
  split <;> split <;> omega
theorem lastB_lt (a : Nat) : lastB a ≤ a := by
  unfold lastB nBlk
  split <;> omega
theorem nBlk_is (a : Nat) : nBlk a = lastB a + 1 := by
  unfold lastB nBlk
  split <;> omega
theorem stM_two (key p : List UInt8) : (stM key p).2 = lastB p.length := by rw [stM_is]; rfl
theorem noteO_more (o : Option (List Rn)) (s a b : Int) : noteO (noteO o 5 s a) 5 s b = noteO o 5 s (a + b) := by
  cases o with
  | none => rfl
  | some rs =>
    show some (noteL (noteL rs 5 s a) 5 s b) = some (noteL rs 5 s (a + b))
    congr 1
    rcases List.eq_nil_or_concat rs with rfl | ⟨r0, r, rfl⟩
    · exact noteL_same [] ⟨5, s, a⟩ b
    · rw [List.concat_eq_append]
      by_cases h : r.k = 5 ∧ r.s = s
      · obtain ⟨k, s', c⟩ := r
        simp only at h
        obtain ⟨rfl, rfl⟩ := h
        rw [noteL_same r0 ⟨5, s', c⟩ a, noteL_same r0 ⟨5, s', c⟩ (a + b), noteL_same r0 ⟨5, s', c + a⟩ b, Int.add_assoc]
      · rw [noteL_other _ _ _ _ _ h, noteL_other _ _ _ _ _ h, noteL_same _ ⟨5, s, a⟩ b]
theorem notedN_succ (o : Option (List Rn)) (k : Nat) : ∀ e : Nat, notedN o k (e + 1) = noteO o 5 k ((e : Int) + 1)
  | 0 => rfl
  | e + 1 => by
    show noteO (notedN o k (e + 1)) 5 k 1 = _
    rw [notedN_succ o k e, noteO_more]
    rfl
/-- as the document says it -/
theorem times_noted (o : Option (List Rn)) (k e : Nat) (n : Int) (hn : n = (e : Int)) : timesO o 5 k n = notedN o k e := by
  subst hn
  unfold timesO
  cases e with
  | zero => rfl
  | succ e => rw [if_neg (by omega), notedN_succ]; rfl
/-- what is recorded: d events more at most -/
def Upd (o o' : Option (List Rn)) (d : Nat) : Prop := match o, o' with
  | none, none => True
  | some a, some b => tot a ≤ tot b ∧ tot b ≤ tot a + d ∧ b.length ≤ a.length + d
  | _, _ => False
theorem Upd.refl (o : Option (List Rn)) : Upd o o 0 := by
  cases o with
  | none => trivial
  | some a => exact ⟨Int.le_refl _, by omega, by omega⟩
theorem Upd.wider {o o' : Option (List Rn)} {d e : Nat} (h : Upd o o' d) (hd : d ≤ e) : Upd o o' e := by
  match o, o', h with
  | none, none, _ => trivial
  | some a, some b, ⟨h1, h2, h3⟩ => exact ⟨h1, by omega, by omega⟩
theorem Upd.trans {o o' o'' : Option (List Rn)} {d e : Nat} (h : Upd o o' d) (k : Upd o' o'' e) : Upd o o'' (d + e) := by
  match o, o', o'', h, k with
  | none, none, none, _, _ => trivial
  | some a, some b, some c, ⟨h1, h2, h3⟩, ⟨k1, k2, k3⟩ => exact ⟨by omega, by omega, by omega⟩
theorem Upd.note (o : Option (List Rn)) (k s : Int) : Upd o (noteO o k s 1) 1 := by
  cases o with
  | none => trivial
  | some a =>
    refine ⟨?_, ?_, noteL_len a k s 1⟩
    · rw [tot_note]; omega
    · rw [tot_note]; omega
theorem Upd.noted (o : Option (List Rn)) (k : Nat) : ∀ e, Upd o (notedN o k e) e
  | 0 => Upd.refl o
  | e + 1 => (Upd.noted o k e).trans (Upd.note _ 5 k)
theorem Pm.updW (p : Pm) (d : List UInt8) (o : Option (List Rn)) (n : Nat) (h : p.msgLen + d.length ≤ n) : Upd o (p.noteW d o) n := by
  match p, h with
  | .no, h => exact (Upd.refl o).wider (Nat.zero_le _)
  | .off _ _, h => exact (Upd.refl o).wider (Nat.zero_le _)
  | .live _ _ key msg, h =>
    refine (Upd.noted o key.length _).wider ?_
    have := lastB_lt (msg ++ d).length
    rw [List.length_append] at this
    simp only [Pm.msgLen] at h
    rw [List.length_append]
    omega
theorem Pm.updS (p : Pm) (o : Option (List Rn)) : Upd o (p.noteS o) 1 := by
  match p with
  | .no => exact (Upd.refl o).wider (Nat.zero_le _)
  | .off _ _ => exact (Upd.refl o).wider (Nat.zero_le _)
  | .live _ _ key msg => exact Upd.note _ _ _
theorem Pm.updX (p : Pm) (o : Option (List Rn)) : Upd o (p.noteX o) 1 := by
  match p with
  | .no => exact (Upd.refl o).wider (Nat.zero_le _)
  | .off _ _ => exact (Upd.refl o).wider (Nat.zero_le _)
  | .live _ _ key msg => exact Upd.note _ _ _
theorem upd_N (o : Option (List Rn)) (n : Nat) : Upd o (noteN o n) 2 := (Upd.note o 4 n).trans (Upd.note _ 5 n)
theorem upd_T (o : Option (List Rn)) (n l : Nat) : Upd o (noteT o n l) (l + 3) := ((Upd.note o 4 n).trans (Upd.noted _ n _)).wider (by have := lastB_lt l; omega)
/-- a ledger with plenty of room -/
def Lots (o : Option (List Rn)) : Prop := ∀ rs, o = some rs → tot rs ≤ 1000000000 ∧ rs.length ≤ 1000000000
theorem Lots.room {o o' : Option (List Rn)} {d : Nat} (h : Lots o) (hu : Upd o o' d) (hd : d ≤ 1000000) (n : Int) (hn : n ≤ 1000000000) : Room o' n := by
  match o, o', hu with
  | none, none, _ => exact Room.none n
  | some a, some b, ⟨h1, h2, h3⟩ =>
    obtain ⟨g1, g2⟩ := h a rfl
    exact Room.some (by omega) (by omega)
theorem Lots.roomN {o o' : Option (List Rn)} {d : Nat} (h : Lots o) (hu : Upd o o' d) (hd : d ≤ 500000) (k n : Nat) (hn : n ≤ 500000) : RoomN o' k n := fun e he => h.room (hu.trans (Upd.noted o' k e)) (by omega) 1 (by omega)
end Go.Proofs.Ytpampcokonicfaa
/- A Mac of the program and the document's: the contracts for whatever Mac. -/
namespace Go.Proofs.Ytpampcokonicfaa
open Go.RowKit
set_option maxRecDepth 100000
set_option linter.unusedVariables false
set_option linter.unusedSimpArgs false
section
variable {w0 w : World} {obs : List Ob}
theorem set_is {obs : List Ob} {j : Nat} {x : Ob} (h : obs[j]? = some x) : obs.set j x = obs := set_same _ _ _ h
theorem Env.pushNilX (h : Env w0 w obs) : Env w0 w (obs ++ [obBX (.slice none 0 0) []]) :=
  (h.pushB (OB.nil w) (Below.refl _ _) (fun x hx => by simp [fpv, Value.ownBlock] at hx)).lastB
theorem madeM_no (h : Env w0 w obs) (j : Nat) {p : Pm} (hj : obs[j]? = some p.om) (hm : p.made = false) :
    Calls Try.prog 48 #[p.v] w fun e w' => e = .returned (.bool false) ∧ w = w' := by
  match p, hj, hm with
  | .no, hj, _ => exact mmade_nil w
  | .off b c, hj, _ => exact mmade_no b zM w (h.blk j hj)
theorem writeP_all (h : Env w0 w obs) (i j l : Nat) (hij : i ≠ j) (hil : i ≠ l) (hjl : j ≠ l) {p : Pm} (hi : obs[i]? = some p.oc) (hj : obs[j]? = some p.om) {q : Value} {o : Option (List Rn)} (hl : obs[l]? = some (obP q o)) {R : Option Rm} (hR : relM p R)
    {u : Value} {d : List UInt8} (hd : ∀ wx obs', Env w0 wx obs' → (∀ x ob, x ≠ l → x ≠ j → obs[x]? = some ob → obs'[x]? = some ob) → Bs wx u d) (hn : d.length ≤ 500000) (hb : Lots o) :
    Calls Try.prog 21 #[p.v, q, u] w fun e w' => e = .returned (.int .i64 p.code) ∧ Env w0 w' ((obs.set l (obP q (p.noteW d o))).set j (p.write d).om) := by
  cases hm : p.made
  · have e1 : p.noteW d o = o ∧ p.write d = p ∧ p.code = 1 := by
      match p, hm with
      | .no, _ => exact ⟨rfl, rfl, rfl⟩
      | .off _ _, _ => exact ⟨rfl, rfl, rfl⟩
    rw [e1.1, e1.2.1, e1.2.2, set_is hl, set_is hj]
    refine (writeM_no (madeM_no h j hj hm)).mono ?_
    rintro e w' ⟨rfl, rfl⟩
    exact ⟨rfl, h⟩
  · obtain ⟨b, c, key, msg, rfl⟩ := Pm.is_live hm
    obtain ⟨r, _, _, _, _, hk⟩ := hR.get
    refine (writeK_env h i j l hij hil hjl hk hi hj hl hd (hb.roomN (Upd.refl o) (by omega) _ _ hn)).mono ?_
    rintro e w' ⟨rfl, h1⟩
    refine ⟨rfl, ?_⟩
    rw [stM_two, stM_two] at h1
    exact h1
theorem sumP_all (h : Env w0 w obs) (i j l : Nat) (hij : i ≠ j) (hil : i ≠ l) (hjl : j ≠ l) {p : Pm} (hi : obs[i]? = some p.oc) (hj : obs[j]? = some p.om) {q : Value} {o : Option (List Rn)} (hl : obs[l]? = some (obP q o)) {R : Option Rm} (hR : relM p R) (hb : Lots o) :
    Calls Try.prog 22 #[p.v, q] w fun e w' => ∃ v, e = .returned (.tuple #[v, .int .i64 p.code]) ∧ Env w0 w' (obs.set l (obP q (p.noteS o)) ++ [obBX v p.tag]) := by
  cases hm : p.made
  · have e1 : p.noteS o = o ∧ p.tag = [] ∧ p.code = 1 := by
      match p, hm with
      | .no, _ => exact ⟨rfl, rfl, rfl⟩
      | .off _ _, _ => exact ⟨rfl, rfl, rfl⟩
    rw [e1.1, e1.2.1, e1.2.2, set_is hl]
    refine (sumM_no (madeM_no h j hj hm)).mono ?_
    rintro e w' ⟨rfl, rfl⟩
    exact ⟨_, rfl, h.pushNilX⟩
  · obtain ⟨b, c, key, msg, rfl⟩ := Pm.is_live hm
    obtain ⟨r, _, _, _, _, hk⟩ := hR.get
    refine (sumM_env h i j l hij hil hjl hi hj hl (hb.room (Upd.refl o) (by omega) 1 (by omega)) (stM_ok key msg) hk.bd.1).mono ?_
    rintro e w' ⟨g, rfl, h1⟩
    rw [tagOf_is] at h1
    have hlen : (tagR key msg).length = 16 := by rw [← tagOf_is]; exact tagOf_len _ _ _
    have h2 := h1.lastK (by omega)
    rw [hlen] at h2
    exact ⟨_, rfl, h2⟩
theorem formP_all (h : Env w0 w obs) (i j : Nat) {p : Pm} (hi : obs[i]? = some p.oc) (hj : obs[j]? = some p.om) {R : Option Rm} (hR : relM p R) :
    Calls Try.prog 16 #[p.v] w fun e w' => ∃ v, e = .returned v ∧ Env w0 w' (obs ++ [obBX v p.form]) := by
  cases hm : p.made
  · have e1 : p.form = [] := by
      match p, hm with
      | .no, _ => rfl
      | .off _ _, _ => rfl
    rw [e1]
    refine (formM_no (madeM_no h j hj hm)).mono ?_
    rintro e w' ⟨rfl, rfl⟩
    exact ⟨_, rfl, h.pushNilX⟩
  · obtain ⟨b, c, key, msg, rfl⟩ := Pm.is_live hm
    obtain ⟨r, _, _, _, _, hk⟩ := hR.get
    refine (formM_env h i j hi hj (stM_ok key msg) hk.bd.1 hk.bd.2.1 (sched_len key (by have := hk.bd; omega))).mono ?_
    rintro e w' ⟨v, rfl, h1⟩
    rw [formOf_is] at h1
    exact ⟨_, rfl, h1.lastB⟩
theorem resetP_all (h : Env w0 w obs) (j : Nat) {p : Pm} (hj : obs[j]? = some p.om) :
    Calls Try.prog 26 #[p.v] w fun e w' => e = .returned (.int .i64 p.code) ∧ Env w0 w' (obs.set j p.reset.om) := by
  cases hm : p.made
  · have e1 : p.reset = p ∧ p.code = 1 := by
      match p, hm with
      | .no, _ => exact ⟨rfl, rfl⟩
      | .off _ _, _ => exact ⟨rfl, rfl⟩
    rw [e1.1, e1.2, set_is hj]
    refine (resetM_no (madeM_no h j hj hm)).mono ?_
    rintro e w' ⟨rfl, rfl⟩
    exact ⟨rfl, h⟩
  · obtain ⟨b, c, key, msg, rfl⟩ := Pm.is_live hm
    refine (resetM_env h j hj (stM_ok key msg)).mono fun e w' ⟨he, h1⟩ => ⟨he, ?_⟩
    have e : (⟨(stM key msg).1.k1, (stM key msg).1.k2, zB, zB, 0⟩ : MacS) = (stM key []).1 := by rw [stM_is]; rfl
    rw [e] at h1
    exact h1
theorem wipeP_all (h : Env w0 w obs) (i j l : Nat) (hij : i ≠ j) (hil : i ≠ l) (hjl : j ≠ l) {p : Pm} (hi : obs[i]? = some p.oc) (hj : obs[j]? = some p.om) {q : Value} {o : Option (List Rn)} (hl : obs[l]? = some (obP q o)) {R : Option Rm} (hR : relM p R) (hb : Lots o) :
    Calls Try.prog 32 #[p.v, q] w fun e w' => e = .returned (.int .i64 p.code) ∧ Env w0 w' (((obs.set l (obP q (p.noteX o))).set i p.wipe.oc).set j p.wipe.om) := by
  cases hm : p.made
  · have e1 : p.noteX o = o ∧ p.wipe = p ∧ p.code = 1 := by
      match p, hm with
      | .no, _ => exact ⟨rfl, rfl, rfl⟩
      | .off _ _, _ => exact ⟨rfl, rfl, rfl⟩
    rw [e1.1, e1.2.1, e1.2.2, set_is hl, set_is hi, set_is hj]
    refine (wipeM_no (madeM_no h j hj hm)).mono ?_
    rintro e w' ⟨rfl, rfl⟩
    exact ⟨rfl, h⟩
  · obtain ⟨b, c, key, msg, rfl⟩ := Pm.is_live hm
    obtain ⟨r, _, _, _, _, hk⟩ := hR.get
    exact wipeM_env h i j l hij hil hjl hi hj hl (hb.room (Upd.refl o) (by omega) 1 (by omega)) (stM_ok key msg) hk.bd.1 hk.bd.2.1 (sched_len key (by have := hk.bd; omega))
/-! ### the document's -/
theorem mput_same (k : Nat) (r s : Option Rm) : mpt1 k r (sideM k r s) = r ∧ mpt2 k s (sideM k r s) = s := by
  unfold mpt1 mpt2 sideM
  split <;> exact ⟨rfl, rfl⟩
theorem rmWrite_all (h : Env w0 w obs) (i j : Nat) (hij : i ≠ j) {r s : Option Rm} {q : Value} {o : Option (List Rn)} (hi : obs[i]? = some (obM2 r s)) (hj : obs[j]? = some (obR q o)) (k : Nat) (hk : k < 2) {p : Pm} (hR : relM p (sideM k r s)) {u : Value} {d : List UInt8} (hu : Bs w0 u d) (hn : p.msgLen + d.length ≤ 500000) (hb : Lots o) :
    Calls Try.prog 57 #[rmV (sideM k r s), q, u] w fun e w' => e = .returned (.int .i64 p.code) ∧ ∃ x, relM (p.write d) x ∧ rmV x = rmV (sideM k r s) ∧ Env w0 w' ((obs.set i (obM2 (mpt1 k r x) (mpt2 k s x))).set j (obR q (p.noteW d o))) := by
  cases hm : p.made
  · have e1 : p.noteW d o = o ∧ p.write d = p ∧ p.code = 1 := by
      match p, hm with
      | .no, _ => exact ⟨rfl, rfl, rfl⟩
      | .off _ _, _ => exact ⟨rfl, rfl, rfl⟩
    rw [e1.1, e1.2.1, e1.2.2]
    obtain ⟨ao, cap, rfl, _⟩ := hu.form
    refine (rmWrite_no h i hi k (hR.made.trans hm) q ao d.length cap).mono ?_
    rintro e w' ⟨rfl, rfl⟩
    refine ⟨rfl, sideM k r s, hR, rfl, ?_⟩
    rw [(mput_same k r s).1, (mput_same k r s).2, set_is hi, set_is hj]
    exact h
  · obtain ⟨b, c, key, msg, rfl⟩ := Pm.is_live hm
    obtain ⟨x, hx, hxm, rfl, rfl, hl⟩ := hR.get
    have hle : lastB x.msg.length ≤ lastB (x.msg ++ d).length := lastB_le (by rw [List.length_append]; omega)
    have hlt := lastB_lt (x.msg ++ d).length
    simp only [Pm.msgLen] at hn
    have e : ((nBlk (x.msg ++ d).length : Int) - (nBlk x.msg.length : Int)) = ((lastB (x.msg ++ d).length - lastB x.msg.length : Nat) : Int) := by
      rw [nBlk_is, nBlk_is]; omega
    rw [hx]
    have hroom : Room o ((nBlk (x.msg ++ d).length : Int) - (nBlk x.msg.length : Int)) := by
      rw [e]
      have h9 : (x.msg ++ d).length = x.msg.length + d.length := List.length_append
      exact hb.room (Upd.refl o) (by omega) _ (by omega)
    refine (rmWrite_env h i j hij hi hj k hk x hx hxm hu (by omega) hroom).mono ?_
    rintro e w' ⟨c', rfl, h1, h2, h3, h4, h5⟩
    refine ⟨rfl, some c', ⟨h2, h3, h4, hl⟩, ?_, ?_⟩
    · show Rm.v c' = Rm.v x
      unfold Rm.v
      rw [h1]
    · rw [times_noted _ _ _ _ e] at h5
      exact h5
theorem rmSum_all (h : Env w0 w obs) (i j : Nat) (hij : i ≠ j) {r s : Option Rm} {q : Value} {o : Option (List Rn)} (hi : obs[i]? = some (obM2 r s)) (hj : obs[j]? = some (obR q o)) (k : Nat) {p : Pm} (hR : relM p (sideM k r s)) (hn : p.msgLen ≤ 500000) (hb : Lots o) :
    Calls Try.prog 58 #[rmV (sideM k r s), q] w fun e w' => ∃ v, e = .returned (.tuple #[v, .int .i64 p.code]) ∧ Env w0 w' (obs.set j (obR q (p.noteS o)) ++ [obBX v p.tag]) := by
  cases hm : p.made
  · have e1 : p.noteS o = o ∧ p.tag = [] ∧ p.code = 1 := by
      match p, hm with
      | .no, _ => exact ⟨rfl, rfl, rfl⟩
      | .off _ _, _ => exact ⟨rfl, rfl, rfl⟩
    rw [e1.1, e1.2.1, e1.2.2, set_is hj]
    refine (rmSum_no h i hi k (hR.made.trans hm) q).mono ?_
    rintro e w' ⟨rfl, rfl⟩
    exact ⟨_, rfl, h.pushNilX⟩
  · obtain ⟨b, c, key, msg, rfl⟩ := Pm.is_live hm
    obtain ⟨x, hx, hxm, rfl, rfl, hl⟩ := hR.get
    simp only [Pm.msgLen] at hn
    rw [hx]
    refine (rmSum_env h i j hij hi hj (hb.room (Upd.refl o) (by omega) 1 (by omega)) k x hx hxm (by omega)).mono ?_
    rintro e w' ⟨v, rfl, h1⟩
    rw [times_noted o x.key.length 1 1 rfl] at h1
    exact ⟨v, rfl, h1.lastB⟩
theorem rmForm_all (h : Env w0 w obs) (i : Nat) {r s : Option Rm} (hi : obs[i]? = some (obM2 r s)) (k : Nat) {p : Pm} (hR : relM p (sideM k r s)) (hn : p.msgLen ≤ 500000) :
    Calls Try.prog 63 #[rmV (sideM k r s)] w fun e w' => ∃ v, e = .returned v ∧ Env w0 w' (obs ++ [obBX v p.form]) := by
  cases hm : p.made
  · have e1 : p.form = [] := by
      match p, hm with
      | .no, _ => rfl
      | .off _ _, _ => rfl
    rw [e1]
    refine (rmForm_no h i hi k (hR.made.trans hm)).mono ?_
    rintro e w' ⟨rfl, rfl⟩
    exact ⟨_, rfl, h.pushNilX⟩
  · obtain ⟨b, c, key, msg, rfl⟩ := Pm.is_live hm
    obtain ⟨x, hx, hxm, rfl, rfl, hl⟩ := hR.get
    simp only [Pm.msgLen] at hn
    rw [hx]
    refine (rmForm_env h i hi k x hx hxm (by omega)).mono ?_
    rintro e w' ⟨v, rfl, h1⟩
    exact ⟨v, rfl, h1.lastB⟩
theorem rmReset_all (h : Env w0 w obs) (i : Nat) {r s : Option Rm} (hi : obs[i]? = some (obM2 r s)) (k : Nat) (hk : k < 2) {p : Pm} (hR : relM p (sideM k r s)) :
    Calls Try.prog 60 #[rmV (sideM k r s)] w fun e w' => e = .returned (.int .i64 p.code) ∧ ∃ x, relM p.reset x ∧ rmV x = rmV (sideM k r s) ∧ Env w0 w' (obs.set i (obM2 (mpt1 k r x) (mpt2 k s x))) := by
  cases hm : p.made
  · have e1 : p.reset = p ∧ p.code = 1 := by
      match p, hm with
      | .no, _ => exact ⟨rfl, rfl⟩
      | .off _ _, _ => exact ⟨rfl, rfl⟩
    rw [e1.1, e1.2]
    refine (rmReset_no h i hi k (hR.made.trans hm)).mono ?_
    rintro e w' ⟨rfl, rfl⟩
    refine ⟨rfl, sideM k r s, hR, rfl, ?_⟩
    rw [(mput_same k r s).1, (mput_same k r s).2, set_is hi]
    exact h
  · obtain ⟨b, c, key, msg, rfl⟩ := Pm.is_live hm
    obtain ⟨x, hx, hxm, rfl, rfl, hl⟩ := hR.get
    rw [hx]
    refine (rmReset_env h i hi k hk x hx hxm).mono ?_
    rintro e w' ⟨c', rfl, h1, h2, h3, h4, h5⟩
    refine ⟨rfl, some c', ⟨h2, h3, h4, hl⟩, ?_, h5⟩
    show Rm.v c' = Rm.v x
    unfold Rm.v
    rw [h1]
theorem rmWipe_all (h : Env w0 w obs) (i j : Nat) (hij : i ≠ j) {r s : Option Rm} {q : Value} {o : Option (List Rn)} (hi : obs[i]? = some (obM2 r s)) (hj : obs[j]? = some (obR q o)) (k : Nat) (hk : k < 2) {p : Pm} (hR : relM p (sideM k r s)) (hn : p.msgLen ≤ 500000) (hb : Lots o) :
    Calls Try.prog 62 #[rmV (sideM k r s), q] w fun e w' => e = .returned (.int .i64 p.code) ∧ ∃ x, relM p.wipe x ∧ rmV x = rmV (sideM k r s) ∧ Env w0 w' ((obs.set j (obR q (p.noteX o))).set i (obM2 (mpt1 k r x) (mpt2 k s x))) := by
  cases hm : p.made
  · have e1 : p.noteX o = o ∧ p.wipe = p ∧ p.code = 1 := by
      match p, hm with
      | .no, _ => exact ⟨rfl, rfl, rfl⟩
      | .off _ _, _ => exact ⟨rfl, rfl, rfl⟩
    rw [e1.1, e1.2.1, e1.2.2]
    refine (rmWipe_no h i hi k (hR.made.trans hm) q).mono ?_
    rintro e w' ⟨rfl, rfl⟩
    refine ⟨rfl, sideM k r s, hR, rfl, ?_⟩
    rw [(mput_same k r s).1, (mput_same k r s).2, set_is hj, set_is hi]
    exact h
  · obtain ⟨b, c, key, msg, rfl⟩ := Pm.is_live hm
    obtain ⟨x, hx, hxm, rfl, rfl, hl⟩ := hR.get
    simp only [Pm.msgLen] at hn
    rw [hx]
    refine (rmWipe_env h i j hij hi hj (hb.room (Upd.refl o) (by omega) 1 (by omega)) k hk x hx hxm (by omega)).mono ?_
    rintro e w' ⟨rfl, h5⟩
    exact ⟨rfl, some { x with made := false }, rfl, rfl, h5⟩
end
end Go.Proofs.Ytpampcokonicfaa
namespace Go.Proofs.Ytpampcokonicfaa
open Go.RowKit
set_option maxRecDepth 100000
set_option linter.unusedVariables false
set_option linter.unusedSimpArgs false
/-- a ledger with more than plenty of room -/
def Lotl (o : Option (List Rn)) : Prop := ∀ rs, o = some rs → tot rs ≤ 500000000 ∧ rs.length ≤ 500000000
theorem Lotl.lots {o o' : Option (List Rn)} {d : Nat} (h : Lotl o) (hu : Upd o o' d) (hd : d ≤ 1000000) : Lots o' := fun rs hrs => by
  subst hrs
  match o, hu with
  | some a, ⟨h1, h2, h3⟩ =>
    obtain ⟨g1, g2⟩ := h a rfl
    exact ⟨by omega, by omega⟩
section
variable {w0 w : World} {obs : List Ob}
theorem tagP_env (h : Env w0 w obs) (l : Nat) {q : Value} {o : Option (List Rn)} (hl : obs[l]? = some (obP q o)) {v u : Value} {key p : List UInt8} (hk : RightLen key.length) (hv : Bs w0 v key) (hu : Rd w0 obs l u p) (hn : p.length ≤ 400000) (hb : Lots o) :
    Calls Try.prog 18 #[q, v, u] w fun e w' => ∃ v, e = .returned (.tuple #[v, .int .i64 0]) ∧ Env w0 w' (obs.set l (obP q (noteT o key.length p.length)) ++ [obBX v (tagR key p)]) := by
  refine (tagM_env h l hl hk (Src.old h l hv) hu (hb.room (Upd.refl o) (by omega) 1 (by omega)) (hb.roomN (Upd.note o 4 key.length) (by omega) _ _ (by omega))).mono ?_
  rintro e w' ⟨g, rfl, h1⟩
  rw [tagK_is, stM_two] at h1
  have hlen : (tagR key p).length = 16 := by rw [← tagOf_is]; exact tagOf_len _ _ _
  have h2 := h1.lastK (by omega)
  rw [hlen] at h2
  exact ⟨_, rfl, h2⟩
theorem rmTag_no {u q v : Value} {key : List UInt8} (hu : Bs w u key) (hk : ¬ RightLen key.length) (ao : Option Addr) (n cap : Nat) :
    Calls Try.prog 64 #[q, u, .slice ao n cap] w fun e w' => e = .returned (.tuple #[.slice none 0 0, .int .i64 7]) ∧ w = w' := by
  have HN := Lib.hid (rmNew_no (q := q) hu hk)
  obtain ⟨ao, cap, rfl, h1, h2, _, _⟩ := hu.form
  clear hu
  go_enter Try.func64, Try.ntmps64
  go_wp2_with fail
  refine HN.out.mono ?_
  rintro e w1 ⟨rfl, rfl⟩
  go_wp2
  go_ret2
  exact ⟨rfl, rfl⟩
theorem Env.cutMid {A : List Ob} {x y : Ob} (h : Env w0 w (A ++ [x] ++ [y])) : Env w0 w (A ++ [y]) := Env.cut h
theorem rmTag_env (h : Env w0 w obs) (j : Nat) {q : Value} {o : Option (List Rn)} (hj : obs[j]? = some (obR q o)) (hb : Lotl o) {v u : Value} {key p : List UInt8} (hr : RightLen key.length) (hv : Bs w0 v key) (hu : Bs w0 u p) (hn : p.length ≤ 400000) :
    Calls Try.prog 64 #[q, v, u] w fun e w' => ∃ v, e = .returned (.tuple #[v, .int .i64 0]) ∧ Env w0 w' (obs.set j (obR q (noteT o key.length p.length)) ++ [obBX v (tagR key p)]) := by
  have hjl := (List.getElem?_eq_some_iff.1 hj).1
  have h0 : Env w0 w (obs ++ [obM2 none none]) := h.push (F' := fun _ => False) (obM2 none none) ⟨trivial, trivial, fun x y hx => (by cases hx), fun x y hx => (by cases hx), fun x hx => hx.elim⟩ (Below.refl _ _) (fun x hx => hx.elim)
  have hN := rmNew_env h0 obs.length j (by omega) (r := none) (s := none) (by simp) (by rw [List.getElem?_append_left hjl]; exact hj) (hb.lots (Upd.refl o) (by omega) |>.room (Upd.refl o) (by omega) 1 (by omega)) 0 (by omega) hv hr (hb.lots (Upd.refl o) (by omega) |>.room (Upd.note o 4 key.length) (by omega) 1 (by omega))
  have HN := Lib.hid hN
  have HV := Lib.hid hv
  have HU := Lib.hid hu
  obtain ⟨ao, cap, rfl, h1, h2, _, _⟩ := hv.form
  obtain ⟨bo, bcap, rfl, h3, h4, _, _⟩ := hu.form
  have HB := Lib.hid hb
  clear hN h0 h hv hu
  go_enter Try.func64, Try.ntmps64
  go_wp2_with fail
  refine HN.out.mono ?_
  rintro e w1 ⟨c, rfl, hm, hkey, hmsg, h5⟩
  rw [times_noted _ key.length 1 1 rfl] at h5
  have hR : relM (.live 0 0 key []) (sideM 0 (some c) none) := ⟨hm, hkey, hmsg, hr⟩
  have hu1 : Upd o (notedN (noteO o 4 key.length 1) key.length 1) 2 := (Upd.note o 4 key.length).trans (Upd.noted _ key.length 1)
  obtain ⟨L1, hL1⟩ : ∃ y, ((obs ++ [obM2 none none]).set obs.length (obM2 (mpt1 0 none (some c)) (mpt2 0 none (some c)))).set j (obR q (notedN (noteO o 4 key.length 1) key.length 1)) = y := ⟨_, rfl⟩
  have i1 : L1[obs.length]? = some (obM2 (some c) none) := by
    rw [← hL1, List.getElem?_set_ne (by omega), List.getElem?_set_self (by simp)]
    rfl
  have i2 : L1[j]? = some (obR q (notedN (noteO o 4 key.length 1) key.length 1)) := by
    rw [← hL1, List.getElem?_set_self (by rw [List.length_set, List.length_append]; omega)]
  rw [hL1] at h5
  have hW := rmWrite_all (p := .live 0 0 key []) (d := p) h5 obs.length j (by omega) i1 i2 0 (by omega) hR HU.out (by show 0 + p.length ≤ _; omega) (HB.out.lots hu1 (by omega))
  have HW := Lib.hid hW
  have HL1 := Lib.hid hL1
  have hcv : c.v = .pointer (some ⟨c.b, 0, none⟩) := rfl
  rw [hcv]
  have I := Lib.hid (And.intro i1 i2)
  clear hW hL1 h5 i1 i2 hR hm hkey hmsg hcv
  go_wp2_with fail
  refine HW.out.mono ?_
  rintro e w2 ⟨rfl, x, hx, hxv, h6⟩
  obtain ⟨y, rfl, hym, hyk, hyp, _⟩ := hx.get
  have hyv : Value.pointer (some ⟨c.b, 0, none⟩) = y.v := hxv.symm
  have e6 : ∀ X : Option (List Rn), (L1.set obs.length (obM2 (mpt1 0 (some c) (some y)) (mpt2 0 none (some y)))).set j (obR q X) = obs.set j (obR q X) ++ [obM2 (some y) none] := by
    intro X
    rw [← HL1.out]
    have a1 : (obs ++ [obM2 none none]).set obs.length (obM2 (mpt1 0 none (some c)) (mpt2 0 none (some c))) = obs ++ [obM2 (some c) none] := by
      rw [List.set_append_right _ _ (Nat.le_refl _), Nat.sub_self]
      rfl
    rw [a1, List.set_append_left _ _ hjl, List.set_append_right _ _ (by rw [List.length_set]; exact Nat.le_refl _), List.length_set, Nat.sub_self]
    show ((obs.set j _ ++ [obM2 (some y) none]).set j _) = _
    rw [List.set_append_left _ _ (by rw [List.length_set]; exact hjl), List.set_set]
  rw [e6] at h6
  have hS := rmSum_all h6 obs.length j (by omega) (r := some y) (s := none) (by rw [List.getElem?_append_right (by rw [List.length_set]; exact Nat.le_refl _), List.length_set, Nat.sub_self]; rfl) (by rw [List.getElem?_append_left (by rw [List.length_set]; exact hjl)]; exact List.getElem?_set_self hjl) 0 (p := .live 0 0 key p) ⟨hym, hyk, hyp, hr⟩ (by show p.length ≤ _; omega) (HB.out.lots (hu1.trans (Pm.updW (.live 0 0 key []) p _ 400000 (by show 0 + p.length ≤ _; omega))) (by omega))
  have HS := Lib.hid hS
  have HYV := Lib.hid hyv
  clear hS h6 hyv hxv hx e6 hym hyk hyp
  go_wp2_with fail
  rw [HYV.out]
  refine HS.out.mono ?_
  rintro e w3 ⟨v, rfl, h7⟩
  go_wp2
  go_ret2
  refine ⟨v, rfl, ?_⟩
  rw [List.set_append_left _ _ (by rw [List.length_set]; exact hjl), List.set_set] at h7
  have e8 : (Pm.live 0 0 key p).noteS ((Pm.live 0 0 key []).noteW p (notedN (noteO o 4 key.length 1) key.length 1)) = noteT o key.length p.length := by
    show noteO (notedN (notedN (noteO o 4 key.length 1) key.length 1) key.length (lastB ([] ++ p).length - lastB 0)) 5 key.length 1 = _
    rw [notedN_add, List.nil_append]
    show notedN (noteO o 4 key.length 1) key.length (1 + (lastB p.length - 0) + 1) = _
    unfold noteT
    congr 1
    omega
  rw [e8] at h7
  exact h7.cutMid
end
end Go.Proofs.Ytpampcokonicfaa
