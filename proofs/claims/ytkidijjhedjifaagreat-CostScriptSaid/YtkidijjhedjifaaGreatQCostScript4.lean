/- The codes of the operations, as the program reckons them. -/
import Derived.Test.YtkidijjhedjifaaGreatRows
import Derived.Test.YtkidijjhedjifaaGreatQCostScript3
namespace Go.Proofs.YtkidijjhedjifaaGreat
open Go.RowKit
set_option maxRecDepth 100000
set_option linter.unusedVariables false
set_option linter.unusedSimpArgs false
attribute [local go_sem] Oper.semAt_some
def skV (s : Sk) : Value := .agg #[.int .u8 s.kind, .int .i64 s.handle, .int .u8 s.alg, .int .i64 s.count, .int .i64 s.out, .int .i64 s.data, .int .i64 s.more]
def skCells (s : Sk) : Array Value := #[.int .u8 s.kind, .int .i64 s.handle, .int .u8 s.alg, .int .i64 s.count, .int .i64 s.out, .int .i64 s.data, .int .i64 s.more]
/-- what the walks read: of what is public, and of the skeleton's box -/
structure SCost (p m B : Nat) (s : Sk) (t : Th) (is : Bool) (W : World) : Prop where
  pub : SPub p m s.handle t is W
  b0 : W.cell? ⟨B, 0, none⟩ = some (.int .u8 s.kind)
  b1 : W.cell? ⟨B, 1, none⟩ = some (.int .i64 s.handle)
  b2 : W.cell? ⟨B, 2, none⟩ = some (.int .u8 s.alg)
  b3 : W.cell? ⟨B, 3, none⟩ = some (.int .i64 s.count)
  b4 : W.cell? ⟨B, 4, none⟩ = some (.int .i64 s.out)
  b5 : W.cell? ⟨B, 5, none⟩ = some (.int .i64 s.data)
  b6 : W.cell? ⟨B, 6, none⟩ = some (.int .i64 s.more)
section
variable {p m B : Nat} {s : Sk} {t : Th} {is : Bool}
theorem SCost.fc (W : World) (h : SCost p m B s t is W) : W.cell? ⟨p, 0, none⟩ = some (.map (some m)) := h.pub.c
theorem SCost.fok (W : World) (h : SCost p m B s t is W) : (Instr.lookup 47 (.map (some m)) (.int .i64 s.handle) true).run Tryz.prog W = .ok (.tuple #[.agg #[.int .u8 t.alg, .int .i64 t.out, .int .i64 t.key, .int .i64 t.custom, .int .i64 t.msg], .bool is]) W := h.pub.ok
theorem SCost.fat (W : World) (h : SCost p m B s t is W) : (Instr.lookup 47 (.map (some m)) (.int .i64 s.handle) false).run Tryz.prog W = .ok (.agg #[.int .u8 t.alg, .int .i64 t.out, .int .i64 t.key, .int .i64 t.custom, .int .i64 t.msg]) W := h.pub.at'
theorem SCost.f0 (W : World) (h : SCost p m B s t is W) : W.cell? ⟨B, 0, none⟩ = some (.int .u8 s.kind) := h.b0
theorem SCost.f1 (W : World) (h : SCost p m B s t is W) : W.cell? ⟨B, 1, none⟩ = some (.int .i64 s.handle) := h.b1
theorem SCost.f2 (W : World) (h : SCost p m B s t is W) : W.cell? ⟨B, 2, none⟩ = some (.int .u8 s.alg) := h.b2
theorem SCost.f3 (W : World) (h : SCost p m B s t is W) : W.cell? ⟨B, 3, none⟩ = some (.int .i64 s.count) := h.b3
theorem SCost.f4 (W : World) (h : SCost p m B s t is W) : W.cell? ⟨B, 4, none⟩ = some (.int .i64 s.out) := h.b4
theorem SCost.f5 (W : World) (h : SCost p m B s t is W) : W.cell? ⟨B, 5, none⟩ = some (.int .i64 s.data) := h.b5
theorem SCost.f6 (W : World) (h : SCost p m B s t is W) : W.cell? ⟨B, 6, none⟩ = some (.int .i64 s.more) := h.b6
end
theorem PubAt.below {w w' : World} {p m k : Nat} {σ : Hs} (h : PubAt w p m k σ) (hb : Below w.heap.size w w') : PubAt w' p m k σ :=
  ⟨h.blk.only (Only.nothing hb) (fun h => h), h.held.only (Only.nothing hb) (fun h => h), h.kinds.only (Only.nothing hb) (fun h => h), h.pm, h.pk, h.nk⟩
/-- a walk's world behind its box: what it reads in every later world -/
structure Box (w w1 : World) (p m k : Nat) (σ : Hs) (B : Nat) (s : Sk) : Prop where
  up : Below w.heap.size w w1
  pub : PubAt w1 p m k σ
  blk : Blk w1 B 40 (skCells s)
  hs : okI s.handle
section
variable {w w1 w2 : World} {p m k B : Nat} {σ : Hs} {s : Sk}
theorem Box.new (h : PubAt w p m k σ) (hs : okI s.handle) : Box w (w.alloc (.cells (skCells s) 40)) p m k σ w.heap.size s :=
  ⟨(Below.refl _ _).alloc (Nat.le_refl _) _, h.below ((Below.refl _ _).alloc (Nat.le_refl _) _), Blk.new w _ _, hs⟩
theorem Box.on (h : Box w w1 p m k σ B s) (hb : Below w1.heap.size w1 w2) : Box w w2 p m k σ B s :=
  ⟨h.up.trans (hb.mono h.up.size), h.pub.below hb, h.blk.only (Only.nothing hb) (fun h => h), h.hs⟩
theorem Box.sc (h : Box w w1 p m k σ B s) : SCost p m B s ((σ s.handle).getD th0) (σ s.handle).isSome w1 :=
  ⟨h.pub.s h.hs, h.blk.cellAt 0 rfl, h.blk.cellAt 1 rfl, h.blk.cellAt 2 rfl, h.blk.cellAt 3 rfl, h.blk.cellAt 4 rfl, h.blk.cellAt 5 rfl, h.blk.cellAt 6 rfl⟩
theorem Box.draw (h : Box w w1 p m k σ B s) (n : Nat) : Box w (w1.drewN n) p m k σ B s := h.on (below_draw (Below.refl _ _) n)
end
set_option maxHeartbeats 1000000 in
theorem cany_any {w : World} {p m k : Nat} {σ : Hs} (h : PubAt w p m k σ) (s : Sk) (hs : okI s.handle) : Calls Tryz.prog 44 #[pV p, skV s] w (Told (.int .i64 (anyC σ s)) w) := by
  have HB := Lib.hid (Box.new h hs)
  clear h
  unfold pV skV
  unfold skCells at HB
  obtain ⟨v, hv⟩ : ∃ v, anyC σ s = v := ⟨_, rfl⟩
  have HV := Lib.hid hv
  rw [hv]
  clear hv
  go_enter Tryz.func44, Tryz.ntmps44
  go_upto_region 1 with fail
  obtain ⟨B, hB⟩ : ∃ B, w.heap.size = B := ⟨_, rfl⟩
  obtain ⟨w1, hw1⟩ : ∃ y, w.alloc (.cells #[.int .u8 s.kind, .int .i64 s.handle, .int .u8 s.alg, .int .i64 s.count, .int .i64 s.out, .int .i64 s.data, .int .i64 s.more] 40) = y := ⟨_, rfl⟩
  rw [hw1, hB] at HB
  try rw [hw1]
  try rw [hB]
  clear hw1 hB
  go_cut [5, 6] from 7 to 16 (fun u v wx => v = .bool (σ s.handle).isSome ∧ Hid (Below w.heap.size w wx))
  case first =>
    refine hd_start (SCost p m B s ((σ s.handle).getD th0) (σ s.handle).isSome) (by kernel_rfl) ?_
    intro w2 hw'
    have H2 := Lib.hid (HB.out.draw 1)
    rw [← hw'] at H2
    clear hw' HB
    have S2 := H2.out.sc
    refine hd_take (v := ?_) 0 rfl (by kernel_rfl) (fun _ _ d _ _ h => (by cases d <;> exact h)) (by kernel_rfl) S2 (fun w' hS => ?_) ?_
    rotate_left
    focus (have q0 := SCost.fc w' hS; have q1 := SCost.fok w' hS; have q2 := SCost.f1 w' hS; clear hS; go_simp; try rfl; done)
    simp only [List.getElem_toArray, List.getElem_cons_succ, List.getElem_cons_zero, Act.put, List.setIfInBounds_toArray, List.set_cons_zero, List.set_cons_succ]
    refine hd_take (v := ?_) 1 rfl (by kernel_rfl) (fun _ _ d _ _ h => (by cases d <;> exact h)) (by kernel_rfl) S2 (fun w' hS => ?_) ?_
    rotate_left
    focus (have q0 := SCost.fc w' hS; have q1 := SCost.fok w' hS; have q2 := SCost.f1 w' hS; clear hS; go_simp; try rfl; done)
    simp only [List.getElem_toArray, List.getElem_cons_succ, List.getElem_cons_zero, Act.put, List.setIfInBounds_toArray, List.set_cons_zero, List.set_cons_succ]
    refine hd_take (v := ?_) 2 rfl (by kernel_rfl) (fun _ _ d _ _ h => (by cases d <;> exact h)) (by kernel_rfl) S2 (fun w' hS => ?_) ?_
    rotate_left
    focus (have q0 := SCost.fc w' hS; have q1 := SCost.fok w' hS; have q2 := SCost.f1 w' hS; clear hS; go_simp; try rfl; done)
    simp only [List.getElem_toArray, List.getElem_cons_succ, List.getElem_cons_zero, Act.put, List.setIfInBounds_toArray, List.set_cons_zero, List.set_cons_succ]
    refine hd_take (v := ?_) 3 rfl (by kernel_rfl) (fun _ _ d _ _ h => (by cases d <;> exact h)) (by kernel_rfl) S2 (fun w' hS => ?_) ?_
    rotate_left
    focus (have q0 := SCost.fc w' hS; have q1 := SCost.fok w' hS; have q2 := SCost.f1 w' hS; clear hS; go_simp; try rfl; done)
    simp only [List.getElem_toArray, List.getElem_cons_succ, List.getElem_cons_zero, Act.put, List.setIfInBounds_toArray, List.set_cons_zero, List.set_cons_succ]
    refine hd_take (v := ?_) 4 rfl (by kernel_rfl) (fun _ _ d _ _ h => (by cases d <;> exact h)) (by kernel_rfl) S2 (fun w' hS => ?_) ?_
    rotate_left
    focus (have q0 := SCost.fc w' hS; have q1 := SCost.fok w' hS; have q2 := SCost.f1 w' hS; clear hS; go_simp; try rfl; done)
    simp only [List.getElem_toArray, List.getElem_cons_succ, List.getElem_cons_zero, Act.put, List.setIfInBounds_toArray, List.set_cons_zero, List.set_cons_succ]
    refine hd_take (v := ?_) 5 rfl (by kernel_rfl) (fun _ _ d _ _ h => (by cases d <;> exact h)) (by kernel_rfl) S2 (fun w' hS => ?_) ?_
    rotate_left
    focus (have q0 := SCost.fc w' hS; have q1 := SCost.fok w' hS; have q2 := SCost.f1 w' hS; clear hS; go_simp; try rfl; done)
    simp only [List.getElem_toArray, List.getElem_cons_succ, List.getElem_cons_zero, Act.put, List.setIfInBounds_toArray, List.set_cons_zero, List.set_cons_succ]
    refine hd_take (v := ?_) 6 rfl (by kernel_rfl) (fun _ _ d _ _ h => (by cases d <;> exact h)) (by kernel_rfl) S2 (fun w' hS => ?_) ?_
    rotate_left
    focus (have q0 := SCost.fc w' hS; have q1 := SCost.fok w' hS; have q2 := SCost.f1 w' hS; clear hS; go_simp; try rfl; done)
    simp only [List.getElem_toArray, List.getElem_cons_succ, List.getElem_cons_zero, Act.put, List.setIfInBounds_toArray, List.set_cons_zero, List.set_cons_succ]
    refine hd_take (v := ?_) 7 rfl (by kernel_rfl) (fun _ _ d _ _ h => (by cases d <;> exact h)) (by kernel_rfl) S2 (fun w' hS => ?_) ?_
    rotate_left
    focus (have q0 := SCost.fc w' hS; have q1 := SCost.fok w' hS; have q2 := SCost.f1 w' hS; clear hS; go_simp; try rfl; done)
    simp only [List.getElem_toArray, List.getElem_cons_succ, List.getElem_cons_zero, Act.put, List.setIfInBounds_toArray, List.set_cons_zero, List.set_cons_succ]
    refine hd_take (v := ?_) 8 rfl (by kernel_rfl) (fun _ _ d _ _ h => (by cases d <;> exact h)) (by kernel_rfl) S2 (fun w' hS => ?_) ?_
    rotate_left
    focus (have q0 := SCost.fc w' hS; have q1 := SCost.fok w' hS; have q2 := SCost.f1 w' hS; clear hS; go_simp; try rfl; done)
    simp only [List.getElem_toArray, List.getElem_cons_succ, List.getElem_cons_zero, Act.put, List.setIfInBounds_toArray, List.set_cons_zero, List.set_cons_succ]
    refine hd_take (v := ?_) 9 rfl (by kernel_rfl) (fun _ _ d _ _ h => (by cases d <;> exact h)) (by kernel_rfl) S2 (fun w' hS => ?_) ?_
    rotate_left
    focus (have q0 := SCost.fc w' hS; have q1 := SCost.fok w' hS; have q2 := SCost.f1 w' hS; clear hS; go_simp; try rfl; done)
    simp only [List.getElem_toArray, List.getElem_cons_succ, List.getElem_cons_zero, Act.put, List.setIfInBounds_toArray, List.set_cons_zero, List.set_cons_succ]
    have S3 := (H2.out.on ((Below.refl _ _).alloc (Nat.le_refl _) (.cells #[.int .u8 0, .int .i64 0, .int .i64 0, .int .i64 0, .int .i64 0] 97))).sc
    have H4 := Lib.hid (H2.out.on ((Below.refl _ _).alloc (Nat.le_refl _) (.cells #[.int .u8 ((σ s.handle).getD th0).alg, .int .i64 ((σ s.handle).getD th0).out, .int .i64 ((σ s.handle).getD th0).key, .int .i64 ((σ s.handle).getD th0).custom, .int .i64 ((σ s.handle).getD th0).msg] 97)))
    have S4 := H4.out.sc
    refine hd_one 10 (by kernel_rfl) ?_
    refine op_run rfl (by kernel_rfl) (by go_simp; first | done | exact ⟨rfl, rfl⟩ | rfl) ?_
    refine ⟨S3, ?_⟩
    simp only [List.getElem_toArray, List.getElem_cons_succ, List.getElem_cons_zero, Act.put, List.setIfInBounds_toArray, List.set_cons_zero, List.set_cons_succ]
    refine hd_one 11 (by kernel_rfl) ?_
    refine op_skip rfl (by kernel_rfl) (by go_simp; first | done | rfl) ?_
    refine ⟨S4, ?_⟩
    simp only [List.getElem_toArray, List.getElem_cons_succ, List.getElem_cons_zero, Act.put, List.setIfInBounds_toArray, List.set_cons_zero, List.set_cons_succ]
    refine hd_take (v := ?_) 12 rfl (by kernel_rfl) (fun _ _ d _ _ h => (by cases d <;> exact h)) (by kernel_rfl) S4 (fun w' hS => ?_) ?_
    rotate_left
    focus (clear hS; go_simp; try rfl; done)
    simp only [List.getElem_toArray, List.getElem_cons_succ, List.getElem_cons_zero, Act.put, List.setIfInBounds_toArray, List.set_cons_zero, List.set_cons_succ]
    refine hd_done (by kernel_rfl) ?_
    go_wp2_with fail
    go_meet
    exact ⟨rfl, Lib.hid H4.out.up⟩
  case rest =>
    obtain ⟨rfl, HB3⟩ := hcut
    cases hi : (σ s.handle).isSome
    · have hz : v = 5 := by
        rw [← HV.out]
        unfold anyC
        cases hx : σ s.handle with
        | none => rfl
        | some t => rw [hx] at hi; cases hi
      subst hz
      clear hi
      go_wp2_with fail
      go_ret
      exact ⟨rfl, HB3.out⟩
    · have hz : v = 0 := by
        rw [← HV.out]
        unfold anyC
        cases hx : σ s.handle with
        | none => rw [hx] at hi; cases hi
        | some t => rfl
      subst hz
      clear hi
      go_wp2_with fail
      go_ret
      exact ⟨rfl, HB3.out⟩
/-! ### printed by wip/mkcostcode.py -/
set_option maxHeartbeats 1000000 in
theorem croom_any {w : World} {p m k : Nat} {σ : Hs} (h : PubAt w p m k σ) : Calls Tryz.prog 60 #[pV p] w (Told (.int .i64 (roomC σ)) w) := by
  have c0 := h.blk.cellAt 0 (v := .map (some m)) rfl
  have hl := h.blk.lt
  have hlen := fun ty => h.held.len ty
  have HP := Lib.hid h
  clear h
  unfold pV roomC
  by_cases hc : cntH σ = 64
  · have t1 : ((cntH σ : Int) == 64) = true := by rw [beq_iff_eq]; omega
    rw [if_pos hc]
    clear hc
    go_enter Tryz.func60, Tryz.ntmps60
    go_wp2
    go_ret
    exact ⟨rfl, Below.refl _ _⟩
  · have t1 : ((cntH σ : Int) == 64) = false := by rw [beq_eq_false_iff_ne]; omega
    rw [if_neg hc]
    clear hc
    go_enter Tryz.func60, Tryz.ntmps60
    go_wp2
    go_ret
    exact ⟨rfl, Below.refl _ _⟩
set_option maxHeartbeats 1000000 in
theorem ckey_any {w : World} {p m k : Nat} {σ : Hs} (h : PubAt w p m k σ) (s : Sk) (hs : okI s.handle) : Calls Tryz.prog 42 #[pV p, skV s] w (Told (.int .i64 (keyC σ s)) w) := by
  have HB := Lib.hid (Box.new h hs)
  clear h
  unfold pV skV
  unfold skCells at HB
  go_enter Tryz.func42, Tryz.ntmps42
  go_wp2_with fail
  obtain ⟨B, hB⟩ : ∃ B, w.heap.size = B := ⟨_, rfl⟩
  obtain ⟨w1, hw1⟩ : ∃ y, w.alloc (.cells #[.int .u8 s.kind, .int .i64 s.handle, .int .u8 s.alg, .int .i64 s.count, .int .i64 s.out, .int .i64 s.data, .int .i64 s.more] 40) = y := ⟨_, rfl⟩
  rw [hw1, hB] at HB
  try rw [hw1]
  try rw [hB]
  clear hw1 hB
  have c1 := HB.out.sc
  have b0 := c1.b0
  have b1 := c1.b1
  have b2 := c1.b2
  have b3 := c1.b3
  have b4 := c1.b4
  have b5 := c1.b5
  have b6 := c1.b6
  clear c1
  clear b0 b1 b2 b3 b4 b5 b6
  refine (cany_any HB.out.pub s HB.out.hs).mono ?_
  rintro e w2 ⟨rfl, hb⟩
  have H2 := Lib.hid (HB.out.on hb)
  clear hb
  cases hx : σ s.handle with
  | none =>
    have e5 : anyC σ s = 5 := by simp [anyC, hx]
    rw [e5]
    clear e5
    have hz : keyC σ s = 5 := by simp [keyC, hx]
    have HZ := Lib.hid hz
    clear hz
    clear hx
    go_wp2_with fail
    go_ret
    exact ⟨by rw [HZ.out]; rfl, H2.out.up⟩
  | some t =>
    have e5 : anyC σ s = 0 := by simp [anyC, hx]
    rw [e5]
    clear e5
    have HS : Hid (∀ W, Box w W p m k σ B s → SCost p m B s t true W) := Lib.hid (fun W hW => by have := hW.sc; rw [hx] at this; exact this)
    go_upto_region 4 with fail
    by_cases h0 : t.alg = 0
    · have hz : keyC σ s = 0 := by simp [keyC, hx, h0]
      have HZ := Lib.hid hz
      have q0 : (t.alg == (0 : Int)) = true := by rw [beq_iff_eq]; exact h0
      have q1 : (t.alg != (0 : Int)) = false := by rw [bne, q0]; rfl
      clear hz h0
      clear hx
      refine hd_start (SCost p m B s t true) (by kernel_rfl) ?_
      intro w3 hw'
      have H3 := Lib.hid (H2.out.draw 1)
      rw [← hw'] at H3
      clear hw' H2
      have S3 : SCost p m B s t true w3 := HS.out _ H3.out
      refine hd_take (v := ?_) 0 rfl (by kernel_rfl) (fun _ _ d _ _ h => (by cases d <;> exact h)) (by kernel_rfl) S3 (fun w' hS => ?_) ?_
      rotate_left
      focus (have q0 := SCost.fc w' hS; have q1 := SCost.fat w' hS; have q2 := SCost.f1 w' hS; clear hS; go_simp; try rfl; done)
      simp only [List.getElem_toArray, List.getElem_cons_succ, List.getElem_cons_zero, Act.put, List.setIfInBounds_toArray, List.set_cons_zero, List.set_cons_succ]
      refine hd_take (v := ?_) 1 rfl (by kernel_rfl) (fun _ _ d _ _ h => (by cases d <;> exact h)) (by kernel_rfl) S3 (fun w' hS => ?_) ?_
      rotate_left
      focus (have q0 := SCost.fc w' hS; have q1 := SCost.fat w' hS; have q2 := SCost.f1 w' hS; clear hS; go_simp; try rfl; done)
      simp only [List.getElem_toArray, List.getElem_cons_succ, List.getElem_cons_zero, Act.put, List.setIfInBounds_toArray, List.set_cons_zero, List.set_cons_succ]
      refine hd_take (v := ?_) 2 rfl (by kernel_rfl) (fun _ _ d _ _ h => (by cases d <;> exact h)) (by kernel_rfl) S3 (fun w' hS => ?_) ?_
      rotate_left
      focus (have q0 := SCost.fc w' hS; have q1 := SCost.fat w' hS; have q2 := SCost.f1 w' hS; clear hS; go_simp; try rfl; done)
      simp only [List.getElem_toArray, List.getElem_cons_succ, List.getElem_cons_zero, Act.put, List.setIfInBounds_toArray, List.set_cons_zero, List.set_cons_succ]
      refine hd_take (v := ?_) 3 rfl (by kernel_rfl) (fun _ _ d _ _ h => (by cases d <;> exact h)) (by kernel_rfl) S3 (fun w' hS => ?_) ?_
      rotate_left
      focus (have q0 := SCost.fc w' hS; have q1 := SCost.fat w' hS; have q2 := SCost.f1 w' hS; clear hS; go_simp; try rfl; done)
      simp only [List.getElem_toArray, List.getElem_cons_succ, List.getElem_cons_zero, Act.put, List.setIfInBounds_toArray, List.set_cons_zero, List.set_cons_succ]
      refine hd_take (v := ?_) 4 rfl (by kernel_rfl) (fun _ _ d _ _ h => (by cases d <;> exact h)) (by kernel_rfl) S3 (fun w' hS => ?_) ?_
      rotate_left
      focus (have q0 := SCost.fc w' hS; have q1 := SCost.fat w' hS; have q2 := SCost.f1 w' hS; clear hS; go_simp; try rfl; done)
      simp only [List.getElem_toArray, List.getElem_cons_succ, List.getElem_cons_zero, Act.put, List.setIfInBounds_toArray, List.set_cons_zero, List.set_cons_succ]
      refine hd_take (v := ?_) 5 rfl (by kernel_rfl) (fun _ _ d _ _ h => (by cases d <;> exact h)) (by kernel_rfl) S3 (fun w' hS => ?_) ?_
      rotate_left
      focus (have q0 := SCost.fc w' hS; have q1 := SCost.fat w' hS; have q2 := SCost.f1 w' hS; clear hS; go_simp; try rfl; done)
      simp only [List.getElem_toArray, List.getElem_cons_succ, List.getElem_cons_zero, Act.put, List.setIfInBounds_toArray, List.set_cons_zero, List.set_cons_succ]
      refine hd_take (v := ?_) 6 rfl (by kernel_rfl) (fun _ _ d _ _ h => (by cases d <;> exact h)) (by kernel_rfl) S3 (fun w' hS => ?_) ?_
      rotate_left
      focus (have q0 := SCost.fc w' hS; have q1 := SCost.fat w' hS; have q2 := SCost.f1 w' hS; clear hS; go_simp; try rfl; done)
      simp only [List.getElem_toArray, List.getElem_cons_succ, List.getElem_cons_zero, Act.put, List.setIfInBounds_toArray, List.set_cons_zero, List.set_cons_succ]
      refine hd_take (v := ?_) 7 rfl (by kernel_rfl) (fun _ _ d _ _ h => (by cases d <;> exact h)) (by kernel_rfl) S3 (fun w' hS => ?_) ?_
      rotate_left
      focus (have q0 := SCost.fc w' hS; have q1 := SCost.fat w' hS; have q2 := SCost.f1 w' hS; clear hS; go_simp; try rfl; done)
      simp only [List.getElem_toArray, List.getElem_cons_succ, List.getElem_cons_zero, Act.put, List.setIfInBounds_toArray, List.set_cons_zero, List.set_cons_succ]
      refine hd_take (v := ?_) 8 rfl (by kernel_rfl) (fun _ _ d _ _ h => (by cases d <;> exact h)) (by kernel_rfl) S3 (fun w' hS => ?_) ?_
      rotate_left
      focus (have q0 := SCost.fc w' hS; have q1 := SCost.fat w' hS; have q2 := SCost.f1 w' hS; clear hS; go_simp; try rfl; done)
      simp only [List.getElem_toArray, List.getElem_cons_succ, List.getElem_cons_zero, Act.put, List.setIfInBounds_toArray, List.set_cons_zero, List.set_cons_succ]
      refine hd_done (by kernel_rfl) ?_
      clear S3
      go_wp2_with fail
      go_ret
      exact ⟨by rw [HZ.out]; rfl, H3.out.up⟩
    · have hz : keyC σ s = 6 := by simp [keyC, hx, h0]
      have HZ := Lib.hid hz
      have q0 : (t.alg == (0 : Int)) = false := by rw [beq_eq_false_iff_ne]; exact h0
      have q1 : (t.alg != (0 : Int)) = true := by rw [bne, q0]; rfl
      clear hz h0
      clear hx
      refine hd_start (SCost p m B s t true) (by kernel_rfl) ?_
      intro w3 hw'
      have H3 := Lib.hid (H2.out.draw 1)
      rw [← hw'] at H3
      clear hw' H2
      have S3 : SCost p m B s t true w3 := HS.out _ H3.out
      refine hd_take (v := ?_) 0 rfl (by kernel_rfl) (fun _ _ d _ _ h => (by cases d <;> exact h)) (by kernel_rfl) S3 (fun w' hS => ?_) ?_
      rotate_left
      focus (have q0 := SCost.fc w' hS; have q1 := SCost.fat w' hS; have q2 := SCost.f1 w' hS; clear hS; go_simp; try rfl; done)
      simp only [List.getElem_toArray, List.getElem_cons_succ, List.getElem_cons_zero, Act.put, List.setIfInBounds_toArray, List.set_cons_zero, List.set_cons_succ]
      refine hd_take (v := ?_) 1 rfl (by kernel_rfl) (fun _ _ d _ _ h => (by cases d <;> exact h)) (by kernel_rfl) S3 (fun w' hS => ?_) ?_
      rotate_left
      focus (have q0 := SCost.fc w' hS; have q1 := SCost.fat w' hS; have q2 := SCost.f1 w' hS; clear hS; go_simp; try rfl; done)
      simp only [List.getElem_toArray, List.getElem_cons_succ, List.getElem_cons_zero, Act.put, List.setIfInBounds_toArray, List.set_cons_zero, List.set_cons_succ]
      refine hd_take (v := ?_) 2 rfl (by kernel_rfl) (fun _ _ d _ _ h => (by cases d <;> exact h)) (by kernel_rfl) S3 (fun w' hS => ?_) ?_
      rotate_left
      focus (have q0 := SCost.fc w' hS; have q1 := SCost.fat w' hS; have q2 := SCost.f1 w' hS; clear hS; go_simp; try rfl; done)
      simp only [List.getElem_toArray, List.getElem_cons_succ, List.getElem_cons_zero, Act.put, List.setIfInBounds_toArray, List.set_cons_zero, List.set_cons_succ]
      refine hd_take (v := ?_) 3 rfl (by kernel_rfl) (fun _ _ d _ _ h => (by cases d <;> exact h)) (by kernel_rfl) S3 (fun w' hS => ?_) ?_
      rotate_left
      focus (have q0 := SCost.fc w' hS; have q1 := SCost.fat w' hS; have q2 := SCost.f1 w' hS; clear hS; go_simp; try rfl; done)
      simp only [List.getElem_toArray, List.getElem_cons_succ, List.getElem_cons_zero, Act.put, List.setIfInBounds_toArray, List.set_cons_zero, List.set_cons_succ]
      refine hd_take (v := ?_) 4 rfl (by kernel_rfl) (fun _ _ d _ _ h => (by cases d <;> exact h)) (by kernel_rfl) S3 (fun w' hS => ?_) ?_
      rotate_left
      focus (have q0 := SCost.fc w' hS; have q1 := SCost.fat w' hS; have q2 := SCost.f1 w' hS; clear hS; go_simp; try rfl; done)
      simp only [List.getElem_toArray, List.getElem_cons_succ, List.getElem_cons_zero, Act.put, List.setIfInBounds_toArray, List.set_cons_zero, List.set_cons_succ]
      refine hd_take (v := ?_) 5 rfl (by kernel_rfl) (fun _ _ d _ _ h => (by cases d <;> exact h)) (by kernel_rfl) S3 (fun w' hS => ?_) ?_
      rotate_left
      focus (have q0 := SCost.fc w' hS; have q1 := SCost.fat w' hS; have q2 := SCost.f1 w' hS; clear hS; go_simp; try rfl; done)
      simp only [List.getElem_toArray, List.getElem_cons_succ, List.getElem_cons_zero, Act.put, List.setIfInBounds_toArray, List.set_cons_zero, List.set_cons_succ]
      refine hd_take (v := ?_) 6 rfl (by kernel_rfl) (fun _ _ d _ _ h => (by cases d <;> exact h)) (by kernel_rfl) S3 (fun w' hS => ?_) ?_
      rotate_left
      focus (have q0 := SCost.fc w' hS; have q1 := SCost.fat w' hS; have q2 := SCost.f1 w' hS; clear hS; go_simp; try rfl; done)
      simp only [List.getElem_toArray, List.getElem_cons_succ, List.getElem_cons_zero, Act.put, List.setIfInBounds_toArray, List.set_cons_zero, List.set_cons_succ]
      refine hd_take (v := ?_) 7 rfl (by kernel_rfl) (fun _ _ d _ _ h => (by cases d <;> exact h)) (by kernel_rfl) S3 (fun w' hS => ?_) ?_
      rotate_left
      focus (have q0 := SCost.fc w' hS; have q1 := SCost.fat w' hS; have q2 := SCost.f1 w' hS; clear hS; go_simp; try rfl; done)
      simp only [List.getElem_toArray, List.getElem_cons_succ, List.getElem_cons_zero, Act.put, List.setIfInBounds_toArray, List.set_cons_zero, List.set_cons_succ]
      refine hd_take (v := ?_) 8 rfl (by kernel_rfl) (fun _ _ d _ _ h => (by cases d <;> exact h)) (by kernel_rfl) S3 (fun w' hS => ?_) ?_
      rotate_left
      focus (have q0 := SCost.fc w' hS; have q1 := SCost.fat w' hS; have q2 := SCost.f1 w' hS; clear hS; go_simp; try rfl; done)
      simp only [List.getElem_toArray, List.getElem_cons_succ, List.getElem_cons_zero, Act.put, List.setIfInBounds_toArray, List.set_cons_zero, List.set_cons_succ]
      refine hd_done (by kernel_rfl) ?_
      clear S3
      go_wp2_with fail
      go_ret
      exact ⟨by rw [HZ.out]; rfl, H3.out.up⟩
set_option maxHeartbeats 1000000 in
theorem cses_any {w : World} {p m k : Nat} {σ : Hs} (h : PubAt w p m k σ) (s : Sk) (hs : okI s.handle) : Calls Tryz.prog 32 #[pV p, skV s] w (Told (.int .i64 (sesC σ s)) w) := by
  have HB := Lib.hid (Box.new h hs)
  clear h
  unfold pV skV
  unfold skCells at HB
  go_enter Tryz.func32, Tryz.ntmps32
  go_wp2_with fail
  obtain ⟨B, hB⟩ : ∃ B, w.heap.size = B := ⟨_, rfl⟩
  obtain ⟨w1, hw1⟩ : ∃ y, w.alloc (.cells #[.int .u8 s.kind, .int .i64 s.handle, .int .u8 s.alg, .int .i64 s.count, .int .i64 s.out, .int .i64 s.data, .int .i64 s.more] 40) = y := ⟨_, rfl⟩
  rw [hw1, hB] at HB
  try rw [hw1]
  try rw [hB]
  clear hw1 hB
  have c1 := HB.out.sc
  have b0 := c1.b0
  have b1 := c1.b1
  have b2 := c1.b2
  have b3 := c1.b3
  have b4 := c1.b4
  have b5 := c1.b5
  have b6 := c1.b6
  clear c1
  clear b0 b1 b2 b3 b4 b5 b6
  refine (cany_any HB.out.pub s HB.out.hs).mono ?_
  rintro e w2 ⟨rfl, hb⟩
  have H2 := Lib.hid (HB.out.on hb)
  clear hb
  cases hx : σ s.handle with
  | none =>
    have e5 : anyC σ s = 5 := by simp [anyC, hx]
    rw [e5]
    clear e5
    have hz : sesC σ s = 5 := by simp [sesC, hx]
    have HZ := Lib.hid hz
    clear hz
    clear hx
    go_wp2_with fail
    go_ret
    exact ⟨by rw [HZ.out]; rfl, H2.out.up⟩
  | some t =>
    have e5 : anyC σ s = 0 := by simp [anyC, hx]
    rw [e5]
    clear e5
    have HS : Hid (∀ W, Box w W p m k σ B s → SCost p m B s t true W) := Lib.hid (fun W hW => by have := hW.sc; rw [hx] at this; exact this)
    go_upto_region 4 with fail
    by_cases h0 : t.alg = 0
    · have hz : sesC σ s = 6 := by simp [sesC, hx, h0]
      have HZ := Lib.hid hz
      have q0 : (t.alg == (0 : Int)) = true := by rw [beq_iff_eq]; exact h0
      have q1 : (t.alg != (0 : Int)) = false := by rw [bne, q0]; rfl
      clear hz h0
      clear hx
      refine hd_start (SCost p m B s t true) (by kernel_rfl) ?_
      intro w3 hw'
      have H3 := Lib.hid (H2.out.draw 1)
      rw [← hw'] at H3
      clear hw' H2
      have S3 : SCost p m B s t true w3 := HS.out _ H3.out
      refine hd_take (v := ?_) 0 rfl (by kernel_rfl) (fun _ _ d _ _ h => (by cases d <;> exact h)) (by kernel_rfl) S3 (fun w' hS => ?_) ?_
      rotate_left
      focus (have q0 := SCost.fc w' hS; have q1 := SCost.fat w' hS; have q2 := SCost.f1 w' hS; clear hS; go_simp; try rfl; done)
      simp only [List.getElem_toArray, List.getElem_cons_succ, List.getElem_cons_zero, Act.put, List.setIfInBounds_toArray, List.set_cons_zero, List.set_cons_succ]
      refine hd_take (v := ?_) 1 rfl (by kernel_rfl) (fun _ _ d _ _ h => (by cases d <;> exact h)) (by kernel_rfl) S3 (fun w' hS => ?_) ?_
      rotate_left
      focus (have q0 := SCost.fc w' hS; have q1 := SCost.fat w' hS; have q2 := SCost.f1 w' hS; clear hS; go_simp; try rfl; done)
      simp only [List.getElem_toArray, List.getElem_cons_succ, List.getElem_cons_zero, Act.put, List.setIfInBounds_toArray, List.set_cons_zero, List.set_cons_succ]
      refine hd_take (v := ?_) 2 rfl (by kernel_rfl) (fun _ _ d _ _ h => (by cases d <;> exact h)) (by kernel_rfl) S3 (fun w' hS => ?_) ?_
      rotate_left
      focus (have q0 := SCost.fc w' hS; have q1 := SCost.fat w' hS; have q2 := SCost.f1 w' hS; clear hS; go_simp; try rfl; done)
      simp only [List.getElem_toArray, List.getElem_cons_succ, List.getElem_cons_zero, Act.put, List.setIfInBounds_toArray, List.set_cons_zero, List.set_cons_succ]
      refine hd_take (v := ?_) 3 rfl (by kernel_rfl) (fun _ _ d _ _ h => (by cases d <;> exact h)) (by kernel_rfl) S3 (fun w' hS => ?_) ?_
      rotate_left
      focus (have q0 := SCost.fc w' hS; have q1 := SCost.fat w' hS; have q2 := SCost.f1 w' hS; clear hS; go_simp; try rfl; done)
      simp only [List.getElem_toArray, List.getElem_cons_succ, List.getElem_cons_zero, Act.put, List.setIfInBounds_toArray, List.set_cons_zero, List.set_cons_succ]
      refine hd_take (v := ?_) 4 rfl (by kernel_rfl) (fun _ _ d _ _ h => (by cases d <;> exact h)) (by kernel_rfl) S3 (fun w' hS => ?_) ?_
      rotate_left
      focus (have q0 := SCost.fc w' hS; have q1 := SCost.fat w' hS; have q2 := SCost.f1 w' hS; clear hS; go_simp; try rfl; done)
      simp only [List.getElem_toArray, List.getElem_cons_succ, List.getElem_cons_zero, Act.put, List.setIfInBounds_toArray, List.set_cons_zero, List.set_cons_succ]
      refine hd_take (v := ?_) 5 rfl (by kernel_rfl) (fun _ _ d _ _ h => (by cases d <;> exact h)) (by kernel_rfl) S3 (fun w' hS => ?_) ?_
      rotate_left
      focus (have q0 := SCost.fc w' hS; have q1 := SCost.fat w' hS; have q2 := SCost.f1 w' hS; clear hS; go_simp; try rfl; done)
      simp only [List.getElem_toArray, List.getElem_cons_succ, List.getElem_cons_zero, Act.put, List.setIfInBounds_toArray, List.set_cons_zero, List.set_cons_succ]
      refine hd_take (v := ?_) 6 rfl (by kernel_rfl) (fun _ _ d _ _ h => (by cases d <;> exact h)) (by kernel_rfl) S3 (fun w' hS => ?_) ?_
      rotate_left
      focus (have q0 := SCost.fc w' hS; have q1 := SCost.fat w' hS; have q2 := SCost.f1 w' hS; clear hS; go_simp; try rfl; done)
      simp only [List.getElem_toArray, List.getElem_cons_succ, List.getElem_cons_zero, Act.put, List.setIfInBounds_toArray, List.set_cons_zero, List.set_cons_succ]
      refine hd_take (v := ?_) 7 rfl (by kernel_rfl) (fun _ _ d _ _ h => (by cases d <;> exact h)) (by kernel_rfl) S3 (fun w' hS => ?_) ?_
      rotate_left
      focus (have q0 := SCost.fc w' hS; have q1 := SCost.fat w' hS; have q2 := SCost.f1 w' hS; clear hS; go_simp; try rfl; done)
      simp only [List.getElem_toArray, List.getElem_cons_succ, List.getElem_cons_zero, Act.put, List.setIfInBounds_toArray, List.set_cons_zero, List.set_cons_succ]
      refine hd_take (v := ?_) 8 rfl (by kernel_rfl) (fun _ _ d _ _ h => (by cases d <;> exact h)) (by kernel_rfl) S3 (fun w' hS => ?_) ?_
      rotate_left
      focus (have q0 := SCost.fc w' hS; have q1 := SCost.fat w' hS; have q2 := SCost.f1 w' hS; clear hS; go_simp; try rfl; done)
      simp only [List.getElem_toArray, List.getElem_cons_succ, List.getElem_cons_zero, Act.put, List.setIfInBounds_toArray, List.set_cons_zero, List.set_cons_succ]
      refine hd_done (by kernel_rfl) ?_
      clear S3
      go_wp2_with fail
      go_ret
      exact ⟨by rw [HZ.out]; rfl, H3.out.up⟩
    · have hz : sesC σ s = 0 := by simp [sesC, hx, h0]
      have HZ := Lib.hid hz
      have q0 : (t.alg == (0 : Int)) = false := by rw [beq_eq_false_iff_ne]; exact h0
      have q1 : (t.alg != (0 : Int)) = true := by rw [bne, q0]; rfl
      clear hz h0
      clear hx
      refine hd_start (SCost p m B s t true) (by kernel_rfl) ?_
      intro w3 hw'
      have H3 := Lib.hid (H2.out.draw 1)
      rw [← hw'] at H3
      clear hw' H2
      have S3 : SCost p m B s t true w3 := HS.out _ H3.out
      refine hd_take (v := ?_) 0 rfl (by kernel_rfl) (fun _ _ d _ _ h => (by cases d <;> exact h)) (by kernel_rfl) S3 (fun w' hS => ?_) ?_
      rotate_left
      focus (have q0 := SCost.fc w' hS; have q1 := SCost.fat w' hS; have q2 := SCost.f1 w' hS; clear hS; go_simp; try rfl; done)
      simp only [List.getElem_toArray, List.getElem_cons_succ, List.getElem_cons_zero, Act.put, List.setIfInBounds_toArray, List.set_cons_zero, List.set_cons_succ]
      refine hd_take (v := ?_) 1 rfl (by kernel_rfl) (fun _ _ d _ _ h => (by cases d <;> exact h)) (by kernel_rfl) S3 (fun w' hS => ?_) ?_
      rotate_left
      focus (have q0 := SCost.fc w' hS; have q1 := SCost.fat w' hS; have q2 := SCost.f1 w' hS; clear hS; go_simp; try rfl; done)
      simp only [List.getElem_toArray, List.getElem_cons_succ, List.getElem_cons_zero, Act.put, List.setIfInBounds_toArray, List.set_cons_zero, List.set_cons_succ]
      refine hd_take (v := ?_) 2 rfl (by kernel_rfl) (fun _ _ d _ _ h => (by cases d <;> exact h)) (by kernel_rfl) S3 (fun w' hS => ?_) ?_
      rotate_left
      focus (have q0 := SCost.fc w' hS; have q1 := SCost.fat w' hS; have q2 := SCost.f1 w' hS; clear hS; go_simp; try rfl; done)
      simp only [List.getElem_toArray, List.getElem_cons_succ, List.getElem_cons_zero, Act.put, List.setIfInBounds_toArray, List.set_cons_zero, List.set_cons_succ]
      refine hd_take (v := ?_) 3 rfl (by kernel_rfl) (fun _ _ d _ _ h => (by cases d <;> exact h)) (by kernel_rfl) S3 (fun w' hS => ?_) ?_
      rotate_left
      focus (have q0 := SCost.fc w' hS; have q1 := SCost.fat w' hS; have q2 := SCost.f1 w' hS; clear hS; go_simp; try rfl; done)
      simp only [List.getElem_toArray, List.getElem_cons_succ, List.getElem_cons_zero, Act.put, List.setIfInBounds_toArray, List.set_cons_zero, List.set_cons_succ]
      refine hd_take (v := ?_) 4 rfl (by kernel_rfl) (fun _ _ d _ _ h => (by cases d <;> exact h)) (by kernel_rfl) S3 (fun w' hS => ?_) ?_
      rotate_left
      focus (have q0 := SCost.fc w' hS; have q1 := SCost.fat w' hS; have q2 := SCost.f1 w' hS; clear hS; go_simp; try rfl; done)
      simp only [List.getElem_toArray, List.getElem_cons_succ, List.getElem_cons_zero, Act.put, List.setIfInBounds_toArray, List.set_cons_zero, List.set_cons_succ]
      refine hd_take (v := ?_) 5 rfl (by kernel_rfl) (fun _ _ d _ _ h => (by cases d <;> exact h)) (by kernel_rfl) S3 (fun w' hS => ?_) ?_
      rotate_left
      focus (have q0 := SCost.fc w' hS; have q1 := SCost.fat w' hS; have q2 := SCost.f1 w' hS; clear hS; go_simp; try rfl; done)
      simp only [List.getElem_toArray, List.getElem_cons_succ, List.getElem_cons_zero, Act.put, List.setIfInBounds_toArray, List.set_cons_zero, List.set_cons_succ]
      refine hd_take (v := ?_) 6 rfl (by kernel_rfl) (fun _ _ d _ _ h => (by cases d <;> exact h)) (by kernel_rfl) S3 (fun w' hS => ?_) ?_
      rotate_left
      focus (have q0 := SCost.fc w' hS; have q1 := SCost.fat w' hS; have q2 := SCost.f1 w' hS; clear hS; go_simp; try rfl; done)
      simp only [List.getElem_toArray, List.getElem_cons_succ, List.getElem_cons_zero, Act.put, List.setIfInBounds_toArray, List.set_cons_zero, List.set_cons_succ]
      refine hd_take (v := ?_) 7 rfl (by kernel_rfl) (fun _ _ d _ _ h => (by cases d <;> exact h)) (by kernel_rfl) S3 (fun w' hS => ?_) ?_
      rotate_left
      focus (have q0 := SCost.fc w' hS; have q1 := SCost.fat w' hS; have q2 := SCost.f1 w' hS; clear hS; go_simp; try rfl; done)
      simp only [List.getElem_toArray, List.getElem_cons_succ, List.getElem_cons_zero, Act.put, List.setIfInBounds_toArray, List.set_cons_zero, List.set_cons_succ]
      refine hd_take (v := ?_) 8 rfl (by kernel_rfl) (fun _ _ d _ _ h => (by cases d <;> exact h)) (by kernel_rfl) S3 (fun w' hS => ?_) ?_
      rotate_left
      focus (have q0 := SCost.fc w' hS; have q1 := SCost.fat w' hS; have q2 := SCost.f1 w' hS; clear hS; go_simp; try rfl; done)
      simp only [List.getElem_toArray, List.getElem_cons_succ, List.getElem_cons_zero, Act.put, List.setIfInBounds_toArray, List.set_cons_zero, List.set_cons_succ]
      refine hd_done (by kernel_rfl) ?_
      clear S3
      go_wp2_with fail
      go_ret
      exact ⟨by rw [HZ.out]; rfl, H3.out.up⟩
set_option maxHeartbeats 1000000 in
theorem cput_any {w : World} {p m k : Nat} {σ : Hs} (h : PubAt w p m k σ) (s : Sk) (hs : okI s.handle) : Calls Tryz.prog 26 #[pV p, skV s] w (Told (.int .i64 (cputC σ s)) w) := by
  have HB := Lib.hid (Box.new h hs)
  clear h
  unfold pV skV
  unfold skCells at HB
  go_enter Tryz.func26, Tryz.ntmps26
  by_cases n1 : 512 < s.data
  · have qn1 : decide (512 < s.data) = true := by first | exact decide_eq_true n1 | (rw [beq_iff_eq]; exact n1) | simp [n1]
    have hz : cputC σ s = 7 := by simp [cputC, n1]
    have HZ := Lib.hid hz
    clear hz n1
    go_wp2_with fail
    go_ret
    exact ⟨by rw [HZ.out]; rfl, HB.out.up⟩
  · have qn1 : decide (512 < s.data) = false := by first | exact decide_eq_false n1 | (rw [beq_eq_false_iff_ne]; exact n1) | simp [n1]
    have hz : cputC σ s = roomC σ := by simp [cputC, n1]
    have HZ := Lib.hid hz
    clear hz n1
    go_wp2_with fail
    refine (croom_any HB.out.pub).mono ?_
    rintro e w2 ⟨rfl, hb⟩
    have H2 := Lib.hid (HB.out.on hb)
    clear hb
    go_wp2_with fail
    go_ret
    exact ⟨by rw [HZ.out]; rfl, H2.out.up⟩
set_option maxHeartbeats 1000000 in
theorem cupd_any {w : World} {p m k : Nat} {σ : Hs} (h : PubAt w p m k σ) (s : Sk) (hs : okI s.handle) : Calls Tryz.prog 30 #[pV p, skV s] w (Told (.int .i64 (updC σ s)) w) := by
  have HB := Lib.hid (Box.new h hs)
  clear h
  unfold pV skV
  unfold skCells at HB
  go_enter Tryz.func30, Tryz.ntmps30
  go_wp2_with fail
  obtain ⟨B, hB⟩ : ∃ B, w.heap.size = B := ⟨_, rfl⟩
  obtain ⟨w1, hw1⟩ : ∃ y, w.alloc (.cells #[.int .u8 s.kind, .int .i64 s.handle, .int .u8 s.alg, .int .i64 s.count, .int .i64 s.out, .int .i64 s.data, .int .i64 s.more] 40) = y := ⟨_, rfl⟩
  rw [hw1, hB] at HB
  try rw [hw1]
  try rw [hB]
  clear hw1 hB
  have c1 := HB.out.sc
  have b0 := c1.b0
  have b1 := c1.b1
  have b2 := c1.b2
  have b3 := c1.b3
  have b4 := c1.b4
  have b5 := c1.b5
  have b6 := c1.b6
  clear c1
  clear b0 b1 b2 b3 b4 b5 b6
  refine (cses_any HB.out.pub s HB.out.hs).mono ?_
  rintro e w2 ⟨rfl, hb⟩
  have H2 := Lib.hid (HB.out.on hb)
  clear hb
  by_cases hc : sesC σ s = 0
  · have HC := Lib.hid hc
    rw [hc]
    clear hc
    have c1 := H2.out.sc
    have b0 := c1.b0
    have b1 := c1.b1
    have b2 := c1.b2
    have b3 := c1.b3
    have b4 := c1.b4
    have b5 := c1.b5
    have b6 := c1.b6
    clear c1
    obtain ⟨t, hx, h0⟩ := sesC_zero HC.out
    by_cases n1 : 65536 < s.data
    · have qn1 : decide (65536 < s.data) = true := by first | exact decide_eq_true n1 | (rw [beq_iff_eq]; exact n1) | simp [n1]
      have hz : updC σ s = 9 := by simp [updC, hx, h0, n1]
      have HZ := Lib.hid hz
      clear hz n1 hx h0
      go_wp2_with fail
      go_ret
      exact ⟨by rw [HZ.out]; rfl, H2.out.up⟩
    · have qn1 : decide (65536 < s.data) = false := by first | exact decide_eq_false n1 | (rw [beq_eq_false_iff_ne]; exact n1) | simp [n1]
      have hz : updC σ s = 0 := by simp [updC, hx, h0, n1]
      have HZ := Lib.hid hz
      clear hz n1 hx h0
      go_wp2_with fail
      go_ret
      exact ⟨by rw [HZ.out]; rfl, H2.out.up⟩
  · have hz : updC σ s = sesC σ s := by
      unfold updC sesC at *
      cases hx : σ s.handle with
      | none => rfl
      | some t =>
        rw [hx] at hc
        simp only at hc ⊢
        split at hc
        · rename_i h0; rw [if_pos h0, if_pos h0]
        · exact absurd rfl hc
    have HZ := Lib.hid hz
    clear hz
    obtain ⟨c, hcc⟩ : ∃ c, sesC σ s = c := ⟨_, rfl⟩
    rw [hcc] at hc HZ ⊢
    have q1 : (c != (0 : Int)) = true := by rw [bne_iff_ne]; exact hc
    have q2 : (c == (0 : Int)) = false := by rw [beq_eq_false_iff_ne]; exact hc
    clear hc hcc
    go_wp2_with fail
    go_ret
    exact ⟨by rw [HZ.out]; rfl, H2.out.up⟩
set_option maxHeartbeats 1000000 in
theorem cver_any {w : World} {p m k : Nat} {σ : Hs} (h : PubAt w p m k σ) (s : Sk) (hs : okI s.handle) : Calls Tryz.prog 34 #[pV p, skV s] w (Told (.int .i64 (verC σ s)) w) := by
  have HB := Lib.hid (Box.new h hs)
  clear h
  unfold pV skV
  unfold skCells at HB
  go_enter Tryz.func34, Tryz.ntmps34
  go_wp2_with fail
  obtain ⟨B, hB⟩ : ∃ B, w.heap.size = B := ⟨_, rfl⟩
  obtain ⟨w1, hw1⟩ : ∃ y, w.alloc (.cells #[.int .u8 s.kind, .int .i64 s.handle, .int .u8 s.alg, .int .i64 s.count, .int .i64 s.out, .int .i64 s.data, .int .i64 s.more] 40) = y := ⟨_, rfl⟩
  rw [hw1, hB] at HB
  try rw [hw1]
  try rw [hB]
  clear hw1 hB
  have c1 := HB.out.sc
  have b0 := c1.b0
  have b1 := c1.b1
  have b2 := c1.b2
  have b3 := c1.b3
  have b4 := c1.b4
  have b5 := c1.b5
  have b6 := c1.b6
  clear c1
  clear b0 b1 b2 b3 b4 b5 b6
  refine (cses_any HB.out.pub s HB.out.hs).mono ?_
  rintro e w2 ⟨rfl, hb⟩
  have H2 := Lib.hid (HB.out.on hb)
  clear hb
  by_cases hc : sesC σ s = 0
  · have HC := Lib.hid hc
    rw [hc]
    clear hc
    obtain ⟨t, hx, h0⟩ := sesC_zero HC.out
    have HS : Hid (∀ W, Box w W p m k σ B s → SCost p m B s t true W) := Lib.hid (fun W hW => by have := hW.sc; rw [hx] at this; exact this)
    go_upto_region 4 with fail
    by_cases n1 : s.data = t.out
    · have hz : verC σ s = 0 := by simp [verC, hx, h0, n1]
      have HZ := Lib.hid hz
      have q1 : (s.data == t.out) = true := by rw [beq_iff_eq]; exact n1
      have q2 : (s.data != t.out) = false := by rw [bne, q1]; rfl
      clear hz h0 hx n1
      refine hd_start (SCost p m B s t true) (by kernel_rfl) ?_
      intro w3 hw'
      have H3 := Lib.hid (H2.out.draw 1)
      rw [← hw'] at H3
      clear hw' H2
      have S3 : SCost p m B s t true w3 := HS.out _ H3.out
      refine hd_take (v := ?_) 0 rfl (by kernel_rfl) (fun _ _ d _ _ h => (by cases d <;> exact h)) (by kernel_rfl) S3 (fun w' hS => ?_) ?_
      rotate_left
      focus (have q0 := SCost.fc w' hS; have q1 := SCost.fat w' hS; have q2 := SCost.f1 w' hS; have q3 := SCost.f5 w' hS; clear hS; go_simp; try rfl; done)
      simp only [List.getElem_toArray, List.getElem_cons_succ, List.getElem_cons_zero, Act.put, List.setIfInBounds_toArray, List.set_cons_zero, List.set_cons_succ]
      refine hd_take (v := ?_) 1 rfl (by kernel_rfl) (fun _ _ d _ _ h => (by cases d <;> exact h)) (by kernel_rfl) S3 (fun w' hS => ?_) ?_
      rotate_left
      focus (have q0 := SCost.fc w' hS; have q1 := SCost.fat w' hS; have q2 := SCost.f1 w' hS; have q3 := SCost.f5 w' hS; clear hS; go_simp; try rfl; done)
      simp only [List.getElem_toArray, List.getElem_cons_succ, List.getElem_cons_zero, Act.put, List.setIfInBounds_toArray, List.set_cons_zero, List.set_cons_succ]
      refine hd_take (v := ?_) 2 rfl (by kernel_rfl) (fun _ _ d _ _ h => (by cases d <;> exact h)) (by kernel_rfl) S3 (fun w' hS => ?_) ?_
      rotate_left
      focus (have q0 := SCost.fc w' hS; have q1 := SCost.fat w' hS; have q2 := SCost.f1 w' hS; have q3 := SCost.f5 w' hS; clear hS; go_simp; try rfl; done)
      simp only [List.getElem_toArray, List.getElem_cons_succ, List.getElem_cons_zero, Act.put, List.setIfInBounds_toArray, List.set_cons_zero, List.set_cons_succ]
      refine hd_take (v := ?_) 3 rfl (by kernel_rfl) (fun _ _ d _ _ h => (by cases d <;> exact h)) (by kernel_rfl) S3 (fun w' hS => ?_) ?_
      rotate_left
      focus (have q0 := SCost.fc w' hS; have q1 := SCost.fat w' hS; have q2 := SCost.f1 w' hS; have q3 := SCost.f5 w' hS; clear hS; go_simp; try rfl; done)
      simp only [List.getElem_toArray, List.getElem_cons_succ, List.getElem_cons_zero, Act.put, List.setIfInBounds_toArray, List.set_cons_zero, List.set_cons_succ]
      refine hd_take (v := ?_) 4 rfl (by kernel_rfl) (fun _ _ d _ _ h => (by cases d <;> exact h)) (by kernel_rfl) S3 (fun w' hS => ?_) ?_
      rotate_left
      focus (have q0 := SCost.fc w' hS; have q1 := SCost.fat w' hS; have q2 := SCost.f1 w' hS; have q3 := SCost.f5 w' hS; clear hS; go_simp; try rfl; done)
      simp only [List.getElem_toArray, List.getElem_cons_succ, List.getElem_cons_zero, Act.put, List.setIfInBounds_toArray, List.set_cons_zero, List.set_cons_succ]
      refine hd_take (v := ?_) 5 rfl (by kernel_rfl) (fun _ _ d _ _ h => (by cases d <;> exact h)) (by kernel_rfl) S3 (fun w' hS => ?_) ?_
      rotate_left
      focus (have q0 := SCost.fc w' hS; have q1 := SCost.fat w' hS; have q2 := SCost.f1 w' hS; have q3 := SCost.f5 w' hS; clear hS; go_simp; try rfl; done)
      simp only [List.getElem_toArray, List.getElem_cons_succ, List.getElem_cons_zero, Act.put, List.setIfInBounds_toArray, List.set_cons_zero, List.set_cons_succ]
      refine hd_take (v := ?_) 6 rfl (by kernel_rfl) (fun _ _ d _ _ h => (by cases d <;> exact h)) (by kernel_rfl) S3 (fun w' hS => ?_) ?_
      rotate_left
      focus (have q0 := SCost.fc w' hS; have q1 := SCost.fat w' hS; have q2 := SCost.f1 w' hS; have q3 := SCost.f5 w' hS; clear hS; go_simp; try rfl; done)
      simp only [List.getElem_toArray, List.getElem_cons_succ, List.getElem_cons_zero, Act.put, List.setIfInBounds_toArray, List.set_cons_zero, List.set_cons_succ]
      refine hd_take (v := ?_) 7 rfl (by kernel_rfl) (fun _ _ d _ _ h => (by cases d <;> exact h)) (by kernel_rfl) S3 (fun w' hS => ?_) ?_
      rotate_left
      focus (have q0 := SCost.fc w' hS; have q1 := SCost.fat w' hS; have q2 := SCost.f1 w' hS; have q3 := SCost.f5 w' hS; clear hS; go_simp; try rfl; done)
      simp only [List.getElem_toArray, List.getElem_cons_succ, List.getElem_cons_zero, Act.put, List.setIfInBounds_toArray, List.set_cons_zero, List.set_cons_succ]
      refine hd_take (v := ?_) 8 rfl (by kernel_rfl) (fun _ _ d _ _ h => (by cases d <;> exact h)) (by kernel_rfl) S3 (fun w' hS => ?_) ?_
      rotate_left
      focus (have q0 := SCost.fc w' hS; have q1 := SCost.fat w' hS; have q2 := SCost.f1 w' hS; have q3 := SCost.f5 w' hS; clear hS; go_simp; try rfl; done)
      simp only [List.getElem_toArray, List.getElem_cons_succ, List.getElem_cons_zero, Act.put, List.setIfInBounds_toArray, List.set_cons_zero, List.set_cons_succ]
      refine hd_take (v := ?_) 9 rfl (by kernel_rfl) (fun _ _ d _ _ h => (by cases d <;> exact h)) (by kernel_rfl) S3 (fun w' hS => ?_) ?_
      rotate_left
      focus (have q0 := SCost.fc w' hS; have q1 := SCost.fat w' hS; have q2 := SCost.f1 w' hS; have q3 := SCost.f5 w' hS; clear hS; go_simp; try rfl; done)
      simp only [List.getElem_toArray, List.getElem_cons_succ, List.getElem_cons_zero, Act.put, List.setIfInBounds_toArray, List.set_cons_zero, List.set_cons_succ]
      refine hd_take (v := ?_) 10 rfl (by kernel_rfl) (fun _ _ d _ _ h => (by cases d <;> exact h)) (by kernel_rfl) S3 (fun w' hS => ?_) ?_
      rotate_left
      focus (have q0 := SCost.fc w' hS; have q1 := SCost.fat w' hS; have q2 := SCost.f1 w' hS; have q3 := SCost.f5 w' hS; clear hS; go_simp; try rfl; done)
      simp only [List.getElem_toArray, List.getElem_cons_succ, List.getElem_cons_zero, Act.put, List.setIfInBounds_toArray, List.set_cons_zero, List.set_cons_succ]
      refine hd_done (by kernel_rfl) ?_
      clear S3
      go_wp2_with fail
      go_ret
      exact ⟨by rw [HZ.out]; rfl, H3.out.up⟩
    · have hz : verC σ s = 11 := by simp [verC, hx, h0, n1]
      have HZ := Lib.hid hz
      have q1 : (s.data == t.out) = false := by rw [beq_eq_false_iff_ne]; exact n1
      have q2 : (s.data != t.out) = true := by rw [bne, q1]; rfl
      clear hz h0 hx n1
      refine hd_start (SCost p m B s t true) (by kernel_rfl) ?_
      intro w3 hw'
      have H3 := Lib.hid (H2.out.draw 1)
      rw [← hw'] at H3
      clear hw' H2
      have S3 : SCost p m B s t true w3 := HS.out _ H3.out
      refine hd_take (v := ?_) 0 rfl (by kernel_rfl) (fun _ _ d _ _ h => (by cases d <;> exact h)) (by kernel_rfl) S3 (fun w' hS => ?_) ?_
      rotate_left
      focus (have q0 := SCost.fc w' hS; have q1 := SCost.fat w' hS; have q2 := SCost.f1 w' hS; have q3 := SCost.f5 w' hS; clear hS; go_simp; try rfl; done)
      simp only [List.getElem_toArray, List.getElem_cons_succ, List.getElem_cons_zero, Act.put, List.setIfInBounds_toArray, List.set_cons_zero, List.set_cons_succ]
      refine hd_take (v := ?_) 1 rfl (by kernel_rfl) (fun _ _ d _ _ h => (by cases d <;> exact h)) (by kernel_rfl) S3 (fun w' hS => ?_) ?_
      rotate_left
      focus (have q0 := SCost.fc w' hS; have q1 := SCost.fat w' hS; have q2 := SCost.f1 w' hS; have q3 := SCost.f5 w' hS; clear hS; go_simp; try rfl; done)
      simp only [List.getElem_toArray, List.getElem_cons_succ, List.getElem_cons_zero, Act.put, List.setIfInBounds_toArray, List.set_cons_zero, List.set_cons_succ]
      refine hd_take (v := ?_) 2 rfl (by kernel_rfl) (fun _ _ d _ _ h => (by cases d <;> exact h)) (by kernel_rfl) S3 (fun w' hS => ?_) ?_
      rotate_left
      focus (have q0 := SCost.fc w' hS; have q1 := SCost.fat w' hS; have q2 := SCost.f1 w' hS; have q3 := SCost.f5 w' hS; clear hS; go_simp; try rfl; done)
      simp only [List.getElem_toArray, List.getElem_cons_succ, List.getElem_cons_zero, Act.put, List.setIfInBounds_toArray, List.set_cons_zero, List.set_cons_succ]
      refine hd_take (v := ?_) 3 rfl (by kernel_rfl) (fun _ _ d _ _ h => (by cases d <;> exact h)) (by kernel_rfl) S3 (fun w' hS => ?_) ?_
      rotate_left
      focus (have q0 := SCost.fc w' hS; have q1 := SCost.fat w' hS; have q2 := SCost.f1 w' hS; have q3 := SCost.f5 w' hS; clear hS; go_simp; try rfl; done)
      simp only [List.getElem_toArray, List.getElem_cons_succ, List.getElem_cons_zero, Act.put, List.setIfInBounds_toArray, List.set_cons_zero, List.set_cons_succ]
      refine hd_take (v := ?_) 4 rfl (by kernel_rfl) (fun _ _ d _ _ h => (by cases d <;> exact h)) (by kernel_rfl) S3 (fun w' hS => ?_) ?_
      rotate_left
      focus (have q0 := SCost.fc w' hS; have q1 := SCost.fat w' hS; have q2 := SCost.f1 w' hS; have q3 := SCost.f5 w' hS; clear hS; go_simp; try rfl; done)
      simp only [List.getElem_toArray, List.getElem_cons_succ, List.getElem_cons_zero, Act.put, List.setIfInBounds_toArray, List.set_cons_zero, List.set_cons_succ]
      refine hd_take (v := ?_) 5 rfl (by kernel_rfl) (fun _ _ d _ _ h => (by cases d <;> exact h)) (by kernel_rfl) S3 (fun w' hS => ?_) ?_
      rotate_left
      focus (have q0 := SCost.fc w' hS; have q1 := SCost.fat w' hS; have q2 := SCost.f1 w' hS; have q3 := SCost.f5 w' hS; clear hS; go_simp; try rfl; done)
      simp only [List.getElem_toArray, List.getElem_cons_succ, List.getElem_cons_zero, Act.put, List.setIfInBounds_toArray, List.set_cons_zero, List.set_cons_succ]
      refine hd_take (v := ?_) 6 rfl (by kernel_rfl) (fun _ _ d _ _ h => (by cases d <;> exact h)) (by kernel_rfl) S3 (fun w' hS => ?_) ?_
      rotate_left
      focus (have q0 := SCost.fc w' hS; have q1 := SCost.fat w' hS; have q2 := SCost.f1 w' hS; have q3 := SCost.f5 w' hS; clear hS; go_simp; try rfl; done)
      simp only [List.getElem_toArray, List.getElem_cons_succ, List.getElem_cons_zero, Act.put, List.setIfInBounds_toArray, List.set_cons_zero, List.set_cons_succ]
      refine hd_take (v := ?_) 7 rfl (by kernel_rfl) (fun _ _ d _ _ h => (by cases d <;> exact h)) (by kernel_rfl) S3 (fun w' hS => ?_) ?_
      rotate_left
      focus (have q0 := SCost.fc w' hS; have q1 := SCost.fat w' hS; have q2 := SCost.f1 w' hS; have q3 := SCost.f5 w' hS; clear hS; go_simp; try rfl; done)
      simp only [List.getElem_toArray, List.getElem_cons_succ, List.getElem_cons_zero, Act.put, List.setIfInBounds_toArray, List.set_cons_zero, List.set_cons_succ]
      refine hd_take (v := ?_) 8 rfl (by kernel_rfl) (fun _ _ d _ _ h => (by cases d <;> exact h)) (by kernel_rfl) S3 (fun w' hS => ?_) ?_
      rotate_left
      focus (have q0 := SCost.fc w' hS; have q1 := SCost.fat w' hS; have q2 := SCost.f1 w' hS; have q3 := SCost.f5 w' hS; clear hS; go_simp; try rfl; done)
      simp only [List.getElem_toArray, List.getElem_cons_succ, List.getElem_cons_zero, Act.put, List.setIfInBounds_toArray, List.set_cons_zero, List.set_cons_succ]
      refine hd_take (v := ?_) 9 rfl (by kernel_rfl) (fun _ _ d _ _ h => (by cases d <;> exact h)) (by kernel_rfl) S3 (fun w' hS => ?_) ?_
      rotate_left
      focus (have q0 := SCost.fc w' hS; have q1 := SCost.fat w' hS; have q2 := SCost.f1 w' hS; have q3 := SCost.f5 w' hS; clear hS; go_simp; try rfl; done)
      simp only [List.getElem_toArray, List.getElem_cons_succ, List.getElem_cons_zero, Act.put, List.setIfInBounds_toArray, List.set_cons_zero, List.set_cons_succ]
      refine hd_take (v := ?_) 10 rfl (by kernel_rfl) (fun _ _ d _ _ h => (by cases d <;> exact h)) (by kernel_rfl) S3 (fun w' hS => ?_) ?_
      rotate_left
      focus (have q0 := SCost.fc w' hS; have q1 := SCost.fat w' hS; have q2 := SCost.f1 w' hS; have q3 := SCost.f5 w' hS; clear hS; go_simp; try rfl; done)
      simp only [List.getElem_toArray, List.getElem_cons_succ, List.getElem_cons_zero, Act.put, List.setIfInBounds_toArray, List.set_cons_zero, List.set_cons_succ]
      refine hd_done (by kernel_rfl) ?_
      clear S3
      go_wp2_with fail
      go_ret
      exact ⟨by rw [HZ.out]; rfl, H3.out.up⟩
  · have hz : verC σ s = sesC σ s := by
      unfold verC sesC at *
      cases hx : σ s.handle with
      | none => rfl
      | some t =>
        rw [hx] at hc
        simp only at hc ⊢
        split at hc
        · rename_i h0; rw [if_pos h0, if_pos h0]
        · exact absurd rfl hc
    have HZ := Lib.hid hz
    clear hz
    obtain ⟨c, hcc⟩ : ∃ c, sesC σ s = c := ⟨_, rfl⟩
    rw [hcc] at hc HZ ⊢
    have q1 : (c != (0 : Int)) = true := by rw [bne_iff_ne]; exact hc
    have q2 : (c == (0 : Int)) = false := by rw [beq_eq_false_iff_ne]; exact hc
    clear hc hcc
    go_wp2_with fail
    go_ret
    exact ⟨by rw [HZ.out]; rfl, H2.out.up⟩
set_option maxHeartbeats 1000000 in
theorem cclo_any {w : World} {p m k : Nat} {σ : Hs} (h : PubAt w p m k σ) (s : Sk) (hs : okI s.handle) : Calls Tryz.prog 36 #[pV p, skV s] w (Told (.int .i64 (cloC σ s)) w) := by
  have HB := Lib.hid (Box.new h hs)
  clear h
  unfold pV skV
  unfold skCells at HB
  go_enter Tryz.func36, Tryz.ntmps36
  go_wp2_with fail
  obtain ⟨B, hB⟩ : ∃ B, w.heap.size = B := ⟨_, rfl⟩
  obtain ⟨w1, hw1⟩ : ∃ y, w.alloc (.cells #[.int .u8 s.kind, .int .i64 s.handle, .int .u8 s.alg, .int .i64 s.count, .int .i64 s.out, .int .i64 s.data, .int .i64 s.more] 40) = y := ⟨_, rfl⟩
  rw [hw1, hB] at HB
  try rw [hw1]
  try rw [hB]
  clear hw1 hB
  have c1 := HB.out.sc
  have b0 := c1.b0
  have b1 := c1.b1
  have b2 := c1.b2
  have b3 := c1.b3
  have b4 := c1.b4
  have b5 := c1.b5
  have b6 := c1.b6
  clear c1
  clear b0 b1 b2 b3 b4 b5 b6
  refine (cany_any HB.out.pub s HB.out.hs).mono ?_
  rintro e w2 ⟨rfl, hb⟩
  have H2 := Lib.hid (HB.out.on hb)
  clear hb
  by_cases hc : anyC σ s = 0
  · have HC := Lib.hid hc
    rw [hc]
    clear hc
    obtain ⟨t, hx⟩ := anyC_zero HC.out
    have hz : cloC σ s = roomC σ := by simp [cloC, hx]
    have HZ := Lib.hid hz
    clear hz hx
    go_wp2_with fail
    refine (croom_any H2.out.pub).mono ?_
    rintro e w3 ⟨rfl, hb⟩
    have H3 := Lib.hid (H2.out.on hb)
    clear hb
    go_wp2_with fail
    go_ret
    exact ⟨by rw [HZ.out]; rfl, H3.out.up⟩
  · have hz : cloC σ s = anyC σ s := by
      unfold cloC anyC at *
      cases hx : σ s.handle with
      | none => rfl
      | some t => rw [hx] at hc; exact absurd rfl hc
    have HZ := Lib.hid hz
    clear hz
    obtain ⟨c, hcc⟩ : ∃ c, anyC σ s = c := ⟨_, rfl⟩
    rw [hcc] at hc HZ ⊢
    have q1 : (c != (0 : Int)) = true := by rw [bne_iff_ne]; exact hc
    have q2 : (c == (0 : Int)) = false := by rw [beq_eq_false_iff_ne]; exact hc
    clear hc hcc
    go_wp2_with fail
    go_ret
    exact ⟨by rw [HZ.out]; rfl, H2.out.up⟩
set_option maxHeartbeats 1000000 in
theorem cder_any {w : World} {p m k : Nat} {σ : Hs} (h : PubAt w p m k σ) (s : Sk) (hs : okI s.handle) : Calls Tryz.prog 70 #[pV p, skV s] w (Told (.int .i64 (derC σ s)) w) := by
  have HB := Lib.hid (Box.new h hs)
  clear h
  unfold pV skV
  unfold skCells at HB
  go_enter Tryz.func70, Tryz.ntmps70
  go_wp2_with fail
  obtain ⟨B, hB⟩ : ∃ B, w.heap.size = B := ⟨_, rfl⟩
  obtain ⟨w1, hw1⟩ : ∃ y, w.alloc (.cells #[.int .u8 s.kind, .int .i64 s.handle, .int .u8 s.alg, .int .i64 s.count, .int .i64 s.out, .int .i64 s.data, .int .i64 s.more] 40) = y := ⟨_, rfl⟩
  rw [hw1, hB] at HB
  try rw [hw1]
  try rw [hB]
  clear hw1 hB
  have c1 := HB.out.sc
  have b0 := c1.b0
  have b1 := c1.b1
  have b2 := c1.b2
  have b3 := c1.b3
  have b4 := c1.b4
  have b5 := c1.b5
  have b6 := c1.b6
  clear c1
  clear b0 b1 b2 b3 b4 b5 b6
  refine (ckey_any HB.out.pub s HB.out.hs).mono ?_
  rintro e w2 ⟨rfl, hb⟩
  have H2 := Lib.hid (HB.out.on hb)
  clear hb
  by_cases hc : keyC σ s = 0
  · have HC := Lib.hid hc
    rw [hc]
    clear hc
    obtain ⟨t, hx, h0⟩ := keyC_zero HC.out
    have c1 := H2.out.sc
    have b0 := c1.b0
    have b1 := c1.b1
    have b2 := c1.b2
    have b3 := c1.b3
    have b4 := c1.b4
    have b5 := c1.b5
    have b6 := c1.b6
    clear c1
    go_wp2_with fail
    clear b0 b1 b2 b3 b4 b5 b6
    refine (hash_any s.alg w2).mono ?_
    rintro e w3 ⟨rfl, rfl⟩
    obtain ⟨g, hg⟩ : ∃ g, hashA s.alg = g := ⟨_, rfl⟩
    rw [hg]
    by_cases n1 : g = 0
    · have qn1 : (g == (0 : Int)) = true := by first | exact decide_eq_true n1 | (rw [beq_iff_eq]; exact n1) | simp [n1]
      have hz : derC σ s = 4 := by simp [derC, hx, h0, hg, n1]
      have HZ := Lib.hid hz
      clear hz n1 hx h0 hg
      go_wp2_with fail
      go_ret
      exact ⟨by rw [HZ.out]; rfl, H2.out.up⟩
    · have qn1 : (g == (0 : Int)) = false := by first | exact decide_eq_false n1 | (rw [beq_eq_false_iff_ne]; exact n1) | simp [n1]
      have hz : derC σ s = 0 := by simp [derC, hx, h0, hg, n1]
      have HZ := Lib.hid hz
      clear hz n1 hx h0 hg
      go_wp2_with fail
      go_ret
      exact ⟨by rw [HZ.out]; rfl, H2.out.up⟩
  · have hz : derC σ s = keyC σ s := by
      unfold derC keyC at *
      cases hx : σ s.handle with
      | none => rfl
      | some t =>
        rw [hx] at hc
        simp only at hc ⊢
        split at hc
        · exact absurd rfl hc
        · rename_i h0; rw [if_neg h0, if_neg h0]
    have HZ := Lib.hid hz
    clear hz
    obtain ⟨c, hcc⟩ : ∃ c, keyC σ s = c := ⟨_, rfl⟩
    rw [hcc] at hc HZ ⊢
    have q1 : (c != (0 : Int)) = true := by rw [bne_iff_ne]; exact hc
    have q2 : (c == (0 : Int)) = false := by rw [beq_eq_false_iff_ne]; exact hc
    clear hc hcc
    go_wp2_with fail
    go_ret
    exact ⟨by rw [HZ.out]; rfl, H2.out.up⟩
set_option maxHeartbeats 1000000 in
theorem ckeyed_any {w : World} {p m k : Nat} {σ : Hs} (h : PubAt w p m k σ) (s : Sk) (hs : okI s.handle) : Calls Tryz.prog 72 #[pV p, skV s] w (Told (.int .i64 (keyedC σ s)) w) := by
  have HB := Lib.hid (Box.new h hs)
  clear h
  unfold pV skV
  unfold skCells at HB
  go_enter Tryz.func72, Tryz.ntmps72
  by_cases n1 : s.out < 1
  · have qn1 : decide (s.out < 1) = true := by first | exact decide_eq_true n1 | (rw [beq_iff_eq]; exact n1) | simp [n1]
    have hz : keyedC σ s = 7 := by simp [keyedC, n1]
    have HZ := Lib.hid hz
    clear hz n1
    go_wp2_with fail
    go_ret
    exact ⟨by rw [HZ.out]; rfl, HB.out.up⟩
  · have qn1 : decide (s.out < 1) = false := by first | exact decide_eq_false n1 | (rw [beq_eq_false_iff_ne]; exact n1) | simp [n1]
    by_cases n2 : 512 < s.out
    · have qn2 : decide (512 < s.out) = true := by first | exact decide_eq_true n2 | (rw [beq_iff_eq]; exact n2) | simp [n2]
      have hz : keyedC σ s = 7 := by simp [keyedC, n2]
      have HZ := Lib.hid hz
      clear hz n1 n2
      go_wp2_with fail
      go_ret
      exact ⟨by rw [HZ.out]; rfl, HB.out.up⟩
    · have qn2 : decide (512 < s.out) = false := by first | exact decide_eq_false n2 | (rw [beq_eq_false_iff_ne]; exact n2) | simp [n2]
      have hz : keyedC σ s = roomC σ := by simp [keyedC, n1, n2]
      have HZ := Lib.hid hz
      clear hz n1 n2
      go_wp2_with fail
      refine (croom_any HB.out.pub).mono ?_
      rintro e w2 ⟨rfl, hb⟩
      have H2 := Lib.hid (HB.out.on hb)
      clear hb
      go_wp2_with fail
      go_ret
      exact ⟨by rw [HZ.out]; rfl, H2.out.up⟩
set_option maxHeartbeats 1000000 in
theorem chkdf_any {w : World} {p m k : Nat} {σ : Hs} (h : PubAt w p m k σ) (s : Sk) (hs : okI s.handle) : Calls Tryz.prog 38 #[pV p, skV s] w (Told (.int .i64 (hkdfC σ s)) w) := by
  have HB := Lib.hid (Box.new h hs)
  clear h
  unfold pV skV
  unfold skCells at HB
  go_enter Tryz.func38, Tryz.ntmps38
  go_wp2_with fail
  obtain ⟨B, hB⟩ : ∃ B, w.heap.size = B := ⟨_, rfl⟩
  obtain ⟨w1, hw1⟩ : ∃ y, w.alloc (.cells #[.int .u8 s.kind, .int .i64 s.handle, .int .u8 s.alg, .int .i64 s.count, .int .i64 s.out, .int .i64 s.data, .int .i64 s.more] 40) = y := ⟨_, rfl⟩
  rw [hw1, hB] at HB
  try rw [hw1]
  try rw [hB]
  clear hw1 hB
  have c1 := HB.out.sc
  have b0 := c1.b0
  have b1 := c1.b1
  have b2 := c1.b2
  have b3 := c1.b3
  have b4 := c1.b4
  have b5 := c1.b5
  have b6 := c1.b6
  clear c1
  clear b0 b1 b2 b3 b4 b5 b6
  refine (cder_any HB.out.pub s HB.out.hs).mono ?_
  rintro e w2 ⟨rfl, hb⟩
  have H2 := Lib.hid (HB.out.on hb)
  clear hb
  by_cases hc : derC σ s = 0
  · have HC := Lib.hid hc
    rw [hc]
    clear hc
    obtain ⟨t, hx, h0, ha⟩ := derC_zero HC.out
    have HS : Hid (∀ W, Box w W p m k σ B s → SCost p m B s t true W) := Lib.hid (fun W hW => by have := hW.sc; rw [hx] at this; exact this)
    have hg : hashA s.alg = 32 ∨ hashA s.alg = 64 := hashA_alg ha
    obtain ⟨g, hgg⟩ : ∃ g, hashA s.alg = g := ⟨_, rfl⟩
    rw [hgg] at hg
    have HG := Lib.hid hgg
    clear ha h0 hx
    clear hgg
    go_upto_region 4 with fail
    by_cases n1 : 65536 < s.data
    · have qn1 : decide (65536 < s.data) = true := by first | exact decide_eq_true n1 | (rw [beq_iff_eq]; exact n1) | simp [n1]
      have hz : hkdfC σ s = 9 := by simp [hkdfC, HC.out, n1]
      have HZ := Lib.hid hz
      clear hz n1
      refine hd_start (SCost p m B s t true) (by kernel_rfl) ?_
      intro w3 hw'
      have H3 := Lib.hid (H2.out.draw 1)
      rw [← hw'] at H3
      clear hw' H2
      have S3 : SCost p m B s t true w3 := HS.out _ H3.out
      refine hd_take (v := ?_) 0 rfl (by kernel_rfl) (fun _ _ d _ _ h => (by cases d <;> exact h)) (by kernel_rfl) S3 (fun w' hS => ?_) ?_
      rotate_left
      focus (have q0 := SCost.f2 w' hS; have q1 := SCost.f4 w' hS; have q2 := SCost.f5 w' hS; have q3 := SCost.f6 w' hS; clear hS; go_simp; try rfl; done)
      simp only [List.getElem_toArray, List.getElem_cons_succ, List.getElem_cons_zero, Act.put, List.setIfInBounds_toArray, List.set_cons_zero, List.set_cons_succ]
      refine hd_take (v := ?_) 1 rfl (by kernel_rfl) (fun _ _ d _ _ h => (by cases d <;> exact h)) (by kernel_rfl) S3 (fun w' hS => ?_) ?_
      rotate_left
      focus (have q0 := SCost.f2 w' hS; have q1 := SCost.f4 w' hS; have q2 := SCost.f5 w' hS; have q3 := SCost.f6 w' hS; clear hS; go_simp; try rfl; done)
      simp only [List.getElem_toArray, List.getElem_cons_succ, List.getElem_cons_zero, Act.put, List.setIfInBounds_toArray, List.set_cons_zero, List.set_cons_succ]
      refine hd_take (v := ?_) 2 rfl (by kernel_rfl) (fun _ _ d _ _ h => (by cases d <;> exact h)) (by kernel_rfl) S3 (fun w' hS => ?_) ?_
      rotate_left
      focus (have q0 := SCost.f2 w' hS; have q1 := SCost.f4 w' hS; have q2 := SCost.f5 w' hS; have q3 := SCost.f6 w' hS; clear hS; go_simp; try rfl; done)
      simp only [List.getElem_toArray, List.getElem_cons_succ, List.getElem_cons_zero, Act.put, List.setIfInBounds_toArray, List.set_cons_zero, List.set_cons_succ]
      refine hd_take (v := ?_) 3 rfl (by kernel_rfl) (fun _ _ d _ _ h => (by cases d <;> exact h)) (by kernel_rfl) S3 (fun w' hS => ?_) ?_
      rotate_left
      focus (have q0 := SCost.f2 w' hS; have q1 := SCost.f4 w' hS; have q2 := SCost.f5 w' hS; have q3 := SCost.f6 w' hS; clear hS; go_simp; try rfl; done)
      simp only [List.getElem_toArray, List.getElem_cons_succ, List.getElem_cons_zero, Act.put, List.setIfInBounds_toArray, List.set_cons_zero, List.set_cons_succ]
      refine hd_off 4 rfl (by kernel_rfl) (fun _ _ d _ _ h => (by cases d <;> exact h)) (by kernel_rfl) S3 ?_
      simp only [List.getElem_toArray, List.getElem_cons_succ, List.getElem_cons_zero, Act.put, List.setIfInBounds_toArray, List.set_cons_zero, List.set_cons_succ]
      refine hd_off 5 rfl (by kernel_rfl) (fun _ _ d _ _ h => (by cases d <;> exact h)) (by kernel_rfl) S3 ?_
      simp only [List.getElem_toArray, List.getElem_cons_succ, List.getElem_cons_zero, Act.put, List.setIfInBounds_toArray, List.set_cons_zero, List.set_cons_succ]
      refine hd_off 6 rfl (by kernel_rfl) (fun _ _ d _ _ h => (by cases d <;> exact h)) (by kernel_rfl) S3 ?_
      simp only [List.getElem_toArray, List.getElem_cons_succ, List.getElem_cons_zero, Act.put, List.setIfInBounds_toArray, List.set_cons_zero, List.set_cons_succ]
      refine hd_take (v := ?_) 7 rfl (by kernel_rfl) (fun _ _ d _ _ h => (by cases d <;> exact h)) (by kernel_rfl) S3 (fun w' hS => ?_) ?_
      rotate_left
      focus (clear hS; go_simp; try rfl; done)
      simp only [List.getElem_toArray, List.getElem_cons_succ, List.getElem_cons_zero, Act.put, List.setIfInBounds_toArray, List.set_cons_zero, List.set_cons_succ]
      refine hd_take (v := ?_) 8 rfl (by kernel_rfl) (fun _ _ d _ _ h => (by cases d <;> exact h)) (by kernel_rfl) S3 (fun w' hS => ?_) ?_
      rotate_left
      focus (clear hS; go_simp; try rfl; done)
      simp only [List.getElem_toArray, List.getElem_cons_succ, List.getElem_cons_zero, Act.put, List.setIfInBounds_toArray, List.set_cons_zero, List.set_cons_succ]
      refine hd_off 9 rfl (by kernel_rfl) (fun _ _ d _ _ h => (by cases d <;> exact h)) (by kernel_rfl) S3 ?_
      simp only [List.getElem_toArray, List.getElem_cons_succ, List.getElem_cons_zero, Act.put, List.setIfInBounds_toArray, List.set_cons_zero, List.set_cons_succ]
      refine hd_off 10 rfl (by kernel_rfl) (fun _ _ d _ _ h => (by cases d <;> exact h)) (by kernel_rfl) S3 ?_
      simp only [List.getElem_toArray, List.getElem_cons_succ, List.getElem_cons_zero, Act.put, List.setIfInBounds_toArray, List.set_cons_zero, List.set_cons_succ]
      refine hd_off 11 rfl (by kernel_rfl) (fun _ _ d _ _ h => (by cases d <;> exact h)) (by kernel_rfl) S3 ?_
      simp only [List.getElem_toArray, List.getElem_cons_succ, List.getElem_cons_zero, Act.put, List.setIfInBounds_toArray, List.set_cons_zero, List.set_cons_succ]
      refine hd_off 12 rfl (by kernel_rfl) (fun _ _ d _ _ h => (by cases d <;> exact h)) (by kernel_rfl) S3 ?_
      simp only [List.getElem_toArray, List.getElem_cons_succ, List.getElem_cons_zero, Act.put, List.setIfInBounds_toArray, List.set_cons_zero, List.set_cons_succ]
      refine hd_off 13 rfl (by kernel_rfl) (fun _ _ d _ _ h => (by cases d <;> exact h)) (by kernel_rfl) S3 ?_
      simp only [List.getElem_toArray, List.getElem_cons_succ, List.getElem_cons_zero, Act.put, List.setIfInBounds_toArray, List.set_cons_zero, List.set_cons_succ]
      refine hd_off 14 rfl (by kernel_rfl) (fun _ _ d _ _ h => (by cases d <;> exact h)) (by kernel_rfl) S3 ?_
      simp only [List.getElem_toArray, List.getElem_cons_succ, List.getElem_cons_zero, Act.put, List.setIfInBounds_toArray, List.set_cons_zero, List.set_cons_succ]
      refine hd_off 15 rfl (by kernel_rfl) (fun _ _ d _ _ h => (by cases d <;> exact h)) (by kernel_rfl) S3 ?_
      simp only [List.getElem_toArray, List.getElem_cons_succ, List.getElem_cons_zero, Act.put, List.setIfInBounds_toArray, List.set_cons_zero, List.set_cons_succ]
      refine hd_take (v := ?_) 16 rfl (by kernel_rfl) (fun _ _ d _ _ h => (by cases d <;> exact h)) (by kernel_rfl) S3 (fun w' hS => ?_) ?_
      rotate_left
      focus (clear hS; go_simp; try rfl; done)
      simp only [List.getElem_toArray, List.getElem_cons_succ, List.getElem_cons_zero, Act.put, List.setIfInBounds_toArray, List.set_cons_zero, List.set_cons_succ]
      refine hd_done (by kernel_rfl) ?_
      clear S3
      go_wp2_with fail
      go_ret
      exact ⟨by rw [HZ.out]; rfl, H3.out.up⟩
    · have qn1 : decide (65536 < s.data) = false := by first | exact decide_eq_false n1 | (rw [beq_eq_false_iff_ne]; exact n1) | simp [n1]
      by_cases n2 : 65536 < s.more
      · have qn2 : decide (65536 < s.more) = true := by first | exact decide_eq_true n2 | (rw [beq_iff_eq]; exact n2) | simp [n2]
        have hz : hkdfC σ s = 9 := by simp [hkdfC, HC.out, n2]
        have HZ := Lib.hid hz
        clear hz n1 n2
        refine hd_start (SCost p m B s t true) (by kernel_rfl) ?_
        intro w3 hw'
        have H3 := Lib.hid (H2.out.draw 1)
        rw [← hw'] at H3
        clear hw' H2
        have S3 : SCost p m B s t true w3 := HS.out _ H3.out
        refine hd_take (v := ?_) 0 rfl (by kernel_rfl) (fun _ _ d _ _ h => (by cases d <;> exact h)) (by kernel_rfl) S3 (fun w' hS => ?_) ?_
        rotate_left
        focus (have q0 := SCost.f2 w' hS; have q1 := SCost.f4 w' hS; have q2 := SCost.f5 w' hS; have q3 := SCost.f6 w' hS; clear hS; go_simp; try rfl; done)
        simp only [List.getElem_toArray, List.getElem_cons_succ, List.getElem_cons_zero, Act.put, List.setIfInBounds_toArray, List.set_cons_zero, List.set_cons_succ]
        refine hd_take (v := ?_) 1 rfl (by kernel_rfl) (fun _ _ d _ _ h => (by cases d <;> exact h)) (by kernel_rfl) S3 (fun w' hS => ?_) ?_
        rotate_left
        focus (have q0 := SCost.f2 w' hS; have q1 := SCost.f4 w' hS; have q2 := SCost.f5 w' hS; have q3 := SCost.f6 w' hS; clear hS; go_simp; try rfl; done)
        simp only [List.getElem_toArray, List.getElem_cons_succ, List.getElem_cons_zero, Act.put, List.setIfInBounds_toArray, List.set_cons_zero, List.set_cons_succ]
        refine hd_take (v := ?_) 2 rfl (by kernel_rfl) (fun _ _ d _ _ h => (by cases d <;> exact h)) (by kernel_rfl) S3 (fun w' hS => ?_) ?_
        rotate_left
        focus (have q0 := SCost.f2 w' hS; have q1 := SCost.f4 w' hS; have q2 := SCost.f5 w' hS; have q3 := SCost.f6 w' hS; clear hS; go_simp; try rfl; done)
        simp only [List.getElem_toArray, List.getElem_cons_succ, List.getElem_cons_zero, Act.put, List.setIfInBounds_toArray, List.set_cons_zero, List.set_cons_succ]
        refine hd_take (v := ?_) 3 rfl (by kernel_rfl) (fun _ _ d _ _ h => (by cases d <;> exact h)) (by kernel_rfl) S3 (fun w' hS => ?_) ?_
        rotate_left
        focus (have q0 := SCost.f2 w' hS; have q1 := SCost.f4 w' hS; have q2 := SCost.f5 w' hS; have q3 := SCost.f6 w' hS; clear hS; go_simp; try rfl; done)
        simp only [List.getElem_toArray, List.getElem_cons_succ, List.getElem_cons_zero, Act.put, List.setIfInBounds_toArray, List.set_cons_zero, List.set_cons_succ]
        refine hd_take (v := ?_) 4 rfl (by kernel_rfl) (fun _ _ d _ _ h => (by cases d <;> exact h)) (by kernel_rfl) S3 (fun w' hS => ?_) ?_
        rotate_left
        focus (have q0 := SCost.f2 w' hS; have q1 := SCost.f4 w' hS; have q2 := SCost.f5 w' hS; have q3 := SCost.f6 w' hS; clear hS; go_simp; try rfl; done)
        simp only [List.getElem_toArray, List.getElem_cons_succ, List.getElem_cons_zero, Act.put, List.setIfInBounds_toArray, List.set_cons_zero, List.set_cons_succ]
        refine hd_take (v := ?_) 5 rfl (by kernel_rfl) (fun _ _ d _ _ h => (by cases d <;> exact h)) (by kernel_rfl) S3 (fun w' hS => ?_) ?_
        rotate_left
        focus (have q0 := SCost.f2 w' hS; have q1 := SCost.f4 w' hS; have q2 := SCost.f5 w' hS; have q3 := SCost.f6 w' hS; clear hS; go_simp; try rfl; done)
        simp only [List.getElem_toArray, List.getElem_cons_succ, List.getElem_cons_zero, Act.put, List.setIfInBounds_toArray, List.set_cons_zero, List.set_cons_succ]
        refine hd_take (v := ?_) 6 rfl (by kernel_rfl) (fun _ _ d _ _ h => (by cases d <;> exact h)) (by kernel_rfl) S3 (fun w' hS => ?_) ?_
        rotate_left
        focus (have q0 := SCost.f2 w' hS; have q1 := SCost.f4 w' hS; have q2 := SCost.f5 w' hS; have q3 := SCost.f6 w' hS; clear hS; go_simp; try rfl; done)
        simp only [List.getElem_toArray, List.getElem_cons_succ, List.getElem_cons_zero, Act.put, List.setIfInBounds_toArray, List.set_cons_zero, List.set_cons_succ]
        refine hd_take (v := ?_) 7 rfl (by kernel_rfl) (fun _ _ d _ _ h => (by cases d <;> exact h)) (by kernel_rfl) S3 (fun w' hS => ?_) ?_
        rotate_left
        focus (have q0 := SCost.f2 w' hS; have q1 := SCost.f4 w' hS; have q2 := SCost.f5 w' hS; have q3 := SCost.f6 w' hS; clear hS; go_simp; try rfl; done)
        simp only [List.getElem_toArray, List.getElem_cons_succ, List.getElem_cons_zero, Act.put, List.setIfInBounds_toArray, List.set_cons_zero, List.set_cons_succ]
        refine hd_take (v := ?_) 8 rfl (by kernel_rfl) (fun _ _ d _ _ h => (by cases d <;> exact h)) (by kernel_rfl) S3 (fun w' hS => ?_) ?_
        rotate_left
        focus (have q0 := SCost.f2 w' hS; have q1 := SCost.f4 w' hS; have q2 := SCost.f5 w' hS; have q3 := SCost.f6 w' hS; clear hS; go_simp; try rfl; done)
        simp only [List.getElem_toArray, List.getElem_cons_succ, List.getElem_cons_zero, Act.put, List.setIfInBounds_toArray, List.set_cons_zero, List.set_cons_succ]
        refine hd_off 9 rfl (by kernel_rfl) (fun _ _ d _ _ h => (by cases d <;> exact h)) (by kernel_rfl) S3 ?_
        simp only [List.getElem_toArray, List.getElem_cons_succ, List.getElem_cons_zero, Act.put, List.setIfInBounds_toArray, List.set_cons_zero, List.set_cons_succ]
        refine hd_off 10 rfl (by kernel_rfl) (fun _ _ d _ _ h => (by cases d <;> exact h)) (by kernel_rfl) S3 ?_
        simp only [List.getElem_toArray, List.getElem_cons_succ, List.getElem_cons_zero, Act.put, List.setIfInBounds_toArray, List.set_cons_zero, List.set_cons_succ]
        refine hd_off 11 rfl (by kernel_rfl) (fun _ _ d _ _ h => (by cases d <;> exact h)) (by kernel_rfl) S3 ?_
        simp only [List.getElem_toArray, List.getElem_cons_succ, List.getElem_cons_zero, Act.put, List.setIfInBounds_toArray, List.set_cons_zero, List.set_cons_succ]
        refine hd_off 12 rfl (by kernel_rfl) (fun _ _ d _ _ h => (by cases d <;> exact h)) (by kernel_rfl) S3 ?_
        simp only [List.getElem_toArray, List.getElem_cons_succ, List.getElem_cons_zero, Act.put, List.setIfInBounds_toArray, List.set_cons_zero, List.set_cons_succ]
        refine hd_off 13 rfl (by kernel_rfl) (fun _ _ d _ _ h => (by cases d <;> exact h)) (by kernel_rfl) S3 ?_
        simp only [List.getElem_toArray, List.getElem_cons_succ, List.getElem_cons_zero, Act.put, List.setIfInBounds_toArray, List.set_cons_zero, List.set_cons_succ]
        refine hd_off 14 rfl (by kernel_rfl) (fun _ _ d _ _ h => (by cases d <;> exact h)) (by kernel_rfl) S3 ?_
        simp only [List.getElem_toArray, List.getElem_cons_succ, List.getElem_cons_zero, Act.put, List.setIfInBounds_toArray, List.set_cons_zero, List.set_cons_succ]
        refine hd_off 15 rfl (by kernel_rfl) (fun _ _ d _ _ h => (by cases d <;> exact h)) (by kernel_rfl) S3 ?_
        simp only [List.getElem_toArray, List.getElem_cons_succ, List.getElem_cons_zero, Act.put, List.setIfInBounds_toArray, List.set_cons_zero, List.set_cons_succ]
        refine hd_take (v := ?_) 16 rfl (by kernel_rfl) (fun _ _ d _ _ h => (by cases d <;> exact h)) (by kernel_rfl) S3 (fun w' hS => ?_) ?_
        rotate_left
        focus (clear hS; go_simp; try rfl; done)
        simp only [List.getElem_toArray, List.getElem_cons_succ, List.getElem_cons_zero, Act.put, List.setIfInBounds_toArray, List.set_cons_zero, List.set_cons_succ]
        refine hd_done (by kernel_rfl) ?_
        clear S3
        go_wp2_with fail
        go_ret
        exact ⟨by rw [HZ.out]; rfl, H3.out.up⟩
      · have qn2 : decide (65536 < s.more) = false := by first | exact decide_eq_false n2 | (rw [beq_eq_false_iff_ne]; exact n2) | simp [n2]
        rcases hg with rfl | rfl
        · have hwv : IntKind.i64.wrap 8160 = 8160 := IntWalk.i64_in _ (by omega)
          by_cases n3 : 8160 < s.out
          · have qn3 : decide (8160 < s.out) = true := by first | exact decide_eq_true n3 | (rw [beq_iff_eq]; exact n3) | simp [n3]
            have hz : hkdfC σ s = 9 := by simp [hkdfC, HC.out, HG.out]; omega
            have HZ := Lib.hid hz
            clear hz n1 n2 n3
            refine hd_start (SCost p m B s t true) (by kernel_rfl) ?_
            intro w3 hw'
            have H3 := Lib.hid (H2.out.draw 1)
            rw [← hw'] at H3
            clear hw' H2
            have S3 : SCost p m B s t true w3 := HS.out _ H3.out
            refine hd_take (v := ?_) 0 rfl (by kernel_rfl) (fun _ _ d _ _ h => (by cases d <;> exact h)) (by kernel_rfl) S3 (fun w' hS => ?_) ?_
            rotate_left
            focus (have q0 := SCost.f2 w' hS; have q1 := SCost.f4 w' hS; have q2 := SCost.f5 w' hS; have q3 := SCost.f6 w' hS; clear hS; go_simp; try rfl; done)
            simp only [List.getElem_toArray, List.getElem_cons_succ, List.getElem_cons_zero, Act.put, List.setIfInBounds_toArray, List.set_cons_zero, List.set_cons_succ]
            refine hd_take (v := ?_) 1 rfl (by kernel_rfl) (fun _ _ d _ _ h => (by cases d <;> exact h)) (by kernel_rfl) S3 (fun w' hS => ?_) ?_
            rotate_left
            focus (have q0 := SCost.f2 w' hS; have q1 := SCost.f4 w' hS; have q2 := SCost.f5 w' hS; have q3 := SCost.f6 w' hS; clear hS; go_simp; try rfl; done)
            simp only [List.getElem_toArray, List.getElem_cons_succ, List.getElem_cons_zero, Act.put, List.setIfInBounds_toArray, List.set_cons_zero, List.set_cons_succ]
            refine hd_take (v := ?_) 2 rfl (by kernel_rfl) (fun _ _ d _ _ h => (by cases d <;> exact h)) (by kernel_rfl) S3 (fun w' hS => ?_) ?_
            rotate_left
            focus (have q0 := SCost.f2 w' hS; have q1 := SCost.f4 w' hS; have q2 := SCost.f5 w' hS; have q3 := SCost.f6 w' hS; clear hS; go_simp; try rfl; done)
            simp only [List.getElem_toArray, List.getElem_cons_succ, List.getElem_cons_zero, Act.put, List.setIfInBounds_toArray, List.set_cons_zero, List.set_cons_succ]
            refine hd_take (v := ?_) 3 rfl (by kernel_rfl) (fun _ _ d _ _ h => (by cases d <;> exact h)) (by kernel_rfl) S3 (fun w' hS => ?_) ?_
            rotate_left
            focus (have q0 := SCost.f2 w' hS; have q1 := SCost.f4 w' hS; have q2 := SCost.f5 w' hS; have q3 := SCost.f6 w' hS; clear hS; go_simp; try rfl; done)
            simp only [List.getElem_toArray, List.getElem_cons_succ, List.getElem_cons_zero, Act.put, List.setIfInBounds_toArray, List.set_cons_zero, List.set_cons_succ]
            refine hd_take (v := ?_) 4 rfl (by kernel_rfl) (fun _ _ d _ _ h => (by cases d <;> exact h)) (by kernel_rfl) S3 (fun w' hS => ?_) ?_
            rotate_left
            focus (have q0 := SCost.f2 w' hS; have q1 := SCost.f4 w' hS; have q2 := SCost.f5 w' hS; have q3 := SCost.f6 w' hS; clear hS; go_simp; try rfl; done)
            simp only [List.getElem_toArray, List.getElem_cons_succ, List.getElem_cons_zero, Act.put, List.setIfInBounds_toArray, List.set_cons_zero, List.set_cons_succ]
            refine hd_take (v := ?_) 5 rfl (by kernel_rfl) (fun _ _ d _ _ h => (by cases d <;> exact h)) (by kernel_rfl) S3 (fun w' hS => ?_) ?_
            rotate_left
            focus (have q0 := SCost.f2 w' hS; have q1 := SCost.f4 w' hS; have q2 := SCost.f5 w' hS; have q3 := SCost.f6 w' hS; clear hS; go_simp; try rfl; done)
            simp only [List.getElem_toArray, List.getElem_cons_succ, List.getElem_cons_zero, Act.put, List.setIfInBounds_toArray, List.set_cons_zero, List.set_cons_succ]
            refine hd_take (v := ?_) 6 rfl (by kernel_rfl) (fun _ _ d _ _ h => (by cases d <;> exact h)) (by kernel_rfl) S3 (fun w' hS => ?_) ?_
            rotate_left
            focus (have q0 := SCost.f2 w' hS; have q1 := SCost.f4 w' hS; have q2 := SCost.f5 w' hS; have q3 := SCost.f6 w' hS; clear hS; go_simp; try rfl; done)
            simp only [List.getElem_toArray, List.getElem_cons_succ, List.getElem_cons_zero, Act.put, List.setIfInBounds_toArray, List.set_cons_zero, List.set_cons_succ]
            refine hd_take (v := ?_) 7 rfl (by kernel_rfl) (fun _ _ d _ _ h => (by cases d <;> exact h)) (by kernel_rfl) S3 (fun w' hS => ?_) ?_
            rotate_left
            focus (have q0 := SCost.f2 w' hS; have q1 := SCost.f4 w' hS; have q2 := SCost.f5 w' hS; have q3 := SCost.f6 w' hS; clear hS; go_simp; try rfl; done)
            simp only [List.getElem_toArray, List.getElem_cons_succ, List.getElem_cons_zero, Act.put, List.setIfInBounds_toArray, List.set_cons_zero, List.set_cons_succ]
            refine hd_take (v := ?_) 8 rfl (by kernel_rfl) (fun _ _ d _ _ h => (by cases d <;> exact h)) (by kernel_rfl) S3 (fun w' hS => ?_) ?_
            rotate_left
            focus (have q0 := SCost.f2 w' hS; have q1 := SCost.f4 w' hS; have q2 := SCost.f5 w' hS; have q3 := SCost.f6 w' hS; clear hS; go_simp; try rfl; done)
            simp only [List.getElem_toArray, List.getElem_cons_succ, List.getElem_cons_zero, Act.put, List.setIfInBounds_toArray, List.set_cons_zero, List.set_cons_succ]
            refine hd_take (v := ?_) 9 rfl (by kernel_rfl) (fun _ _ d _ _ h => (by cases d <;> exact h)) (by kernel_rfl) S3 (fun w' hS => ?_) ?_
            rotate_left
            focus (have q0 := SCost.f2 w' hS; have q1 := SCost.f4 w' hS; have q2 := SCost.f5 w' hS; have q3 := SCost.f6 w' hS; clear hS; go_simp; try rfl; done)
            simp only [List.getElem_toArray, List.getElem_cons_succ, List.getElem_cons_zero, Act.put, List.setIfInBounds_toArray, List.set_cons_zero, List.set_cons_succ]
            refine hd_take (v := ?_) 10 rfl (by kernel_rfl) (fun _ _ d _ _ h => (by cases d <;> exact h)) (by kernel_rfl) S3 (fun w' hS => ?_) ?_
            rotate_left
            focus (have q0 := SCost.f2 w' hS; have q1 := SCost.f4 w' hS; have q2 := SCost.f5 w' hS; have q3 := SCost.f6 w' hS; clear hS; go_simp; try rfl; done)
            simp only [List.getElem_toArray, List.getElem_cons_succ, List.getElem_cons_zero, Act.put, List.setIfInBounds_toArray, List.set_cons_zero, List.set_cons_succ]
            refine hd_take (v := ?_) 11 rfl (by kernel_rfl) (fun _ _ d _ _ h => (by cases d <;> exact h)) (by kernel_rfl) S3 (fun w' hS => ?_) ?_
            rotate_left
            focus (have q0 := SCost.f2 w' hS; have q1 := SCost.f4 w' hS; have q2 := SCost.f5 w' hS; have q3 := SCost.f6 w' hS; clear hS; go_simp; try rfl; done)
            simp only [List.getElem_toArray, List.getElem_cons_succ, List.getElem_cons_zero, Act.put, List.setIfInBounds_toArray, List.set_cons_zero, List.set_cons_succ]
            refine hd_take (v := ?_) 12 rfl (by kernel_rfl) (fun _ _ d _ _ h => (by cases d <;> exact h)) (by kernel_rfl) S3 (fun w' hS => ?_) ?_
            rotate_left
            focus (have q0 := SCost.f2 w' hS; have q1 := SCost.f4 w' hS; have q2 := SCost.f5 w' hS; have q3 := SCost.f6 w' hS; clear hS; go_simp; try rfl; done)
            simp only [List.getElem_toArray, List.getElem_cons_succ, List.getElem_cons_zero, Act.put, List.setIfInBounds_toArray, List.set_cons_zero, List.set_cons_succ]
            refine hd_one 13 (by kernel_rfl) ?_
            refine op_call rfl (by kernel_rfl) (by go_simp; first | exact ⟨rfl, rfl⟩ | rfl) ?_
            refine (hash_any s.alg w3).mono ?_
            rintro e w4 ⟨he, hw⟩
            rw [HG.out] at he
            subst he
            subst hw
            have hS2 := S3
            refine ⟨_, rfl, hS2, ?_⟩
            simp only [List.getElem_toArray, List.getElem_cons_succ, List.getElem_cons_zero, Act.put, List.setIfInBounds_toArray, List.set_cons_zero, List.set_cons_succ]
            refine hd_take (v := ?_) 14 rfl (by kernel_rfl) (fun _ _ d _ _ h => (by cases d <;> exact h)) (by kernel_rfl) S3 (fun w' hS => ?_) ?_
            rotate_left
            focus (clear hS; go_simp; try rfl; done)
            simp only [List.getElem_toArray, List.getElem_cons_succ, List.getElem_cons_zero, Act.put, List.setIfInBounds_toArray, List.set_cons_zero, List.set_cons_succ]
            refine hd_take (v := ?_) 15 rfl (by kernel_rfl) (fun _ _ d _ _ h => (by cases d <;> exact h)) (by kernel_rfl) S3 (fun w' hS => ?_) ?_
            rotate_left
            focus (clear hS; go_simp; try rfl; done)
            simp only [List.getElem_toArray, List.getElem_cons_succ, List.getElem_cons_zero, Act.put, List.setIfInBounds_toArray, List.set_cons_zero, List.set_cons_succ]
            refine hd_take (v := ?_) 16 rfl (by kernel_rfl) (fun _ _ d _ _ h => (by cases d <;> exact h)) (by kernel_rfl) S3 (fun w' hS => ?_) ?_
            rotate_left
            focus (clear hS; go_simp; try rfl; done)
            simp only [List.getElem_toArray, List.getElem_cons_succ, List.getElem_cons_zero, Act.put, List.setIfInBounds_toArray, List.set_cons_zero, List.set_cons_succ]
            refine hd_done (by kernel_rfl) ?_
            clear S3
            go_wp2_with fail
            go_ret
            exact ⟨by rw [HZ.out]; rfl, H3.out.up⟩
          · have qn3 : decide (8160 < s.out) = false := by first | exact decide_eq_false n3 | (rw [beq_eq_false_iff_ne]; exact n3) | simp [n3]
            have hz : hkdfC σ s = keyedC σ s := by simp [hkdfC, HC.out, HG.out]; omega
            have HZ := Lib.hid hz
            clear hz n1 n2 n3
            refine hd_start (SCost p m B s t true) (by kernel_rfl) ?_
            intro w3 hw'
            have H3 := Lib.hid (H2.out.draw 1)
            rw [← hw'] at H3
            clear hw' H2
            have S3 : SCost p m B s t true w3 := HS.out _ H3.out
            refine hd_take (v := ?_) 0 rfl (by kernel_rfl) (fun _ _ d _ _ h => (by cases d <;> exact h)) (by kernel_rfl) S3 (fun w' hS => ?_) ?_
            rotate_left
            focus (have q0 := SCost.f2 w' hS; have q1 := SCost.f4 w' hS; have q2 := SCost.f5 w' hS; have q3 := SCost.f6 w' hS; clear hS; go_simp; try rfl; done)
            simp only [List.getElem_toArray, List.getElem_cons_succ, List.getElem_cons_zero, Act.put, List.setIfInBounds_toArray, List.set_cons_zero, List.set_cons_succ]
            refine hd_take (v := ?_) 1 rfl (by kernel_rfl) (fun _ _ d _ _ h => (by cases d <;> exact h)) (by kernel_rfl) S3 (fun w' hS => ?_) ?_
            rotate_left
            focus (have q0 := SCost.f2 w' hS; have q1 := SCost.f4 w' hS; have q2 := SCost.f5 w' hS; have q3 := SCost.f6 w' hS; clear hS; go_simp; try rfl; done)
            simp only [List.getElem_toArray, List.getElem_cons_succ, List.getElem_cons_zero, Act.put, List.setIfInBounds_toArray, List.set_cons_zero, List.set_cons_succ]
            refine hd_take (v := ?_) 2 rfl (by kernel_rfl) (fun _ _ d _ _ h => (by cases d <;> exact h)) (by kernel_rfl) S3 (fun w' hS => ?_) ?_
            rotate_left
            focus (have q0 := SCost.f2 w' hS; have q1 := SCost.f4 w' hS; have q2 := SCost.f5 w' hS; have q3 := SCost.f6 w' hS; clear hS; go_simp; try rfl; done)
            simp only [List.getElem_toArray, List.getElem_cons_succ, List.getElem_cons_zero, Act.put, List.setIfInBounds_toArray, List.set_cons_zero, List.set_cons_succ]
            refine hd_take (v := ?_) 3 rfl (by kernel_rfl) (fun _ _ d _ _ h => (by cases d <;> exact h)) (by kernel_rfl) S3 (fun w' hS => ?_) ?_
            rotate_left
            focus (have q0 := SCost.f2 w' hS; have q1 := SCost.f4 w' hS; have q2 := SCost.f5 w' hS; have q3 := SCost.f6 w' hS; clear hS; go_simp; try rfl; done)
            simp only [List.getElem_toArray, List.getElem_cons_succ, List.getElem_cons_zero, Act.put, List.setIfInBounds_toArray, List.set_cons_zero, List.set_cons_succ]
            refine hd_take (v := ?_) 4 rfl (by kernel_rfl) (fun _ _ d _ _ h => (by cases d <;> exact h)) (by kernel_rfl) S3 (fun w' hS => ?_) ?_
            rotate_left
            focus (have q0 := SCost.f2 w' hS; have q1 := SCost.f4 w' hS; have q2 := SCost.f5 w' hS; have q3 := SCost.f6 w' hS; clear hS; go_simp; try rfl; done)
            simp only [List.getElem_toArray, List.getElem_cons_succ, List.getElem_cons_zero, Act.put, List.setIfInBounds_toArray, List.set_cons_zero, List.set_cons_succ]
            refine hd_take (v := ?_) 5 rfl (by kernel_rfl) (fun _ _ d _ _ h => (by cases d <;> exact h)) (by kernel_rfl) S3 (fun w' hS => ?_) ?_
            rotate_left
            focus (have q0 := SCost.f2 w' hS; have q1 := SCost.f4 w' hS; have q2 := SCost.f5 w' hS; have q3 := SCost.f6 w' hS; clear hS; go_simp; try rfl; done)
            simp only [List.getElem_toArray, List.getElem_cons_succ, List.getElem_cons_zero, Act.put, List.setIfInBounds_toArray, List.set_cons_zero, List.set_cons_succ]
            refine hd_take (v := ?_) 6 rfl (by kernel_rfl) (fun _ _ d _ _ h => (by cases d <;> exact h)) (by kernel_rfl) S3 (fun w' hS => ?_) ?_
            rotate_left
            focus (have q0 := SCost.f2 w' hS; have q1 := SCost.f4 w' hS; have q2 := SCost.f5 w' hS; have q3 := SCost.f6 w' hS; clear hS; go_simp; try rfl; done)
            simp only [List.getElem_toArray, List.getElem_cons_succ, List.getElem_cons_zero, Act.put, List.setIfInBounds_toArray, List.set_cons_zero, List.set_cons_succ]
            refine hd_take (v := ?_) 7 rfl (by kernel_rfl) (fun _ _ d _ _ h => (by cases d <;> exact h)) (by kernel_rfl) S3 (fun w' hS => ?_) ?_
            rotate_left
            focus (have q0 := SCost.f2 w' hS; have q1 := SCost.f4 w' hS; have q2 := SCost.f5 w' hS; have q3 := SCost.f6 w' hS; clear hS; go_simp; try rfl; done)
            simp only [List.getElem_toArray, List.getElem_cons_succ, List.getElem_cons_zero, Act.put, List.setIfInBounds_toArray, List.set_cons_zero, List.set_cons_succ]
            refine hd_take (v := ?_) 8 rfl (by kernel_rfl) (fun _ _ d _ _ h => (by cases d <;> exact h)) (by kernel_rfl) S3 (fun w' hS => ?_) ?_
            rotate_left
            focus (have q0 := SCost.f2 w' hS; have q1 := SCost.f4 w' hS; have q2 := SCost.f5 w' hS; have q3 := SCost.f6 w' hS; clear hS; go_simp; try rfl; done)
            simp only [List.getElem_toArray, List.getElem_cons_succ, List.getElem_cons_zero, Act.put, List.setIfInBounds_toArray, List.set_cons_zero, List.set_cons_succ]
            refine hd_take (v := ?_) 9 rfl (by kernel_rfl) (fun _ _ d _ _ h => (by cases d <;> exact h)) (by kernel_rfl) S3 (fun w' hS => ?_) ?_
            rotate_left
            focus (have q0 := SCost.f2 w' hS; have q1 := SCost.f4 w' hS; have q2 := SCost.f5 w' hS; have q3 := SCost.f6 w' hS; clear hS; go_simp; try rfl; done)
            simp only [List.getElem_toArray, List.getElem_cons_succ, List.getElem_cons_zero, Act.put, List.setIfInBounds_toArray, List.set_cons_zero, List.set_cons_succ]
            refine hd_take (v := ?_) 10 rfl (by kernel_rfl) (fun _ _ d _ _ h => (by cases d <;> exact h)) (by kernel_rfl) S3 (fun w' hS => ?_) ?_
            rotate_left
            focus (have q0 := SCost.f2 w' hS; have q1 := SCost.f4 w' hS; have q2 := SCost.f5 w' hS; have q3 := SCost.f6 w' hS; clear hS; go_simp; try rfl; done)
            simp only [List.getElem_toArray, List.getElem_cons_succ, List.getElem_cons_zero, Act.put, List.setIfInBounds_toArray, List.set_cons_zero, List.set_cons_succ]
            refine hd_take (v := ?_) 11 rfl (by kernel_rfl) (fun _ _ d _ _ h => (by cases d <;> exact h)) (by kernel_rfl) S3 (fun w' hS => ?_) ?_
            rotate_left
            focus (have q0 := SCost.f2 w' hS; have q1 := SCost.f4 w' hS; have q2 := SCost.f5 w' hS; have q3 := SCost.f6 w' hS; clear hS; go_simp; try rfl; done)
            simp only [List.getElem_toArray, List.getElem_cons_succ, List.getElem_cons_zero, Act.put, List.setIfInBounds_toArray, List.set_cons_zero, List.set_cons_succ]
            refine hd_take (v := ?_) 12 rfl (by kernel_rfl) (fun _ _ d _ _ h => (by cases d <;> exact h)) (by kernel_rfl) S3 (fun w' hS => ?_) ?_
            rotate_left
            focus (have q0 := SCost.f2 w' hS; have q1 := SCost.f4 w' hS; have q2 := SCost.f5 w' hS; have q3 := SCost.f6 w' hS; clear hS; go_simp; try rfl; done)
            simp only [List.getElem_toArray, List.getElem_cons_succ, List.getElem_cons_zero, Act.put, List.setIfInBounds_toArray, List.set_cons_zero, List.set_cons_succ]
            refine hd_one 13 (by kernel_rfl) ?_
            refine op_call rfl (by kernel_rfl) (by go_simp; first | exact ⟨rfl, rfl⟩ | rfl) ?_
            refine (hash_any s.alg w3).mono ?_
            rintro e w4 ⟨he, hw⟩
            rw [HG.out] at he
            subst he
            subst hw
            have hS2 := S3
            refine ⟨_, rfl, hS2, ?_⟩
            simp only [List.getElem_toArray, List.getElem_cons_succ, List.getElem_cons_zero, Act.put, List.setIfInBounds_toArray, List.set_cons_zero, List.set_cons_succ]
            refine hd_take (v := ?_) 14 rfl (by kernel_rfl) (fun _ _ d _ _ h => (by cases d <;> exact h)) (by kernel_rfl) S3 (fun w' hS => ?_) ?_
            rotate_left
            focus (clear hS; go_simp; try rfl; done)
            simp only [List.getElem_toArray, List.getElem_cons_succ, List.getElem_cons_zero, Act.put, List.setIfInBounds_toArray, List.set_cons_zero, List.set_cons_succ]
            refine hd_take (v := ?_) 15 rfl (by kernel_rfl) (fun _ _ d _ _ h => (by cases d <;> exact h)) (by kernel_rfl) S3 (fun w' hS => ?_) ?_
            rotate_left
            focus (clear hS; go_simp; try rfl; done)
            simp only [List.getElem_toArray, List.getElem_cons_succ, List.getElem_cons_zero, Act.put, List.setIfInBounds_toArray, List.set_cons_zero, List.set_cons_succ]
            refine hd_take (v := ?_) 16 rfl (by kernel_rfl) (fun _ _ d _ _ h => (by cases d <;> exact h)) (by kernel_rfl) S3 (fun w' hS => ?_) ?_
            rotate_left
            focus (clear hS; go_simp; try rfl; done)
            simp only [List.getElem_toArray, List.getElem_cons_succ, List.getElem_cons_zero, Act.put, List.setIfInBounds_toArray, List.set_cons_zero, List.set_cons_succ]
            refine hd_done (by kernel_rfl) ?_
            have c1 := H3.out.sc
            have b0 := c1.b0
            have b1 := c1.b1
            have b2 := c1.b2
            have b3 := c1.b3
            have b4 := c1.b4
            have b5 := c1.b5
            have b6 := c1.b6
            clear c1
            clear S3
            go_wp2_with fail
            clear b0 b1 b2 b3 b4 b5 b6
            refine (ckeyed_any H3.out.pub s H3.out.hs).mono ?_
            rintro e w5 ⟨rfl, hb⟩
            have H4 := Lib.hid (H3.out.on hb)
            clear hb
            go_wp2_with fail
            go_ret
            exact ⟨by rw [HZ.out]; rfl, H4.out.up⟩
        · have hwv : IntKind.i64.wrap 16320 = 16320 := IntWalk.i64_in _ (by omega)
          by_cases n3 : 16320 < s.out
          · have qn3 : decide (16320 < s.out) = true := by first | exact decide_eq_true n3 | (rw [beq_iff_eq]; exact n3) | simp [n3]
            have hz : hkdfC σ s = 9 := by simp [hkdfC, HC.out, HG.out]; omega
            have HZ := Lib.hid hz
            clear hz n1 n2 n3
            refine hd_start (SCost p m B s t true) (by kernel_rfl) ?_
            intro w3 hw'
            have H3 := Lib.hid (H2.out.draw 1)
            rw [← hw'] at H3
            clear hw' H2
            have S3 : SCost p m B s t true w3 := HS.out _ H3.out
            refine hd_take (v := ?_) 0 rfl (by kernel_rfl) (fun _ _ d _ _ h => (by cases d <;> exact h)) (by kernel_rfl) S3 (fun w' hS => ?_) ?_
            rotate_left
            focus (have q0 := SCost.f2 w' hS; have q1 := SCost.f4 w' hS; have q2 := SCost.f5 w' hS; have q3 := SCost.f6 w' hS; clear hS; go_simp; try rfl; done)
            simp only [List.getElem_toArray, List.getElem_cons_succ, List.getElem_cons_zero, Act.put, List.setIfInBounds_toArray, List.set_cons_zero, List.set_cons_succ]
            refine hd_take (v := ?_) 1 rfl (by kernel_rfl) (fun _ _ d _ _ h => (by cases d <;> exact h)) (by kernel_rfl) S3 (fun w' hS => ?_) ?_
            rotate_left
            focus (have q0 := SCost.f2 w' hS; have q1 := SCost.f4 w' hS; have q2 := SCost.f5 w' hS; have q3 := SCost.f6 w' hS; clear hS; go_simp; try rfl; done)
            simp only [List.getElem_toArray, List.getElem_cons_succ, List.getElem_cons_zero, Act.put, List.setIfInBounds_toArray, List.set_cons_zero, List.set_cons_succ]
            refine hd_take (v := ?_) 2 rfl (by kernel_rfl) (fun _ _ d _ _ h => (by cases d <;> exact h)) (by kernel_rfl) S3 (fun w' hS => ?_) ?_
            rotate_left
            focus (have q0 := SCost.f2 w' hS; have q1 := SCost.f4 w' hS; have q2 := SCost.f5 w' hS; have q3 := SCost.f6 w' hS; clear hS; go_simp; try rfl; done)
            simp only [List.getElem_toArray, List.getElem_cons_succ, List.getElem_cons_zero, Act.put, List.setIfInBounds_toArray, List.set_cons_zero, List.set_cons_succ]
            refine hd_take (v := ?_) 3 rfl (by kernel_rfl) (fun _ _ d _ _ h => (by cases d <;> exact h)) (by kernel_rfl) S3 (fun w' hS => ?_) ?_
            rotate_left
            focus (have q0 := SCost.f2 w' hS; have q1 := SCost.f4 w' hS; have q2 := SCost.f5 w' hS; have q3 := SCost.f6 w' hS; clear hS; go_simp; try rfl; done)
            simp only [List.getElem_toArray, List.getElem_cons_succ, List.getElem_cons_zero, Act.put, List.setIfInBounds_toArray, List.set_cons_zero, List.set_cons_succ]
            refine hd_take (v := ?_) 4 rfl (by kernel_rfl) (fun _ _ d _ _ h => (by cases d <;> exact h)) (by kernel_rfl) S3 (fun w' hS => ?_) ?_
            rotate_left
            focus (have q0 := SCost.f2 w' hS; have q1 := SCost.f4 w' hS; have q2 := SCost.f5 w' hS; have q3 := SCost.f6 w' hS; clear hS; go_simp; try rfl; done)
            simp only [List.getElem_toArray, List.getElem_cons_succ, List.getElem_cons_zero, Act.put, List.setIfInBounds_toArray, List.set_cons_zero, List.set_cons_succ]
            refine hd_take (v := ?_) 5 rfl (by kernel_rfl) (fun _ _ d _ _ h => (by cases d <;> exact h)) (by kernel_rfl) S3 (fun w' hS => ?_) ?_
            rotate_left
            focus (have q0 := SCost.f2 w' hS; have q1 := SCost.f4 w' hS; have q2 := SCost.f5 w' hS; have q3 := SCost.f6 w' hS; clear hS; go_simp; try rfl; done)
            simp only [List.getElem_toArray, List.getElem_cons_succ, List.getElem_cons_zero, Act.put, List.setIfInBounds_toArray, List.set_cons_zero, List.set_cons_succ]
            refine hd_take (v := ?_) 6 rfl (by kernel_rfl) (fun _ _ d _ _ h => (by cases d <;> exact h)) (by kernel_rfl) S3 (fun w' hS => ?_) ?_
            rotate_left
            focus (have q0 := SCost.f2 w' hS; have q1 := SCost.f4 w' hS; have q2 := SCost.f5 w' hS; have q3 := SCost.f6 w' hS; clear hS; go_simp; try rfl; done)
            simp only [List.getElem_toArray, List.getElem_cons_succ, List.getElem_cons_zero, Act.put, List.setIfInBounds_toArray, List.set_cons_zero, List.set_cons_succ]
            refine hd_take (v := ?_) 7 rfl (by kernel_rfl) (fun _ _ d _ _ h => (by cases d <;> exact h)) (by kernel_rfl) S3 (fun w' hS => ?_) ?_
            rotate_left
            focus (have q0 := SCost.f2 w' hS; have q1 := SCost.f4 w' hS; have q2 := SCost.f5 w' hS; have q3 := SCost.f6 w' hS; clear hS; go_simp; try rfl; done)
            simp only [List.getElem_toArray, List.getElem_cons_succ, List.getElem_cons_zero, Act.put, List.setIfInBounds_toArray, List.set_cons_zero, List.set_cons_succ]
            refine hd_take (v := ?_) 8 rfl (by kernel_rfl) (fun _ _ d _ _ h => (by cases d <;> exact h)) (by kernel_rfl) S3 (fun w' hS => ?_) ?_
            rotate_left
            focus (have q0 := SCost.f2 w' hS; have q1 := SCost.f4 w' hS; have q2 := SCost.f5 w' hS; have q3 := SCost.f6 w' hS; clear hS; go_simp; try rfl; done)
            simp only [List.getElem_toArray, List.getElem_cons_succ, List.getElem_cons_zero, Act.put, List.setIfInBounds_toArray, List.set_cons_zero, List.set_cons_succ]
            refine hd_take (v := ?_) 9 rfl (by kernel_rfl) (fun _ _ d _ _ h => (by cases d <;> exact h)) (by kernel_rfl) S3 (fun w' hS => ?_) ?_
            rotate_left
            focus (have q0 := SCost.f2 w' hS; have q1 := SCost.f4 w' hS; have q2 := SCost.f5 w' hS; have q3 := SCost.f6 w' hS; clear hS; go_simp; try rfl; done)
            simp only [List.getElem_toArray, List.getElem_cons_succ, List.getElem_cons_zero, Act.put, List.setIfInBounds_toArray, List.set_cons_zero, List.set_cons_succ]
            refine hd_take (v := ?_) 10 rfl (by kernel_rfl) (fun _ _ d _ _ h => (by cases d <;> exact h)) (by kernel_rfl) S3 (fun w' hS => ?_) ?_
            rotate_left
            focus (have q0 := SCost.f2 w' hS; have q1 := SCost.f4 w' hS; have q2 := SCost.f5 w' hS; have q3 := SCost.f6 w' hS; clear hS; go_simp; try rfl; done)
            simp only [List.getElem_toArray, List.getElem_cons_succ, List.getElem_cons_zero, Act.put, List.setIfInBounds_toArray, List.set_cons_zero, List.set_cons_succ]
            refine hd_take (v := ?_) 11 rfl (by kernel_rfl) (fun _ _ d _ _ h => (by cases d <;> exact h)) (by kernel_rfl) S3 (fun w' hS => ?_) ?_
            rotate_left
            focus (have q0 := SCost.f2 w' hS; have q1 := SCost.f4 w' hS; have q2 := SCost.f5 w' hS; have q3 := SCost.f6 w' hS; clear hS; go_simp; try rfl; done)
            simp only [List.getElem_toArray, List.getElem_cons_succ, List.getElem_cons_zero, Act.put, List.setIfInBounds_toArray, List.set_cons_zero, List.set_cons_succ]
            refine hd_take (v := ?_) 12 rfl (by kernel_rfl) (fun _ _ d _ _ h => (by cases d <;> exact h)) (by kernel_rfl) S3 (fun w' hS => ?_) ?_
            rotate_left
            focus (have q0 := SCost.f2 w' hS; have q1 := SCost.f4 w' hS; have q2 := SCost.f5 w' hS; have q3 := SCost.f6 w' hS; clear hS; go_simp; try rfl; done)
            simp only [List.getElem_toArray, List.getElem_cons_succ, List.getElem_cons_zero, Act.put, List.setIfInBounds_toArray, List.set_cons_zero, List.set_cons_succ]
            refine hd_one 13 (by kernel_rfl) ?_
            refine op_call rfl (by kernel_rfl) (by go_simp; first | exact ⟨rfl, rfl⟩ | rfl) ?_
            refine (hash_any s.alg w3).mono ?_
            rintro e w4 ⟨he, hw⟩
            rw [HG.out] at he
            subst he
            subst hw
            have hS2 := S3
            refine ⟨_, rfl, hS2, ?_⟩
            simp only [List.getElem_toArray, List.getElem_cons_succ, List.getElem_cons_zero, Act.put, List.setIfInBounds_toArray, List.set_cons_zero, List.set_cons_succ]
            refine hd_take (v := ?_) 14 rfl (by kernel_rfl) (fun _ _ d _ _ h => (by cases d <;> exact h)) (by kernel_rfl) S3 (fun w' hS => ?_) ?_
            rotate_left
            focus (clear hS; go_simp; try rfl; done)
            simp only [List.getElem_toArray, List.getElem_cons_succ, List.getElem_cons_zero, Act.put, List.setIfInBounds_toArray, List.set_cons_zero, List.set_cons_succ]
            refine hd_take (v := ?_) 15 rfl (by kernel_rfl) (fun _ _ d _ _ h => (by cases d <;> exact h)) (by kernel_rfl) S3 (fun w' hS => ?_) ?_
            rotate_left
            focus (clear hS; go_simp; try rfl; done)
            simp only [List.getElem_toArray, List.getElem_cons_succ, List.getElem_cons_zero, Act.put, List.setIfInBounds_toArray, List.set_cons_zero, List.set_cons_succ]
            refine hd_take (v := ?_) 16 rfl (by kernel_rfl) (fun _ _ d _ _ h => (by cases d <;> exact h)) (by kernel_rfl) S3 (fun w' hS => ?_) ?_
            rotate_left
            focus (clear hS; go_simp; try rfl; done)
            simp only [List.getElem_toArray, List.getElem_cons_succ, List.getElem_cons_zero, Act.put, List.setIfInBounds_toArray, List.set_cons_zero, List.set_cons_succ]
            refine hd_done (by kernel_rfl) ?_
            clear S3
            go_wp2_with fail
            go_ret
            exact ⟨by rw [HZ.out]; rfl, H3.out.up⟩
          · have qn3 : decide (16320 < s.out) = false := by first | exact decide_eq_false n3 | (rw [beq_eq_false_iff_ne]; exact n3) | simp [n3]
            have hz : hkdfC σ s = keyedC σ s := by simp [hkdfC, HC.out, HG.out]; omega
            have HZ := Lib.hid hz
            clear hz n1 n2 n3
            refine hd_start (SCost p m B s t true) (by kernel_rfl) ?_
            intro w3 hw'
            have H3 := Lib.hid (H2.out.draw 1)
            rw [← hw'] at H3
            clear hw' H2
            have S3 : SCost p m B s t true w3 := HS.out _ H3.out
            refine hd_take (v := ?_) 0 rfl (by kernel_rfl) (fun _ _ d _ _ h => (by cases d <;> exact h)) (by kernel_rfl) S3 (fun w' hS => ?_) ?_
            rotate_left
            focus (have q0 := SCost.f2 w' hS; have q1 := SCost.f4 w' hS; have q2 := SCost.f5 w' hS; have q3 := SCost.f6 w' hS; clear hS; go_simp; try rfl; done)
            simp only [List.getElem_toArray, List.getElem_cons_succ, List.getElem_cons_zero, Act.put, List.setIfInBounds_toArray, List.set_cons_zero, List.set_cons_succ]
            refine hd_take (v := ?_) 1 rfl (by kernel_rfl) (fun _ _ d _ _ h => (by cases d <;> exact h)) (by kernel_rfl) S3 (fun w' hS => ?_) ?_
            rotate_left
            focus (have q0 := SCost.f2 w' hS; have q1 := SCost.f4 w' hS; have q2 := SCost.f5 w' hS; have q3 := SCost.f6 w' hS; clear hS; go_simp; try rfl; done)
            simp only [List.getElem_toArray, List.getElem_cons_succ, List.getElem_cons_zero, Act.put, List.setIfInBounds_toArray, List.set_cons_zero, List.set_cons_succ]
            refine hd_take (v := ?_) 2 rfl (by kernel_rfl) (fun _ _ d _ _ h => (by cases d <;> exact h)) (by kernel_rfl) S3 (fun w' hS => ?_) ?_
            rotate_left
            focus (have q0 := SCost.f2 w' hS; have q1 := SCost.f4 w' hS; have q2 := SCost.f5 w' hS; have q3 := SCost.f6 w' hS; clear hS; go_simp; try rfl; done)
            simp only [List.getElem_toArray, List.getElem_cons_succ, List.getElem_cons_zero, Act.put, List.setIfInBounds_toArray, List.set_cons_zero, List.set_cons_succ]
            refine hd_take (v := ?_) 3 rfl (by kernel_rfl) (fun _ _ d _ _ h => (by cases d <;> exact h)) (by kernel_rfl) S3 (fun w' hS => ?_) ?_
            rotate_left
            focus (have q0 := SCost.f2 w' hS; have q1 := SCost.f4 w' hS; have q2 := SCost.f5 w' hS; have q3 := SCost.f6 w' hS; clear hS; go_simp; try rfl; done)
            simp only [List.getElem_toArray, List.getElem_cons_succ, List.getElem_cons_zero, Act.put, List.setIfInBounds_toArray, List.set_cons_zero, List.set_cons_succ]
            refine hd_take (v := ?_) 4 rfl (by kernel_rfl) (fun _ _ d _ _ h => (by cases d <;> exact h)) (by kernel_rfl) S3 (fun w' hS => ?_) ?_
            rotate_left
            focus (have q0 := SCost.f2 w' hS; have q1 := SCost.f4 w' hS; have q2 := SCost.f5 w' hS; have q3 := SCost.f6 w' hS; clear hS; go_simp; try rfl; done)
            simp only [List.getElem_toArray, List.getElem_cons_succ, List.getElem_cons_zero, Act.put, List.setIfInBounds_toArray, List.set_cons_zero, List.set_cons_succ]
            refine hd_take (v := ?_) 5 rfl (by kernel_rfl) (fun _ _ d _ _ h => (by cases d <;> exact h)) (by kernel_rfl) S3 (fun w' hS => ?_) ?_
            rotate_left
            focus (have q0 := SCost.f2 w' hS; have q1 := SCost.f4 w' hS; have q2 := SCost.f5 w' hS; have q3 := SCost.f6 w' hS; clear hS; go_simp; try rfl; done)
            simp only [List.getElem_toArray, List.getElem_cons_succ, List.getElem_cons_zero, Act.put, List.setIfInBounds_toArray, List.set_cons_zero, List.set_cons_succ]
            refine hd_take (v := ?_) 6 rfl (by kernel_rfl) (fun _ _ d _ _ h => (by cases d <;> exact h)) (by kernel_rfl) S3 (fun w' hS => ?_) ?_
            rotate_left
            focus (have q0 := SCost.f2 w' hS; have q1 := SCost.f4 w' hS; have q2 := SCost.f5 w' hS; have q3 := SCost.f6 w' hS; clear hS; go_simp; try rfl; done)
            simp only [List.getElem_toArray, List.getElem_cons_succ, List.getElem_cons_zero, Act.put, List.setIfInBounds_toArray, List.set_cons_zero, List.set_cons_succ]
            refine hd_take (v := ?_) 7 rfl (by kernel_rfl) (fun _ _ d _ _ h => (by cases d <;> exact h)) (by kernel_rfl) S3 (fun w' hS => ?_) ?_
            rotate_left
            focus (have q0 := SCost.f2 w' hS; have q1 := SCost.f4 w' hS; have q2 := SCost.f5 w' hS; have q3 := SCost.f6 w' hS; clear hS; go_simp; try rfl; done)
            simp only [List.getElem_toArray, List.getElem_cons_succ, List.getElem_cons_zero, Act.put, List.setIfInBounds_toArray, List.set_cons_zero, List.set_cons_succ]
            refine hd_take (v := ?_) 8 rfl (by kernel_rfl) (fun _ _ d _ _ h => (by cases d <;> exact h)) (by kernel_rfl) S3 (fun w' hS => ?_) ?_
            rotate_left
            focus (have q0 := SCost.f2 w' hS; have q1 := SCost.f4 w' hS; have q2 := SCost.f5 w' hS; have q3 := SCost.f6 w' hS; clear hS; go_simp; try rfl; done)
            simp only [List.getElem_toArray, List.getElem_cons_succ, List.getElem_cons_zero, Act.put, List.setIfInBounds_toArray, List.set_cons_zero, List.set_cons_succ]
            refine hd_take (v := ?_) 9 rfl (by kernel_rfl) (fun _ _ d _ _ h => (by cases d <;> exact h)) (by kernel_rfl) S3 (fun w' hS => ?_) ?_
            rotate_left
            focus (have q0 := SCost.f2 w' hS; have q1 := SCost.f4 w' hS; have q2 := SCost.f5 w' hS; have q3 := SCost.f6 w' hS; clear hS; go_simp; try rfl; done)
            simp only [List.getElem_toArray, List.getElem_cons_succ, List.getElem_cons_zero, Act.put, List.setIfInBounds_toArray, List.set_cons_zero, List.set_cons_succ]
            refine hd_take (v := ?_) 10 rfl (by kernel_rfl) (fun _ _ d _ _ h => (by cases d <;> exact h)) (by kernel_rfl) S3 (fun w' hS => ?_) ?_
            rotate_left
            focus (have q0 := SCost.f2 w' hS; have q1 := SCost.f4 w' hS; have q2 := SCost.f5 w' hS; have q3 := SCost.f6 w' hS; clear hS; go_simp; try rfl; done)
            simp only [List.getElem_toArray, List.getElem_cons_succ, List.getElem_cons_zero, Act.put, List.setIfInBounds_toArray, List.set_cons_zero, List.set_cons_succ]
            refine hd_take (v := ?_) 11 rfl (by kernel_rfl) (fun _ _ d _ _ h => (by cases d <;> exact h)) (by kernel_rfl) S3 (fun w' hS => ?_) ?_
            rotate_left
            focus (have q0 := SCost.f2 w' hS; have q1 := SCost.f4 w' hS; have q2 := SCost.f5 w' hS; have q3 := SCost.f6 w' hS; clear hS; go_simp; try rfl; done)
            simp only [List.getElem_toArray, List.getElem_cons_succ, List.getElem_cons_zero, Act.put, List.setIfInBounds_toArray, List.set_cons_zero, List.set_cons_succ]
            refine hd_take (v := ?_) 12 rfl (by kernel_rfl) (fun _ _ d _ _ h => (by cases d <;> exact h)) (by kernel_rfl) S3 (fun w' hS => ?_) ?_
            rotate_left
            focus (have q0 := SCost.f2 w' hS; have q1 := SCost.f4 w' hS; have q2 := SCost.f5 w' hS; have q3 := SCost.f6 w' hS; clear hS; go_simp; try rfl; done)
            simp only [List.getElem_toArray, List.getElem_cons_succ, List.getElem_cons_zero, Act.put, List.setIfInBounds_toArray, List.set_cons_zero, List.set_cons_succ]
            refine hd_one 13 (by kernel_rfl) ?_
            refine op_call rfl (by kernel_rfl) (by go_simp; first | exact ⟨rfl, rfl⟩ | rfl) ?_
            refine (hash_any s.alg w3).mono ?_
            rintro e w4 ⟨he, hw⟩
            rw [HG.out] at he
            subst he
            subst hw
            have hS2 := S3
            refine ⟨_, rfl, hS2, ?_⟩
            simp only [List.getElem_toArray, List.getElem_cons_succ, List.getElem_cons_zero, Act.put, List.setIfInBounds_toArray, List.set_cons_zero, List.set_cons_succ]
            refine hd_take (v := ?_) 14 rfl (by kernel_rfl) (fun _ _ d _ _ h => (by cases d <;> exact h)) (by kernel_rfl) S3 (fun w' hS => ?_) ?_
            rotate_left
            focus (clear hS; go_simp; try rfl; done)
            simp only [List.getElem_toArray, List.getElem_cons_succ, List.getElem_cons_zero, Act.put, List.setIfInBounds_toArray, List.set_cons_zero, List.set_cons_succ]
            refine hd_take (v := ?_) 15 rfl (by kernel_rfl) (fun _ _ d _ _ h => (by cases d <;> exact h)) (by kernel_rfl) S3 (fun w' hS => ?_) ?_
            rotate_left
            focus (clear hS; go_simp; try rfl; done)
            simp only [List.getElem_toArray, List.getElem_cons_succ, List.getElem_cons_zero, Act.put, List.setIfInBounds_toArray, List.set_cons_zero, List.set_cons_succ]
            refine hd_take (v := ?_) 16 rfl (by kernel_rfl) (fun _ _ d _ _ h => (by cases d <;> exact h)) (by kernel_rfl) S3 (fun w' hS => ?_) ?_
            rotate_left
            focus (clear hS; go_simp; try rfl; done)
            simp only [List.getElem_toArray, List.getElem_cons_succ, List.getElem_cons_zero, Act.put, List.setIfInBounds_toArray, List.set_cons_zero, List.set_cons_succ]
            refine hd_done (by kernel_rfl) ?_
            have c1 := H3.out.sc
            have b0 := c1.b0
            have b1 := c1.b1
            have b2 := c1.b2
            have b3 := c1.b3
            have b4 := c1.b4
            have b5 := c1.b5
            have b6 := c1.b6
            clear c1
            clear S3
            go_wp2_with fail
            clear b0 b1 b2 b3 b4 b5 b6
            refine (ckeyed_any H3.out.pub s H3.out.hs).mono ?_
            rintro e w5 ⟨rfl, hb⟩
            have H4 := Lib.hid (H3.out.on hb)
            clear hb
            go_wp2_with fail
            go_ret
            exact ⟨by rw [HZ.out]; rfl, H4.out.up⟩
  · have hz : hkdfC σ s = derC σ s := by
      unfold hkdfC
      rw [if_neg hc]
    have HZ := Lib.hid hz
    clear hz
    obtain ⟨c, hcc⟩ : ∃ c, derC σ s = c := ⟨_, rfl⟩
    rw [hcc] at hc HZ ⊢
    have q1 : (c != (0 : Int)) = true := by rw [bne_iff_ne]; exact hc
    have q2 : (c == (0 : Int)) = false := by rw [beq_eq_false_iff_ne]; exact hc
    clear hc hcc
    go_wp2_with fail
    go_ret
    exact ⟨by rw [HZ.out]; rfl, H2.out.up⟩
set_option maxHeartbeats 1000000 in
theorem cpbk_any {w : World} {p m k : Nat} {σ : Hs} (h : PubAt w p m k σ) (s : Sk) (hs : okI s.handle) : Calls Tryz.prog 40 #[pV p, skV s] w (Told (.int .i64 (pbkC σ s)) w) := by
  have HB := Lib.hid (Box.new h hs)
  clear h
  unfold pV skV
  unfold skCells at HB
  go_enter Tryz.func40, Tryz.ntmps40
  go_wp2_with fail
  obtain ⟨B, hB⟩ : ∃ B, w.heap.size = B := ⟨_, rfl⟩
  obtain ⟨w1, hw1⟩ : ∃ y, w.alloc (.cells #[.int .u8 s.kind, .int .i64 s.handle, .int .u8 s.alg, .int .i64 s.count, .int .i64 s.out, .int .i64 s.data, .int .i64 s.more] 40) = y := ⟨_, rfl⟩
  rw [hw1, hB] at HB
  try rw [hw1]
  try rw [hB]
  clear hw1 hB
  have c1 := HB.out.sc
  have b0 := c1.b0
  have b1 := c1.b1
  have b2 := c1.b2
  have b3 := c1.b3
  have b4 := c1.b4
  have b5 := c1.b5
  have b6 := c1.b6
  clear c1
  clear b0 b1 b2 b3 b4 b5 b6
  refine (cder_any HB.out.pub s HB.out.hs).mono ?_
  rintro e w2 ⟨rfl, hb⟩
  have H2 := Lib.hid (HB.out.on hb)
  clear hb
  by_cases hc : derC σ s = 0
  · have HC := Lib.hid hc
    rw [hc]
    clear hc
    obtain ⟨t, hx, h0, ha⟩ := derC_zero HC.out
    have HS : Hid (∀ W, Box w W p m k σ B s → SCost p m B s t true W) := Lib.hid (fun W hW => by have := hW.sc; rw [hx] at this; exact this)
    have hg : hashA s.alg = 32 ∨ hashA s.alg = 64 := hashA_alg ha
    obtain ⟨g, hgg⟩ : ∃ g, hashA s.alg = g := ⟨_, rfl⟩
    rw [hgg] at hg
    have HG := Lib.hid hgg
    clear ha h0 hx
    clear hgg
    go_upto_region 4 with fail
    by_cases n1 : 65536 < s.data
    · have qn1 : decide (65536 < s.data) = true := by first | exact decide_eq_true n1 | (rw [beq_iff_eq]; exact n1) | simp [n1]
      have hz : pbkC σ s = 9 := by simp [pbkC, HC.out, n1]
      have HZ := Lib.hid hz
      clear hz n1
      refine hd_start (SCost p m B s t true) (by kernel_rfl) ?_
      intro w3 hw'
      have H3 := Lib.hid (H2.out.draw 1)
      rw [← hw'] at H3
      clear hw' H2
      have S3 : SCost p m B s t true w3 := HS.out _ H3.out
      refine hd_take (v := ?_) 0 rfl (by kernel_rfl) (fun _ _ d _ _ h => (by cases d <;> exact h)) (by kernel_rfl) S3 (fun w' hS => ?_) ?_
      rotate_left
      focus (have q0 := SCost.f2 w' hS; have q1 := SCost.f4 w' hS; have q2 := SCost.f5 w' hS; have q3 := SCost.f6 w' hS; clear hS; go_simp; try rfl; done)
      simp only [List.getElem_toArray, List.getElem_cons_succ, List.getElem_cons_zero, Act.put, List.setIfInBounds_toArray, List.set_cons_zero, List.set_cons_succ]
      refine hd_take (v := ?_) 1 rfl (by kernel_rfl) (fun _ _ d _ _ h => (by cases d <;> exact h)) (by kernel_rfl) S3 (fun w' hS => ?_) ?_
      rotate_left
      focus (have q0 := SCost.f2 w' hS; have q1 := SCost.f4 w' hS; have q2 := SCost.f5 w' hS; have q3 := SCost.f6 w' hS; clear hS; go_simp; try rfl; done)
      simp only [List.getElem_toArray, List.getElem_cons_succ, List.getElem_cons_zero, Act.put, List.setIfInBounds_toArray, List.set_cons_zero, List.set_cons_succ]
      refine hd_take (v := ?_) 2 rfl (by kernel_rfl) (fun _ _ d _ _ h => (by cases d <;> exact h)) (by kernel_rfl) S3 (fun w' hS => ?_) ?_
      rotate_left
      focus (have q0 := SCost.f2 w' hS; have q1 := SCost.f4 w' hS; have q2 := SCost.f5 w' hS; have q3 := SCost.f6 w' hS; clear hS; go_simp; try rfl; done)
      simp only [List.getElem_toArray, List.getElem_cons_succ, List.getElem_cons_zero, Act.put, List.setIfInBounds_toArray, List.set_cons_zero, List.set_cons_succ]
      refine hd_take (v := ?_) 3 rfl (by kernel_rfl) (fun _ _ d _ _ h => (by cases d <;> exact h)) (by kernel_rfl) S3 (fun w' hS => ?_) ?_
      rotate_left
      focus (have q0 := SCost.f2 w' hS; have q1 := SCost.f4 w' hS; have q2 := SCost.f5 w' hS; have q3 := SCost.f6 w' hS; clear hS; go_simp; try rfl; done)
      simp only [List.getElem_toArray, List.getElem_cons_succ, List.getElem_cons_zero, Act.put, List.setIfInBounds_toArray, List.set_cons_zero, List.set_cons_succ]
      refine hd_off 4 rfl (by kernel_rfl) (fun _ _ d _ _ h => (by cases d <;> exact h)) (by kernel_rfl) S3 ?_
      simp only [List.getElem_toArray, List.getElem_cons_succ, List.getElem_cons_zero, Act.put, List.setIfInBounds_toArray, List.set_cons_zero, List.set_cons_succ]
      refine hd_off 5 rfl (by kernel_rfl) (fun _ _ d _ _ h => (by cases d <;> exact h)) (by kernel_rfl) S3 ?_
      simp only [List.getElem_toArray, List.getElem_cons_succ, List.getElem_cons_zero, Act.put, List.setIfInBounds_toArray, List.set_cons_zero, List.set_cons_succ]
      refine hd_off 6 rfl (by kernel_rfl) (fun _ _ d _ _ h => (by cases d <;> exact h)) (by kernel_rfl) S3 ?_
      simp only [List.getElem_toArray, List.getElem_cons_succ, List.getElem_cons_zero, Act.put, List.setIfInBounds_toArray, List.set_cons_zero, List.set_cons_succ]
      refine hd_off 7 rfl (by kernel_rfl) (fun _ _ d _ _ h => (by cases d <;> exact h)) (by kernel_rfl) S3 ?_
      simp only [List.getElem_toArray, List.getElem_cons_succ, List.getElem_cons_zero, Act.put, List.setIfInBounds_toArray, List.set_cons_zero, List.set_cons_succ]
      refine hd_off 8 rfl (by kernel_rfl) (fun _ _ d _ _ h => (by cases d <;> exact h)) (by kernel_rfl) S3 ?_
      simp only [List.getElem_toArray, List.getElem_cons_succ, List.getElem_cons_zero, Act.put, List.setIfInBounds_toArray, List.set_cons_zero, List.set_cons_succ]
      refine hd_off 9 rfl (by kernel_rfl) (fun _ _ d _ _ h => (by cases d <;> exact h)) (by kernel_rfl) S3 ?_
      simp only [List.getElem_toArray, List.getElem_cons_succ, List.getElem_cons_zero, Act.put, List.setIfInBounds_toArray, List.set_cons_zero, List.set_cons_succ]
      refine hd_off 10 rfl (by kernel_rfl) (fun _ _ d _ _ h => (by cases d <;> exact h)) (by kernel_rfl) S3 ?_
      simp only [List.getElem_toArray, List.getElem_cons_succ, List.getElem_cons_zero, Act.put, List.setIfInBounds_toArray, List.set_cons_zero, List.set_cons_succ]
      refine hd_take (v := ?_) 11 rfl (by kernel_rfl) (fun _ _ d _ _ h => (by cases d <;> exact h)) (by kernel_rfl) S3 (fun w' hS => ?_) ?_
      rotate_left
      focus (clear hS; go_simp; try rfl; done)
      simp only [List.getElem_toArray, List.getElem_cons_succ, List.getElem_cons_zero, Act.put, List.setIfInBounds_toArray, List.set_cons_zero, List.set_cons_succ]
      refine hd_done (by kernel_rfl) ?_
      clear S3
      go_wp2_with fail
      go_ret
      exact ⟨by rw [HZ.out]; rfl, H3.out.up⟩
    · have qn1 : decide (65536 < s.data) = false := by first | exact decide_eq_false n1 | (rw [beq_eq_false_iff_ne]; exact n1) | simp [n1]
      rcases hg with rfl | rfl
      · have hwv : IntKind.i64.wrap 137438953440 = 137438953440 := IntWalk.i64_in _ (by omega)
        by_cases n3 : 137438953440 < s.out
        · have qn3 : decide (137438953440 < s.out) = true := by first | exact decide_eq_true n3 | (rw [beq_iff_eq]; exact n3) | simp [n3]
          have hz : pbkC σ s = 9 := by simp [pbkC, HC.out, HG.out]; omega
          have HZ := Lib.hid hz
          clear hz n1 n3
          refine hd_start (SCost p m B s t true) (by kernel_rfl) ?_
          intro w3 hw'
          have H3 := Lib.hid (H2.out.draw 1)
          rw [← hw'] at H3
          clear hw' H2
          have S3 : SCost p m B s t true w3 := HS.out _ H3.out
          refine hd_take (v := ?_) 0 rfl (by kernel_rfl) (fun _ _ d _ _ h => (by cases d <;> exact h)) (by kernel_rfl) S3 (fun w' hS => ?_) ?_
          rotate_left
          focus (have q0 := SCost.f2 w' hS; have q1 := SCost.f4 w' hS; have q2 := SCost.f5 w' hS; have q3 := SCost.f6 w' hS; clear hS; go_simp; try rfl; done)
          simp only [List.getElem_toArray, List.getElem_cons_succ, List.getElem_cons_zero, Act.put, List.setIfInBounds_toArray, List.set_cons_zero, List.set_cons_succ]
          refine hd_take (v := ?_) 1 rfl (by kernel_rfl) (fun _ _ d _ _ h => (by cases d <;> exact h)) (by kernel_rfl) S3 (fun w' hS => ?_) ?_
          rotate_left
          focus (have q0 := SCost.f2 w' hS; have q1 := SCost.f4 w' hS; have q2 := SCost.f5 w' hS; have q3 := SCost.f6 w' hS; clear hS; go_simp; try rfl; done)
          simp only [List.getElem_toArray, List.getElem_cons_succ, List.getElem_cons_zero, Act.put, List.setIfInBounds_toArray, List.set_cons_zero, List.set_cons_succ]
          refine hd_take (v := ?_) 2 rfl (by kernel_rfl) (fun _ _ d _ _ h => (by cases d <;> exact h)) (by kernel_rfl) S3 (fun w' hS => ?_) ?_
          rotate_left
          focus (have q0 := SCost.f2 w' hS; have q1 := SCost.f4 w' hS; have q2 := SCost.f5 w' hS; have q3 := SCost.f6 w' hS; clear hS; go_simp; try rfl; done)
          simp only [List.getElem_toArray, List.getElem_cons_succ, List.getElem_cons_zero, Act.put, List.setIfInBounds_toArray, List.set_cons_zero, List.set_cons_succ]
          refine hd_take (v := ?_) 3 rfl (by kernel_rfl) (fun _ _ d _ _ h => (by cases d <;> exact h)) (by kernel_rfl) S3 (fun w' hS => ?_) ?_
          rotate_left
          focus (have q0 := SCost.f2 w' hS; have q1 := SCost.f4 w' hS; have q2 := SCost.f5 w' hS; have q3 := SCost.f6 w' hS; clear hS; go_simp; try rfl; done)
          simp only [List.getElem_toArray, List.getElem_cons_succ, List.getElem_cons_zero, Act.put, List.setIfInBounds_toArray, List.set_cons_zero, List.set_cons_succ]
          refine hd_take (v := ?_) 4 rfl (by kernel_rfl) (fun _ _ d _ _ h => (by cases d <;> exact h)) (by kernel_rfl) S3 (fun w' hS => ?_) ?_
          rotate_left
          focus (have q0 := SCost.f2 w' hS; have q1 := SCost.f4 w' hS; have q2 := SCost.f5 w' hS; have q3 := SCost.f6 w' hS; clear hS; go_simp; try rfl; done)
          simp only [List.getElem_toArray, List.getElem_cons_succ, List.getElem_cons_zero, Act.put, List.setIfInBounds_toArray, List.set_cons_zero, List.set_cons_succ]
          refine hd_take (v := ?_) 5 rfl (by kernel_rfl) (fun _ _ d _ _ h => (by cases d <;> exact h)) (by kernel_rfl) S3 (fun w' hS => ?_) ?_
          rotate_left
          focus (have q0 := SCost.f2 w' hS; have q1 := SCost.f4 w' hS; have q2 := SCost.f5 w' hS; have q3 := SCost.f6 w' hS; clear hS; go_simp; try rfl; done)
          simp only [List.getElem_toArray, List.getElem_cons_succ, List.getElem_cons_zero, Act.put, List.setIfInBounds_toArray, List.set_cons_zero, List.set_cons_succ]
          refine hd_take (v := ?_) 6 rfl (by kernel_rfl) (fun _ _ d _ _ h => (by cases d <;> exact h)) (by kernel_rfl) S3 (fun w' hS => ?_) ?_
          rotate_left
          focus (have q0 := SCost.f2 w' hS; have q1 := SCost.f4 w' hS; have q2 := SCost.f5 w' hS; have q3 := SCost.f6 w' hS; clear hS; go_simp; try rfl; done)
          simp only [List.getElem_toArray, List.getElem_cons_succ, List.getElem_cons_zero, Act.put, List.setIfInBounds_toArray, List.set_cons_zero, List.set_cons_succ]
          refine hd_take (v := ?_) 7 rfl (by kernel_rfl) (fun _ _ d _ _ h => (by cases d <;> exact h)) (by kernel_rfl) S3 (fun w' hS => ?_) ?_
          rotate_left
          focus (have q0 := SCost.f2 w' hS; have q1 := SCost.f4 w' hS; have q2 := SCost.f5 w' hS; have q3 := SCost.f6 w' hS; clear hS; go_simp; try rfl; done)
          simp only [List.getElem_toArray, List.getElem_cons_succ, List.getElem_cons_zero, Act.put, List.setIfInBounds_toArray, List.set_cons_zero, List.set_cons_succ]
          refine hd_one 8 (by kernel_rfl) ?_
          refine op_call rfl (by kernel_rfl) (by go_simp; first | exact ⟨rfl, rfl⟩ | rfl) ?_
          refine (hash_any s.alg w3).mono ?_
          rintro e w4 ⟨he, hw⟩
          rw [HG.out] at he
          subst he
          subst hw
          have hS2 := S3
          refine ⟨_, rfl, hS2, ?_⟩
          simp only [List.getElem_toArray, List.getElem_cons_succ, List.getElem_cons_zero, Act.put, List.setIfInBounds_toArray, List.set_cons_zero, List.set_cons_succ]
          refine hd_take (v := ?_) 9 rfl (by kernel_rfl) (fun _ _ d _ _ h => (by cases d <;> exact h)) (by kernel_rfl) S3 (fun w' hS => ?_) ?_
          rotate_left
          focus (clear hS; go_simp; try rfl; done)
          simp only [List.getElem_toArray, List.getElem_cons_succ, List.getElem_cons_zero, Act.put, List.setIfInBounds_toArray, List.set_cons_zero, List.set_cons_succ]
          refine hd_take (v := ?_) 10 rfl (by kernel_rfl) (fun _ _ d _ _ h => (by cases d <;> exact h)) (by kernel_rfl) S3 (fun w' hS => ?_) ?_
          rotate_left
          focus (clear hS; go_simp; try rfl; done)
          simp only [List.getElem_toArray, List.getElem_cons_succ, List.getElem_cons_zero, Act.put, List.setIfInBounds_toArray, List.set_cons_zero, List.set_cons_succ]
          refine hd_take (v := ?_) 11 rfl (by kernel_rfl) (fun _ _ d _ _ h => (by cases d <;> exact h)) (by kernel_rfl) S3 (fun w' hS => ?_) ?_
          rotate_left
          focus (clear hS; go_simp; try rfl; done)
          simp only [List.getElem_toArray, List.getElem_cons_succ, List.getElem_cons_zero, Act.put, List.setIfInBounds_toArray, List.set_cons_zero, List.set_cons_succ]
          refine hd_done (by kernel_rfl) ?_
          clear S3
          go_wp2_with fail
          go_ret
          exact ⟨by rw [HZ.out]; rfl, H3.out.up⟩
        · have qn3 : decide (137438953440 < s.out) = false := by first | exact decide_eq_false n3 | (rw [beq_eq_false_iff_ne]; exact n3) | simp [n3]
          refine hd_start (SCost p m B s t true) (by kernel_rfl) ?_
          intro w3 hw'
          have H3 := Lib.hid (H2.out.draw 1)
          rw [← hw'] at H3
          clear hw' H2
          have S3 : SCost p m B s t true w3 := HS.out _ H3.out
          refine hd_take (v := ?_) 0 rfl (by kernel_rfl) (fun _ _ d _ _ h => (by cases d <;> exact h)) (by kernel_rfl) S3 (fun w' hS => ?_) ?_
          rotate_left
          focus (have q0 := SCost.f2 w' hS; have q1 := SCost.f4 w' hS; have q2 := SCost.f5 w' hS; have q3 := SCost.f6 w' hS; clear hS; go_simp; try rfl; done)
          simp only [List.getElem_toArray, List.getElem_cons_succ, List.getElem_cons_zero, Act.put, List.setIfInBounds_toArray, List.set_cons_zero, List.set_cons_succ]
          refine hd_take (v := ?_) 1 rfl (by kernel_rfl) (fun _ _ d _ _ h => (by cases d <;> exact h)) (by kernel_rfl) S3 (fun w' hS => ?_) ?_
          rotate_left
          focus (have q0 := SCost.f2 w' hS; have q1 := SCost.f4 w' hS; have q2 := SCost.f5 w' hS; have q3 := SCost.f6 w' hS; clear hS; go_simp; try rfl; done)
          simp only [List.getElem_toArray, List.getElem_cons_succ, List.getElem_cons_zero, Act.put, List.setIfInBounds_toArray, List.set_cons_zero, List.set_cons_succ]
          refine hd_take (v := ?_) 2 rfl (by kernel_rfl) (fun _ _ d _ _ h => (by cases d <;> exact h)) (by kernel_rfl) S3 (fun w' hS => ?_) ?_
          rotate_left
          focus (have q0 := SCost.f2 w' hS; have q1 := SCost.f4 w' hS; have q2 := SCost.f5 w' hS; have q3 := SCost.f6 w' hS; clear hS; go_simp; try rfl; done)
          simp only [List.getElem_toArray, List.getElem_cons_succ, List.getElem_cons_zero, Act.put, List.setIfInBounds_toArray, List.set_cons_zero, List.set_cons_succ]
          refine hd_take (v := ?_) 3 rfl (by kernel_rfl) (fun _ _ d _ _ h => (by cases d <;> exact h)) (by kernel_rfl) S3 (fun w' hS => ?_) ?_
          rotate_left
          focus (have q0 := SCost.f2 w' hS; have q1 := SCost.f4 w' hS; have q2 := SCost.f5 w' hS; have q3 := SCost.f6 w' hS; clear hS; go_simp; try rfl; done)
          simp only [List.getElem_toArray, List.getElem_cons_succ, List.getElem_cons_zero, Act.put, List.setIfInBounds_toArray, List.set_cons_zero, List.set_cons_succ]
          refine hd_take (v := ?_) 4 rfl (by kernel_rfl) (fun _ _ d _ _ h => (by cases d <;> exact h)) (by kernel_rfl) S3 (fun w' hS => ?_) ?_
          rotate_left
          focus (have q0 := SCost.f2 w' hS; have q1 := SCost.f4 w' hS; have q2 := SCost.f5 w' hS; have q3 := SCost.f6 w' hS; clear hS; go_simp; try rfl; done)
          simp only [List.getElem_toArray, List.getElem_cons_succ, List.getElem_cons_zero, Act.put, List.setIfInBounds_toArray, List.set_cons_zero, List.set_cons_succ]
          refine hd_take (v := ?_) 5 rfl (by kernel_rfl) (fun _ _ d _ _ h => (by cases d <;> exact h)) (by kernel_rfl) S3 (fun w' hS => ?_) ?_
          rotate_left
          focus (have q0 := SCost.f2 w' hS; have q1 := SCost.f4 w' hS; have q2 := SCost.f5 w' hS; have q3 := SCost.f6 w' hS; clear hS; go_simp; try rfl; done)
          simp only [List.getElem_toArray, List.getElem_cons_succ, List.getElem_cons_zero, Act.put, List.setIfInBounds_toArray, List.set_cons_zero, List.set_cons_succ]
          refine hd_take (v := ?_) 6 rfl (by kernel_rfl) (fun _ _ d _ _ h => (by cases d <;> exact h)) (by kernel_rfl) S3 (fun w' hS => ?_) ?_
          rotate_left
          focus (have q0 := SCost.f2 w' hS; have q1 := SCost.f4 w' hS; have q2 := SCost.f5 w' hS; have q3 := SCost.f6 w' hS; clear hS; go_simp; try rfl; done)
          simp only [List.getElem_toArray, List.getElem_cons_succ, List.getElem_cons_zero, Act.put, List.setIfInBounds_toArray, List.set_cons_zero, List.set_cons_succ]
          refine hd_take (v := ?_) 7 rfl (by kernel_rfl) (fun _ _ d _ _ h => (by cases d <;> exact h)) (by kernel_rfl) S3 (fun w' hS => ?_) ?_
          rotate_left
          focus (have q0 := SCost.f2 w' hS; have q1 := SCost.f4 w' hS; have q2 := SCost.f5 w' hS; have q3 := SCost.f6 w' hS; clear hS; go_simp; try rfl; done)
          simp only [List.getElem_toArray, List.getElem_cons_succ, List.getElem_cons_zero, Act.put, List.setIfInBounds_toArray, List.set_cons_zero, List.set_cons_succ]
          refine hd_one 8 (by kernel_rfl) ?_
          refine op_call rfl (by kernel_rfl) (by go_simp; first | exact ⟨rfl, rfl⟩ | rfl) ?_
          refine (hash_any s.alg w3).mono ?_
          rintro e w4 ⟨he, hw⟩
          rw [HG.out] at he
          subst he
          subst hw
          have hS2 := S3
          refine ⟨_, rfl, hS2, ?_⟩
          simp only [List.getElem_toArray, List.getElem_cons_succ, List.getElem_cons_zero, Act.put, List.setIfInBounds_toArray, List.set_cons_zero, List.set_cons_succ]
          refine hd_take (v := ?_) 9 rfl (by kernel_rfl) (fun _ _ d _ _ h => (by cases d <;> exact h)) (by kernel_rfl) S3 (fun w' hS => ?_) ?_
          rotate_left
          focus (clear hS; go_simp; try rfl; done)
          simp only [List.getElem_toArray, List.getElem_cons_succ, List.getElem_cons_zero, Act.put, List.setIfInBounds_toArray, List.set_cons_zero, List.set_cons_succ]
          refine hd_take (v := ?_) 10 rfl (by kernel_rfl) (fun _ _ d _ _ h => (by cases d <;> exact h)) (by kernel_rfl) S3 (fun w' hS => ?_) ?_
          rotate_left
          focus (clear hS; go_simp; try rfl; done)
          simp only [List.getElem_toArray, List.getElem_cons_succ, List.getElem_cons_zero, Act.put, List.setIfInBounds_toArray, List.set_cons_zero, List.set_cons_succ]
          refine hd_take (v := ?_) 11 rfl (by kernel_rfl) (fun _ _ d _ _ h => (by cases d <;> exact h)) (by kernel_rfl) S3 (fun w' hS => ?_) ?_
          rotate_left
          focus (clear hS; go_simp; try rfl; done)
          simp only [List.getElem_toArray, List.getElem_cons_succ, List.getElem_cons_zero, Act.put, List.setIfInBounds_toArray, List.set_cons_zero, List.set_cons_succ]
          refine hd_done (by kernel_rfl) ?_
          have c1 := H3.out.sc
          have b0 := c1.b0
          have b1 := c1.b1
          have b2 := c1.b2
          have b3 := c1.b3
          have b4 := c1.b4
          have b5 := c1.b5
          have b6 := c1.b6
          clear c1
          by_cases n4 : s.count < 1
          · have qn4 : decide (s.count < 1) = true := by first | exact decide_eq_true n4 | (rw [beq_iff_eq]; exact n4) | simp [n4]
            have hz : pbkC σ s = 10 := by simp [pbkC, HC.out, HG.out]; omega
            have HZ := Lib.hid hz
            clear hz n1 n3 n4
            clear S3
            go_wp2_with fail
            go_ret
            exact ⟨by rw [HZ.out]; rfl, H3.out.up⟩
          · have qn4 : decide (s.count < 1) = false := by first | exact decide_eq_false n4 | (rw [beq_eq_false_iff_ne]; exact n4) | simp [n4]
            by_cases n5 : 1048576 < s.count
            · have qn5 : decide (1048576 < s.count) = true := by first | exact decide_eq_true n5 | (rw [beq_iff_eq]; exact n5) | simp [n5]
              have hz : pbkC σ s = 10 := by simp [pbkC, HC.out, HG.out]; omega
              have HZ := Lib.hid hz
              clear hz n1 n3 n4 n5
              clear S3
              go_wp2_with fail
              go_ret
              exact ⟨by rw [HZ.out]; rfl, H3.out.up⟩
            · have qn5 : decide (1048576 < s.count) = false := by first | exact decide_eq_false n5 | (rw [beq_eq_false_iff_ne]; exact n5) | simp [n5]
              have hz : pbkC σ s = keyedC σ s := by simp [pbkC, HC.out, HG.out]; omega
              have HZ := Lib.hid hz
              clear hz n1 n3 n4 n5
              clear S3
              go_wp2_with fail
              clear b0 b1 b2 b3 b4 b5 b6
              refine (ckeyed_any H3.out.pub s H3.out.hs).mono ?_
              rintro e w5 ⟨rfl, hb⟩
              have H4 := Lib.hid (H3.out.on hb)
              clear hb
              go_wp2_with fail
              go_ret
              exact ⟨by rw [HZ.out]; rfl, H4.out.up⟩
      · have hwv : IntKind.i64.wrap 274877906880 = 274877906880 := IntWalk.i64_in _ (by omega)
        by_cases n3 : 274877906880 < s.out
        · have qn3 : decide (274877906880 < s.out) = true := by first | exact decide_eq_true n3 | (rw [beq_iff_eq]; exact n3) | simp [n3]
          have hz : pbkC σ s = 9 := by simp [pbkC, HC.out, HG.out]; omega
          have HZ := Lib.hid hz
          clear hz n1 n3
          refine hd_start (SCost p m B s t true) (by kernel_rfl) ?_
          intro w3 hw'
          have H3 := Lib.hid (H2.out.draw 1)
          rw [← hw'] at H3
          clear hw' H2
          have S3 : SCost p m B s t true w3 := HS.out _ H3.out
          refine hd_take (v := ?_) 0 rfl (by kernel_rfl) (fun _ _ d _ _ h => (by cases d <;> exact h)) (by kernel_rfl) S3 (fun w' hS => ?_) ?_
          rotate_left
          focus (have q0 := SCost.f2 w' hS; have q1 := SCost.f4 w' hS; have q2 := SCost.f5 w' hS; have q3 := SCost.f6 w' hS; clear hS; go_simp; try rfl; done)
          simp only [List.getElem_toArray, List.getElem_cons_succ, List.getElem_cons_zero, Act.put, List.setIfInBounds_toArray, List.set_cons_zero, List.set_cons_succ]
          refine hd_take (v := ?_) 1 rfl (by kernel_rfl) (fun _ _ d _ _ h => (by cases d <;> exact h)) (by kernel_rfl) S3 (fun w' hS => ?_) ?_
          rotate_left
          focus (have q0 := SCost.f2 w' hS; have q1 := SCost.f4 w' hS; have q2 := SCost.f5 w' hS; have q3 := SCost.f6 w' hS; clear hS; go_simp; try rfl; done)
          simp only [List.getElem_toArray, List.getElem_cons_succ, List.getElem_cons_zero, Act.put, List.setIfInBounds_toArray, List.set_cons_zero, List.set_cons_succ]
          refine hd_take (v := ?_) 2 rfl (by kernel_rfl) (fun _ _ d _ _ h => (by cases d <;> exact h)) (by kernel_rfl) S3 (fun w' hS => ?_) ?_
          rotate_left
          focus (have q0 := SCost.f2 w' hS; have q1 := SCost.f4 w' hS; have q2 := SCost.f5 w' hS; have q3 := SCost.f6 w' hS; clear hS; go_simp; try rfl; done)
          simp only [List.getElem_toArray, List.getElem_cons_succ, List.getElem_cons_zero, Act.put, List.setIfInBounds_toArray, List.set_cons_zero, List.set_cons_succ]
          refine hd_take (v := ?_) 3 rfl (by kernel_rfl) (fun _ _ d _ _ h => (by cases d <;> exact h)) (by kernel_rfl) S3 (fun w' hS => ?_) ?_
          rotate_left
          focus (have q0 := SCost.f2 w' hS; have q1 := SCost.f4 w' hS; have q2 := SCost.f5 w' hS; have q3 := SCost.f6 w' hS; clear hS; go_simp; try rfl; done)
          simp only [List.getElem_toArray, List.getElem_cons_succ, List.getElem_cons_zero, Act.put, List.setIfInBounds_toArray, List.set_cons_zero, List.set_cons_succ]
          refine hd_take (v := ?_) 4 rfl (by kernel_rfl) (fun _ _ d _ _ h => (by cases d <;> exact h)) (by kernel_rfl) S3 (fun w' hS => ?_) ?_
          rotate_left
          focus (have q0 := SCost.f2 w' hS; have q1 := SCost.f4 w' hS; have q2 := SCost.f5 w' hS; have q3 := SCost.f6 w' hS; clear hS; go_simp; try rfl; done)
          simp only [List.getElem_toArray, List.getElem_cons_succ, List.getElem_cons_zero, Act.put, List.setIfInBounds_toArray, List.set_cons_zero, List.set_cons_succ]
          refine hd_take (v := ?_) 5 rfl (by kernel_rfl) (fun _ _ d _ _ h => (by cases d <;> exact h)) (by kernel_rfl) S3 (fun w' hS => ?_) ?_
          rotate_left
          focus (have q0 := SCost.f2 w' hS; have q1 := SCost.f4 w' hS; have q2 := SCost.f5 w' hS; have q3 := SCost.f6 w' hS; clear hS; go_simp; try rfl; done)
          simp only [List.getElem_toArray, List.getElem_cons_succ, List.getElem_cons_zero, Act.put, List.setIfInBounds_toArray, List.set_cons_zero, List.set_cons_succ]
          refine hd_take (v := ?_) 6 rfl (by kernel_rfl) (fun _ _ d _ _ h => (by cases d <;> exact h)) (by kernel_rfl) S3 (fun w' hS => ?_) ?_
          rotate_left
          focus (have q0 := SCost.f2 w' hS; have q1 := SCost.f4 w' hS; have q2 := SCost.f5 w' hS; have q3 := SCost.f6 w' hS; clear hS; go_simp; try rfl; done)
          simp only [List.getElem_toArray, List.getElem_cons_succ, List.getElem_cons_zero, Act.put, List.setIfInBounds_toArray, List.set_cons_zero, List.set_cons_succ]
          refine hd_take (v := ?_) 7 rfl (by kernel_rfl) (fun _ _ d _ _ h => (by cases d <;> exact h)) (by kernel_rfl) S3 (fun w' hS => ?_) ?_
          rotate_left
          focus (have q0 := SCost.f2 w' hS; have q1 := SCost.f4 w' hS; have q2 := SCost.f5 w' hS; have q3 := SCost.f6 w' hS; clear hS; go_simp; try rfl; done)
          simp only [List.getElem_toArray, List.getElem_cons_succ, List.getElem_cons_zero, Act.put, List.setIfInBounds_toArray, List.set_cons_zero, List.set_cons_succ]
          refine hd_one 8 (by kernel_rfl) ?_
          refine op_call rfl (by kernel_rfl) (by go_simp; first | exact ⟨rfl, rfl⟩ | rfl) ?_
          refine (hash_any s.alg w3).mono ?_
          rintro e w4 ⟨he, hw⟩
          rw [HG.out] at he
          subst he
          subst hw
          have hS2 := S3
          refine ⟨_, rfl, hS2, ?_⟩
          simp only [List.getElem_toArray, List.getElem_cons_succ, List.getElem_cons_zero, Act.put, List.setIfInBounds_toArray, List.set_cons_zero, List.set_cons_succ]
          refine hd_take (v := ?_) 9 rfl (by kernel_rfl) (fun _ _ d _ _ h => (by cases d <;> exact h)) (by kernel_rfl) S3 (fun w' hS => ?_) ?_
          rotate_left
          focus (clear hS; go_simp; try rfl; done)
          simp only [List.getElem_toArray, List.getElem_cons_succ, List.getElem_cons_zero, Act.put, List.setIfInBounds_toArray, List.set_cons_zero, List.set_cons_succ]
          refine hd_take (v := ?_) 10 rfl (by kernel_rfl) (fun _ _ d _ _ h => (by cases d <;> exact h)) (by kernel_rfl) S3 (fun w' hS => ?_) ?_
          rotate_left
          focus (clear hS; go_simp; try rfl; done)
          simp only [List.getElem_toArray, List.getElem_cons_succ, List.getElem_cons_zero, Act.put, List.setIfInBounds_toArray, List.set_cons_zero, List.set_cons_succ]
          refine hd_take (v := ?_) 11 rfl (by kernel_rfl) (fun _ _ d _ _ h => (by cases d <;> exact h)) (by kernel_rfl) S3 (fun w' hS => ?_) ?_
          rotate_left
          focus (clear hS; go_simp; try rfl; done)
          simp only [List.getElem_toArray, List.getElem_cons_succ, List.getElem_cons_zero, Act.put, List.setIfInBounds_toArray, List.set_cons_zero, List.set_cons_succ]
          refine hd_done (by kernel_rfl) ?_
          clear S3
          go_wp2_with fail
          go_ret
          exact ⟨by rw [HZ.out]; rfl, H3.out.up⟩
        · have qn3 : decide (274877906880 < s.out) = false := by first | exact decide_eq_false n3 | (rw [beq_eq_false_iff_ne]; exact n3) | simp [n3]
          refine hd_start (SCost p m B s t true) (by kernel_rfl) ?_
          intro w3 hw'
          have H3 := Lib.hid (H2.out.draw 1)
          rw [← hw'] at H3
          clear hw' H2
          have S3 : SCost p m B s t true w3 := HS.out _ H3.out
          refine hd_take (v := ?_) 0 rfl (by kernel_rfl) (fun _ _ d _ _ h => (by cases d <;> exact h)) (by kernel_rfl) S3 (fun w' hS => ?_) ?_
          rotate_left
          focus (have q0 := SCost.f2 w' hS; have q1 := SCost.f4 w' hS; have q2 := SCost.f5 w' hS; have q3 := SCost.f6 w' hS; clear hS; go_simp; try rfl; done)
          simp only [List.getElem_toArray, List.getElem_cons_succ, List.getElem_cons_zero, Act.put, List.setIfInBounds_toArray, List.set_cons_zero, List.set_cons_succ]
          refine hd_take (v := ?_) 1 rfl (by kernel_rfl) (fun _ _ d _ _ h => (by cases d <;> exact h)) (by kernel_rfl) S3 (fun w' hS => ?_) ?_
          rotate_left
          focus (have q0 := SCost.f2 w' hS; have q1 := SCost.f4 w' hS; have q2 := SCost.f5 w' hS; have q3 := SCost.f6 w' hS; clear hS; go_simp; try rfl; done)
          simp only [List.getElem_toArray, List.getElem_cons_succ, List.getElem_cons_zero, Act.put, List.setIfInBounds_toArray, List.set_cons_zero, List.set_cons_succ]
          refine hd_take (v := ?_) 2 rfl (by kernel_rfl) (fun _ _ d _ _ h => (by cases d <;> exact h)) (by kernel_rfl) S3 (fun w' hS => ?_) ?_
          rotate_left
          focus (have q0 := SCost.f2 w' hS; have q1 := SCost.f4 w' hS; have q2 := SCost.f5 w' hS; have q3 := SCost.f6 w' hS; clear hS; go_simp; try rfl; done)
          simp only [List.getElem_toArray, List.getElem_cons_succ, List.getElem_cons_zero, Act.put, List.setIfInBounds_toArray, List.set_cons_zero, List.set_cons_succ]
          refine hd_take (v := ?_) 3 rfl (by kernel_rfl) (fun _ _ d _ _ h => (by cases d <;> exact h)) (by kernel_rfl) S3 (fun w' hS => ?_) ?_
          rotate_left
          focus (have q0 := SCost.f2 w' hS; have q1 := SCost.f4 w' hS; have q2 := SCost.f5 w' hS; have q3 := SCost.f6 w' hS; clear hS; go_simp; try rfl; done)
          simp only [List.getElem_toArray, List.getElem_cons_succ, List.getElem_cons_zero, Act.put, List.setIfInBounds_toArray, List.set_cons_zero, List.set_cons_succ]
          refine hd_take (v := ?_) 4 rfl (by kernel_rfl) (fun _ _ d _ _ h => (by cases d <;> exact h)) (by kernel_rfl) S3 (fun w' hS => ?_) ?_
          rotate_left
          focus (have q0 := SCost.f2 w' hS; have q1 := SCost.f4 w' hS; have q2 := SCost.f5 w' hS; have q3 := SCost.f6 w' hS; clear hS; go_simp; try rfl; done)
          simp only [List.getElem_toArray, List.getElem_cons_succ, List.getElem_cons_zero, Act.put, List.setIfInBounds_toArray, List.set_cons_zero, List.set_cons_succ]
          refine hd_take (v := ?_) 5 rfl (by kernel_rfl) (fun _ _ d _ _ h => (by cases d <;> exact h)) (by kernel_rfl) S3 (fun w' hS => ?_) ?_
          rotate_left
          focus (have q0 := SCost.f2 w' hS; have q1 := SCost.f4 w' hS; have q2 := SCost.f5 w' hS; have q3 := SCost.f6 w' hS; clear hS; go_simp; try rfl; done)
          simp only [List.getElem_toArray, List.getElem_cons_succ, List.getElem_cons_zero, Act.put, List.setIfInBounds_toArray, List.set_cons_zero, List.set_cons_succ]
          refine hd_take (v := ?_) 6 rfl (by kernel_rfl) (fun _ _ d _ _ h => (by cases d <;> exact h)) (by kernel_rfl) S3 (fun w' hS => ?_) ?_
          rotate_left
          focus (have q0 := SCost.f2 w' hS; have q1 := SCost.f4 w' hS; have q2 := SCost.f5 w' hS; have q3 := SCost.f6 w' hS; clear hS; go_simp; try rfl; done)
          simp only [List.getElem_toArray, List.getElem_cons_succ, List.getElem_cons_zero, Act.put, List.setIfInBounds_toArray, List.set_cons_zero, List.set_cons_succ]
          refine hd_take (v := ?_) 7 rfl (by kernel_rfl) (fun _ _ d _ _ h => (by cases d <;> exact h)) (by kernel_rfl) S3 (fun w' hS => ?_) ?_
          rotate_left
          focus (have q0 := SCost.f2 w' hS; have q1 := SCost.f4 w' hS; have q2 := SCost.f5 w' hS; have q3 := SCost.f6 w' hS; clear hS; go_simp; try rfl; done)
          simp only [List.getElem_toArray, List.getElem_cons_succ, List.getElem_cons_zero, Act.put, List.setIfInBounds_toArray, List.set_cons_zero, List.set_cons_succ]
          refine hd_one 8 (by kernel_rfl) ?_
          refine op_call rfl (by kernel_rfl) (by go_simp; first | exact ⟨rfl, rfl⟩ | rfl) ?_
          refine (hash_any s.alg w3).mono ?_
          rintro e w4 ⟨he, hw⟩
          rw [HG.out] at he
          subst he
          subst hw
          have hS2 := S3
          refine ⟨_, rfl, hS2, ?_⟩
          simp only [List.getElem_toArray, List.getElem_cons_succ, List.getElem_cons_zero, Act.put, List.setIfInBounds_toArray, List.set_cons_zero, List.set_cons_succ]
          refine hd_take (v := ?_) 9 rfl (by kernel_rfl) (fun _ _ d _ _ h => (by cases d <;> exact h)) (by kernel_rfl) S3 (fun w' hS => ?_) ?_
          rotate_left
          focus (clear hS; go_simp; try rfl; done)
          simp only [List.getElem_toArray, List.getElem_cons_succ, List.getElem_cons_zero, Act.put, List.setIfInBounds_toArray, List.set_cons_zero, List.set_cons_succ]
          refine hd_take (v := ?_) 10 rfl (by kernel_rfl) (fun _ _ d _ _ h => (by cases d <;> exact h)) (by kernel_rfl) S3 (fun w' hS => ?_) ?_
          rotate_left
          focus (clear hS; go_simp; try rfl; done)
          simp only [List.getElem_toArray, List.getElem_cons_succ, List.getElem_cons_zero, Act.put, List.setIfInBounds_toArray, List.set_cons_zero, List.set_cons_succ]
          refine hd_take (v := ?_) 11 rfl (by kernel_rfl) (fun _ _ d _ _ h => (by cases d <;> exact h)) (by kernel_rfl) S3 (fun w' hS => ?_) ?_
          rotate_left
          focus (clear hS; go_simp; try rfl; done)
          simp only [List.getElem_toArray, List.getElem_cons_succ, List.getElem_cons_zero, Act.put, List.setIfInBounds_toArray, List.set_cons_zero, List.set_cons_succ]
          refine hd_done (by kernel_rfl) ?_
          have c1 := H3.out.sc
          have b0 := c1.b0
          have b1 := c1.b1
          have b2 := c1.b2
          have b3 := c1.b3
          have b4 := c1.b4
          have b5 := c1.b5
          have b6 := c1.b6
          clear c1
          by_cases n4 : s.count < 1
          · have qn4 : decide (s.count < 1) = true := by first | exact decide_eq_true n4 | (rw [beq_iff_eq]; exact n4) | simp [n4]
            have hz : pbkC σ s = 10 := by simp [pbkC, HC.out, HG.out]; omega
            have HZ := Lib.hid hz
            clear hz n1 n3 n4
            clear S3
            go_wp2_with fail
            go_ret
            exact ⟨by rw [HZ.out]; rfl, H3.out.up⟩
          · have qn4 : decide (s.count < 1) = false := by first | exact decide_eq_false n4 | (rw [beq_eq_false_iff_ne]; exact n4) | simp [n4]
            by_cases n5 : 1048576 < s.count
            · have qn5 : decide (1048576 < s.count) = true := by first | exact decide_eq_true n5 | (rw [beq_iff_eq]; exact n5) | simp [n5]
              have hz : pbkC σ s = 10 := by simp [pbkC, HC.out, HG.out]; omega
              have HZ := Lib.hid hz
              clear hz n1 n3 n4 n5
              clear S3
              go_wp2_with fail
              go_ret
              exact ⟨by rw [HZ.out]; rfl, H3.out.up⟩
            · have qn5 : decide (1048576 < s.count) = false := by first | exact decide_eq_false n5 | (rw [beq_eq_false_iff_ne]; exact n5) | simp [n5]
              have hz : pbkC σ s = keyedC σ s := by simp [pbkC, HC.out, HG.out]; omega
              have HZ := Lib.hid hz
              clear hz n1 n3 n4 n5
              clear S3
              go_wp2_with fail
              clear b0 b1 b2 b3 b4 b5 b6
              refine (ckeyed_any H3.out.pub s H3.out.hs).mono ?_
              rintro e w5 ⟨rfl, hb⟩
              have H4 := Lib.hid (H3.out.on hb)
              clear hb
              go_wp2_with fail
              go_ret
              exact ⟨by rw [HZ.out]; rfl, H4.out.up⟩
  · have hz : pbkC σ s = derC σ s := by
      unfold pbkC
      rw [if_neg hc]
    have HZ := Lib.hid hz
    clear hz
    obtain ⟨c, hcc⟩ : ∃ c, derC σ s = c := ⟨_, rfl⟩
    rw [hcc] at hc HZ ⊢
    have q1 : (c != (0 : Int)) = true := by rw [bne_iff_ne]; exact hc
    have q2 : (c == (0 : Int)) = false := by rw [beq_eq_false_iff_ne]; exact hc
    clear hc hcc
    go_wp2_with fail
    go_ret
    exact ⟨by rw [HZ.out]; rfl, H2.out.up⟩
set_option maxHeartbeats 1000000 in
theorem cbegin_any {w : World} {p m k : Nat} {σ : Hs} (h : PubAt w p m k σ) (s : Sk) (hs : okI s.handle) : Calls Tryz.prog 28 #[pV p, skV s] w (Told (.int .i64 (beginC σ s)) w) := by
  have HB := Lib.hid (Box.new h hs)
  clear h
  unfold pV skV
  unfold skCells at HB
  go_enter Tryz.func28, Tryz.ntmps28
  go_wp2_with fail
  obtain ⟨B, hB⟩ : ∃ B, w.heap.size = B := ⟨_, rfl⟩
  obtain ⟨w1, hw1⟩ : ∃ y, w.alloc (.cells #[.int .u8 s.kind, .int .i64 s.handle, .int .u8 s.alg, .int .i64 s.count, .int .i64 s.out, .int .i64 s.data, .int .i64 s.more] 40) = y := ⟨_, rfl⟩
  rw [hw1, hB] at HB
  try rw [hw1]
  try rw [hB]
  clear hw1 hB
  have c1 := HB.out.sc
  have b0 := c1.b0
  have b1 := c1.b1
  have b2 := c1.b2
  have b3 := c1.b3
  have b4 := c1.b4
  have b5 := c1.b5
  have b6 := c1.b6
  clear c1
  clear b0 b1 b2 b3 b4 b5 b6
  refine (ckey_any HB.out.pub s HB.out.hs).mono ?_
  rintro e w2 ⟨rfl, hb⟩
  have H2 := Lib.hid (HB.out.on hb)
  clear hb
  by_cases hc : keyC σ s = 0
  · have HC := Lib.hid hc
    rw [hc]
    clear hc
    obtain ⟨t, hx, h0⟩ := keyC_zero HC.out
    have HS : Hid (∀ W, Box w W p m k σ B s → SCost p m B s t true W) := Lib.hid (fun W hW => by have := hW.sc; rw [hx] at this; exact this)
    have HX := Lib.hid hx
    have H0 := Lib.hid h0
    clear hx h0
    go_upto_region 4 with fail
    refine hd_start (SCost p m B s t true) (by kernel_rfl) ?_
    intro w3 hw'
    have H3 := Lib.hid (H2.out.draw 1)
    rw [← hw'] at H3
    clear hw' H2
    have S3 : SCost p m B s t true w3 := HS.out _ H3.out
    refine hd_take (v := ?_) 0 rfl (by kernel_rfl) (fun _ _ d _ _ h => (by cases d <;> exact h)) (by kernel_rfl) S3 (fun w' hS => ?_) ?_
    rotate_left
    focus (have q0 := SCost.fc w' hS; have q1 := SCost.fat w' hS; have q2 := SCost.f1 w' hS; clear hS; go_simp; try rfl; done)
    simp only [List.getElem_toArray, List.getElem_cons_succ, List.getElem_cons_zero, Act.put, List.setIfInBounds_toArray, List.set_cons_zero, List.set_cons_succ]
    refine hd_take (v := ?_) 1 rfl (by kernel_rfl) (fun _ _ d _ _ h => (by cases d <;> exact h)) (by kernel_rfl) S3 (fun w' hS => ?_) ?_
    rotate_left
    focus (have q0 := SCost.fc w' hS; have q1 := SCost.fat w' hS; have q2 := SCost.f1 w' hS; clear hS; go_simp; try rfl; done)
    simp only [List.getElem_toArray, List.getElem_cons_succ, List.getElem_cons_zero, Act.put, List.setIfInBounds_toArray, List.set_cons_zero, List.set_cons_succ]
    refine hd_take (v := ?_) 2 rfl (by kernel_rfl) (fun _ _ d _ _ h => (by cases d <;> exact h)) (by kernel_rfl) S3 (fun w' hS => ?_) ?_
    rotate_left
    focus (have q0 := SCost.fc w' hS; have q1 := SCost.fat w' hS; have q2 := SCost.f1 w' hS; clear hS; go_simp; try rfl; done)
    simp only [List.getElem_toArray, List.getElem_cons_succ, List.getElem_cons_zero, Act.put, List.setIfInBounds_toArray, List.set_cons_zero, List.set_cons_succ]
    refine hd_take (v := ?_) 3 rfl (by kernel_rfl) (fun _ _ d _ _ h => (by cases d <;> exact h)) (by kernel_rfl) S3 (fun w' hS => ?_) ?_
    rotate_left
    focus (have q0 := SCost.fc w' hS; have q1 := SCost.fat w' hS; have q2 := SCost.f1 w' hS; clear hS; go_simp; try rfl; done)
    simp only [List.getElem_toArray, List.getElem_cons_succ, List.getElem_cons_zero, Act.put, List.setIfInBounds_toArray, List.set_cons_zero, List.set_cons_succ]
    refine hd_take (v := ?_) 4 rfl (by kernel_rfl) (fun _ _ d _ _ h => (by cases d <;> exact h)) (by kernel_rfl) S3 (fun w' hS => ?_) ?_
    rotate_left
    focus (have q0 := SCost.fc w' hS; have q1 := SCost.fat w' hS; have q2 := SCost.f1 w' hS; clear hS; go_simp; try rfl; done)
    simp only [List.getElem_toArray, List.getElem_cons_succ, List.getElem_cons_zero, Act.put, List.setIfInBounds_toArray, List.set_cons_zero, List.set_cons_succ]
    refine hd_take (v := ?_) 5 rfl (by kernel_rfl) (fun _ _ d _ _ h => (by cases d <;> exact h)) (by kernel_rfl) S3 (fun w' hS => ?_) ?_
    rotate_left
    focus (have q0 := SCost.fc w' hS; have q1 := SCost.fat w' hS; have q2 := SCost.f1 w' hS; clear hS; go_simp; try rfl; done)
    simp only [List.getElem_toArray, List.getElem_cons_succ, List.getElem_cons_zero, Act.put, List.setIfInBounds_toArray, List.set_cons_zero, List.set_cons_succ]
    refine hd_take (v := ?_) 6 rfl (by kernel_rfl) (fun _ _ d _ _ h => (by cases d <;> exact h)) (by kernel_rfl) S3 (fun w' hS => ?_) ?_
    rotate_left
    focus (have q0 := SCost.fc w' hS; have q1 := SCost.fat w' hS; have q2 := SCost.f1 w' hS; clear hS; go_simp; try rfl; done)
    simp only [List.getElem_toArray, List.getElem_cons_succ, List.getElem_cons_zero, Act.put, List.setIfInBounds_toArray, List.set_cons_zero, List.set_cons_succ]
    refine hd_take (v := ?_) 7 rfl (by kernel_rfl) (fun _ _ d _ _ h => (by cases d <;> exact h)) (by kernel_rfl) S3 (fun w' hS => ?_) ?_
    rotate_left
    focus (have q0 := SCost.fc w' hS; have q1 := SCost.fat w' hS; have q2 := SCost.f1 w' hS; clear hS; go_simp; try rfl; done)
    simp only [List.getElem_toArray, List.getElem_cons_succ, List.getElem_cons_zero, Act.put, List.setIfInBounds_toArray, List.set_cons_zero, List.set_cons_succ]
    refine hd_take (v := ?_) 8 rfl (by kernel_rfl) (fun _ _ d _ _ h => (by cases d <;> exact h)) (by kernel_rfl) S3 (fun w' hS => ?_) ?_
    rotate_left
    focus (have q0 := SCost.fc w' hS; have q1 := SCost.fat w' hS; have q2 := SCost.f1 w' hS; clear hS; go_simp; try rfl; done)
    simp only [List.getElem_toArray, List.getElem_cons_succ, List.getElem_cons_zero, Act.put, List.setIfInBounds_toArray, List.set_cons_zero, List.set_cons_succ]
    refine hd_done (by kernel_rfl) ?_
    clear S3
    have c1 := H3.out.sc
    have b0 := c1.b0
    have b1 := c1.b1
    have b2 := c1.b2
    have b3 := c1.b3
    have b4 := c1.b4
    have b5 := c1.b5
    have b6 := c1.b6
    clear c1
    by_cases n1 : s.alg < 1
    · have qn1 : decide (s.alg < 1) = true := by first | exact decide_eq_true n1 | (rw [beq_iff_eq]; exact n1) | simp [n1]
      have hz : beginC σ s = 4 := by simp [beginC, HX.out, H0.out, fitB]; omega
      have HZ := Lib.hid hz
      clear hz n1
      go_wp2_with fail
      go_ret
      exact ⟨by rw [HZ.out]; rfl, H3.out.up⟩
    · have qn1 : decide (s.alg < 1) = false := by first | exact decide_eq_false n1 | (rw [beq_eq_false_iff_ne]; exact n1) | simp [n1]
      by_cases n2 : 7 < s.alg
      · have qn2 : decide (7 < s.alg) = true := by first | exact decide_eq_true n2 | (rw [beq_iff_eq]; exact n2) | simp [n2]
        have hz : beginC σ s = 4 := by simp [beginC, HX.out, H0.out, fitB]; omega
        have HZ := Lib.hid hz
        clear hz n1 n2
        go_wp2_with fail
        go_ret
        exact ⟨by rw [HZ.out]; rfl, H3.out.up⟩
      · have qn2 : decide (7 < s.alg) = false := by first | exact decide_eq_false n2 | (rw [beq_eq_false_iff_ne]; exact n2) | simp [n2]
        by_cases n3 : s.alg = 3
        · have qn3 : (s.alg == (3 : Int)) = true := by first | exact decide_eq_true n3 | (rw [beq_iff_eq]; exact n3) | simp [n3]
          have q6 : decide (s.alg < 4) = true := decide_eq_true (by omega)
          by_cases n4 : t.key = 16
          · have qn4 : (t.key == (16 : Int)) = true := by first | exact decide_eq_true n4 | (rw [beq_iff_eq]; exact n4) | simp [n4]
            have rn4 : (t.key != (16 : Int)) = false := by rw [bne, qn4]; rfl
            by_cases n7 : 0 < s.data
            · have qn7 : decide (0 < s.data) = true := by first | exact decide_eq_true n7 | (rw [beq_iff_eq]; exact n7) | simp [n7]
              have hz : beginC σ s = 2 := by simp [beginC, HX.out, H0.out, fitB]; omega
              have HZ := Lib.hid hz
              clear hz n1 n2 n3 n4 n7
              go_wp2_with fail
              go_ret
              exact ⟨by rw [HZ.out]; rfl, H3.out.up⟩
            · have qn7 : decide (0 < s.data) = false := by first | exact decide_eq_false n7 | (rw [beq_eq_false_iff_ne]; exact n7) | simp [n7]
              have q8 : decide (64 < s.data) = false := decide_eq_false (by omega)
              obtain ⟨mo, hmo⟩ : ∃ mo, mostA s.alg = mo := ⟨_, rfl⟩
              have HM := Lib.hid hmo
              clear hmo
              go_upto_region 13 with fail
              clear b0 b1 b2 b3 b4 b5 b6
              by_cases n9 : s.out < 1
              · have qn9 : decide (s.out < 1) = true := by first | exact decide_eq_true n9 | (rw [beq_iff_eq]; exact n9) | simp [n9]
                have hz : beginC σ s = 11 := by simp [beginC, HX.out, H0.out, fitB, HM.out]; omega
                have HZ := Lib.hid hz
                clear hz n1 n2 n3 n4 n7 n9
                refine hd_start (SCost p m B s t true) (by kernel_rfl) ?_
                intro w4 hw'
                have H4 := Lib.hid (H3.out.draw 1)
                rw [← hw'] at H4
                clear hw' H3
                have S4 : SCost p m B s t true w4 := HS.out _ H4.out
                refine hd_take (v := ?_) 0 rfl (by kernel_rfl) (fun _ _ d _ _ h => (by cases d <;> exact h)) (by kernel_rfl) S4 (fun w' hS => ?_) ?_
                rotate_left
                focus (have q0 := SCost.f4 w' hS; clear hS; go_simp; try rfl; done)
                simp only [List.getElem_toArray, List.getElem_cons_succ, List.getElem_cons_zero, Act.put, List.setIfInBounds_toArray, List.set_cons_zero, List.set_cons_succ]
                refine hd_take (v := ?_) 1 rfl (by kernel_rfl) (fun _ _ d _ _ h => (by cases d <;> exact h)) (by kernel_rfl) S4 (fun w' hS => ?_) ?_
                rotate_left
                focus (have q0 := SCost.f4 w' hS; clear hS; go_simp; try rfl; done)
                simp only [List.getElem_toArray, List.getElem_cons_succ, List.getElem_cons_zero, Act.put, List.setIfInBounds_toArray, List.set_cons_zero, List.set_cons_succ]
                refine hd_take (v := ?_) 2 rfl (by kernel_rfl) (fun _ _ d _ _ h => (by cases d <;> exact h)) (by kernel_rfl) S4 (fun w' hS => ?_) ?_
                rotate_left
                focus (have q0 := SCost.f4 w' hS; clear hS; go_simp; try rfl; done)
                simp only [List.getElem_toArray, List.getElem_cons_succ, List.getElem_cons_zero, Act.put, List.setIfInBounds_toArray, List.set_cons_zero, List.set_cons_succ]
                refine hd_take (v := ?_) 3 rfl (by kernel_rfl) (fun _ _ d _ _ h => (by cases d <;> exact h)) (by kernel_rfl) S4 (fun w' hS => ?_) ?_
                rotate_left
                focus (have q0 := SCost.f4 w' hS; clear hS; go_simp; try rfl; done)
                simp only [List.getElem_toArray, List.getElem_cons_succ, List.getElem_cons_zero, Act.put, List.setIfInBounds_toArray, List.set_cons_zero, List.set_cons_succ]
                refine hd_off 4 rfl (by kernel_rfl) (fun _ _ d _ _ h => (by cases d <;> exact h)) (by kernel_rfl) S4 ?_
                simp only [List.getElem_toArray, List.getElem_cons_succ, List.getElem_cons_zero, Act.put, List.setIfInBounds_toArray, List.set_cons_zero, List.set_cons_succ]
                refine hd_off 5 rfl (by kernel_rfl) (fun _ _ d _ _ h => (by cases d <;> exact h)) (by kernel_rfl) S4 ?_
                simp only [List.getElem_toArray, List.getElem_cons_succ, List.getElem_cons_zero, Act.put, List.setIfInBounds_toArray, List.set_cons_zero, List.set_cons_succ]
                refine hd_off 6 rfl (by kernel_rfl) (fun _ _ d _ _ h => (by cases d <;> exact h)) (by kernel_rfl) S4 ?_
                simp only [List.getElem_toArray, List.getElem_cons_succ, List.getElem_cons_zero, Act.put, List.setIfInBounds_toArray, List.set_cons_zero, List.set_cons_succ]
                refine hd_off 7 rfl (by kernel_rfl) (fun _ _ d _ _ h => (by cases d <;> exact h)) (by kernel_rfl) S4 ?_
                simp only [List.getElem_toArray, List.getElem_cons_succ, List.getElem_cons_zero, Act.put, List.setIfInBounds_toArray, List.set_cons_zero, List.set_cons_succ]
                refine hd_off 8 rfl (by kernel_rfl) (fun _ _ d _ _ h => (by cases d <;> exact h)) (by kernel_rfl) S4 ?_
                simp only [List.getElem_toArray, List.getElem_cons_succ, List.getElem_cons_zero, Act.put, List.setIfInBounds_toArray, List.set_cons_zero, List.set_cons_succ]
                refine hd_off 9 rfl (by kernel_rfl) (fun _ _ d _ _ h => (by cases d <;> exact h)) (by kernel_rfl) S4 ?_
                simp only [List.getElem_toArray, List.getElem_cons_succ, List.getElem_cons_zero, Act.put, List.setIfInBounds_toArray, List.set_cons_zero, List.set_cons_succ]
                refine hd_take (v := ?_) 10 rfl (by kernel_rfl) (fun _ _ d _ _ h => (by cases d <;> exact h)) (by kernel_rfl) S4 (fun w' hS => ?_) ?_
                rotate_left
                focus (clear hS; go_simp; try rfl; done)
                simp only [List.getElem_toArray, List.getElem_cons_succ, List.getElem_cons_zero, Act.put, List.setIfInBounds_toArray, List.set_cons_zero, List.set_cons_succ]
                refine hd_take (v := ?_) 11 rfl (by kernel_rfl) (fun _ _ d _ _ h => (by cases d <;> exact h)) (by kernel_rfl) S4 (fun w' hS => ?_) ?_
                rotate_left
                focus (clear hS; go_simp; try rfl; done)
                simp only [List.getElem_toArray, List.getElem_cons_succ, List.getElem_cons_zero, Act.put, List.setIfInBounds_toArray, List.set_cons_zero, List.set_cons_succ]
                refine hd_done (by kernel_rfl) ?_
                clear S4
                go_wp2_with fail
                go_ret
                exact ⟨by rw [HZ.out]; rfl, H4.out.up⟩
              · have qn9 : decide (s.out < 1) = false := by first | exact decide_eq_false n9 | (rw [beq_eq_false_iff_ne]; exact n9) | simp [n9]
                by_cases n10 : mo < s.out
                · have qn10 : decide (mo < s.out) = true := by first | exact decide_eq_true n10 | (rw [beq_iff_eq]; exact n10) | simp [n10]
                  have hz : beginC σ s = 11 := by simp [beginC, HX.out, H0.out, fitB, HM.out]; omega
                  have HZ := Lib.hid hz
                  clear hz n1 n2 n3 n4 n7 n9 n10
                  refine hd_start (SCost p m B s t true) (by kernel_rfl) ?_
                  intro w4 hw'
                  have H4 := Lib.hid (H3.out.draw 1)
                  rw [← hw'] at H4
                  clear hw' H3
                  have S4 : SCost p m B s t true w4 := HS.out _ H4.out
                  refine hd_take (v := ?_) 0 rfl (by kernel_rfl) (fun _ _ d _ _ h => (by cases d <;> exact h)) (by kernel_rfl) S4 (fun w' hS => ?_) ?_
                  rotate_left
                  focus (have q0 := SCost.f4 w' hS; have q1 := SCost.f2 w' hS; clear hS; go_simp; try rfl; done)
                  simp only [List.getElem_toArray, List.getElem_cons_succ, List.getElem_cons_zero, Act.put, List.setIfInBounds_toArray, List.set_cons_zero, List.set_cons_succ]
                  refine hd_take (v := ?_) 1 rfl (by kernel_rfl) (fun _ _ d _ _ h => (by cases d <;> exact h)) (by kernel_rfl) S4 (fun w' hS => ?_) ?_
                  rotate_left
                  focus (have q0 := SCost.f4 w' hS; have q1 := SCost.f2 w' hS; clear hS; go_simp; try rfl; done)
                  simp only [List.getElem_toArray, List.getElem_cons_succ, List.getElem_cons_zero, Act.put, List.setIfInBounds_toArray, List.set_cons_zero, List.set_cons_succ]
                  refine hd_take (v := ?_) 2 rfl (by kernel_rfl) (fun _ _ d _ _ h => (by cases d <;> exact h)) (by kernel_rfl) S4 (fun w' hS => ?_) ?_
                  rotate_left
                  focus (have q0 := SCost.f4 w' hS; have q1 := SCost.f2 w' hS; clear hS; go_simp; try rfl; done)
                  simp only [List.getElem_toArray, List.getElem_cons_succ, List.getElem_cons_zero, Act.put, List.setIfInBounds_toArray, List.set_cons_zero, List.set_cons_succ]
                  refine hd_take (v := ?_) 3 rfl (by kernel_rfl) (fun _ _ d _ _ h => (by cases d <;> exact h)) (by kernel_rfl) S4 (fun w' hS => ?_) ?_
                  rotate_left
                  focus (have q0 := SCost.f4 w' hS; have q1 := SCost.f2 w' hS; clear hS; go_simp; try rfl; done)
                  simp only [List.getElem_toArray, List.getElem_cons_succ, List.getElem_cons_zero, Act.put, List.setIfInBounds_toArray, List.set_cons_zero, List.set_cons_succ]
                  refine hd_take (v := ?_) 4 rfl (by kernel_rfl) (fun _ _ d _ _ h => (by cases d <;> exact h)) (by kernel_rfl) S4 (fun w' hS => ?_) ?_
                  rotate_left
                  focus (have q0 := SCost.f4 w' hS; have q1 := SCost.f2 w' hS; clear hS; go_simp; try rfl; done)
                  simp only [List.getElem_toArray, List.getElem_cons_succ, List.getElem_cons_zero, Act.put, List.setIfInBounds_toArray, List.set_cons_zero, List.set_cons_succ]
                  refine hd_take (v := ?_) 5 rfl (by kernel_rfl) (fun _ _ d _ _ h => (by cases d <;> exact h)) (by kernel_rfl) S4 (fun w' hS => ?_) ?_
                  rotate_left
                  focus (have q0 := SCost.f4 w' hS; have q1 := SCost.f2 w' hS; clear hS; go_simp; try rfl; done)
                  simp only [List.getElem_toArray, List.getElem_cons_succ, List.getElem_cons_zero, Act.put, List.setIfInBounds_toArray, List.set_cons_zero, List.set_cons_succ]
                  refine hd_take (v := ?_) 6 rfl (by kernel_rfl) (fun _ _ d _ _ h => (by cases d <;> exact h)) (by kernel_rfl) S4 (fun w' hS => ?_) ?_
                  rotate_left
                  focus (have q0 := SCost.f4 w' hS; have q1 := SCost.f2 w' hS; clear hS; go_simp; try rfl; done)
                  simp only [List.getElem_toArray, List.getElem_cons_succ, List.getElem_cons_zero, Act.put, List.setIfInBounds_toArray, List.set_cons_zero, List.set_cons_succ]
                  refine hd_take (v := ?_) 7 rfl (by kernel_rfl) (fun _ _ d _ _ h => (by cases d <;> exact h)) (by kernel_rfl) S4 (fun w' hS => ?_) ?_
                  rotate_left
                  focus (have q0 := SCost.f4 w' hS; have q1 := SCost.f2 w' hS; clear hS; go_simp; try rfl; done)
                  simp only [List.getElem_toArray, List.getElem_cons_succ, List.getElem_cons_zero, Act.put, List.setIfInBounds_toArray, List.set_cons_zero, List.set_cons_succ]
                  refine hd_one 8 (by kernel_rfl) ?_
                  refine op_call rfl (by kernel_rfl) (by go_simp; first | exact ⟨rfl, rfl⟩ | rfl) ?_
                  refine (most_any s.alg w4).mono ?_
                  rintro e w5 ⟨he, hw⟩
                  rw [HM.out] at he
                  subst he
                  subst hw
                  have hS2 := S4
                  refine ⟨_, rfl, hS2, ?_⟩
                  simp only [List.getElem_toArray, List.getElem_cons_succ, List.getElem_cons_zero, Act.put, List.setIfInBounds_toArray, List.set_cons_zero, List.set_cons_succ]
                  refine hd_take (v := ?_) 9 rfl (by kernel_rfl) (fun _ _ d _ _ h => (by cases d <;> exact h)) (by kernel_rfl) S4 (fun w' hS => ?_) ?_
                  rotate_left
                  focus (clear hS; go_simp; try rfl; done)
                  simp only [List.getElem_toArray, List.getElem_cons_succ, List.getElem_cons_zero, Act.put, List.setIfInBounds_toArray, List.set_cons_zero, List.set_cons_succ]
                  refine hd_take (v := ?_) 10 rfl (by kernel_rfl) (fun _ _ d _ _ h => (by cases d <;> exact h)) (by kernel_rfl) S4 (fun w' hS => ?_) ?_
                  rotate_left
                  focus (clear hS; go_simp; try rfl; done)
                  simp only [List.getElem_toArray, List.getElem_cons_succ, List.getElem_cons_zero, Act.put, List.setIfInBounds_toArray, List.set_cons_zero, List.set_cons_succ]
                  refine hd_take (v := ?_) 11 rfl (by kernel_rfl) (fun _ _ d _ _ h => (by cases d <;> exact h)) (by kernel_rfl) S4 (fun w' hS => ?_) ?_
                  rotate_left
                  focus (clear hS; go_simp; try rfl; done)
                  simp only [List.getElem_toArray, List.getElem_cons_succ, List.getElem_cons_zero, Act.put, List.setIfInBounds_toArray, List.set_cons_zero, List.set_cons_succ]
                  refine hd_done (by kernel_rfl) ?_
                  clear S4
                  go_wp2_with fail
                  go_ret
                  exact ⟨by rw [HZ.out]; rfl, H4.out.up⟩
                · have qn10 : decide (mo < s.out) = false := by first | exact decide_eq_false n10 | (rw [beq_eq_false_iff_ne]; exact n10) | simp [n10]
                  have hz : beginC σ s = roomC σ := by simp [beginC, HX.out, H0.out, fitB, HM.out]; omega
                  have HZ := Lib.hid hz
                  clear hz n1 n2 n3 n4 n7 n9 n10
                  refine hd_start (SCost p m B s t true) (by kernel_rfl) ?_
                  intro w4 hw'
                  have H4 := Lib.hid (H3.out.draw 1)
                  rw [← hw'] at H4
                  clear hw' H3
                  have S4 : SCost p m B s t true w4 := HS.out _ H4.out
                  refine hd_take (v := ?_) 0 rfl (by kernel_rfl) (fun _ _ d _ _ h => (by cases d <;> exact h)) (by kernel_rfl) S4 (fun w' hS => ?_) ?_
                  rotate_left
                  focus (have q0 := SCost.f4 w' hS; have q1 := SCost.f2 w' hS; clear hS; go_simp; try rfl; done)
                  simp only [List.getElem_toArray, List.getElem_cons_succ, List.getElem_cons_zero, Act.put, List.setIfInBounds_toArray, List.set_cons_zero, List.set_cons_succ]
                  refine hd_take (v := ?_) 1 rfl (by kernel_rfl) (fun _ _ d _ _ h => (by cases d <;> exact h)) (by kernel_rfl) S4 (fun w' hS => ?_) ?_
                  rotate_left
                  focus (have q0 := SCost.f4 w' hS; have q1 := SCost.f2 w' hS; clear hS; go_simp; try rfl; done)
                  simp only [List.getElem_toArray, List.getElem_cons_succ, List.getElem_cons_zero, Act.put, List.setIfInBounds_toArray, List.set_cons_zero, List.set_cons_succ]
                  refine hd_take (v := ?_) 2 rfl (by kernel_rfl) (fun _ _ d _ _ h => (by cases d <;> exact h)) (by kernel_rfl) S4 (fun w' hS => ?_) ?_
                  rotate_left
                  focus (have q0 := SCost.f4 w' hS; have q1 := SCost.f2 w' hS; clear hS; go_simp; try rfl; done)
                  simp only [List.getElem_toArray, List.getElem_cons_succ, List.getElem_cons_zero, Act.put, List.setIfInBounds_toArray, List.set_cons_zero, List.set_cons_succ]
                  refine hd_take (v := ?_) 3 rfl (by kernel_rfl) (fun _ _ d _ _ h => (by cases d <;> exact h)) (by kernel_rfl) S4 (fun w' hS => ?_) ?_
                  rotate_left
                  focus (have q0 := SCost.f4 w' hS; have q1 := SCost.f2 w' hS; clear hS; go_simp; try rfl; done)
                  simp only [List.getElem_toArray, List.getElem_cons_succ, List.getElem_cons_zero, Act.put, List.setIfInBounds_toArray, List.set_cons_zero, List.set_cons_succ]
                  refine hd_take (v := ?_) 4 rfl (by kernel_rfl) (fun _ _ d _ _ h => (by cases d <;> exact h)) (by kernel_rfl) S4 (fun w' hS => ?_) ?_
                  rotate_left
                  focus (have q0 := SCost.f4 w' hS; have q1 := SCost.f2 w' hS; clear hS; go_simp; try rfl; done)
                  simp only [List.getElem_toArray, List.getElem_cons_succ, List.getElem_cons_zero, Act.put, List.setIfInBounds_toArray, List.set_cons_zero, List.set_cons_succ]
                  refine hd_take (v := ?_) 5 rfl (by kernel_rfl) (fun _ _ d _ _ h => (by cases d <;> exact h)) (by kernel_rfl) S4 (fun w' hS => ?_) ?_
                  rotate_left
                  focus (have q0 := SCost.f4 w' hS; have q1 := SCost.f2 w' hS; clear hS; go_simp; try rfl; done)
                  simp only [List.getElem_toArray, List.getElem_cons_succ, List.getElem_cons_zero, Act.put, List.setIfInBounds_toArray, List.set_cons_zero, List.set_cons_succ]
                  refine hd_take (v := ?_) 6 rfl (by kernel_rfl) (fun _ _ d _ _ h => (by cases d <;> exact h)) (by kernel_rfl) S4 (fun w' hS => ?_) ?_
                  rotate_left
                  focus (have q0 := SCost.f4 w' hS; have q1 := SCost.f2 w' hS; clear hS; go_simp; try rfl; done)
                  simp only [List.getElem_toArray, List.getElem_cons_succ, List.getElem_cons_zero, Act.put, List.setIfInBounds_toArray, List.set_cons_zero, List.set_cons_succ]
                  refine hd_take (v := ?_) 7 rfl (by kernel_rfl) (fun _ _ d _ _ h => (by cases d <;> exact h)) (by kernel_rfl) S4 (fun w' hS => ?_) ?_
                  rotate_left
                  focus (have q0 := SCost.f4 w' hS; have q1 := SCost.f2 w' hS; clear hS; go_simp; try rfl; done)
                  simp only [List.getElem_toArray, List.getElem_cons_succ, List.getElem_cons_zero, Act.put, List.setIfInBounds_toArray, List.set_cons_zero, List.set_cons_succ]
                  refine hd_one 8 (by kernel_rfl) ?_
                  refine op_call rfl (by kernel_rfl) (by go_simp; first | exact ⟨rfl, rfl⟩ | rfl) ?_
                  refine (most_any s.alg w4).mono ?_
                  rintro e w5 ⟨he, hw⟩
                  rw [HM.out] at he
                  subst he
                  subst hw
                  have hS2 := S4
                  refine ⟨_, rfl, hS2, ?_⟩
                  simp only [List.getElem_toArray, List.getElem_cons_succ, List.getElem_cons_zero, Act.put, List.setIfInBounds_toArray, List.set_cons_zero, List.set_cons_succ]
                  refine hd_take (v := ?_) 9 rfl (by kernel_rfl) (fun _ _ d _ _ h => (by cases d <;> exact h)) (by kernel_rfl) S4 (fun w' hS => ?_) ?_
                  rotate_left
                  focus (clear hS; go_simp; try rfl; done)
                  simp only [List.getElem_toArray, List.getElem_cons_succ, List.getElem_cons_zero, Act.put, List.setIfInBounds_toArray, List.set_cons_zero, List.set_cons_succ]
                  refine hd_take (v := ?_) 10 rfl (by kernel_rfl) (fun _ _ d _ _ h => (by cases d <;> exact h)) (by kernel_rfl) S4 (fun w' hS => ?_) ?_
                  rotate_left
                  focus (clear hS; go_simp; try rfl; done)
                  simp only [List.getElem_toArray, List.getElem_cons_succ, List.getElem_cons_zero, Act.put, List.setIfInBounds_toArray, List.set_cons_zero, List.set_cons_succ]
                  refine hd_take (v := ?_) 11 rfl (by kernel_rfl) (fun _ _ d _ _ h => (by cases d <;> exact h)) (by kernel_rfl) S4 (fun w' hS => ?_) ?_
                  rotate_left
                  focus (clear hS; go_simp; try rfl; done)
                  simp only [List.getElem_toArray, List.getElem_cons_succ, List.getElem_cons_zero, Act.put, List.setIfInBounds_toArray, List.set_cons_zero, List.set_cons_succ]
                  refine hd_done (by kernel_rfl) ?_
                  clear S4
                  go_wp2_with fail
                  refine (croom_any H4.out.pub).mono ?_
                  rintro e w6 ⟨rfl, hb⟩
                  have H5 := Lib.hid (H4.out.on hb)
                  clear hb
                  go_wp2_with fail
                  go_ret
                  exact ⟨by rw [HZ.out]; rfl, H5.out.up⟩
          · have qn4 : (t.key == (16 : Int)) = false := by first | exact decide_eq_false n4 | (rw [beq_eq_false_iff_ne]; exact n4) | simp [n4]
            have rn4 : (t.key != (16 : Int)) = true := by rw [bne, qn4]; rfl
            by_cases n5 : t.key = 24
            · have qn5 : (t.key == (24 : Int)) = true := by first | exact decide_eq_true n5 | (rw [beq_iff_eq]; exact n5) | simp [n5]
              have rn5 : (t.key != (24 : Int)) = false := by rw [bne, qn5]; rfl
              by_cases n7 : 0 < s.data
              · have qn7 : decide (0 < s.data) = true := by first | exact decide_eq_true n7 | (rw [beq_iff_eq]; exact n7) | simp [n7]
                have hz : beginC σ s = 2 := by simp [beginC, HX.out, H0.out, fitB]; omega
                have HZ := Lib.hid hz
                clear hz n1 n2 n3 n5 n4 n7
                go_wp2_with fail
                go_ret
                exact ⟨by rw [HZ.out]; rfl, H3.out.up⟩
              · have qn7 : decide (0 < s.data) = false := by first | exact decide_eq_false n7 | (rw [beq_eq_false_iff_ne]; exact n7) | simp [n7]
                have q8 : decide (64 < s.data) = false := decide_eq_false (by omega)
                obtain ⟨mo, hmo⟩ : ∃ mo, mostA s.alg = mo := ⟨_, rfl⟩
                have HM := Lib.hid hmo
                clear hmo
                go_upto_region 13 with fail
                clear b0 b1 b2 b3 b4 b5 b6
                by_cases n9 : s.out < 1
                · have qn9 : decide (s.out < 1) = true := by first | exact decide_eq_true n9 | (rw [beq_iff_eq]; exact n9) | simp [n9]
                  have hz : beginC σ s = 11 := by simp [beginC, HX.out, H0.out, fitB, HM.out]; omega
                  have HZ := Lib.hid hz
                  clear hz n1 n2 n3 n5 n4 n7 n9
                  refine hd_start (SCost p m B s t true) (by kernel_rfl) ?_
                  intro w4 hw'
                  have H4 := Lib.hid (H3.out.draw 1)
                  rw [← hw'] at H4
                  clear hw' H3
                  have S4 : SCost p m B s t true w4 := HS.out _ H4.out
                  refine hd_take (v := ?_) 0 rfl (by kernel_rfl) (fun _ _ d _ _ h => (by cases d <;> exact h)) (by kernel_rfl) S4 (fun w' hS => ?_) ?_
                  rotate_left
                  focus (have q0 := SCost.f4 w' hS; clear hS; go_simp; try rfl; done)
                  simp only [List.getElem_toArray, List.getElem_cons_succ, List.getElem_cons_zero, Act.put, List.setIfInBounds_toArray, List.set_cons_zero, List.set_cons_succ]
                  refine hd_take (v := ?_) 1 rfl (by kernel_rfl) (fun _ _ d _ _ h => (by cases d <;> exact h)) (by kernel_rfl) S4 (fun w' hS => ?_) ?_
                  rotate_left
                  focus (have q0 := SCost.f4 w' hS; clear hS; go_simp; try rfl; done)
                  simp only [List.getElem_toArray, List.getElem_cons_succ, List.getElem_cons_zero, Act.put, List.setIfInBounds_toArray, List.set_cons_zero, List.set_cons_succ]
                  refine hd_take (v := ?_) 2 rfl (by kernel_rfl) (fun _ _ d _ _ h => (by cases d <;> exact h)) (by kernel_rfl) S4 (fun w' hS => ?_) ?_
                  rotate_left
                  focus (have q0 := SCost.f4 w' hS; clear hS; go_simp; try rfl; done)
                  simp only [List.getElem_toArray, List.getElem_cons_succ, List.getElem_cons_zero, Act.put, List.setIfInBounds_toArray, List.set_cons_zero, List.set_cons_succ]
                  refine hd_take (v := ?_) 3 rfl (by kernel_rfl) (fun _ _ d _ _ h => (by cases d <;> exact h)) (by kernel_rfl) S4 (fun w' hS => ?_) ?_
                  rotate_left
                  focus (have q0 := SCost.f4 w' hS; clear hS; go_simp; try rfl; done)
                  simp only [List.getElem_toArray, List.getElem_cons_succ, List.getElem_cons_zero, Act.put, List.setIfInBounds_toArray, List.set_cons_zero, List.set_cons_succ]
                  refine hd_off 4 rfl (by kernel_rfl) (fun _ _ d _ _ h => (by cases d <;> exact h)) (by kernel_rfl) S4 ?_
                  simp only [List.getElem_toArray, List.getElem_cons_succ, List.getElem_cons_zero, Act.put, List.setIfInBounds_toArray, List.set_cons_zero, List.set_cons_succ]
                  refine hd_off 5 rfl (by kernel_rfl) (fun _ _ d _ _ h => (by cases d <;> exact h)) (by kernel_rfl) S4 ?_
                  simp only [List.getElem_toArray, List.getElem_cons_succ, List.getElem_cons_zero, Act.put, List.setIfInBounds_toArray, List.set_cons_zero, List.set_cons_succ]
                  refine hd_off 6 rfl (by kernel_rfl) (fun _ _ d _ _ h => (by cases d <;> exact h)) (by kernel_rfl) S4 ?_
                  simp only [List.getElem_toArray, List.getElem_cons_succ, List.getElem_cons_zero, Act.put, List.setIfInBounds_toArray, List.set_cons_zero, List.set_cons_succ]
                  refine hd_off 7 rfl (by kernel_rfl) (fun _ _ d _ _ h => (by cases d <;> exact h)) (by kernel_rfl) S4 ?_
                  simp only [List.getElem_toArray, List.getElem_cons_succ, List.getElem_cons_zero, Act.put, List.setIfInBounds_toArray, List.set_cons_zero, List.set_cons_succ]
                  refine hd_off 8 rfl (by kernel_rfl) (fun _ _ d _ _ h => (by cases d <;> exact h)) (by kernel_rfl) S4 ?_
                  simp only [List.getElem_toArray, List.getElem_cons_succ, List.getElem_cons_zero, Act.put, List.setIfInBounds_toArray, List.set_cons_zero, List.set_cons_succ]
                  refine hd_off 9 rfl (by kernel_rfl) (fun _ _ d _ _ h => (by cases d <;> exact h)) (by kernel_rfl) S4 ?_
                  simp only [List.getElem_toArray, List.getElem_cons_succ, List.getElem_cons_zero, Act.put, List.setIfInBounds_toArray, List.set_cons_zero, List.set_cons_succ]
                  refine hd_take (v := ?_) 10 rfl (by kernel_rfl) (fun _ _ d _ _ h => (by cases d <;> exact h)) (by kernel_rfl) S4 (fun w' hS => ?_) ?_
                  rotate_left
                  focus (clear hS; go_simp; try rfl; done)
                  simp only [List.getElem_toArray, List.getElem_cons_succ, List.getElem_cons_zero, Act.put, List.setIfInBounds_toArray, List.set_cons_zero, List.set_cons_succ]
                  refine hd_take (v := ?_) 11 rfl (by kernel_rfl) (fun _ _ d _ _ h => (by cases d <;> exact h)) (by kernel_rfl) S4 (fun w' hS => ?_) ?_
                  rotate_left
                  focus (clear hS; go_simp; try rfl; done)
                  simp only [List.getElem_toArray, List.getElem_cons_succ, List.getElem_cons_zero, Act.put, List.setIfInBounds_toArray, List.set_cons_zero, List.set_cons_succ]
                  refine hd_done (by kernel_rfl) ?_
                  clear S4
                  go_wp2_with fail
                  go_ret
                  exact ⟨by rw [HZ.out]; rfl, H4.out.up⟩
                · have qn9 : decide (s.out < 1) = false := by first | exact decide_eq_false n9 | (rw [beq_eq_false_iff_ne]; exact n9) | simp [n9]
                  by_cases n10 : mo < s.out
                  · have qn10 : decide (mo < s.out) = true := by first | exact decide_eq_true n10 | (rw [beq_iff_eq]; exact n10) | simp [n10]
                    have hz : beginC σ s = 11 := by simp [beginC, HX.out, H0.out, fitB, HM.out]; omega
                    have HZ := Lib.hid hz
                    clear hz n1 n2 n3 n5 n4 n7 n9 n10
                    refine hd_start (SCost p m B s t true) (by kernel_rfl) ?_
                    intro w4 hw'
                    have H4 := Lib.hid (H3.out.draw 1)
                    rw [← hw'] at H4
                    clear hw' H3
                    have S4 : SCost p m B s t true w4 := HS.out _ H4.out
                    refine hd_take (v := ?_) 0 rfl (by kernel_rfl) (fun _ _ d _ _ h => (by cases d <;> exact h)) (by kernel_rfl) S4 (fun w' hS => ?_) ?_
                    rotate_left
                    focus (have q0 := SCost.f4 w' hS; have q1 := SCost.f2 w' hS; clear hS; go_simp; try rfl; done)
                    simp only [List.getElem_toArray, List.getElem_cons_succ, List.getElem_cons_zero, Act.put, List.setIfInBounds_toArray, List.set_cons_zero, List.set_cons_succ]
                    refine hd_take (v := ?_) 1 rfl (by kernel_rfl) (fun _ _ d _ _ h => (by cases d <;> exact h)) (by kernel_rfl) S4 (fun w' hS => ?_) ?_
                    rotate_left
                    focus (have q0 := SCost.f4 w' hS; have q1 := SCost.f2 w' hS; clear hS; go_simp; try rfl; done)
                    simp only [List.getElem_toArray, List.getElem_cons_succ, List.getElem_cons_zero, Act.put, List.setIfInBounds_toArray, List.set_cons_zero, List.set_cons_succ]
                    refine hd_take (v := ?_) 2 rfl (by kernel_rfl) (fun _ _ d _ _ h => (by cases d <;> exact h)) (by kernel_rfl) S4 (fun w' hS => ?_) ?_
                    rotate_left
                    focus (have q0 := SCost.f4 w' hS; have q1 := SCost.f2 w' hS; clear hS; go_simp; try rfl; done)
                    simp only [List.getElem_toArray, List.getElem_cons_succ, List.getElem_cons_zero, Act.put, List.setIfInBounds_toArray, List.set_cons_zero, List.set_cons_succ]
                    refine hd_take (v := ?_) 3 rfl (by kernel_rfl) (fun _ _ d _ _ h => (by cases d <;> exact h)) (by kernel_rfl) S4 (fun w' hS => ?_) ?_
                    rotate_left
                    focus (have q0 := SCost.f4 w' hS; have q1 := SCost.f2 w' hS; clear hS; go_simp; try rfl; done)
                    simp only [List.getElem_toArray, List.getElem_cons_succ, List.getElem_cons_zero, Act.put, List.setIfInBounds_toArray, List.set_cons_zero, List.set_cons_succ]
                    refine hd_take (v := ?_) 4 rfl (by kernel_rfl) (fun _ _ d _ _ h => (by cases d <;> exact h)) (by kernel_rfl) S4 (fun w' hS => ?_) ?_
                    rotate_left
                    focus (have q0 := SCost.f4 w' hS; have q1 := SCost.f2 w' hS; clear hS; go_simp; try rfl; done)
                    simp only [List.getElem_toArray, List.getElem_cons_succ, List.getElem_cons_zero, Act.put, List.setIfInBounds_toArray, List.set_cons_zero, List.set_cons_succ]
                    refine hd_take (v := ?_) 5 rfl (by kernel_rfl) (fun _ _ d _ _ h => (by cases d <;> exact h)) (by kernel_rfl) S4 (fun w' hS => ?_) ?_
                    rotate_left
                    focus (have q0 := SCost.f4 w' hS; have q1 := SCost.f2 w' hS; clear hS; go_simp; try rfl; done)
                    simp only [List.getElem_toArray, List.getElem_cons_succ, List.getElem_cons_zero, Act.put, List.setIfInBounds_toArray, List.set_cons_zero, List.set_cons_succ]
                    refine hd_take (v := ?_) 6 rfl (by kernel_rfl) (fun _ _ d _ _ h => (by cases d <;> exact h)) (by kernel_rfl) S4 (fun w' hS => ?_) ?_
                    rotate_left
                    focus (have q0 := SCost.f4 w' hS; have q1 := SCost.f2 w' hS; clear hS; go_simp; try rfl; done)
                    simp only [List.getElem_toArray, List.getElem_cons_succ, List.getElem_cons_zero, Act.put, List.setIfInBounds_toArray, List.set_cons_zero, List.set_cons_succ]
                    refine hd_take (v := ?_) 7 rfl (by kernel_rfl) (fun _ _ d _ _ h => (by cases d <;> exact h)) (by kernel_rfl) S4 (fun w' hS => ?_) ?_
                    rotate_left
                    focus (have q0 := SCost.f4 w' hS; have q1 := SCost.f2 w' hS; clear hS; go_simp; try rfl; done)
                    simp only [List.getElem_toArray, List.getElem_cons_succ, List.getElem_cons_zero, Act.put, List.setIfInBounds_toArray, List.set_cons_zero, List.set_cons_succ]
                    refine hd_one 8 (by kernel_rfl) ?_
                    refine op_call rfl (by kernel_rfl) (by go_simp; first | exact ⟨rfl, rfl⟩ | rfl) ?_
                    refine (most_any s.alg w4).mono ?_
                    rintro e w5 ⟨he, hw⟩
                    rw [HM.out] at he
                    subst he
                    subst hw
                    have hS2 := S4
                    refine ⟨_, rfl, hS2, ?_⟩
                    simp only [List.getElem_toArray, List.getElem_cons_succ, List.getElem_cons_zero, Act.put, List.setIfInBounds_toArray, List.set_cons_zero, List.set_cons_succ]
                    refine hd_take (v := ?_) 9 rfl (by kernel_rfl) (fun _ _ d _ _ h => (by cases d <;> exact h)) (by kernel_rfl) S4 (fun w' hS => ?_) ?_
                    rotate_left
                    focus (clear hS; go_simp; try rfl; done)
                    simp only [List.getElem_toArray, List.getElem_cons_succ, List.getElem_cons_zero, Act.put, List.setIfInBounds_toArray, List.set_cons_zero, List.set_cons_succ]
                    refine hd_take (v := ?_) 10 rfl (by kernel_rfl) (fun _ _ d _ _ h => (by cases d <;> exact h)) (by kernel_rfl) S4 (fun w' hS => ?_) ?_
                    rotate_left
                    focus (clear hS; go_simp; try rfl; done)
                    simp only [List.getElem_toArray, List.getElem_cons_succ, List.getElem_cons_zero, Act.put, List.setIfInBounds_toArray, List.set_cons_zero, List.set_cons_succ]
                    refine hd_take (v := ?_) 11 rfl (by kernel_rfl) (fun _ _ d _ _ h => (by cases d <;> exact h)) (by kernel_rfl) S4 (fun w' hS => ?_) ?_
                    rotate_left
                    focus (clear hS; go_simp; try rfl; done)
                    simp only [List.getElem_toArray, List.getElem_cons_succ, List.getElem_cons_zero, Act.put, List.setIfInBounds_toArray, List.set_cons_zero, List.set_cons_succ]
                    refine hd_done (by kernel_rfl) ?_
                    clear S4
                    go_wp2_with fail
                    go_ret
                    exact ⟨by rw [HZ.out]; rfl, H4.out.up⟩
                  · have qn10 : decide (mo < s.out) = false := by first | exact decide_eq_false n10 | (rw [beq_eq_false_iff_ne]; exact n10) | simp [n10]
                    have hz : beginC σ s = roomC σ := by simp [beginC, HX.out, H0.out, fitB, HM.out]; omega
                    have HZ := Lib.hid hz
                    clear hz n1 n2 n3 n5 n4 n7 n9 n10
                    refine hd_start (SCost p m B s t true) (by kernel_rfl) ?_
                    intro w4 hw'
                    have H4 := Lib.hid (H3.out.draw 1)
                    rw [← hw'] at H4
                    clear hw' H3
                    have S4 : SCost p m B s t true w4 := HS.out _ H4.out
                    refine hd_take (v := ?_) 0 rfl (by kernel_rfl) (fun _ _ d _ _ h => (by cases d <;> exact h)) (by kernel_rfl) S4 (fun w' hS => ?_) ?_
                    rotate_left
                    focus (have q0 := SCost.f4 w' hS; have q1 := SCost.f2 w' hS; clear hS; go_simp; try rfl; done)
                    simp only [List.getElem_toArray, List.getElem_cons_succ, List.getElem_cons_zero, Act.put, List.setIfInBounds_toArray, List.set_cons_zero, List.set_cons_succ]
                    refine hd_take (v := ?_) 1 rfl (by kernel_rfl) (fun _ _ d _ _ h => (by cases d <;> exact h)) (by kernel_rfl) S4 (fun w' hS => ?_) ?_
                    rotate_left
                    focus (have q0 := SCost.f4 w' hS; have q1 := SCost.f2 w' hS; clear hS; go_simp; try rfl; done)
                    simp only [List.getElem_toArray, List.getElem_cons_succ, List.getElem_cons_zero, Act.put, List.setIfInBounds_toArray, List.set_cons_zero, List.set_cons_succ]
                    refine hd_take (v := ?_) 2 rfl (by kernel_rfl) (fun _ _ d _ _ h => (by cases d <;> exact h)) (by kernel_rfl) S4 (fun w' hS => ?_) ?_
                    rotate_left
                    focus (have q0 := SCost.f4 w' hS; have q1 := SCost.f2 w' hS; clear hS; go_simp; try rfl; done)
                    simp only [List.getElem_toArray, List.getElem_cons_succ, List.getElem_cons_zero, Act.put, List.setIfInBounds_toArray, List.set_cons_zero, List.set_cons_succ]
                    refine hd_take (v := ?_) 3 rfl (by kernel_rfl) (fun _ _ d _ _ h => (by cases d <;> exact h)) (by kernel_rfl) S4 (fun w' hS => ?_) ?_
                    rotate_left
                    focus (have q0 := SCost.f4 w' hS; have q1 := SCost.f2 w' hS; clear hS; go_simp; try rfl; done)
                    simp only [List.getElem_toArray, List.getElem_cons_succ, List.getElem_cons_zero, Act.put, List.setIfInBounds_toArray, List.set_cons_zero, List.set_cons_succ]
                    refine hd_take (v := ?_) 4 rfl (by kernel_rfl) (fun _ _ d _ _ h => (by cases d <;> exact h)) (by kernel_rfl) S4 (fun w' hS => ?_) ?_
                    rotate_left
                    focus (have q0 := SCost.f4 w' hS; have q1 := SCost.f2 w' hS; clear hS; go_simp; try rfl; done)
                    simp only [List.getElem_toArray, List.getElem_cons_succ, List.getElem_cons_zero, Act.put, List.setIfInBounds_toArray, List.set_cons_zero, List.set_cons_succ]
                    refine hd_take (v := ?_) 5 rfl (by kernel_rfl) (fun _ _ d _ _ h => (by cases d <;> exact h)) (by kernel_rfl) S4 (fun w' hS => ?_) ?_
                    rotate_left
                    focus (have q0 := SCost.f4 w' hS; have q1 := SCost.f2 w' hS; clear hS; go_simp; try rfl; done)
                    simp only [List.getElem_toArray, List.getElem_cons_succ, List.getElem_cons_zero, Act.put, List.setIfInBounds_toArray, List.set_cons_zero, List.set_cons_succ]
                    refine hd_take (v := ?_) 6 rfl (by kernel_rfl) (fun _ _ d _ _ h => (by cases d <;> exact h)) (by kernel_rfl) S4 (fun w' hS => ?_) ?_
                    rotate_left
                    focus (have q0 := SCost.f4 w' hS; have q1 := SCost.f2 w' hS; clear hS; go_simp; try rfl; done)
                    simp only [List.getElem_toArray, List.getElem_cons_succ, List.getElem_cons_zero, Act.put, List.setIfInBounds_toArray, List.set_cons_zero, List.set_cons_succ]
                    refine hd_take (v := ?_) 7 rfl (by kernel_rfl) (fun _ _ d _ _ h => (by cases d <;> exact h)) (by kernel_rfl) S4 (fun w' hS => ?_) ?_
                    rotate_left
                    focus (have q0 := SCost.f4 w' hS; have q1 := SCost.f2 w' hS; clear hS; go_simp; try rfl; done)
                    simp only [List.getElem_toArray, List.getElem_cons_succ, List.getElem_cons_zero, Act.put, List.setIfInBounds_toArray, List.set_cons_zero, List.set_cons_succ]
                    refine hd_one 8 (by kernel_rfl) ?_
                    refine op_call rfl (by kernel_rfl) (by go_simp; first | exact ⟨rfl, rfl⟩ | rfl) ?_
                    refine (most_any s.alg w4).mono ?_
                    rintro e w5 ⟨he, hw⟩
                    rw [HM.out] at he
                    subst he
                    subst hw
                    have hS2 := S4
                    refine ⟨_, rfl, hS2, ?_⟩
                    simp only [List.getElem_toArray, List.getElem_cons_succ, List.getElem_cons_zero, Act.put, List.setIfInBounds_toArray, List.set_cons_zero, List.set_cons_succ]
                    refine hd_take (v := ?_) 9 rfl (by kernel_rfl) (fun _ _ d _ _ h => (by cases d <;> exact h)) (by kernel_rfl) S4 (fun w' hS => ?_) ?_
                    rotate_left
                    focus (clear hS; go_simp; try rfl; done)
                    simp only [List.getElem_toArray, List.getElem_cons_succ, List.getElem_cons_zero, Act.put, List.setIfInBounds_toArray, List.set_cons_zero, List.set_cons_succ]
                    refine hd_take (v := ?_) 10 rfl (by kernel_rfl) (fun _ _ d _ _ h => (by cases d <;> exact h)) (by kernel_rfl) S4 (fun w' hS => ?_) ?_
                    rotate_left
                    focus (clear hS; go_simp; try rfl; done)
                    simp only [List.getElem_toArray, List.getElem_cons_succ, List.getElem_cons_zero, Act.put, List.setIfInBounds_toArray, List.set_cons_zero, List.set_cons_succ]
                    refine hd_take (v := ?_) 11 rfl (by kernel_rfl) (fun _ _ d _ _ h => (by cases d <;> exact h)) (by kernel_rfl) S4 (fun w' hS => ?_) ?_
                    rotate_left
                    focus (clear hS; go_simp; try rfl; done)
                    simp only [List.getElem_toArray, List.getElem_cons_succ, List.getElem_cons_zero, Act.put, List.setIfInBounds_toArray, List.set_cons_zero, List.set_cons_succ]
                    refine hd_done (by kernel_rfl) ?_
                    clear S4
                    go_wp2_with fail
                    refine (croom_any H4.out.pub).mono ?_
                    rintro e w6 ⟨rfl, hb⟩
                    have H5 := Lib.hid (H4.out.on hb)
                    clear hb
                    go_wp2_with fail
                    go_ret
                    exact ⟨by rw [HZ.out]; rfl, H5.out.up⟩
            · have qn5 : (t.key == (24 : Int)) = false := by first | exact decide_eq_false n5 | (rw [beq_eq_false_iff_ne]; exact n5) | simp [n5]
              have rn5 : (t.key != (24 : Int)) = true := by rw [bne, qn5]; rfl
              by_cases n5b : t.key = 32
              · have qn5b : (t.key == (32 : Int)) = true := by first | exact decide_eq_true n5b | (rw [beq_iff_eq]; exact n5b) | simp [n5b]
                have rn5b : (t.key != (32 : Int)) = false := by rw [bne, qn5b]; rfl
                by_cases n7 : 0 < s.data
                · have qn7 : decide (0 < s.data) = true := by first | exact decide_eq_true n7 | (rw [beq_iff_eq]; exact n7) | simp [n7]
                  have hz : beginC σ s = 2 := by simp [beginC, HX.out, H0.out, fitB]; omega
                  have HZ := Lib.hid hz
                  clear hz n1 n2 n3 n5b n4 n5 n7
                  go_wp2_with fail
                  go_ret
                  exact ⟨by rw [HZ.out]; rfl, H3.out.up⟩
                · have qn7 : decide (0 < s.data) = false := by first | exact decide_eq_false n7 | (rw [beq_eq_false_iff_ne]; exact n7) | simp [n7]
                  have q8 : decide (64 < s.data) = false := decide_eq_false (by omega)
                  obtain ⟨mo, hmo⟩ : ∃ mo, mostA s.alg = mo := ⟨_, rfl⟩
                  have HM := Lib.hid hmo
                  clear hmo
                  go_upto_region 13 with fail
                  clear b0 b1 b2 b3 b4 b5 b6
                  by_cases n9 : s.out < 1
                  · have qn9 : decide (s.out < 1) = true := by first | exact decide_eq_true n9 | (rw [beq_iff_eq]; exact n9) | simp [n9]
                    have hz : beginC σ s = 11 := by simp [beginC, HX.out, H0.out, fitB, HM.out]; omega
                    have HZ := Lib.hid hz
                    clear hz n1 n2 n3 n5b n4 n5 n7 n9
                    refine hd_start (SCost p m B s t true) (by kernel_rfl) ?_
                    intro w4 hw'
                    have H4 := Lib.hid (H3.out.draw 1)
                    rw [← hw'] at H4
                    clear hw' H3
                    have S4 : SCost p m B s t true w4 := HS.out _ H4.out
                    refine hd_take (v := ?_) 0 rfl (by kernel_rfl) (fun _ _ d _ _ h => (by cases d <;> exact h)) (by kernel_rfl) S4 (fun w' hS => ?_) ?_
                    rotate_left
                    focus (have q0 := SCost.f4 w' hS; clear hS; go_simp; try rfl; done)
                    simp only [List.getElem_toArray, List.getElem_cons_succ, List.getElem_cons_zero, Act.put, List.setIfInBounds_toArray, List.set_cons_zero, List.set_cons_succ]
                    refine hd_take (v := ?_) 1 rfl (by kernel_rfl) (fun _ _ d _ _ h => (by cases d <;> exact h)) (by kernel_rfl) S4 (fun w' hS => ?_) ?_
                    rotate_left
                    focus (have q0 := SCost.f4 w' hS; clear hS; go_simp; try rfl; done)
                    simp only [List.getElem_toArray, List.getElem_cons_succ, List.getElem_cons_zero, Act.put, List.setIfInBounds_toArray, List.set_cons_zero, List.set_cons_succ]
                    refine hd_take (v := ?_) 2 rfl (by kernel_rfl) (fun _ _ d _ _ h => (by cases d <;> exact h)) (by kernel_rfl) S4 (fun w' hS => ?_) ?_
                    rotate_left
                    focus (have q0 := SCost.f4 w' hS; clear hS; go_simp; try rfl; done)
                    simp only [List.getElem_toArray, List.getElem_cons_succ, List.getElem_cons_zero, Act.put, List.setIfInBounds_toArray, List.set_cons_zero, List.set_cons_succ]
                    refine hd_take (v := ?_) 3 rfl (by kernel_rfl) (fun _ _ d _ _ h => (by cases d <;> exact h)) (by kernel_rfl) S4 (fun w' hS => ?_) ?_
                    rotate_left
                    focus (have q0 := SCost.f4 w' hS; clear hS; go_simp; try rfl; done)
                    simp only [List.getElem_toArray, List.getElem_cons_succ, List.getElem_cons_zero, Act.put, List.setIfInBounds_toArray, List.set_cons_zero, List.set_cons_succ]
                    refine hd_off 4 rfl (by kernel_rfl) (fun _ _ d _ _ h => (by cases d <;> exact h)) (by kernel_rfl) S4 ?_
                    simp only [List.getElem_toArray, List.getElem_cons_succ, List.getElem_cons_zero, Act.put, List.setIfInBounds_toArray, List.set_cons_zero, List.set_cons_succ]
                    refine hd_off 5 rfl (by kernel_rfl) (fun _ _ d _ _ h => (by cases d <;> exact h)) (by kernel_rfl) S4 ?_
                    simp only [List.getElem_toArray, List.getElem_cons_succ, List.getElem_cons_zero, Act.put, List.setIfInBounds_toArray, List.set_cons_zero, List.set_cons_succ]
                    refine hd_off 6 rfl (by kernel_rfl) (fun _ _ d _ _ h => (by cases d <;> exact h)) (by kernel_rfl) S4 ?_
                    simp only [List.getElem_toArray, List.getElem_cons_succ, List.getElem_cons_zero, Act.put, List.setIfInBounds_toArray, List.set_cons_zero, List.set_cons_succ]
                    refine hd_off 7 rfl (by kernel_rfl) (fun _ _ d _ _ h => (by cases d <;> exact h)) (by kernel_rfl) S4 ?_
                    simp only [List.getElem_toArray, List.getElem_cons_succ, List.getElem_cons_zero, Act.put, List.setIfInBounds_toArray, List.set_cons_zero, List.set_cons_succ]
                    refine hd_off 8 rfl (by kernel_rfl) (fun _ _ d _ _ h => (by cases d <;> exact h)) (by kernel_rfl) S4 ?_
                    simp only [List.getElem_toArray, List.getElem_cons_succ, List.getElem_cons_zero, Act.put, List.setIfInBounds_toArray, List.set_cons_zero, List.set_cons_succ]
                    refine hd_off 9 rfl (by kernel_rfl) (fun _ _ d _ _ h => (by cases d <;> exact h)) (by kernel_rfl) S4 ?_
                    simp only [List.getElem_toArray, List.getElem_cons_succ, List.getElem_cons_zero, Act.put, List.setIfInBounds_toArray, List.set_cons_zero, List.set_cons_succ]
                    refine hd_take (v := ?_) 10 rfl (by kernel_rfl) (fun _ _ d _ _ h => (by cases d <;> exact h)) (by kernel_rfl) S4 (fun w' hS => ?_) ?_
                    rotate_left
                    focus (clear hS; go_simp; try rfl; done)
                    simp only [List.getElem_toArray, List.getElem_cons_succ, List.getElem_cons_zero, Act.put, List.setIfInBounds_toArray, List.set_cons_zero, List.set_cons_succ]
                    refine hd_take (v := ?_) 11 rfl (by kernel_rfl) (fun _ _ d _ _ h => (by cases d <;> exact h)) (by kernel_rfl) S4 (fun w' hS => ?_) ?_
                    rotate_left
                    focus (clear hS; go_simp; try rfl; done)
                    simp only [List.getElem_toArray, List.getElem_cons_succ, List.getElem_cons_zero, Act.put, List.setIfInBounds_toArray, List.set_cons_zero, List.set_cons_succ]
                    refine hd_done (by kernel_rfl) ?_
                    clear S4
                    go_wp2_with fail
                    go_ret
                    exact ⟨by rw [HZ.out]; rfl, H4.out.up⟩
                  · have qn9 : decide (s.out < 1) = false := by first | exact decide_eq_false n9 | (rw [beq_eq_false_iff_ne]; exact n9) | simp [n9]
                    by_cases n10 : mo < s.out
                    · have qn10 : decide (mo < s.out) = true := by first | exact decide_eq_true n10 | (rw [beq_iff_eq]; exact n10) | simp [n10]
                      have hz : beginC σ s = 11 := by simp [beginC, HX.out, H0.out, fitB, HM.out]; omega
                      have HZ := Lib.hid hz
                      clear hz n1 n2 n3 n5b n4 n5 n7 n9 n10
                      refine hd_start (SCost p m B s t true) (by kernel_rfl) ?_
                      intro w4 hw'
                      have H4 := Lib.hid (H3.out.draw 1)
                      rw [← hw'] at H4
                      clear hw' H3
                      have S4 : SCost p m B s t true w4 := HS.out _ H4.out
                      refine hd_take (v := ?_) 0 rfl (by kernel_rfl) (fun _ _ d _ _ h => (by cases d <;> exact h)) (by kernel_rfl) S4 (fun w' hS => ?_) ?_
                      rotate_left
                      focus (have q0 := SCost.f4 w' hS; have q1 := SCost.f2 w' hS; clear hS; go_simp; try rfl; done)
                      simp only [List.getElem_toArray, List.getElem_cons_succ, List.getElem_cons_zero, Act.put, List.setIfInBounds_toArray, List.set_cons_zero, List.set_cons_succ]
                      refine hd_take (v := ?_) 1 rfl (by kernel_rfl) (fun _ _ d _ _ h => (by cases d <;> exact h)) (by kernel_rfl) S4 (fun w' hS => ?_) ?_
                      rotate_left
                      focus (have q0 := SCost.f4 w' hS; have q1 := SCost.f2 w' hS; clear hS; go_simp; try rfl; done)
                      simp only [List.getElem_toArray, List.getElem_cons_succ, List.getElem_cons_zero, Act.put, List.setIfInBounds_toArray, List.set_cons_zero, List.set_cons_succ]
                      refine hd_take (v := ?_) 2 rfl (by kernel_rfl) (fun _ _ d _ _ h => (by cases d <;> exact h)) (by kernel_rfl) S4 (fun w' hS => ?_) ?_
                      rotate_left
                      focus (have q0 := SCost.f4 w' hS; have q1 := SCost.f2 w' hS; clear hS; go_simp; try rfl; done)
                      simp only [List.getElem_toArray, List.getElem_cons_succ, List.getElem_cons_zero, Act.put, List.setIfInBounds_toArray, List.set_cons_zero, List.set_cons_succ]
                      refine hd_take (v := ?_) 3 rfl (by kernel_rfl) (fun _ _ d _ _ h => (by cases d <;> exact h)) (by kernel_rfl) S4 (fun w' hS => ?_) ?_
                      rotate_left
                      focus (have q0 := SCost.f4 w' hS; have q1 := SCost.f2 w' hS; clear hS; go_simp; try rfl; done)
                      simp only [List.getElem_toArray, List.getElem_cons_succ, List.getElem_cons_zero, Act.put, List.setIfInBounds_toArray, List.set_cons_zero, List.set_cons_succ]
                      refine hd_take (v := ?_) 4 rfl (by kernel_rfl) (fun _ _ d _ _ h => (by cases d <;> exact h)) (by kernel_rfl) S4 (fun w' hS => ?_) ?_
                      rotate_left
                      focus (have q0 := SCost.f4 w' hS; have q1 := SCost.f2 w' hS; clear hS; go_simp; try rfl; done)
                      simp only [List.getElem_toArray, List.getElem_cons_succ, List.getElem_cons_zero, Act.put, List.setIfInBounds_toArray, List.set_cons_zero, List.set_cons_succ]
                      refine hd_take (v := ?_) 5 rfl (by kernel_rfl) (fun _ _ d _ _ h => (by cases d <;> exact h)) (by kernel_rfl) S4 (fun w' hS => ?_) ?_
                      rotate_left
                      focus (have q0 := SCost.f4 w' hS; have q1 := SCost.f2 w' hS; clear hS; go_simp; try rfl; done)
                      simp only [List.getElem_toArray, List.getElem_cons_succ, List.getElem_cons_zero, Act.put, List.setIfInBounds_toArray, List.set_cons_zero, List.set_cons_succ]
                      refine hd_take (v := ?_) 6 rfl (by kernel_rfl) (fun _ _ d _ _ h => (by cases d <;> exact h)) (by kernel_rfl) S4 (fun w' hS => ?_) ?_
                      rotate_left
                      focus (have q0 := SCost.f4 w' hS; have q1 := SCost.f2 w' hS; clear hS; go_simp; try rfl; done)
                      simp only [List.getElem_toArray, List.getElem_cons_succ, List.getElem_cons_zero, Act.put, List.setIfInBounds_toArray, List.set_cons_zero, List.set_cons_succ]
                      refine hd_take (v := ?_) 7 rfl (by kernel_rfl) (fun _ _ d _ _ h => (by cases d <;> exact h)) (by kernel_rfl) S4 (fun w' hS => ?_) ?_
                      rotate_left
                      focus (have q0 := SCost.f4 w' hS; have q1 := SCost.f2 w' hS; clear hS; go_simp; try rfl; done)
                      simp only [List.getElem_toArray, List.getElem_cons_succ, List.getElem_cons_zero, Act.put, List.setIfInBounds_toArray, List.set_cons_zero, List.set_cons_succ]
                      refine hd_one 8 (by kernel_rfl) ?_
                      refine op_call rfl (by kernel_rfl) (by go_simp; first | exact ⟨rfl, rfl⟩ | rfl) ?_
                      refine (most_any s.alg w4).mono ?_
                      rintro e w5 ⟨he, hw⟩
                      rw [HM.out] at he
                      subst he
                      subst hw
                      have hS2 := S4
                      refine ⟨_, rfl, hS2, ?_⟩
                      simp only [List.getElem_toArray, List.getElem_cons_succ, List.getElem_cons_zero, Act.put, List.setIfInBounds_toArray, List.set_cons_zero, List.set_cons_succ]
                      refine hd_take (v := ?_) 9 rfl (by kernel_rfl) (fun _ _ d _ _ h => (by cases d <;> exact h)) (by kernel_rfl) S4 (fun w' hS => ?_) ?_
                      rotate_left
                      focus (clear hS; go_simp; try rfl; done)
                      simp only [List.getElem_toArray, List.getElem_cons_succ, List.getElem_cons_zero, Act.put, List.setIfInBounds_toArray, List.set_cons_zero, List.set_cons_succ]
                      refine hd_take (v := ?_) 10 rfl (by kernel_rfl) (fun _ _ d _ _ h => (by cases d <;> exact h)) (by kernel_rfl) S4 (fun w' hS => ?_) ?_
                      rotate_left
                      focus (clear hS; go_simp; try rfl; done)
                      simp only [List.getElem_toArray, List.getElem_cons_succ, List.getElem_cons_zero, Act.put, List.setIfInBounds_toArray, List.set_cons_zero, List.set_cons_succ]
                      refine hd_take (v := ?_) 11 rfl (by kernel_rfl) (fun _ _ d _ _ h => (by cases d <;> exact h)) (by kernel_rfl) S4 (fun w' hS => ?_) ?_
                      rotate_left
                      focus (clear hS; go_simp; try rfl; done)
                      simp only [List.getElem_toArray, List.getElem_cons_succ, List.getElem_cons_zero, Act.put, List.setIfInBounds_toArray, List.set_cons_zero, List.set_cons_succ]
                      refine hd_done (by kernel_rfl) ?_
                      clear S4
                      go_wp2_with fail
                      go_ret
                      exact ⟨by rw [HZ.out]; rfl, H4.out.up⟩
                    · have qn10 : decide (mo < s.out) = false := by first | exact decide_eq_false n10 | (rw [beq_eq_false_iff_ne]; exact n10) | simp [n10]
                      have hz : beginC σ s = roomC σ := by simp [beginC, HX.out, H0.out, fitB, HM.out]; omega
                      have HZ := Lib.hid hz
                      clear hz n1 n2 n3 n5b n4 n5 n7 n9 n10
                      refine hd_start (SCost p m B s t true) (by kernel_rfl) ?_
                      intro w4 hw'
                      have H4 := Lib.hid (H3.out.draw 1)
                      rw [← hw'] at H4
                      clear hw' H3
                      have S4 : SCost p m B s t true w4 := HS.out _ H4.out
                      refine hd_take (v := ?_) 0 rfl (by kernel_rfl) (fun _ _ d _ _ h => (by cases d <;> exact h)) (by kernel_rfl) S4 (fun w' hS => ?_) ?_
                      rotate_left
                      focus (have q0 := SCost.f4 w' hS; have q1 := SCost.f2 w' hS; clear hS; go_simp; try rfl; done)
                      simp only [List.getElem_toArray, List.getElem_cons_succ, List.getElem_cons_zero, Act.put, List.setIfInBounds_toArray, List.set_cons_zero, List.set_cons_succ]
                      refine hd_take (v := ?_) 1 rfl (by kernel_rfl) (fun _ _ d _ _ h => (by cases d <;> exact h)) (by kernel_rfl) S4 (fun w' hS => ?_) ?_
                      rotate_left
                      focus (have q0 := SCost.f4 w' hS; have q1 := SCost.f2 w' hS; clear hS; go_simp; try rfl; done)
                      simp only [List.getElem_toArray, List.getElem_cons_succ, List.getElem_cons_zero, Act.put, List.setIfInBounds_toArray, List.set_cons_zero, List.set_cons_succ]
                      refine hd_take (v := ?_) 2 rfl (by kernel_rfl) (fun _ _ d _ _ h => (by cases d <;> exact h)) (by kernel_rfl) S4 (fun w' hS => ?_) ?_
                      rotate_left
                      focus (have q0 := SCost.f4 w' hS; have q1 := SCost.f2 w' hS; clear hS; go_simp; try rfl; done)
                      simp only [List.getElem_toArray, List.getElem_cons_succ, List.getElem_cons_zero, Act.put, List.setIfInBounds_toArray, List.set_cons_zero, List.set_cons_succ]
                      refine hd_take (v := ?_) 3 rfl (by kernel_rfl) (fun _ _ d _ _ h => (by cases d <;> exact h)) (by kernel_rfl) S4 (fun w' hS => ?_) ?_
                      rotate_left
                      focus (have q0 := SCost.f4 w' hS; have q1 := SCost.f2 w' hS; clear hS; go_simp; try rfl; done)
                      simp only [List.getElem_toArray, List.getElem_cons_succ, List.getElem_cons_zero, Act.put, List.setIfInBounds_toArray, List.set_cons_zero, List.set_cons_succ]
                      refine hd_take (v := ?_) 4 rfl (by kernel_rfl) (fun _ _ d _ _ h => (by cases d <;> exact h)) (by kernel_rfl) S4 (fun w' hS => ?_) ?_
                      rotate_left
                      focus (have q0 := SCost.f4 w' hS; have q1 := SCost.f2 w' hS; clear hS; go_simp; try rfl; done)
                      simp only [List.getElem_toArray, List.getElem_cons_succ, List.getElem_cons_zero, Act.put, List.setIfInBounds_toArray, List.set_cons_zero, List.set_cons_succ]
                      refine hd_take (v := ?_) 5 rfl (by kernel_rfl) (fun _ _ d _ _ h => (by cases d <;> exact h)) (by kernel_rfl) S4 (fun w' hS => ?_) ?_
                      rotate_left
                      focus (have q0 := SCost.f4 w' hS; have q1 := SCost.f2 w' hS; clear hS; go_simp; try rfl; done)
                      simp only [List.getElem_toArray, List.getElem_cons_succ, List.getElem_cons_zero, Act.put, List.setIfInBounds_toArray, List.set_cons_zero, List.set_cons_succ]
                      refine hd_take (v := ?_) 6 rfl (by kernel_rfl) (fun _ _ d _ _ h => (by cases d <;> exact h)) (by kernel_rfl) S4 (fun w' hS => ?_) ?_
                      rotate_left
                      focus (have q0 := SCost.f4 w' hS; have q1 := SCost.f2 w' hS; clear hS; go_simp; try rfl; done)
                      simp only [List.getElem_toArray, List.getElem_cons_succ, List.getElem_cons_zero, Act.put, List.setIfInBounds_toArray, List.set_cons_zero, List.set_cons_succ]
                      refine hd_take (v := ?_) 7 rfl (by kernel_rfl) (fun _ _ d _ _ h => (by cases d <;> exact h)) (by kernel_rfl) S4 (fun w' hS => ?_) ?_
                      rotate_left
                      focus (have q0 := SCost.f4 w' hS; have q1 := SCost.f2 w' hS; clear hS; go_simp; try rfl; done)
                      simp only [List.getElem_toArray, List.getElem_cons_succ, List.getElem_cons_zero, Act.put, List.setIfInBounds_toArray, List.set_cons_zero, List.set_cons_succ]
                      refine hd_one 8 (by kernel_rfl) ?_
                      refine op_call rfl (by kernel_rfl) (by go_simp; first | exact ⟨rfl, rfl⟩ | rfl) ?_
                      refine (most_any s.alg w4).mono ?_
                      rintro e w5 ⟨he, hw⟩
                      rw [HM.out] at he
                      subst he
                      subst hw
                      have hS2 := S4
                      refine ⟨_, rfl, hS2, ?_⟩
                      simp only [List.getElem_toArray, List.getElem_cons_succ, List.getElem_cons_zero, Act.put, List.setIfInBounds_toArray, List.set_cons_zero, List.set_cons_succ]
                      refine hd_take (v := ?_) 9 rfl (by kernel_rfl) (fun _ _ d _ _ h => (by cases d <;> exact h)) (by kernel_rfl) S4 (fun w' hS => ?_) ?_
                      rotate_left
                      focus (clear hS; go_simp; try rfl; done)
                      simp only [List.getElem_toArray, List.getElem_cons_succ, List.getElem_cons_zero, Act.put, List.setIfInBounds_toArray, List.set_cons_zero, List.set_cons_succ]
                      refine hd_take (v := ?_) 10 rfl (by kernel_rfl) (fun _ _ d _ _ h => (by cases d <;> exact h)) (by kernel_rfl) S4 (fun w' hS => ?_) ?_
                      rotate_left
                      focus (clear hS; go_simp; try rfl; done)
                      simp only [List.getElem_toArray, List.getElem_cons_succ, List.getElem_cons_zero, Act.put, List.setIfInBounds_toArray, List.set_cons_zero, List.set_cons_succ]
                      refine hd_take (v := ?_) 11 rfl (by kernel_rfl) (fun _ _ d _ _ h => (by cases d <;> exact h)) (by kernel_rfl) S4 (fun w' hS => ?_) ?_
                      rotate_left
                      focus (clear hS; go_simp; try rfl; done)
                      simp only [List.getElem_toArray, List.getElem_cons_succ, List.getElem_cons_zero, Act.put, List.setIfInBounds_toArray, List.set_cons_zero, List.set_cons_succ]
                      refine hd_done (by kernel_rfl) ?_
                      clear S4
                      go_wp2_with fail
                      refine (croom_any H4.out.pub).mono ?_
                      rintro e w6 ⟨rfl, hb⟩
                      have H5 := Lib.hid (H4.out.on hb)
                      clear hb
                      go_wp2_with fail
                      go_ret
                      exact ⟨by rw [HZ.out]; rfl, H5.out.up⟩
              · have qn5b : (t.key == (32 : Int)) = false := by first | exact decide_eq_false n5b | (rw [beq_eq_false_iff_ne]; exact n5b) | simp [n5b]
                have rn5b : (t.key != (32 : Int)) = true := by rw [bne, qn5b]; rfl
                have hz : beginC σ s = 7 := by simp [beginC, HX.out, H0.out, fitB]; omega
                have HZ := Lib.hid hz
                clear hz n1 n2 n3 n4 n5 n5b
                go_wp2_with fail
                go_ret
                exact ⟨by rw [HZ.out]; rfl, H3.out.up⟩
        · have qn3 : (s.alg == (3 : Int)) = false := by first | exact decide_eq_false n3 | (rw [beq_eq_false_iff_ne]; exact n3) | simp [n3]
          by_cases n7 : 0 < s.data
          · have qn7 : decide (0 < s.data) = true := by first | exact decide_eq_true n7 | (rw [beq_iff_eq]; exact n7) | simp [n7]
            by_cases n6 : s.alg < 4
            · have qn6 : decide (s.alg < 4) = true := by first | exact decide_eq_true n6 | (rw [beq_iff_eq]; exact n6) | simp [n6]
              have hz : beginC σ s = 2 := by simp [beginC, HX.out, H0.out, fitB]; omega
              have HZ := Lib.hid hz
              clear hz n1 n2 n3 n6 n7
              go_wp2_with fail
              go_ret
              exact ⟨by rw [HZ.out]; rfl, H3.out.up⟩
            · have qn6 : decide (s.alg < 4) = false := by first | exact decide_eq_false n6 | (rw [beq_eq_false_iff_ne]; exact n6) | simp [n6]
              by_cases n8 : 64 < s.data
              · have qn8 : decide (64 < s.data) = true := by first | exact decide_eq_true n8 | (rw [beq_iff_eq]; exact n8) | simp [n8]
                have hz : beginC σ s = 9 := by simp [beginC, HX.out, H0.out, fitB]; omega
                have HZ := Lib.hid hz
                clear hz n1 n2 n3 n6 n7 n8
                go_wp2_with fail
                go_ret
                exact ⟨by rw [HZ.out]; rfl, H3.out.up⟩
              · have qn8 : decide (64 < s.data) = false := by first | exact decide_eq_false n8 | (rw [beq_eq_false_iff_ne]; exact n8) | simp [n8]
                obtain ⟨mo, hmo⟩ : ∃ mo, mostA s.alg = mo := ⟨_, rfl⟩
                have HM := Lib.hid hmo
                clear hmo
                go_upto_region 13 with fail
                clear b0 b1 b2 b3 b4 b5 b6
                by_cases n9 : s.out < 1
                · have qn9 : decide (s.out < 1) = true := by first | exact decide_eq_true n9 | (rw [beq_iff_eq]; exact n9) | simp [n9]
                  have hz : beginC σ s = 11 := by simp [beginC, HX.out, H0.out, fitB, HM.out]; omega
                  have HZ := Lib.hid hz
                  clear hz n1 n2 n3 n6 n7 n8 n9
                  refine hd_start (SCost p m B s t true) (by kernel_rfl) ?_
                  intro w4 hw'
                  have H4 := Lib.hid (H3.out.draw 1)
                  rw [← hw'] at H4
                  clear hw' H3
                  have S4 : SCost p m B s t true w4 := HS.out _ H4.out
                  refine hd_take (v := ?_) 0 rfl (by kernel_rfl) (fun _ _ d _ _ h => (by cases d <;> exact h)) (by kernel_rfl) S4 (fun w' hS => ?_) ?_
                  rotate_left
                  focus (have q0 := SCost.f4 w' hS; clear hS; go_simp; try rfl; done)
                  simp only [List.getElem_toArray, List.getElem_cons_succ, List.getElem_cons_zero, Act.put, List.setIfInBounds_toArray, List.set_cons_zero, List.set_cons_succ]
                  refine hd_take (v := ?_) 1 rfl (by kernel_rfl) (fun _ _ d _ _ h => (by cases d <;> exact h)) (by kernel_rfl) S4 (fun w' hS => ?_) ?_
                  rotate_left
                  focus (have q0 := SCost.f4 w' hS; clear hS; go_simp; try rfl; done)
                  simp only [List.getElem_toArray, List.getElem_cons_succ, List.getElem_cons_zero, Act.put, List.setIfInBounds_toArray, List.set_cons_zero, List.set_cons_succ]
                  refine hd_take (v := ?_) 2 rfl (by kernel_rfl) (fun _ _ d _ _ h => (by cases d <;> exact h)) (by kernel_rfl) S4 (fun w' hS => ?_) ?_
                  rotate_left
                  focus (have q0 := SCost.f4 w' hS; clear hS; go_simp; try rfl; done)
                  simp only [List.getElem_toArray, List.getElem_cons_succ, List.getElem_cons_zero, Act.put, List.setIfInBounds_toArray, List.set_cons_zero, List.set_cons_succ]
                  refine hd_take (v := ?_) 3 rfl (by kernel_rfl) (fun _ _ d _ _ h => (by cases d <;> exact h)) (by kernel_rfl) S4 (fun w' hS => ?_) ?_
                  rotate_left
                  focus (have q0 := SCost.f4 w' hS; clear hS; go_simp; try rfl; done)
                  simp only [List.getElem_toArray, List.getElem_cons_succ, List.getElem_cons_zero, Act.put, List.setIfInBounds_toArray, List.set_cons_zero, List.set_cons_succ]
                  refine hd_off 4 rfl (by kernel_rfl) (fun _ _ d _ _ h => (by cases d <;> exact h)) (by kernel_rfl) S4 ?_
                  simp only [List.getElem_toArray, List.getElem_cons_succ, List.getElem_cons_zero, Act.put, List.setIfInBounds_toArray, List.set_cons_zero, List.set_cons_succ]
                  refine hd_off 5 rfl (by kernel_rfl) (fun _ _ d _ _ h => (by cases d <;> exact h)) (by kernel_rfl) S4 ?_
                  simp only [List.getElem_toArray, List.getElem_cons_succ, List.getElem_cons_zero, Act.put, List.setIfInBounds_toArray, List.set_cons_zero, List.set_cons_succ]
                  refine hd_off 6 rfl (by kernel_rfl) (fun _ _ d _ _ h => (by cases d <;> exact h)) (by kernel_rfl) S4 ?_
                  simp only [List.getElem_toArray, List.getElem_cons_succ, List.getElem_cons_zero, Act.put, List.setIfInBounds_toArray, List.set_cons_zero, List.set_cons_succ]
                  refine hd_off 7 rfl (by kernel_rfl) (fun _ _ d _ _ h => (by cases d <;> exact h)) (by kernel_rfl) S4 ?_
                  simp only [List.getElem_toArray, List.getElem_cons_succ, List.getElem_cons_zero, Act.put, List.setIfInBounds_toArray, List.set_cons_zero, List.set_cons_succ]
                  refine hd_off 8 rfl (by kernel_rfl) (fun _ _ d _ _ h => (by cases d <;> exact h)) (by kernel_rfl) S4 ?_
                  simp only [List.getElem_toArray, List.getElem_cons_succ, List.getElem_cons_zero, Act.put, List.setIfInBounds_toArray, List.set_cons_zero, List.set_cons_succ]
                  refine hd_off 9 rfl (by kernel_rfl) (fun _ _ d _ _ h => (by cases d <;> exact h)) (by kernel_rfl) S4 ?_
                  simp only [List.getElem_toArray, List.getElem_cons_succ, List.getElem_cons_zero, Act.put, List.setIfInBounds_toArray, List.set_cons_zero, List.set_cons_succ]
                  refine hd_take (v := ?_) 10 rfl (by kernel_rfl) (fun _ _ d _ _ h => (by cases d <;> exact h)) (by kernel_rfl) S4 (fun w' hS => ?_) ?_
                  rotate_left
                  focus (clear hS; go_simp; try rfl; done)
                  simp only [List.getElem_toArray, List.getElem_cons_succ, List.getElem_cons_zero, Act.put, List.setIfInBounds_toArray, List.set_cons_zero, List.set_cons_succ]
                  refine hd_take (v := ?_) 11 rfl (by kernel_rfl) (fun _ _ d _ _ h => (by cases d <;> exact h)) (by kernel_rfl) S4 (fun w' hS => ?_) ?_
                  rotate_left
                  focus (clear hS; go_simp; try rfl; done)
                  simp only [List.getElem_toArray, List.getElem_cons_succ, List.getElem_cons_zero, Act.put, List.setIfInBounds_toArray, List.set_cons_zero, List.set_cons_succ]
                  refine hd_done (by kernel_rfl) ?_
                  clear S4
                  go_wp2_with fail
                  go_ret
                  exact ⟨by rw [HZ.out]; rfl, H4.out.up⟩
                · have qn9 : decide (s.out < 1) = false := by first | exact decide_eq_false n9 | (rw [beq_eq_false_iff_ne]; exact n9) | simp [n9]
                  by_cases n10 : mo < s.out
                  · have qn10 : decide (mo < s.out) = true := by first | exact decide_eq_true n10 | (rw [beq_iff_eq]; exact n10) | simp [n10]
                    have hz : beginC σ s = 11 := by simp [beginC, HX.out, H0.out, fitB, HM.out]; omega
                    have HZ := Lib.hid hz
                    clear hz n1 n2 n3 n6 n7 n8 n9 n10
                    refine hd_start (SCost p m B s t true) (by kernel_rfl) ?_
                    intro w4 hw'
                    have H4 := Lib.hid (H3.out.draw 1)
                    rw [← hw'] at H4
                    clear hw' H3
                    have S4 : SCost p m B s t true w4 := HS.out _ H4.out
                    refine hd_take (v := ?_) 0 rfl (by kernel_rfl) (fun _ _ d _ _ h => (by cases d <;> exact h)) (by kernel_rfl) S4 (fun w' hS => ?_) ?_
                    rotate_left
                    focus (have q0 := SCost.f4 w' hS; have q1 := SCost.f2 w' hS; clear hS; go_simp; try rfl; done)
                    simp only [List.getElem_toArray, List.getElem_cons_succ, List.getElem_cons_zero, Act.put, List.setIfInBounds_toArray, List.set_cons_zero, List.set_cons_succ]
                    refine hd_take (v := ?_) 1 rfl (by kernel_rfl) (fun _ _ d _ _ h => (by cases d <;> exact h)) (by kernel_rfl) S4 (fun w' hS => ?_) ?_
                    rotate_left
                    focus (have q0 := SCost.f4 w' hS; have q1 := SCost.f2 w' hS; clear hS; go_simp; try rfl; done)
                    simp only [List.getElem_toArray, List.getElem_cons_succ, List.getElem_cons_zero, Act.put, List.setIfInBounds_toArray, List.set_cons_zero, List.set_cons_succ]
                    refine hd_take (v := ?_) 2 rfl (by kernel_rfl) (fun _ _ d _ _ h => (by cases d <;> exact h)) (by kernel_rfl) S4 (fun w' hS => ?_) ?_
                    rotate_left
                    focus (have q0 := SCost.f4 w' hS; have q1 := SCost.f2 w' hS; clear hS; go_simp; try rfl; done)
                    simp only [List.getElem_toArray, List.getElem_cons_succ, List.getElem_cons_zero, Act.put, List.setIfInBounds_toArray, List.set_cons_zero, List.set_cons_succ]
                    refine hd_take (v := ?_) 3 rfl (by kernel_rfl) (fun _ _ d _ _ h => (by cases d <;> exact h)) (by kernel_rfl) S4 (fun w' hS => ?_) ?_
                    rotate_left
                    focus (have q0 := SCost.f4 w' hS; have q1 := SCost.f2 w' hS; clear hS; go_simp; try rfl; done)
                    simp only [List.getElem_toArray, List.getElem_cons_succ, List.getElem_cons_zero, Act.put, List.setIfInBounds_toArray, List.set_cons_zero, List.set_cons_succ]
                    refine hd_take (v := ?_) 4 rfl (by kernel_rfl) (fun _ _ d _ _ h => (by cases d <;> exact h)) (by kernel_rfl) S4 (fun w' hS => ?_) ?_
                    rotate_left
                    focus (have q0 := SCost.f4 w' hS; have q1 := SCost.f2 w' hS; clear hS; go_simp; try rfl; done)
                    simp only [List.getElem_toArray, List.getElem_cons_succ, List.getElem_cons_zero, Act.put, List.setIfInBounds_toArray, List.set_cons_zero, List.set_cons_succ]
                    refine hd_take (v := ?_) 5 rfl (by kernel_rfl) (fun _ _ d _ _ h => (by cases d <;> exact h)) (by kernel_rfl) S4 (fun w' hS => ?_) ?_
                    rotate_left
                    focus (have q0 := SCost.f4 w' hS; have q1 := SCost.f2 w' hS; clear hS; go_simp; try rfl; done)
                    simp only [List.getElem_toArray, List.getElem_cons_succ, List.getElem_cons_zero, Act.put, List.setIfInBounds_toArray, List.set_cons_zero, List.set_cons_succ]
                    refine hd_take (v := ?_) 6 rfl (by kernel_rfl) (fun _ _ d _ _ h => (by cases d <;> exact h)) (by kernel_rfl) S4 (fun w' hS => ?_) ?_
                    rotate_left
                    focus (have q0 := SCost.f4 w' hS; have q1 := SCost.f2 w' hS; clear hS; go_simp; try rfl; done)
                    simp only [List.getElem_toArray, List.getElem_cons_succ, List.getElem_cons_zero, Act.put, List.setIfInBounds_toArray, List.set_cons_zero, List.set_cons_succ]
                    refine hd_take (v := ?_) 7 rfl (by kernel_rfl) (fun _ _ d _ _ h => (by cases d <;> exact h)) (by kernel_rfl) S4 (fun w' hS => ?_) ?_
                    rotate_left
                    focus (have q0 := SCost.f4 w' hS; have q1 := SCost.f2 w' hS; clear hS; go_simp; try rfl; done)
                    simp only [List.getElem_toArray, List.getElem_cons_succ, List.getElem_cons_zero, Act.put, List.setIfInBounds_toArray, List.set_cons_zero, List.set_cons_succ]
                    refine hd_one 8 (by kernel_rfl) ?_
                    refine op_call rfl (by kernel_rfl) (by go_simp; first | exact ⟨rfl, rfl⟩ | rfl) ?_
                    refine (most_any s.alg w4).mono ?_
                    rintro e w5 ⟨he, hw⟩
                    rw [HM.out] at he
                    subst he
                    subst hw
                    have hS2 := S4
                    refine ⟨_, rfl, hS2, ?_⟩
                    simp only [List.getElem_toArray, List.getElem_cons_succ, List.getElem_cons_zero, Act.put, List.setIfInBounds_toArray, List.set_cons_zero, List.set_cons_succ]
                    refine hd_take (v := ?_) 9 rfl (by kernel_rfl) (fun _ _ d _ _ h => (by cases d <;> exact h)) (by kernel_rfl) S4 (fun w' hS => ?_) ?_
                    rotate_left
                    focus (clear hS; go_simp; try rfl; done)
                    simp only [List.getElem_toArray, List.getElem_cons_succ, List.getElem_cons_zero, Act.put, List.setIfInBounds_toArray, List.set_cons_zero, List.set_cons_succ]
                    refine hd_take (v := ?_) 10 rfl (by kernel_rfl) (fun _ _ d _ _ h => (by cases d <;> exact h)) (by kernel_rfl) S4 (fun w' hS => ?_) ?_
                    rotate_left
                    focus (clear hS; go_simp; try rfl; done)
                    simp only [List.getElem_toArray, List.getElem_cons_succ, List.getElem_cons_zero, Act.put, List.setIfInBounds_toArray, List.set_cons_zero, List.set_cons_succ]
                    refine hd_take (v := ?_) 11 rfl (by kernel_rfl) (fun _ _ d _ _ h => (by cases d <;> exact h)) (by kernel_rfl) S4 (fun w' hS => ?_) ?_
                    rotate_left
                    focus (clear hS; go_simp; try rfl; done)
                    simp only [List.getElem_toArray, List.getElem_cons_succ, List.getElem_cons_zero, Act.put, List.setIfInBounds_toArray, List.set_cons_zero, List.set_cons_succ]
                    refine hd_done (by kernel_rfl) ?_
                    clear S4
                    go_wp2_with fail
                    go_ret
                    exact ⟨by rw [HZ.out]; rfl, H4.out.up⟩
                  · have qn10 : decide (mo < s.out) = false := by first | exact decide_eq_false n10 | (rw [beq_eq_false_iff_ne]; exact n10) | simp [n10]
                    have hz : beginC σ s = roomC σ := by simp [beginC, HX.out, H0.out, fitB, HM.out]; omega
                    have HZ := Lib.hid hz
                    clear hz n1 n2 n3 n6 n7 n8 n9 n10
                    refine hd_start (SCost p m B s t true) (by kernel_rfl) ?_
                    intro w4 hw'
                    have H4 := Lib.hid (H3.out.draw 1)
                    rw [← hw'] at H4
                    clear hw' H3
                    have S4 : SCost p m B s t true w4 := HS.out _ H4.out
                    refine hd_take (v := ?_) 0 rfl (by kernel_rfl) (fun _ _ d _ _ h => (by cases d <;> exact h)) (by kernel_rfl) S4 (fun w' hS => ?_) ?_
                    rotate_left
                    focus (have q0 := SCost.f4 w' hS; have q1 := SCost.f2 w' hS; clear hS; go_simp; try rfl; done)
                    simp only [List.getElem_toArray, List.getElem_cons_succ, List.getElem_cons_zero, Act.put, List.setIfInBounds_toArray, List.set_cons_zero, List.set_cons_succ]
                    refine hd_take (v := ?_) 1 rfl (by kernel_rfl) (fun _ _ d _ _ h => (by cases d <;> exact h)) (by kernel_rfl) S4 (fun w' hS => ?_) ?_
                    rotate_left
                    focus (have q0 := SCost.f4 w' hS; have q1 := SCost.f2 w' hS; clear hS; go_simp; try rfl; done)
                    simp only [List.getElem_toArray, List.getElem_cons_succ, List.getElem_cons_zero, Act.put, List.setIfInBounds_toArray, List.set_cons_zero, List.set_cons_succ]
                    refine hd_take (v := ?_) 2 rfl (by kernel_rfl) (fun _ _ d _ _ h => (by cases d <;> exact h)) (by kernel_rfl) S4 (fun w' hS => ?_) ?_
                    rotate_left
                    focus (have q0 := SCost.f4 w' hS; have q1 := SCost.f2 w' hS; clear hS; go_simp; try rfl; done)
                    simp only [List.getElem_toArray, List.getElem_cons_succ, List.getElem_cons_zero, Act.put, List.setIfInBounds_toArray, List.set_cons_zero, List.set_cons_succ]
                    refine hd_take (v := ?_) 3 rfl (by kernel_rfl) (fun _ _ d _ _ h => (by cases d <;> exact h)) (by kernel_rfl) S4 (fun w' hS => ?_) ?_
                    rotate_left
                    focus (have q0 := SCost.f4 w' hS; have q1 := SCost.f2 w' hS; clear hS; go_simp; try rfl; done)
                    simp only [List.getElem_toArray, List.getElem_cons_succ, List.getElem_cons_zero, Act.put, List.setIfInBounds_toArray, List.set_cons_zero, List.set_cons_succ]
                    refine hd_take (v := ?_) 4 rfl (by kernel_rfl) (fun _ _ d _ _ h => (by cases d <;> exact h)) (by kernel_rfl) S4 (fun w' hS => ?_) ?_
                    rotate_left
                    focus (have q0 := SCost.f4 w' hS; have q1 := SCost.f2 w' hS; clear hS; go_simp; try rfl; done)
                    simp only [List.getElem_toArray, List.getElem_cons_succ, List.getElem_cons_zero, Act.put, List.setIfInBounds_toArray, List.set_cons_zero, List.set_cons_succ]
                    refine hd_take (v := ?_) 5 rfl (by kernel_rfl) (fun _ _ d _ _ h => (by cases d <;> exact h)) (by kernel_rfl) S4 (fun w' hS => ?_) ?_
                    rotate_left
                    focus (have q0 := SCost.f4 w' hS; have q1 := SCost.f2 w' hS; clear hS; go_simp; try rfl; done)
                    simp only [List.getElem_toArray, List.getElem_cons_succ, List.getElem_cons_zero, Act.put, List.setIfInBounds_toArray, List.set_cons_zero, List.set_cons_succ]
                    refine hd_take (v := ?_) 6 rfl (by kernel_rfl) (fun _ _ d _ _ h => (by cases d <;> exact h)) (by kernel_rfl) S4 (fun w' hS => ?_) ?_
                    rotate_left
                    focus (have q0 := SCost.f4 w' hS; have q1 := SCost.f2 w' hS; clear hS; go_simp; try rfl; done)
                    simp only [List.getElem_toArray, List.getElem_cons_succ, List.getElem_cons_zero, Act.put, List.setIfInBounds_toArray, List.set_cons_zero, List.set_cons_succ]
                    refine hd_take (v := ?_) 7 rfl (by kernel_rfl) (fun _ _ d _ _ h => (by cases d <;> exact h)) (by kernel_rfl) S4 (fun w' hS => ?_) ?_
                    rotate_left
                    focus (have q0 := SCost.f4 w' hS; have q1 := SCost.f2 w' hS; clear hS; go_simp; try rfl; done)
                    simp only [List.getElem_toArray, List.getElem_cons_succ, List.getElem_cons_zero, Act.put, List.setIfInBounds_toArray, List.set_cons_zero, List.set_cons_succ]
                    refine hd_one 8 (by kernel_rfl) ?_
                    refine op_call rfl (by kernel_rfl) (by go_simp; first | exact ⟨rfl, rfl⟩ | rfl) ?_
                    refine (most_any s.alg w4).mono ?_
                    rintro e w5 ⟨he, hw⟩
                    rw [HM.out] at he
                    subst he
                    subst hw
                    have hS2 := S4
                    refine ⟨_, rfl, hS2, ?_⟩
                    simp only [List.getElem_toArray, List.getElem_cons_succ, List.getElem_cons_zero, Act.put, List.setIfInBounds_toArray, List.set_cons_zero, List.set_cons_succ]
                    refine hd_take (v := ?_) 9 rfl (by kernel_rfl) (fun _ _ d _ _ h => (by cases d <;> exact h)) (by kernel_rfl) S4 (fun w' hS => ?_) ?_
                    rotate_left
                    focus (clear hS; go_simp; try rfl; done)
                    simp only [List.getElem_toArray, List.getElem_cons_succ, List.getElem_cons_zero, Act.put, List.setIfInBounds_toArray, List.set_cons_zero, List.set_cons_succ]
                    refine hd_take (v := ?_) 10 rfl (by kernel_rfl) (fun _ _ d _ _ h => (by cases d <;> exact h)) (by kernel_rfl) S4 (fun w' hS => ?_) ?_
                    rotate_left
                    focus (clear hS; go_simp; try rfl; done)
                    simp only [List.getElem_toArray, List.getElem_cons_succ, List.getElem_cons_zero, Act.put, List.setIfInBounds_toArray, List.set_cons_zero, List.set_cons_succ]
                    refine hd_take (v := ?_) 11 rfl (by kernel_rfl) (fun _ _ d _ _ h => (by cases d <;> exact h)) (by kernel_rfl) S4 (fun w' hS => ?_) ?_
                    rotate_left
                    focus (clear hS; go_simp; try rfl; done)
                    simp only [List.getElem_toArray, List.getElem_cons_succ, List.getElem_cons_zero, Act.put, List.setIfInBounds_toArray, List.set_cons_zero, List.set_cons_succ]
                    refine hd_done (by kernel_rfl) ?_
                    clear S4
                    go_wp2_with fail
                    refine (croom_any H4.out.pub).mono ?_
                    rintro e w6 ⟨rfl, hb⟩
                    have H5 := Lib.hid (H4.out.on hb)
                    clear hb
                    go_wp2_with fail
                    go_ret
                    exact ⟨by rw [HZ.out]; rfl, H5.out.up⟩
          · have qn7 : decide (0 < s.data) = false := by first | exact decide_eq_false n7 | (rw [beq_eq_false_iff_ne]; exact n7) | simp [n7]
            have q8 : decide (64 < s.data) = false := decide_eq_false (by omega)
            obtain ⟨mo, hmo⟩ : ∃ mo, mostA s.alg = mo := ⟨_, rfl⟩
            have HM := Lib.hid hmo
            clear hmo
            go_upto_region 13 with fail
            clear b0 b1 b2 b3 b4 b5 b6
            by_cases n9 : s.out < 1
            · have qn9 : decide (s.out < 1) = true := by first | exact decide_eq_true n9 | (rw [beq_iff_eq]; exact n9) | simp [n9]
              have hz : beginC σ s = 11 := by simp [beginC, HX.out, H0.out, fitB, HM.out]; omega
              have HZ := Lib.hid hz
              clear hz n1 n2 n3 n7 n9
              refine hd_start (SCost p m B s t true) (by kernel_rfl) ?_
              intro w4 hw'
              have H4 := Lib.hid (H3.out.draw 1)
              rw [← hw'] at H4
              clear hw' H3
              have S4 : SCost p m B s t true w4 := HS.out _ H4.out
              refine hd_take (v := ?_) 0 rfl (by kernel_rfl) (fun _ _ d _ _ h => (by cases d <;> exact h)) (by kernel_rfl) S4 (fun w' hS => ?_) ?_
              rotate_left
              focus (have q0 := SCost.f4 w' hS; clear hS; go_simp; try rfl; done)
              simp only [List.getElem_toArray, List.getElem_cons_succ, List.getElem_cons_zero, Act.put, List.setIfInBounds_toArray, List.set_cons_zero, List.set_cons_succ]
              refine hd_take (v := ?_) 1 rfl (by kernel_rfl) (fun _ _ d _ _ h => (by cases d <;> exact h)) (by kernel_rfl) S4 (fun w' hS => ?_) ?_
              rotate_left
              focus (have q0 := SCost.f4 w' hS; clear hS; go_simp; try rfl; done)
              simp only [List.getElem_toArray, List.getElem_cons_succ, List.getElem_cons_zero, Act.put, List.setIfInBounds_toArray, List.set_cons_zero, List.set_cons_succ]
              refine hd_take (v := ?_) 2 rfl (by kernel_rfl) (fun _ _ d _ _ h => (by cases d <;> exact h)) (by kernel_rfl) S4 (fun w' hS => ?_) ?_
              rotate_left
              focus (have q0 := SCost.f4 w' hS; clear hS; go_simp; try rfl; done)
              simp only [List.getElem_toArray, List.getElem_cons_succ, List.getElem_cons_zero, Act.put, List.setIfInBounds_toArray, List.set_cons_zero, List.set_cons_succ]
              refine hd_take (v := ?_) 3 rfl (by kernel_rfl) (fun _ _ d _ _ h => (by cases d <;> exact h)) (by kernel_rfl) S4 (fun w' hS => ?_) ?_
              rotate_left
              focus (have q0 := SCost.f4 w' hS; clear hS; go_simp; try rfl; done)
              simp only [List.getElem_toArray, List.getElem_cons_succ, List.getElem_cons_zero, Act.put, List.setIfInBounds_toArray, List.set_cons_zero, List.set_cons_succ]
              refine hd_off 4 rfl (by kernel_rfl) (fun _ _ d _ _ h => (by cases d <;> exact h)) (by kernel_rfl) S4 ?_
              simp only [List.getElem_toArray, List.getElem_cons_succ, List.getElem_cons_zero, Act.put, List.setIfInBounds_toArray, List.set_cons_zero, List.set_cons_succ]
              refine hd_off 5 rfl (by kernel_rfl) (fun _ _ d _ _ h => (by cases d <;> exact h)) (by kernel_rfl) S4 ?_
              simp only [List.getElem_toArray, List.getElem_cons_succ, List.getElem_cons_zero, Act.put, List.setIfInBounds_toArray, List.set_cons_zero, List.set_cons_succ]
              refine hd_off 6 rfl (by kernel_rfl) (fun _ _ d _ _ h => (by cases d <;> exact h)) (by kernel_rfl) S4 ?_
              simp only [List.getElem_toArray, List.getElem_cons_succ, List.getElem_cons_zero, Act.put, List.setIfInBounds_toArray, List.set_cons_zero, List.set_cons_succ]
              refine hd_off 7 rfl (by kernel_rfl) (fun _ _ d _ _ h => (by cases d <;> exact h)) (by kernel_rfl) S4 ?_
              simp only [List.getElem_toArray, List.getElem_cons_succ, List.getElem_cons_zero, Act.put, List.setIfInBounds_toArray, List.set_cons_zero, List.set_cons_succ]
              refine hd_off 8 rfl (by kernel_rfl) (fun _ _ d _ _ h => (by cases d <;> exact h)) (by kernel_rfl) S4 ?_
              simp only [List.getElem_toArray, List.getElem_cons_succ, List.getElem_cons_zero, Act.put, List.setIfInBounds_toArray, List.set_cons_zero, List.set_cons_succ]
              refine hd_off 9 rfl (by kernel_rfl) (fun _ _ d _ _ h => (by cases d <;> exact h)) (by kernel_rfl) S4 ?_
              simp only [List.getElem_toArray, List.getElem_cons_succ, List.getElem_cons_zero, Act.put, List.setIfInBounds_toArray, List.set_cons_zero, List.set_cons_succ]
              refine hd_take (v := ?_) 10 rfl (by kernel_rfl) (fun _ _ d _ _ h => (by cases d <;> exact h)) (by kernel_rfl) S4 (fun w' hS => ?_) ?_
              rotate_left
              focus (clear hS; go_simp; try rfl; done)
              simp only [List.getElem_toArray, List.getElem_cons_succ, List.getElem_cons_zero, Act.put, List.setIfInBounds_toArray, List.set_cons_zero, List.set_cons_succ]
              refine hd_take (v := ?_) 11 rfl (by kernel_rfl) (fun _ _ d _ _ h => (by cases d <;> exact h)) (by kernel_rfl) S4 (fun w' hS => ?_) ?_
              rotate_left
              focus (clear hS; go_simp; try rfl; done)
              simp only [List.getElem_toArray, List.getElem_cons_succ, List.getElem_cons_zero, Act.put, List.setIfInBounds_toArray, List.set_cons_zero, List.set_cons_succ]
              refine hd_done (by kernel_rfl) ?_
              clear S4
              go_wp2_with fail
              go_ret
              exact ⟨by rw [HZ.out]; rfl, H4.out.up⟩
            · have qn9 : decide (s.out < 1) = false := by first | exact decide_eq_false n9 | (rw [beq_eq_false_iff_ne]; exact n9) | simp [n9]
              by_cases n10 : mo < s.out
              · have qn10 : decide (mo < s.out) = true := by first | exact decide_eq_true n10 | (rw [beq_iff_eq]; exact n10) | simp [n10]
                have hz : beginC σ s = 11 := by simp [beginC, HX.out, H0.out, fitB, HM.out]; omega
                have HZ := Lib.hid hz
                clear hz n1 n2 n3 n7 n9 n10
                refine hd_start (SCost p m B s t true) (by kernel_rfl) ?_
                intro w4 hw'
                have H4 := Lib.hid (H3.out.draw 1)
                rw [← hw'] at H4
                clear hw' H3
                have S4 : SCost p m B s t true w4 := HS.out _ H4.out
                refine hd_take (v := ?_) 0 rfl (by kernel_rfl) (fun _ _ d _ _ h => (by cases d <;> exact h)) (by kernel_rfl) S4 (fun w' hS => ?_) ?_
                rotate_left
                focus (have q0 := SCost.f4 w' hS; have q1 := SCost.f2 w' hS; clear hS; go_simp; try rfl; done)
                simp only [List.getElem_toArray, List.getElem_cons_succ, List.getElem_cons_zero, Act.put, List.setIfInBounds_toArray, List.set_cons_zero, List.set_cons_succ]
                refine hd_take (v := ?_) 1 rfl (by kernel_rfl) (fun _ _ d _ _ h => (by cases d <;> exact h)) (by kernel_rfl) S4 (fun w' hS => ?_) ?_
                rotate_left
                focus (have q0 := SCost.f4 w' hS; have q1 := SCost.f2 w' hS; clear hS; go_simp; try rfl; done)
                simp only [List.getElem_toArray, List.getElem_cons_succ, List.getElem_cons_zero, Act.put, List.setIfInBounds_toArray, List.set_cons_zero, List.set_cons_succ]
                refine hd_take (v := ?_) 2 rfl (by kernel_rfl) (fun _ _ d _ _ h => (by cases d <;> exact h)) (by kernel_rfl) S4 (fun w' hS => ?_) ?_
                rotate_left
                focus (have q0 := SCost.f4 w' hS; have q1 := SCost.f2 w' hS; clear hS; go_simp; try rfl; done)
                simp only [List.getElem_toArray, List.getElem_cons_succ, List.getElem_cons_zero, Act.put, List.setIfInBounds_toArray, List.set_cons_zero, List.set_cons_succ]
                refine hd_take (v := ?_) 3 rfl (by kernel_rfl) (fun _ _ d _ _ h => (by cases d <;> exact h)) (by kernel_rfl) S4 (fun w' hS => ?_) ?_
                rotate_left
                focus (have q0 := SCost.f4 w' hS; have q1 := SCost.f2 w' hS; clear hS; go_simp; try rfl; done)
                simp only [List.getElem_toArray, List.getElem_cons_succ, List.getElem_cons_zero, Act.put, List.setIfInBounds_toArray, List.set_cons_zero, List.set_cons_succ]
                refine hd_take (v := ?_) 4 rfl (by kernel_rfl) (fun _ _ d _ _ h => (by cases d <;> exact h)) (by kernel_rfl) S4 (fun w' hS => ?_) ?_
                rotate_left
                focus (have q0 := SCost.f4 w' hS; have q1 := SCost.f2 w' hS; clear hS; go_simp; try rfl; done)
                simp only [List.getElem_toArray, List.getElem_cons_succ, List.getElem_cons_zero, Act.put, List.setIfInBounds_toArray, List.set_cons_zero, List.set_cons_succ]
                refine hd_take (v := ?_) 5 rfl (by kernel_rfl) (fun _ _ d _ _ h => (by cases d <;> exact h)) (by kernel_rfl) S4 (fun w' hS => ?_) ?_
                rotate_left
                focus (have q0 := SCost.f4 w' hS; have q1 := SCost.f2 w' hS; clear hS; go_simp; try rfl; done)
                simp only [List.getElem_toArray, List.getElem_cons_succ, List.getElem_cons_zero, Act.put, List.setIfInBounds_toArray, List.set_cons_zero, List.set_cons_succ]
                refine hd_take (v := ?_) 6 rfl (by kernel_rfl) (fun _ _ d _ _ h => (by cases d <;> exact h)) (by kernel_rfl) S4 (fun w' hS => ?_) ?_
                rotate_left
                focus (have q0 := SCost.f4 w' hS; have q1 := SCost.f2 w' hS; clear hS; go_simp; try rfl; done)
                simp only [List.getElem_toArray, List.getElem_cons_succ, List.getElem_cons_zero, Act.put, List.setIfInBounds_toArray, List.set_cons_zero, List.set_cons_succ]
                refine hd_take (v := ?_) 7 rfl (by kernel_rfl) (fun _ _ d _ _ h => (by cases d <;> exact h)) (by kernel_rfl) S4 (fun w' hS => ?_) ?_
                rotate_left
                focus (have q0 := SCost.f4 w' hS; have q1 := SCost.f2 w' hS; clear hS; go_simp; try rfl; done)
                simp only [List.getElem_toArray, List.getElem_cons_succ, List.getElem_cons_zero, Act.put, List.setIfInBounds_toArray, List.set_cons_zero, List.set_cons_succ]
                refine hd_one 8 (by kernel_rfl) ?_
                refine op_call rfl (by kernel_rfl) (by go_simp; first | exact ⟨rfl, rfl⟩ | rfl) ?_
                refine (most_any s.alg w4).mono ?_
                rintro e w5 ⟨he, hw⟩
                rw [HM.out] at he
                subst he
                subst hw
                have hS2 := S4
                refine ⟨_, rfl, hS2, ?_⟩
                simp only [List.getElem_toArray, List.getElem_cons_succ, List.getElem_cons_zero, Act.put, List.setIfInBounds_toArray, List.set_cons_zero, List.set_cons_succ]
                refine hd_take (v := ?_) 9 rfl (by kernel_rfl) (fun _ _ d _ _ h => (by cases d <;> exact h)) (by kernel_rfl) S4 (fun w' hS => ?_) ?_
                rotate_left
                focus (clear hS; go_simp; try rfl; done)
                simp only [List.getElem_toArray, List.getElem_cons_succ, List.getElem_cons_zero, Act.put, List.setIfInBounds_toArray, List.set_cons_zero, List.set_cons_succ]
                refine hd_take (v := ?_) 10 rfl (by kernel_rfl) (fun _ _ d _ _ h => (by cases d <;> exact h)) (by kernel_rfl) S4 (fun w' hS => ?_) ?_
                rotate_left
                focus (clear hS; go_simp; try rfl; done)
                simp only [List.getElem_toArray, List.getElem_cons_succ, List.getElem_cons_zero, Act.put, List.setIfInBounds_toArray, List.set_cons_zero, List.set_cons_succ]
                refine hd_take (v := ?_) 11 rfl (by kernel_rfl) (fun _ _ d _ _ h => (by cases d <;> exact h)) (by kernel_rfl) S4 (fun w' hS => ?_) ?_
                rotate_left
                focus (clear hS; go_simp; try rfl; done)
                simp only [List.getElem_toArray, List.getElem_cons_succ, List.getElem_cons_zero, Act.put, List.setIfInBounds_toArray, List.set_cons_zero, List.set_cons_succ]
                refine hd_done (by kernel_rfl) ?_
                clear S4
                go_wp2_with fail
                go_ret
                exact ⟨by rw [HZ.out]; rfl, H4.out.up⟩
              · have qn10 : decide (mo < s.out) = false := by first | exact decide_eq_false n10 | (rw [beq_eq_false_iff_ne]; exact n10) | simp [n10]
                have hz : beginC σ s = roomC σ := by simp [beginC, HX.out, H0.out, fitB, HM.out]; omega
                have HZ := Lib.hid hz
                clear hz n1 n2 n3 n7 n9 n10
                refine hd_start (SCost p m B s t true) (by kernel_rfl) ?_
                intro w4 hw'
                have H4 := Lib.hid (H3.out.draw 1)
                rw [← hw'] at H4
                clear hw' H3
                have S4 : SCost p m B s t true w4 := HS.out _ H4.out
                refine hd_take (v := ?_) 0 rfl (by kernel_rfl) (fun _ _ d _ _ h => (by cases d <;> exact h)) (by kernel_rfl) S4 (fun w' hS => ?_) ?_
                rotate_left
                focus (have q0 := SCost.f4 w' hS; have q1 := SCost.f2 w' hS; clear hS; go_simp; try rfl; done)
                simp only [List.getElem_toArray, List.getElem_cons_succ, List.getElem_cons_zero, Act.put, List.setIfInBounds_toArray, List.set_cons_zero, List.set_cons_succ]
                refine hd_take (v := ?_) 1 rfl (by kernel_rfl) (fun _ _ d _ _ h => (by cases d <;> exact h)) (by kernel_rfl) S4 (fun w' hS => ?_) ?_
                rotate_left
                focus (have q0 := SCost.f4 w' hS; have q1 := SCost.f2 w' hS; clear hS; go_simp; try rfl; done)
                simp only [List.getElem_toArray, List.getElem_cons_succ, List.getElem_cons_zero, Act.put, List.setIfInBounds_toArray, List.set_cons_zero, List.set_cons_succ]
                refine hd_take (v := ?_) 2 rfl (by kernel_rfl) (fun _ _ d _ _ h => (by cases d <;> exact h)) (by kernel_rfl) S4 (fun w' hS => ?_) ?_
                rotate_left
                focus (have q0 := SCost.f4 w' hS; have q1 := SCost.f2 w' hS; clear hS; go_simp; try rfl; done)
                simp only [List.getElem_toArray, List.getElem_cons_succ, List.getElem_cons_zero, Act.put, List.setIfInBounds_toArray, List.set_cons_zero, List.set_cons_succ]
                refine hd_take (v := ?_) 3 rfl (by kernel_rfl) (fun _ _ d _ _ h => (by cases d <;> exact h)) (by kernel_rfl) S4 (fun w' hS => ?_) ?_
                rotate_left
                focus (have q0 := SCost.f4 w' hS; have q1 := SCost.f2 w' hS; clear hS; go_simp; try rfl; done)
                simp only [List.getElem_toArray, List.getElem_cons_succ, List.getElem_cons_zero, Act.put, List.setIfInBounds_toArray, List.set_cons_zero, List.set_cons_succ]
                refine hd_take (v := ?_) 4 rfl (by kernel_rfl) (fun _ _ d _ _ h => (by cases d <;> exact h)) (by kernel_rfl) S4 (fun w' hS => ?_) ?_
                rotate_left
                focus (have q0 := SCost.f4 w' hS; have q1 := SCost.f2 w' hS; clear hS; go_simp; try rfl; done)
                simp only [List.getElem_toArray, List.getElem_cons_succ, List.getElem_cons_zero, Act.put, List.setIfInBounds_toArray, List.set_cons_zero, List.set_cons_succ]
                refine hd_take (v := ?_) 5 rfl (by kernel_rfl) (fun _ _ d _ _ h => (by cases d <;> exact h)) (by kernel_rfl) S4 (fun w' hS => ?_) ?_
                rotate_left
                focus (have q0 := SCost.f4 w' hS; have q1 := SCost.f2 w' hS; clear hS; go_simp; try rfl; done)
                simp only [List.getElem_toArray, List.getElem_cons_succ, List.getElem_cons_zero, Act.put, List.setIfInBounds_toArray, List.set_cons_zero, List.set_cons_succ]
                refine hd_take (v := ?_) 6 rfl (by kernel_rfl) (fun _ _ d _ _ h => (by cases d <;> exact h)) (by kernel_rfl) S4 (fun w' hS => ?_) ?_
                rotate_left
                focus (have q0 := SCost.f4 w' hS; have q1 := SCost.f2 w' hS; clear hS; go_simp; try rfl; done)
                simp only [List.getElem_toArray, List.getElem_cons_succ, List.getElem_cons_zero, Act.put, List.setIfInBounds_toArray, List.set_cons_zero, List.set_cons_succ]
                refine hd_take (v := ?_) 7 rfl (by kernel_rfl) (fun _ _ d _ _ h => (by cases d <;> exact h)) (by kernel_rfl) S4 (fun w' hS => ?_) ?_
                rotate_left
                focus (have q0 := SCost.f4 w' hS; have q1 := SCost.f2 w' hS; clear hS; go_simp; try rfl; done)
                simp only [List.getElem_toArray, List.getElem_cons_succ, List.getElem_cons_zero, Act.put, List.setIfInBounds_toArray, List.set_cons_zero, List.set_cons_succ]
                refine hd_one 8 (by kernel_rfl) ?_
                refine op_call rfl (by kernel_rfl) (by go_simp; first | exact ⟨rfl, rfl⟩ | rfl) ?_
                refine (most_any s.alg w4).mono ?_
                rintro e w5 ⟨he, hw⟩
                rw [HM.out] at he
                subst he
                subst hw
                have hS2 := S4
                refine ⟨_, rfl, hS2, ?_⟩
                simp only [List.getElem_toArray, List.getElem_cons_succ, List.getElem_cons_zero, Act.put, List.setIfInBounds_toArray, List.set_cons_zero, List.set_cons_succ]
                refine hd_take (v := ?_) 9 rfl (by kernel_rfl) (fun _ _ d _ _ h => (by cases d <;> exact h)) (by kernel_rfl) S4 (fun w' hS => ?_) ?_
                rotate_left
                focus (clear hS; go_simp; try rfl; done)
                simp only [List.getElem_toArray, List.getElem_cons_succ, List.getElem_cons_zero, Act.put, List.setIfInBounds_toArray, List.set_cons_zero, List.set_cons_succ]
                refine hd_take (v := ?_) 10 rfl (by kernel_rfl) (fun _ _ d _ _ h => (by cases d <;> exact h)) (by kernel_rfl) S4 (fun w' hS => ?_) ?_
                rotate_left
                focus (clear hS; go_simp; try rfl; done)
                simp only [List.getElem_toArray, List.getElem_cons_succ, List.getElem_cons_zero, Act.put, List.setIfInBounds_toArray, List.set_cons_zero, List.set_cons_succ]
                refine hd_take (v := ?_) 11 rfl (by kernel_rfl) (fun _ _ d _ _ h => (by cases d <;> exact h)) (by kernel_rfl) S4 (fun w' hS => ?_) ?_
                rotate_left
                focus (clear hS; go_simp; try rfl; done)
                simp only [List.getElem_toArray, List.getElem_cons_succ, List.getElem_cons_zero, Act.put, List.setIfInBounds_toArray, List.set_cons_zero, List.set_cons_succ]
                refine hd_done (by kernel_rfl) ?_
                clear S4
                go_wp2_with fail
                refine (croom_any H4.out.pub).mono ?_
                rintro e w6 ⟨rfl, hb⟩
                have H5 := Lib.hid (H4.out.on hb)
                clear hb
                go_wp2_with fail
                go_ret
                exact ⟨by rw [HZ.out]; rfl, H5.out.up⟩
  · have hz : beginC σ s = keyC σ s := by
      unfold beginC keyC at *
      cases hx : σ s.handle with
      | none => rfl
      | some t =>
        rw [hx] at hc
        simp only at hc ⊢
        split at hc
        · exact absurd rfl hc
        · rename_i h0; rw [if_neg h0, if_neg h0]
    have HZ := Lib.hid hz
    clear hz
    obtain ⟨c, hcc⟩ : ∃ c, keyC σ s = c := ⟨_, rfl⟩
    rw [hcc] at hc HZ ⊢
    have q1 : (c != (0 : Int)) = true := by rw [bne_iff_ne]; exact hc
    have q2 : (c == (0 : Int)) = false := by rw [beq_eq_false_iff_ne]; exact hc
    clear hc hcc
    go_wp2_with fail
    go_ret
    exact ⟨by rw [HZ.out]; rfl, H2.out.up⟩
end Go.Proofs.YtkidijjhedjifaaGreat
