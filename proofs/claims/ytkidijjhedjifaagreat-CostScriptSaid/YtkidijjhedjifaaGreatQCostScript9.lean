/- The document's done: what an operation that is not refused records and does. -/
import Derived.Test.YtkidijjhedjifaaGreatRows
import Derived.Test.YtkidijjhedjifaaGreatQCostScript8
/- The document's sessions: what beginning, more of a message and a tag record. -/
namespace Go.Proofs.YtkidijjhedjifaaGreat
open Go.RowKit
set_option maxRecDepth 100000
set_option linter.unusedVariables false
set_option linter.unusedSimpArgs false
attribute [local go_sem] Oper.semAt_some
def heCells (t : Th) : Array Value := #[.int .i64 t.key, .int .u8 t.alg, .int .i64 t.out, .int .i64 t.custom, .int .i64 t.msg]
/-- a box of a thing -/
structure HeB (B : Nat) (t : Th) (W : World) : Prop where
  c0 : W.cell? ⟨B, 0, none⟩ = some (.int .i64 t.key)
  c1 : W.cell? ⟨B, 1, none⟩ = some (.int .u8 t.alg)
  c2 : W.cell? ⟨B, 2, none⟩ = some (.int .i64 t.out)
  c3 : W.cell? ⟨B, 3, none⟩ = some (.int .i64 t.custom)
  c4 : W.cell? ⟨B, 4, none⟩ = some (.int .i64 t.msg)
section
variable {B : Nat} {t : Th} {w0 w : World} {obs : List Ob}
theorem HeB.g0 (W : World) (h : HeB B t W) : W.cell? ⟨B, 0, none⟩ = some (.int .i64 t.key) := h.c0
theorem HeB.g1 (W : World) (h : HeB B t W) : W.cell? ⟨B, 1, none⟩ = some (.int .u8 t.alg) := h.c1
theorem HeB.g2 (W : World) (h : HeB B t W) : W.cell? ⟨B, 2, none⟩ = some (.int .i64 t.out) := h.c2
theorem HeB.g3 (W : World) (h : HeB B t W) : W.cell? ⟨B, 3, none⟩ = some (.int .i64 t.custom) := h.c3
theorem HeB.g4 (W : World) (h : HeB B t W) : W.cell? ⟨B, 4, none⟩ = some (.int .i64 t.msg) := h.c4
theorem HeB.blk (h : Blk w B 54 (heCells t)) : HeB B t w := ⟨h.cellAt 0 rfl, h.cellAt 1 rfl, h.cellAt 2 rfl, h.cellAt 3 rfl, h.cellAt 4 rfl⟩
theorem HeB.of (h : Env w0 w (obs ++ [obK B 54 (heCells t)])) : HeB B t w := HeB.blk (h.blk obs.length (by rw [List.getElem?_append_right (Nat.le_refl _), Nat.sub_self]; rfl))
/-- Put beside one thing more -/
theorem rput_box {x : Ob} (h : Env w0 w (obs ++ [x])) (i : Nat) {v : Value} {rs : List Rn} (hi : obs[i]? = some (obRuns v rs)) (k s n : Int) (hl : rs.length ≤ 100000) (hb : ∀ r ∈ rs, 0 ≤ r.c ∧ r.c ≤ 2000000000000) (hn : n ≤ 2000000000000) :
    Calls Tryz.prog 20 #[v, .int .u8 k, .int .i64 s, .int .i64 n] w fun e w' => ∃ v', e = .returned v' ∧ Env w0 w' (obs.set i (obRuns v' (timesN rs ⟨k, s, n⟩)) ++ [x]) := by
  have hil := (List.getElem?_eq_some_iff.1 hi).1
  refine (rput_env h i (by rw [List.getElem?_append_left hil]; exact hi) k s n hl hb hn).mono ?_
  rintro e w' ⟨v', rfl, h1⟩
  rw [List.set_append_left _ _ hil] at h1
  exact ⟨v', rfl, h1⟩
/-- the runs may be put behind -/
structure OKr (rs : List Rn) (n : Nat) : Prop where
  len : rs.length + n ≤ 100000
  cnt : ∀ r ∈ rs, 0 ≤ r.c ∧ r.c ≤ 2000000000000 - 100000000 * (n : Int)
theorem OKr.step {rs : List Rn} {n : Nat} (h : OKr rs (n + 1)) {k s c : Int} (hc0 : 0 ≤ c) (hc1 : c ≤ 100000000) (hn : n ≤ 1000) : OKr (timesN rs ⟨k, s, c⟩) n := by
  unfold timesN
  split
  · exact ⟨by have := h.len; omega, fun r hr => by have := h.cnt r hr; omega⟩
  · simp only
    refine ⟨by have := noteL_len1 rs k s c; have := h.len; omega, fun r hr => ?_⟩
    rcases List.eq_nil_or_concat rs with rfl | ⟨l0, x, rfl⟩
    · have e : r = ⟨k, s, c⟩ := by simpa [noteL] using hr
      rw [e]
      show 0 ≤ c ∧ c ≤ _
      omega
    · rw [List.concat_eq_append] at *
      by_cases he : x.k = k ∧ x.s = s
      · rw [← he.1, ← he.2, noteL_same] at hr
        have hx := h.cnt x (by simp)
        rcases List.mem_append.1 hr with hr | hr
        · have := h.cnt r (by simp [hr])
          omega
        · simp at hr
          rw [hr]
          show 0 ≤ x.c + c ∧ x.c + c ≤ _
          omega
      · rw [noteL_other _ _ _ _ _ he] at hr
        rcases List.mem_append.1 hr with hr | hr
        · have := h.cnt r hr
          omega
        · simp at hr
          rw [hr]
          show 0 ≤ c ∧ c ≤ _
          omega
theorem OKr.b {rs : List Rn} {n : Nat} (h : OKr rs n) : ∀ r ∈ rs, 0 ≤ r.c ∧ r.c ≤ 2000000000000 := fun r hr => by have := h.cnt r hr; omega
end
/-- what is known of a session that begins or is one -/
structure OKse (t : Th) : Prop where
  a0 : 1 ≤ t.alg
  a1 : t.alg ≤ 7
  k0 : 0 ≤ t.key
  k1 : t.key ≤ 512
  c0 : 0 ≤ t.custom
  c1 : t.custom ≤ 64
  o0 : 1 ≤ t.out
  o1 : t.out ≤ 64
  m0 : 0 ≤ t.msg
  m1 : t.msg ≤ 100000000
section
variable {w0 w : World} {obs : List Ob}
set_option maxHeartbeats 8000000 in
theorem rbegun_env (h : Env w0 w obs) (i : Nat) {v : Value} {rs : List Rn} (hi : obs[i]? = some (obRuns v rs)) (hok : OKr rs 4) (t : Th) (ht : OKse t) :
    Calls Tryz.prog 51 #[v, heV t] w fun e w' => ∃ v', e = .returned v' ∧ Env w0 w' (obs.set i (obRuns v' ((beginE t).foldl timesN rs))) := by
  have H := Lib.hid h
  have HI := Lib.hid hi
  have HOK := Lib.hid hok
  have HT := Lib.hid ht
  have h1 := h.newK 54 (heCells t)
  clear h hi hok ht
  obtain ⟨W, hW⟩ : ∃ y, w.alloc (.cells (heCells t) 54) = y := ⟨_, rfl⟩
  obtain ⟨B, hB⟩ : ∃ y, w.heap.size = y := ⟨_, rfl⟩
  rw [hW, hB] at h1
  have H1 := Lib.hid h1
  have HWB := Lib.hid (And.intro hW hB)
  clear h1 hW hB
  unfold heV
  by_cases a2 : t.alg = 1 ∨ t.alg = 2
  · have HA := Lib.hid a2
    have hz : hashA t.alg = 32 ∨ hashA t.alg = 64 := hashA_alg a2
    obtain ⟨z, hze⟩ : ∃ z, hashA t.alg = z := ⟨_, rfl⟩
    rw [hze] at hz
    have tz : decide (0 < z) = true := decide_eq_true (by omega)
    have HZ := Lib.hid hze
    have HV : Hid (beginE t = [⟨evkA t.alg, wideA t.alg, keyB t.alg t.key⟩]) := Lib.hid (by unfold beginE; rw [if_neg (by omega), if_neg (by omega)])
    have HBW := Lib.hid (bA_wide a2)
    clear a2 hz hze
    go_enter Tryz.func51, Tryz.ntmps51
    go_wp2_with fail
    refine (rsize_any t.alg _).mono ?_
    rintro e wz ⟨rfl, rfl⟩
    rw [HZ.out]
    go_upto_region 2 with fail
    have hwb := HWB.out
    unfold heCells at hwb
    obtain ⟨hW, hB⟩ := hwb
    try rw [hW]
    try rw [hB]
    try simp only [hB]
    clear hW hB
    refine hd_start (HeB B t) (by kernel_rfl) ?_
    intro w2 hw'
    have H2 := Lib.hid (H1.out.draw 1)
    rw [← hw'] at H2
    clear hw' H1
    have S2 := HeB.of H2.out
    refine hd_take (v := ?_) 0 rfl (by kernel_rfl) (fun _ _ d _ _ h => (by cases d <;> exact h)) (by kernel_rfl) S2 (fun w' hS => ?_) ?_
    rotate_left
    focus (have q0 := HeB.g0 w' hS; have q1 := HeB.g1 w' hS; have q2 := HeB.g2 w' hS; have q3 := HeB.g3 w' hS; have q4 := HeB.g4 w' hS; clear hS; go_simp; try rfl; done)
    simp only [List.getElem_toArray, List.getElem_cons_succ, List.getElem_cons_zero, Act.put, List.setIfInBounds_toArray, List.set_cons_zero, List.set_cons_succ]
    refine hd_take (v := ?_) 1 rfl (by kernel_rfl) (fun _ _ d _ _ h => (by cases d <;> exact h)) (by kernel_rfl) S2 (fun w' hS => ?_) ?_
    rotate_left
    focus (have q0 := HeB.g0 w' hS; have q1 := HeB.g1 w' hS; have q2 := HeB.g2 w' hS; have q3 := HeB.g3 w' hS; have q4 := HeB.g4 w' hS; clear hS; go_simp; try rfl; done)
    simp only [List.getElem_toArray, List.getElem_cons_succ, List.getElem_cons_zero, Act.put, List.setIfInBounds_toArray, List.set_cons_zero, List.set_cons_succ]
    refine hd_take (v := ?_) 2 rfl (by kernel_rfl) (fun _ _ d _ _ h => (by cases d <;> exact h)) (by kernel_rfl) S2 (fun w' hS => ?_) ?_
    rotate_left
    focus (have q0 := HeB.g0 w' hS; have q1 := HeB.g1 w' hS; have q2 := HeB.g2 w' hS; have q3 := HeB.g3 w' hS; have q4 := HeB.g4 w' hS; clear hS; go_simp; try rfl; done)
    simp only [List.getElem_toArray, List.getElem_cons_succ, List.getElem_cons_zero, Act.put, List.setIfInBounds_toArray, List.set_cons_zero, List.set_cons_succ]
    refine hd_take (v := ?_) 4 rfl (by kernel_rfl) (fun _ _ d _ _ h => (by cases d <;> exact h)) (by kernel_rfl) S2 (fun w' hS => ?_) ?_
    rotate_left
    focus (have q0 := HeB.g0 w' hS; have q1 := HeB.g1 w' hS; have q2 := HeB.g2 w' hS; have q3 := HeB.g3 w' hS; have q4 := HeB.g4 w' hS; clear hS; go_simp; try rfl; done)
    simp only [List.getElem_toArray, List.getElem_cons_succ, List.getElem_cons_zero, Act.put, List.setIfInBounds_toArray, List.set_cons_zero, List.set_cons_succ]
    refine hd_take (v := ?_) 5 rfl (by kernel_rfl) (fun _ _ d _ _ h => (by cases d <;> exact h)) (by kernel_rfl) S2 (fun w' hS => ?_) ?_
    rotate_left
    focus (have q0 := HeB.g0 w' hS; have q1 := HeB.g1 w' hS; have q2 := HeB.g2 w' hS; have q3 := HeB.g3 w' hS; have q4 := HeB.g4 w' hS; clear hS; go_simp; try rfl; done)
    simp only [List.getElem_toArray, List.getElem_cons_succ, List.getElem_cons_zero, Act.put, List.setIfInBounds_toArray, List.set_cons_zero, List.set_cons_succ]
    refine hd_take (v := ?_) 7 rfl (by kernel_rfl) (fun _ _ d _ _ h => (by cases d <;> exact h)) (by kernel_rfl) S2 (fun w' hS => ?_) ?_
    rotate_left
    focus (have q0 := HeB.g0 w' hS; have q1 := HeB.g1 w' hS; have q2 := HeB.g2 w' hS; have q3 := HeB.g3 w' hS; have q4 := HeB.g4 w' hS; clear hS; go_simp; try rfl; done)
    simp only [List.getElem_toArray, List.getElem_cons_succ, List.getElem_cons_zero, Act.put, List.setIfInBounds_toArray, List.set_cons_zero, List.set_cons_succ]
    refine hd_take (v := ?_) 8 rfl (by kernel_rfl) (fun _ _ d _ _ h => (by cases d <;> exact h)) (by kernel_rfl) S2 (fun w' hS => ?_) ?_
    rotate_left
    focus (have q0 := HeB.g0 w' hS; have q1 := HeB.g1 w' hS; have q2 := HeB.g2 w' hS; have q3 := HeB.g3 w' hS; have q4 := HeB.g4 w' hS; clear hS; go_simp; try rfl; done)
    simp only [List.getElem_toArray, List.getElem_cons_succ, List.getElem_cons_zero, Act.put, List.setIfInBounds_toArray, List.set_cons_zero, List.set_cons_succ]
    refine hd_take (v := ?_) 9 rfl (by kernel_rfl) (fun _ _ d _ _ h => (by cases d <;> exact h)) (by kernel_rfl) S2 (fun w' hS => ?_) ?_
    rotate_left
    focus (have q0 := HeB.g0 w' hS; have q1 := HeB.g1 w' hS; have q2 := HeB.g2 w' hS; have q3 := HeB.g3 w' hS; have q4 := HeB.g4 w' hS; clear hS; go_simp; try rfl; done)
    simp only [List.getElem_toArray, List.getElem_cons_succ, List.getElem_cons_zero, Act.put, List.setIfInBounds_toArray, List.set_cons_zero, List.set_cons_succ]
    refine hd_take (v := ?_) 10 rfl (by kernel_rfl) (fun _ _ d _ _ h => (by cases d <;> exact h)) (by kernel_rfl) S2 (fun w' hS => ?_) ?_
    rotate_left
    focus (have q0 := HeB.g0 w' hS; have q1 := HeB.g1 w' hS; have q2 := HeB.g2 w' hS; have q3 := HeB.g3 w' hS; have q4 := HeB.g4 w' hS; clear hS; go_simp; try rfl; done)
    simp only [List.getElem_toArray, List.getElem_cons_succ, List.getElem_cons_zero, Act.put, List.setIfInBounds_toArray, List.set_cons_zero, List.set_cons_succ]
    refine hd_one 3 (by kernel_rfl) ?_
    refine op_call rfl (by kernel_rfl) (by go_simp; first | exact ⟨rfl, rfl⟩ | rfl) ?_
    refine (revent_any t.alg HA.out w2).mono ?_
    rintro e wx ⟨he, hw⟩
    subst he
    subst hw
    have hS2 := S2
    refine ⟨_, rfl, hS2, ?_⟩
    simp only [List.getElem_toArray, List.getElem_cons_succ, List.getElem_cons_zero, Act.put, List.setIfInBounds_toArray, List.set_cons_zero, List.set_cons_succ]
    refine hd_one 6 (by kernel_rfl) ?_
    refine op_call rfl (by kernel_rfl) (by go_simp; first | exact ⟨rfl, rfl⟩ | rfl) ?_
    refine (rblock_any t.alg w2).mono ?_
    rintro e wx ⟨he, hw⟩
    rw [HBW.out] at he
    subst he
    subst hw
    have hS2 := S2
    refine ⟨_, rfl, hS2, ?_⟩
    simp only [List.getElem_toArray, List.getElem_cons_succ, List.getElem_cons_zero, Act.put, List.setIfInBounds_toArray, List.set_cons_zero, List.set_cons_succ]
    refine hd_one 11 (by kernel_rfl) ?_
    refine op_call rfl (by kernel_rfl) (by go_simp; first | exact ⟨rfl, rfl⟩ | rfl) ?_
    refine (rkeyed_any t.alg t.key HA.out HT.out.k0 (by have := HT.out.k1; omega) w2).mono ?_
    rintro e w3 ⟨rfl, hb⟩
    have H3 := Lib.hid (H2.out.below hb)
    have hS2 := HeB.of H3.out
    clear hb
    refine ⟨_, rfl, hS2, ?_⟩
    simp only [List.getElem_toArray, List.getElem_cons_succ, List.getElem_cons_zero, Act.put, List.setIfInBounds_toArray, List.set_cons_zero, List.set_cons_succ]
    refine hd_one 12 (by kernel_rfl) ?_
    refine op_call rfl (by kernel_rfl) (by go_simp; first | exact ⟨rfl, rfl⟩ | rfl) ?_
    refine (rput_box H3.out i HI.out (evkA t.alg) (wideA t.alg) (keyB t.alg t.key) (by have := HOK.out.len; omega) HOK.out.b (by have := keyB_rng (a := t.alg) HT.out.k0; have := HT.out.k1; omega)).mono ?_
    rintro e w4 ⟨v4, rfl, h4⟩
    have H4 := Lib.hid h4
    have hS2 := HeB.of H4.out
    have S3 := hS2
    clear h4
    refine ⟨_, rfl, hS2, ?_⟩
    simp only [List.getElem_toArray, List.getElem_cons_succ, List.getElem_cons_zero, Act.put, List.setIfInBounds_toArray, List.set_cons_zero, List.set_cons_succ]
    refine hd_take (v := ?_) 13 rfl (by kernel_rfl) (fun _ _ d _ _ h => (by cases d <;> exact h)) (by kernel_rfl) S3 (fun w' hS => ?_) ?_
    rotate_left
    focus (clear hS; go_simp; try rfl; done)
    simp only [List.getElem_toArray, List.getElem_cons_succ, List.getElem_cons_zero, Act.put, List.setIfInBounds_toArray, List.set_cons_zero, List.set_cons_succ]
    refine hd_done (by kernel_rfl) ?_
    go_wp2_with fail
    go_ret
    exact ⟨_, rfl, by rw [HV.out]; exact H4.out.keepL⟩
  have hz0 : hashA t.alg = 0 := by unfold hashA; rw [if_neg (fun e => a2 (.inl e)), if_neg (fun e => a2 (.inr e))]
  have HZ := Lib.hid hz0
  clear hz0
  by_cases a3 : t.alg = 3
  · have t3 : (t.alg == (3 : Int)) = true := beq_t a3
    have HV : Hid (beginE t = [⟨4, t.key, 1⟩, ⟨5, t.key, 1⟩]) := Lib.hid (by unfold beginE; rw [if_pos a3])
    clear a2 a3
    go_enter Tryz.func51, Tryz.ntmps51
    go_wp2_with fail
    refine (rsize_any t.alg _).mono ?_
    rintro e wz ⟨rfl, rfl⟩
    rw [HZ.out]
    go_upto_region 4 with fail
    have hwb := HWB.out
    unfold heCells at hwb
    obtain ⟨hW, hB⟩ := hwb
    try rw [hW]
    try rw [hB]
    try simp only [hB]
    clear hW hB
    refine hd_start (HeB B t) (by kernel_rfl) ?_
    intro w2 hw'
    have H2 := Lib.hid (H1.out.draw 1)
    rw [← hw'] at H2
    clear hw' H1
    have S2 := HeB.of H2.out
    refine hd_take (v := ?_) 0 rfl (by kernel_rfl) (fun _ _ d _ _ h => (by cases d <;> exact h)) (by kernel_rfl) S2 (fun w' hS => ?_) ?_
    rotate_left
    focus (have q0 := HeB.g0 w' hS; have q1 := HeB.g1 w' hS; have q2 := HeB.g2 w' hS; have q3 := HeB.g3 w' hS; have q4 := HeB.g4 w' hS; clear hS; go_simp; try rfl; done)
    simp only [List.getElem_toArray, List.getElem_cons_succ, List.getElem_cons_zero, Act.put, List.setIfInBounds_toArray, List.set_cons_zero, List.set_cons_succ]
    refine hd_take (v := ?_) 1 rfl (by kernel_rfl) (fun _ _ d _ _ h => (by cases d <;> exact h)) (by kernel_rfl) S2 (fun w' hS => ?_) ?_
    rotate_left
    focus (have q0 := HeB.g0 w' hS; have q1 := HeB.g1 w' hS; have q2 := HeB.g2 w' hS; have q3 := HeB.g3 w' hS; have q4 := HeB.g4 w' hS; clear hS; go_simp; try rfl; done)
    simp only [List.getElem_toArray, List.getElem_cons_succ, List.getElem_cons_zero, Act.put, List.setIfInBounds_toArray, List.set_cons_zero, List.set_cons_succ]
    refine hd_take (v := ?_) 2 rfl (by kernel_rfl) (fun _ _ d _ _ h => (by cases d <;> exact h)) (by kernel_rfl) S2 (fun w' hS => ?_) ?_
    rotate_left
    focus (have q0 := HeB.g0 w' hS; have q1 := HeB.g1 w' hS; have q2 := HeB.g2 w' hS; have q3 := HeB.g3 w' hS; have q4 := HeB.g4 w' hS; clear hS; go_simp; try rfl; done)
    simp only [List.getElem_toArray, List.getElem_cons_succ, List.getElem_cons_zero, Act.put, List.setIfInBounds_toArray, List.set_cons_zero, List.set_cons_succ]
    refine hd_take (v := ?_) 4 rfl (by kernel_rfl) (fun _ _ d _ _ h => (by cases d <;> exact h)) (by kernel_rfl) S2 (fun w' hS => ?_) ?_
    rotate_left
    focus (have q0 := HeB.g0 w' hS; have q1 := HeB.g1 w' hS; have q2 := HeB.g2 w' hS; have q3 := HeB.g3 w' hS; have q4 := HeB.g4 w' hS; clear hS; go_simp; try rfl; done)
    simp only [List.getElem_toArray, List.getElem_cons_succ, List.getElem_cons_zero, Act.put, List.setIfInBounds_toArray, List.set_cons_zero, List.set_cons_succ]
    refine hd_take (v := ?_) 5 rfl (by kernel_rfl) (fun _ _ d _ _ h => (by cases d <;> exact h)) (by kernel_rfl) S2 (fun w' hS => ?_) ?_
    rotate_left
    focus (have q0 := HeB.g0 w' hS; have q1 := HeB.g1 w' hS; have q2 := HeB.g2 w' hS; have q3 := HeB.g3 w' hS; have q4 := HeB.g4 w' hS; clear hS; go_simp; try rfl; done)
    simp only [List.getElem_toArray, List.getElem_cons_succ, List.getElem_cons_zero, Act.put, List.setIfInBounds_toArray, List.set_cons_zero, List.set_cons_succ]
    refine hd_one 3 (by kernel_rfl) ?_
    refine op_call rfl (by kernel_rfl) (by go_simp; first | exact ⟨rfl, rfl⟩ | rfl) ?_
    refine (rput_box H2.out i HI.out 4 t.key 1 (by have := HOK.out.len; omega) HOK.out.b (by omega)).mono ?_
    rintro e w4 ⟨v4, rfl, h4⟩
    have H4 := Lib.hid h4
    have hS2 := HeB.of H4.out
    have S3 := hS2
    clear h4
    refine ⟨_, rfl, hS2, ?_⟩
    simp only [List.getElem_toArray, List.getElem_cons_succ, List.getElem_cons_zero, Act.put, List.setIfInBounds_toArray, List.set_cons_zero, List.set_cons_succ]
    refine hd_one 6 (by kernel_rfl) ?_
    refine op_call rfl (by kernel_rfl) (by go_simp; first | exact ⟨rfl, rfl⟩ | rfl) ?_
    refine (rput_box H4.out i (List.getElem?_set_self (List.getElem?_eq_some_iff.1 HI.out).1) 5 t.key 1 (by have := (HOK.out.step (n := 3) (k := 4) (s := t.key) (c := 1) (by omega) (by omega) (by omega)).len; omega) (HOK.out.step (n := 3) (k := 4) (s := t.key) (c := 1) (by omega) (by omega) (by omega)).b (by omega)).mono ?_
    rintro e w5 ⟨v5, rfl, h5⟩
    have H5 := Lib.hid h5
    have hS2 := HeB.of H5.out
    have S5 := hS2
    clear h5
    refine ⟨_, rfl, hS2, ?_⟩
    simp only [List.getElem_toArray, List.getElem_cons_succ, List.getElem_cons_zero, Act.put, List.setIfInBounds_toArray, List.set_cons_zero, List.set_cons_succ]
    refine hd_take (v := ?_) 7 rfl (by kernel_rfl) (fun _ _ d _ _ h => (by cases d <;> exact h)) (by kernel_rfl) S5 (fun w' hS => ?_) ?_
    rotate_left
    focus (clear hS; go_simp; try rfl; done)
    simp only [List.getElem_toArray, List.getElem_cons_succ, List.getElem_cons_zero, Act.put, List.setIfInBounds_toArray, List.set_cons_zero, List.set_cons_succ]
    refine hd_done (by kernel_rfl) ?_
    go_wp2_with fail
    go_ret
    have h9 := H5.out.keepL
    rw [List.set_set] at h9
    exact ⟨_, rfl, by rw [HV.out]; exact h9⟩
  have t3 : (t.alg == (3 : Int)) = false := beq_f a3
  have a4 : 4 ≤ t.alg ∧ t.alg ≤ 7 := by have := HT.out.a0; have := HT.out.a1; omega
  have HV : Hid (beginE t = [⟨3, 200, paddedA (codedA 4 + codedA t.custom) (rateA t.alg) + paddedA (codedA t.key) (rateA t.alg)⟩]) := Lib.hid (by unfold beginE; rw [if_neg a3, if_pos a4.1])
  have r1 := codedA_rng (n := t.custom) HT.out.c0
  have r2 := codedA_rng (n := t.key) HT.out.k0
  have r3 : codedA 4 = 6 := rfl
  have hc1 := HT.out.c1
  have hk1 := HT.out.k1
  have hc0 := HT.out.c0
  have hk0 := HT.out.k0
  have wa : IntKind.i64.wrap (codedA 4 + codedA t.custom) = codedA 4 + codedA t.custom := IntWalk.i64_in _ (by omega)
  have p1 := paddedA_rng (n := codedA 4 + codedA t.custom) (rateA_two t.alg) (by omega)
  have p2 := paddedA_rng (n := codedA t.key) (rateA_two t.alg) (by omega)
  obtain ⟨x, hx⟩ : ∃ x, paddedA (codedA 4 + codedA t.custom) (rateA t.alg) = x := ⟨_, rfl⟩
  obtain ⟨y, hy⟩ : ∃ x, paddedA (codedA t.key) (rateA t.alg) = x := ⟨_, rfl⟩
  rw [hx] at p1
  rw [hy] at p2
  have wb : IntKind.i64.wrap (x + y) = x + y := IntWalk.i64_in _ (by omega)
  have HP := Lib.hid (And.intro hx (And.intro hy (show 0 ≤ x + y ∧ x + y ≤ 1000 by omega)))
  have HR := Lib.hid (And.intro r1 (And.intro r2 (And.intro hc0 (And.intro hc1 (And.intro hk0 hk1)))))
  clear a2 a3 a4 r1 r2 r3 hc0 hc1 hk0 hk1 p1 p2 hx hy
  go_enter Tryz.func51, Tryz.ntmps51
  go_wp2_with fail
  refine (rsize_any t.alg _).mono ?_
  rintro e wz ⟨rfl, rfl⟩
  rw [HZ.out]
  go_upto_region 5 with fail
  have hwb := HWB.out
  unfold heCells at hwb
  obtain ⟨hW, hB⟩ := hwb
  try rw [hW]
  try rw [hB]
  try simp only [hB]
  clear hW hB
  refine hd_start (HeB B t) (by kernel_rfl) ?_
  intro w2 hw'
  have H2 := Lib.hid (H1.out.draw 1)
  rw [← hw'] at H2
  clear hw' H1
  have S2 := HeB.of H2.out
  refine hd_take (v := ?_) 0 rfl (by kernel_rfl) (fun _ _ d _ _ h => (by cases d <;> exact h)) (by kernel_rfl) S2 (fun w' hS => ?_) ?_
  rotate_left
  focus (have q0 := HeB.g0 w' hS; have q1 := HeB.g1 w' hS; have q2 := HeB.g2 w' hS; have q3 := HeB.g3 w' hS; have q4 := HeB.g4 w' hS; clear hS; go_simp; try rfl; done)
  simp only [List.getElem_toArray, List.getElem_cons_succ, List.getElem_cons_zero, Act.put, List.setIfInBounds_toArray, List.set_cons_zero, List.set_cons_succ]
  refine hd_take (v := ?_) 1 rfl (by kernel_rfl) (fun _ _ d _ _ h => (by cases d <;> exact h)) (by kernel_rfl) S2 (fun w' hS => ?_) ?_
  rotate_left
  focus (have q0 := HeB.g0 w' hS; have q1 := HeB.g1 w' hS; have q2 := HeB.g2 w' hS; have q3 := HeB.g3 w' hS; have q4 := HeB.g4 w' hS; clear hS; go_simp; try rfl; done)
  simp only [List.getElem_toArray, List.getElem_cons_succ, List.getElem_cons_zero, Act.put, List.setIfInBounds_toArray, List.set_cons_zero, List.set_cons_succ]
  refine hd_take (v := ?_) 2 rfl (by kernel_rfl) (fun _ _ d _ _ h => (by cases d <;> exact h)) (by kernel_rfl) S2 (fun w' hS => ?_) ?_
  rotate_left
  focus (have q0 := HeB.g0 w' hS; have q1 := HeB.g1 w' hS; have q2 := HeB.g2 w' hS; have q3 := HeB.g3 w' hS; have q4 := HeB.g4 w' hS; clear hS; go_simp; try rfl; done)
  simp only [List.getElem_toArray, List.getElem_cons_succ, List.getElem_cons_zero, Act.put, List.setIfInBounds_toArray, List.set_cons_zero, List.set_cons_succ]
  refine hd_take (v := ?_) 4 rfl (by kernel_rfl) (fun _ _ d _ _ h => (by cases d <;> exact h)) (by kernel_rfl) S2 (fun w' hS => ?_) ?_
  rotate_left
  focus (have q0 := HeB.g0 w' hS; have q1 := HeB.g1 w' hS; have q2 := HeB.g2 w' hS; have q3 := HeB.g3 w' hS; have q4 := HeB.g4 w' hS; clear hS; go_simp; try rfl; done)
  simp only [List.getElem_toArray, List.getElem_cons_succ, List.getElem_cons_zero, Act.put, List.setIfInBounds_toArray, List.set_cons_zero, List.set_cons_succ]
  refine hd_take (v := ?_) 5 rfl (by kernel_rfl) (fun _ _ d _ _ h => (by cases d <;> exact h)) (by kernel_rfl) S2 (fun w' hS => ?_) ?_
  rotate_left
  focus (have q0 := HeB.g0 w' hS; have q1 := HeB.g1 w' hS; have q2 := HeB.g2 w' hS; have q3 := HeB.g3 w' hS; have q4 := HeB.g4 w' hS; clear hS; go_simp; try rfl; done)
  simp only [List.getElem_toArray, List.getElem_cons_succ, List.getElem_cons_zero, Act.put, List.setIfInBounds_toArray, List.set_cons_zero, List.set_cons_succ]
  refine hd_take (v := ?_) 9 rfl (by kernel_rfl) (fun _ _ d _ _ h => (by cases d <;> exact h)) (by kernel_rfl) S2 (fun w' hS => ?_) ?_
  rotate_left
  focus (have q0 := HeB.g0 w' hS; have q1 := HeB.g1 w' hS; have q2 := HeB.g2 w' hS; have q3 := HeB.g3 w' hS; have q4 := HeB.g4 w' hS; clear hS; go_simp; try rfl; done)
  simp only [List.getElem_toArray, List.getElem_cons_succ, List.getElem_cons_zero, Act.put, List.setIfInBounds_toArray, List.set_cons_zero, List.set_cons_succ]
  refine hd_take (v := ?_) 10 rfl (by kernel_rfl) (fun _ _ d _ _ h => (by cases d <;> exact h)) (by kernel_rfl) S2 (fun w' hS => ?_) ?_
  rotate_left
  focus (have q0 := HeB.g0 w' hS; have q1 := HeB.g1 w' hS; have q2 := HeB.g2 w' hS; have q3 := HeB.g3 w' hS; have q4 := HeB.g4 w' hS; clear hS; go_simp; try rfl; done)
  simp only [List.getElem_toArray, List.getElem_cons_succ, List.getElem_cons_zero, Act.put, List.setIfInBounds_toArray, List.set_cons_zero, List.set_cons_succ]
  refine hd_take (v := ?_) 11 rfl (by kernel_rfl) (fun _ _ d _ _ h => (by cases d <;> exact h)) (by kernel_rfl) S2 (fun w' hS => ?_) ?_
  rotate_left
  focus (have q0 := HeB.g0 w' hS; have q1 := HeB.g1 w' hS; have q2 := HeB.g2 w' hS; have q3 := HeB.g3 w' hS; have q4 := HeB.g4 w' hS; clear hS; go_simp; try rfl; done)
  simp only [List.getElem_toArray, List.getElem_cons_succ, List.getElem_cons_zero, Act.put, List.setIfInBounds_toArray, List.set_cons_zero, List.set_cons_succ]
  refine hd_take (v := ?_) 12 rfl (by kernel_rfl) (fun _ _ d _ _ h => (by cases d <;> exact h)) (by kernel_rfl) S2 (fun w' hS => ?_) ?_
  rotate_left
  focus (have q0 := HeB.g0 w' hS; have q1 := HeB.g1 w' hS; have q2 := HeB.g2 w' hS; have q3 := HeB.g3 w' hS; have q4 := HeB.g4 w' hS; clear hS; go_simp; try rfl; done)
  simp only [List.getElem_toArray, List.getElem_cons_succ, List.getElem_cons_zero, Act.put, List.setIfInBounds_toArray, List.set_cons_zero, List.set_cons_succ]
  refine hd_one 3 (by kernel_rfl) ?_
  refine op_call rfl (by kernel_rfl) (by go_simp; first | exact ⟨rfl, rfl⟩ | rfl) ?_
  refine (rtext_any 4 w2 (by omega) (by omega)).mono ?_
  rintro e wx ⟨he, hw⟩
  subst he
  subst hw
  have hS2 := S2
  refine ⟨_, rfl, hS2, ?_⟩
  simp only [List.getElem_toArray, List.getElem_cons_succ, List.getElem_cons_zero, Act.put, List.setIfInBounds_toArray, List.set_cons_zero, List.set_cons_succ]
  refine hd_one 6 (by kernel_rfl) ?_
  refine op_call rfl (by kernel_rfl) (by go_simp; first | exact ⟨rfl, rfl⟩ | rfl) ?_
  refine (rtext_any t.custom w2 HR.out.2.2.1 (by have := HR.out.2.2.2.1; omega)).mono ?_
  rintro e wx ⟨he, hw⟩
  subst he
  subst hw
  have hS2 := S2
  refine ⟨_, rfl, hS2, ?_⟩
  simp only [List.getElem_toArray, List.getElem_cons_succ, List.getElem_cons_zero, Act.put, List.setIfInBounds_toArray, List.set_cons_zero, List.set_cons_succ]
  refine hd_take (v := ?_) 7 rfl (by kernel_rfl) (fun _ _ d _ _ h => (by cases d <;> exact h)) (by kernel_rfl) S2 (fun w' hS => ?_) ?_
  rotate_left
  focus (clear hS; go_simp; try rfl; done)
  simp only [List.getElem_toArray, List.getElem_cons_succ, List.getElem_cons_zero, Act.put, List.setIfInBounds_toArray, List.set_cons_zero, List.set_cons_succ]
  refine hd_one 8 (by kernel_rfl) ?_
  refine op_call rfl (by kernel_rfl) (by go_simp; first | exact ⟨rfl, rfl⟩ | rfl) ?_
  refine (rpadded_any t.alg (codedA 4 + codedA t.custom) w2 (by have := HR.out.1; have : codedA 4 = 6 := rfl; have := HR.out.2.2.1; omega) (by have := HR.out.1; have : codedA 4 = 6 := rfl; have := HR.out.2.2.2.1; omega)).mono ?_
  rintro e wx ⟨he, hw⟩
  rw [HP.out.1] at he
  subst he
  subst hw
  have hS2 := S2
  refine ⟨_, rfl, hS2, ?_⟩
  simp only [List.getElem_toArray, List.getElem_cons_succ, List.getElem_cons_zero, Act.put, List.setIfInBounds_toArray, List.set_cons_zero, List.set_cons_succ]
  refine hd_one 13 (by kernel_rfl) ?_
  refine op_call rfl (by kernel_rfl) (by go_simp; first | exact ⟨rfl, rfl⟩ | rfl) ?_
  refine (rtext_any t.key w2 HR.out.2.2.2.2.1 (by have := HR.out.2.2.2.2.2; omega)).mono ?_
  rintro e wx ⟨he, hw⟩
  subst he
  subst hw
  have hS2 := S2
  refine ⟨_, rfl, hS2, ?_⟩
  simp only [List.getElem_toArray, List.getElem_cons_succ, List.getElem_cons_zero, Act.put, List.setIfInBounds_toArray, List.set_cons_zero, List.set_cons_succ]
  refine hd_one 14 (by kernel_rfl) ?_
  refine op_call rfl (by kernel_rfl) (by go_simp; first | exact ⟨rfl, rfl⟩ | rfl) ?_
  refine (rpadded_any t.alg (codedA t.key) w2 (by have := HR.out.2.1; have := HR.out.2.2.2.2.1; omega) (by have := HR.out.2.1; have := HR.out.2.2.2.2.2; omega)).mono ?_
  rintro e wx ⟨he, hw⟩
  rw [HP.out.2.1] at he
  subst he
  subst hw
  have hS2 := S2
  refine ⟨_, rfl, hS2, ?_⟩
  simp only [List.getElem_toArray, List.getElem_cons_succ, List.getElem_cons_zero, Act.put, List.setIfInBounds_toArray, List.set_cons_zero, List.set_cons_succ]
  refine hd_take (v := ?_) 15 rfl (by kernel_rfl) (fun _ _ d _ _ h => (by cases d <;> exact h)) (by kernel_rfl) S2 (fun w' hS => ?_) ?_
  rotate_left
  focus (clear hS; go_simp; try rfl; done)
  simp only [List.getElem_toArray, List.getElem_cons_succ, List.getElem_cons_zero, Act.put, List.setIfInBounds_toArray, List.set_cons_zero, List.set_cons_succ]
  refine hd_one 16 (by kernel_rfl) ?_
  refine op_call rfl (by kernel_rfl) (by go_simp; first | exact ⟨rfl, rfl⟩ | rfl) ?_
  refine (rput_box H2.out i HI.out 3 200 (x + y) (by have := HOK.out.len; omega) HOK.out.b (by have := HP.out.2.2; omega)).mono ?_
  rintro e w4 ⟨v4, rfl, h4⟩
  have H4 := Lib.hid h4
  have hS2 := HeB.of H4.out
  have S3 := hS2
  clear h4
  refine ⟨_, rfl, hS2, ?_⟩
  simp only [List.getElem_toArray, List.getElem_cons_succ, List.getElem_cons_zero, Act.put, List.setIfInBounds_toArray, List.set_cons_zero, List.set_cons_succ]
  refine hd_take (v := ?_) 17 rfl (by kernel_rfl) (fun _ _ d _ _ h => (by cases d <;> exact h)) (by kernel_rfl) S3 (fun w' hS => ?_) ?_
  rotate_left
  focus (clear hS; go_simp; try rfl; done)
  simp only [List.getElem_toArray, List.getElem_cons_succ, List.getElem_cons_zero, Act.put, List.setIfInBounds_toArray, List.set_cons_zero, List.set_cons_succ]
  refine hd_done (by kernel_rfl) ?_
  go_wp2_with fail
  go_ret
  exact ⟨_, rfl, by rw [HV.out, HP.out.1, HP.out.2.1]; exact H4.out.keepL⟩
set_option maxHeartbeats 8000000 in
theorem rtold_env (h : Env w0 w obs) (i : Nat) {v : Value} {rs : List Rn} (hi : obs[i]? = some (obRuns v rs)) (hok : OKr rs 4) (t : Th) (ht : OKse t) (n : Int) (hn0 : 0 ≤ n) (hn1 : n ≤ 65536) :
    Calls Tryz.prog 52 #[v, heV t, .int .i64 n] w fun e w' => ∃ v', e = .returned v' ∧ Env w0 w' (obs.set i (obRuns v' (timesN rs ⟨wkK t, wkS t, takenA t t.msg (t.msg + n)⟩))) := by
  have H := Lib.hid h
  have HI := Lib.hid hi
  have HOK := Lib.hid hok
  have HT := Lib.hid ht
  have h1 := h.newK 54 (heCells t)
  have HNN := Lib.hid (And.intro hn0 hn1)
  clear h hi hok ht hn0 hn1
  obtain ⟨W, hW⟩ : ∃ y, w.alloc (.cells (heCells t) 54) = y := ⟨_, rfl⟩
  obtain ⟨B, hB⟩ : ∃ y, w.heap.size = y := ⟨_, rfl⟩
  rw [hW, hB] at h1
  have H1 := Lib.hid h1
  have HWB := Lib.hid (And.intro hW hB)
  clear h1 hW hB
  unfold heV
  by_cases a2 : t.alg = 1 ∨ t.alg = 2
  · have HA := Lib.hid a2
    have hz : hashA t.alg = 32 ∨ hashA t.alg = 64 := hashA_alg a2
    obtain ⟨z, hze⟩ : ∃ z, hashA t.alg = z := ⟨_, rfl⟩
    rw [hze] at hz
    have tz : decide (0 < z) = true := decide_eq_true (by omega)
    have HZ := Lib.hid hze
    have HV : Hid ((⟨wkK t, wkS t, takenA t t.msg (t.msg + n)⟩ : Rn) = ⟨evkA t.alg, wideA t.alg, fullR (bA t.alg) t.msg n⟩) := Lib.hid (by unfold wkK wkS takenA fullR; rw [if_neg (by omega), if_neg (by omega), if_neg (by omega), if_neg (by omega), if_neg (by omega), if_neg (by omega), bA_wide a2])
    have HBW := Lib.hid (bA_wide a2)
    clear a2 hz hze
    go_enter Tryz.func52, Tryz.ntmps52
    go_wp2_with fail
    refine (rsize_any t.alg _).mono ?_
    rintro e wz ⟨rfl, rfl⟩
    rw [HZ.out]
    go_upto_region 2 with fail
    have hwb := HWB.out
    unfold heCells at hwb
    obtain ⟨hW, hB⟩ := hwb
    try rw [hW]
    try rw [hB]
    try simp only [hB]
    clear hW hB
    refine hd_start (HeB B t) (by kernel_rfl) ?_
    intro w2 hw'
    have H2 := Lib.hid (H1.out.draw 1)
    rw [← hw'] at H2
    clear hw' H1
    have S2 := HeB.of H2.out
    refine hd_take (v := ?_) 0 rfl (by kernel_rfl) (fun _ _ d _ _ h => (by cases d <;> exact h)) (by kernel_rfl) S2 (fun w' hS => ?_) ?_
    rotate_left
    focus (have q0 := HeB.g0 w' hS; have q1 := HeB.g1 w' hS; have q2 := HeB.g2 w' hS; have q3 := HeB.g3 w' hS; have q4 := HeB.g4 w' hS; clear hS; go_simp; try rfl; done)
    simp only [List.getElem_toArray, List.getElem_cons_succ, List.getElem_cons_zero, Act.put, List.setIfInBounds_toArray, List.set_cons_zero, List.set_cons_succ]
    refine hd_take (v := ?_) 1 rfl (by kernel_rfl) (fun _ _ d _ _ h => (by cases d <;> exact h)) (by kernel_rfl) S2 (fun w' hS => ?_) ?_
    rotate_left
    focus (have q0 := HeB.g0 w' hS; have q1 := HeB.g1 w' hS; have q2 := HeB.g2 w' hS; have q3 := HeB.g3 w' hS; have q4 := HeB.g4 w' hS; clear hS; go_simp; try rfl; done)
    simp only [List.getElem_toArray, List.getElem_cons_succ, List.getElem_cons_zero, Act.put, List.setIfInBounds_toArray, List.set_cons_zero, List.set_cons_succ]
    refine hd_take (v := ?_) 2 rfl (by kernel_rfl) (fun _ _ d _ _ h => (by cases d <;> exact h)) (by kernel_rfl) S2 (fun w' hS => ?_) ?_
    rotate_left
    focus (have q0 := HeB.g0 w' hS; have q1 := HeB.g1 w' hS; have q2 := HeB.g2 w' hS; have q3 := HeB.g3 w' hS; have q4 := HeB.g4 w' hS; clear hS; go_simp; try rfl; done)
    simp only [List.getElem_toArray, List.getElem_cons_succ, List.getElem_cons_zero, Act.put, List.setIfInBounds_toArray, List.set_cons_zero, List.set_cons_succ]
    refine hd_take (v := ?_) 4 rfl (by kernel_rfl) (fun _ _ d _ _ h => (by cases d <;> exact h)) (by kernel_rfl) S2 (fun w' hS => ?_) ?_
    rotate_left
    focus (have q0 := HeB.g0 w' hS; have q1 := HeB.g1 w' hS; have q2 := HeB.g2 w' hS; have q3 := HeB.g3 w' hS; have q4 := HeB.g4 w' hS; clear hS; go_simp; try rfl; done)
    simp only [List.getElem_toArray, List.getElem_cons_succ, List.getElem_cons_zero, Act.put, List.setIfInBounds_toArray, List.set_cons_zero, List.set_cons_succ]
    refine hd_take (v := ?_) 5 rfl (by kernel_rfl) (fun _ _ d _ _ h => (by cases d <;> exact h)) (by kernel_rfl) S2 (fun w' hS => ?_) ?_
    rotate_left
    focus (have q0 := HeB.g0 w' hS; have q1 := HeB.g1 w' hS; have q2 := HeB.g2 w' hS; have q3 := HeB.g3 w' hS; have q4 := HeB.g4 w' hS; clear hS; go_simp; try rfl; done)
    simp only [List.getElem_toArray, List.getElem_cons_succ, List.getElem_cons_zero, Act.put, List.setIfInBounds_toArray, List.set_cons_zero, List.set_cons_succ]
    refine hd_take (v := ?_) 7 rfl (by kernel_rfl) (fun _ _ d _ _ h => (by cases d <;> exact h)) (by kernel_rfl) S2 (fun w' hS => ?_) ?_
    rotate_left
    focus (have q0 := HeB.g0 w' hS; have q1 := HeB.g1 w' hS; have q2 := HeB.g2 w' hS; have q3 := HeB.g3 w' hS; have q4 := HeB.g4 w' hS; clear hS; go_simp; try rfl; done)
    simp only [List.getElem_toArray, List.getElem_cons_succ, List.getElem_cons_zero, Act.put, List.setIfInBounds_toArray, List.set_cons_zero, List.set_cons_succ]
    refine hd_take (v := ?_) 8 rfl (by kernel_rfl) (fun _ _ d _ _ h => (by cases d <;> exact h)) (by kernel_rfl) S2 (fun w' hS => ?_) ?_
    rotate_left
    focus (have q0 := HeB.g0 w' hS; have q1 := HeB.g1 w' hS; have q2 := HeB.g2 w' hS; have q3 := HeB.g3 w' hS; have q4 := HeB.g4 w' hS; clear hS; go_simp; try rfl; done)
    simp only [List.getElem_toArray, List.getElem_cons_succ, List.getElem_cons_zero, Act.put, List.setIfInBounds_toArray, List.set_cons_zero, List.set_cons_succ]
    refine hd_take (v := ?_) 10 rfl (by kernel_rfl) (fun _ _ d _ _ h => (by cases d <;> exact h)) (by kernel_rfl) S2 (fun w' hS => ?_) ?_
    rotate_left
    focus (have q0 := HeB.g0 w' hS; have q1 := HeB.g1 w' hS; have q2 := HeB.g2 w' hS; have q3 := HeB.g3 w' hS; have q4 := HeB.g4 w' hS; clear hS; go_simp; try rfl; done)
    simp only [List.getElem_toArray, List.getElem_cons_succ, List.getElem_cons_zero, Act.put, List.setIfInBounds_toArray, List.set_cons_zero, List.set_cons_succ]
    refine hd_take (v := ?_) 11 rfl (by kernel_rfl) (fun _ _ d _ _ h => (by cases d <;> exact h)) (by kernel_rfl) S2 (fun w' hS => ?_) ?_
    rotate_left
    focus (have q0 := HeB.g0 w' hS; have q1 := HeB.g1 w' hS; have q2 := HeB.g2 w' hS; have q3 := HeB.g3 w' hS; have q4 := HeB.g4 w' hS; clear hS; go_simp; try rfl; done)
    simp only [List.getElem_toArray, List.getElem_cons_succ, List.getElem_cons_zero, Act.put, List.setIfInBounds_toArray, List.set_cons_zero, List.set_cons_succ]
    refine hd_take (v := ?_) 12 rfl (by kernel_rfl) (fun _ _ d _ _ h => (by cases d <;> exact h)) (by kernel_rfl) S2 (fun w' hS => ?_) ?_
    rotate_left
    focus (have q0 := HeB.g0 w' hS; have q1 := HeB.g1 w' hS; have q2 := HeB.g2 w' hS; have q3 := HeB.g3 w' hS; have q4 := HeB.g4 w' hS; clear hS; go_simp; try rfl; done)
    simp only [List.getElem_toArray, List.getElem_cons_succ, List.getElem_cons_zero, Act.put, List.setIfInBounds_toArray, List.set_cons_zero, List.set_cons_succ]
    refine hd_one 3 (by kernel_rfl) ?_
    refine op_call rfl (by kernel_rfl) (by go_simp; first | exact ⟨rfl, rfl⟩ | rfl) ?_
    refine (revent_any t.alg HA.out w2).mono ?_
    rintro e wx ⟨he, hw⟩
    subst he
    subst hw
    have hS2 := S2
    refine ⟨_, rfl, hS2, ?_⟩
    simp only [List.getElem_toArray, List.getElem_cons_succ, List.getElem_cons_zero, Act.put, List.setIfInBounds_toArray, List.set_cons_zero, List.set_cons_succ]
    refine hd_one 6 (by kernel_rfl) ?_
    refine op_call rfl (by kernel_rfl) (by go_simp; first | exact ⟨rfl, rfl⟩ | rfl) ?_
    refine (rblock_any t.alg w2).mono ?_
    rintro e wx ⟨he, hw⟩
    rw [HBW.out] at he
    subst he
    subst hw
    have hS2 := S2
    refine ⟨_, rfl, hS2, ?_⟩
    simp only [List.getElem_toArray, List.getElem_cons_succ, List.getElem_cons_zero, Act.put, List.setIfInBounds_toArray, List.set_cons_zero, List.set_cons_succ]
    refine hd_one 9 (by kernel_rfl) ?_
    refine op_call rfl (by kernel_rfl) (by go_simp; first | exact ⟨rfl, rfl⟩ | rfl) ?_
    refine (rblock_any t.alg w2).mono ?_
    rintro e wx ⟨he, hw⟩
    subst he
    subst hw
    have hS2 := S2
    refine ⟨_, rfl, hS2, ?_⟩
    simp only [List.getElem_toArray, List.getElem_cons_succ, List.getElem_cons_zero, Act.put, List.setIfInBounds_toArray, List.set_cons_zero, List.set_cons_succ]
    refine hd_one 13 (by kernel_rfl) ?_
    refine op_call rfl (by kernel_rfl) (by go_simp; first | exact ⟨rfl, rfl⟩ | rfl) ?_
    refine (rfull_any (bA t.alg) t.msg n (bA_four HA.out) HT.out.m0 (by have := HT.out.m1; omega) HNN.out.1 (by have := HNN.out.2; omega) w2).mono ?_
    rintro e w3 ⟨rfl, hb⟩
    have H3 := Lib.hid (H2.out.below hb)
    have hS2 := HeB.of H3.out
    clear hb
    refine ⟨_, rfl, hS2, ?_⟩
    simp only [List.getElem_toArray, List.getElem_cons_succ, List.getElem_cons_zero, Act.put, List.setIfInBounds_toArray, List.set_cons_zero, List.set_cons_succ]
    refine hd_one 14 (by kernel_rfl) ?_
    refine op_call rfl (by kernel_rfl) (by go_simp; first | exact ⟨rfl, rfl⟩ | rfl) ?_
    refine (rput_box H3.out i HI.out (evkA t.alg) (wideA t.alg) (fullR (bA t.alg) t.msg n) (by have := HOK.out.len; omega) HOK.out.b (by have := fullR_rng (bA_four HA.out) HT.out.m0 HNN.out.1; have := HNN.out.2; omega)).mono ?_
    rintro e w4 ⟨v4, rfl, h4⟩
    have H4 := Lib.hid h4
    have hS2 := HeB.of H4.out
    have S3 := hS2
    clear h4
    refine ⟨_, rfl, hS2, ?_⟩
    simp only [List.getElem_toArray, List.getElem_cons_succ, List.getElem_cons_zero, Act.put, List.setIfInBounds_toArray, List.set_cons_zero, List.set_cons_succ]
    refine hd_take (v := ?_) 15 rfl (by kernel_rfl) (fun _ _ d _ _ h => (by cases d <;> exact h)) (by kernel_rfl) S3 (fun w' hS => ?_) ?_
    rotate_left
    focus (clear hS; go_simp; try rfl; done)
    simp only [List.getElem_toArray, List.getElem_cons_succ, List.getElem_cons_zero, Act.put, List.setIfInBounds_toArray, List.set_cons_zero, List.set_cons_succ]
    refine hd_done (by kernel_rfl) ?_
    go_wp2_with fail
    go_ret
    exact ⟨_, rfl, by rw [HV.out]; exact H4.out.keepL⟩
  have hz0 : hashA t.alg = 0 := by unfold hashA; rw [if_neg (fun e => a2 (.inl e)), if_neg (fun e => a2 (.inr e))]
  have HZ := Lib.hid hz0
  clear hz0
  by_cases a3 : t.alg = 3
  · have t3 : (t.alg == (3 : Int)) = true := beq_t a3
    have HV : Hid ((⟨wkK t, wkS t, takenA t t.msg (t.msg + n)⟩ : Rn) = ⟨5, t.key, lastM (t.msg + n) - lastM t.msg⟩) := Lib.hid (by unfold wkK wkS takenA; rw [if_pos a3, if_pos a3, if_pos a3])
    clear a2 a3
    go_enter Tryz.func52, Tryz.ntmps52
    go_wp2_with fail
    refine (rsize_any t.alg _).mono ?_
    rintro e wz ⟨rfl, rfl⟩
    rw [HZ.out]
    go_upto_region 4 with fail
    have hwb := HWB.out
    unfold heCells at hwb
    obtain ⟨hW, hB⟩ := hwb
    try rw [hW]
    try rw [hB]
    try simp only [hB]
    clear hW hB
    refine hd_start (HeB B t) (by kernel_rfl) ?_
    intro w2 hw'
    have H2 := Lib.hid (H1.out.draw 1)
    rw [← hw'] at H2
    clear hw' H1
    have S2 := HeB.of H2.out
    have hm := HT.out.m0
    have hm1 := HT.out.m1
    have hn0 := HNN.out.1
    have hn1 := HNN.out.2
    have wa : IntKind.i64.wrap (t.msg + n) = t.msg + n := IntWalk.i64_in _ (by omega)
    have hl1 : 0 ≤ lastM (t.msg + n) - lastM t.msg ∧ lastM (t.msg + n) - lastM t.msg ≤ 65537 := by unfold lastM; split <;> split <;> omega
    have wb : IntKind.i64.wrap (lastM (t.msg + n) - lastM t.msg) = lastM (t.msg + n) - lastM t.msg := IntWalk.i64_in _ (by omega)
    have HL1 := Lib.hid hl1
    clear hm hm1 hn0 hn1 hl1
    refine hd_take (v := ?_) 0 rfl (by kernel_rfl) (fun _ _ d _ _ h => (by cases d <;> exact h)) (by kernel_rfl) S2 (fun w' hS => ?_) ?_
    rotate_left
    focus (have q0 := HeB.g0 w' hS; have q1 := HeB.g1 w' hS; have q2 := HeB.g2 w' hS; have q3 := HeB.g3 w' hS; have q4 := HeB.g4 w' hS; clear hS; go_simp; try rfl; done)
    simp only [List.getElem_toArray, List.getElem_cons_succ, List.getElem_cons_zero, Act.put, List.setIfInBounds_toArray, List.set_cons_zero, List.set_cons_succ]
    refine hd_take (v := ?_) 1 rfl (by kernel_rfl) (fun _ _ d _ _ h => (by cases d <;> exact h)) (by kernel_rfl) S2 (fun w' hS => ?_) ?_
    rotate_left
    focus (have q0 := HeB.g0 w' hS; have q1 := HeB.g1 w' hS; have q2 := HeB.g2 w' hS; have q3 := HeB.g3 w' hS; have q4 := HeB.g4 w' hS; clear hS; go_simp; try rfl; done)
    simp only [List.getElem_toArray, List.getElem_cons_succ, List.getElem_cons_zero, Act.put, List.setIfInBounds_toArray, List.set_cons_zero, List.set_cons_succ]
    refine hd_take (v := ?_) 2 rfl (by kernel_rfl) (fun _ _ d _ _ h => (by cases d <;> exact h)) (by kernel_rfl) S2 (fun w' hS => ?_) ?_
    rotate_left
    focus (have q0 := HeB.g0 w' hS; have q1 := HeB.g1 w' hS; have q2 := HeB.g2 w' hS; have q3 := HeB.g3 w' hS; have q4 := HeB.g4 w' hS; clear hS; go_simp; try rfl; done)
    simp only [List.getElem_toArray, List.getElem_cons_succ, List.getElem_cons_zero, Act.put, List.setIfInBounds_toArray, List.set_cons_zero, List.set_cons_succ]
    refine hd_take (v := ?_) 3 rfl (by kernel_rfl) (fun _ _ d _ _ h => (by cases d <;> exact h)) (by kernel_rfl) S2 (fun w' hS => ?_) ?_
    rotate_left
    focus (have q0 := HeB.g0 w' hS; have q1 := HeB.g1 w' hS; have q2 := HeB.g2 w' hS; have q3 := HeB.g3 w' hS; have q4 := HeB.g4 w' hS; clear hS; go_simp; try rfl; done)
    simp only [List.getElem_toArray, List.getElem_cons_succ, List.getElem_cons_zero, Act.put, List.setIfInBounds_toArray, List.set_cons_zero, List.set_cons_succ]
    refine hd_take (v := ?_) 4 rfl (by kernel_rfl) (fun _ _ d _ _ h => (by cases d <;> exact h)) (by kernel_rfl) S2 (fun w' hS => ?_) ?_
    rotate_left
    focus (have q0 := HeB.g0 w' hS; have q1 := HeB.g1 w' hS; have q2 := HeB.g2 w' hS; have q3 := HeB.g3 w' hS; have q4 := HeB.g4 w' hS; clear hS; go_simp; try rfl; done)
    simp only [List.getElem_toArray, List.getElem_cons_succ, List.getElem_cons_zero, Act.put, List.setIfInBounds_toArray, List.set_cons_zero, List.set_cons_succ]
    refine hd_take (v := ?_) 5 rfl (by kernel_rfl) (fun _ _ d _ _ h => (by cases d <;> exact h)) (by kernel_rfl) S2 (fun w' hS => ?_) ?_
    rotate_left
    focus (have q0 := HeB.g0 w' hS; have q1 := HeB.g1 w' hS; have q2 := HeB.g2 w' hS; have q3 := HeB.g3 w' hS; have q4 := HeB.g4 w' hS; clear hS; go_simp; try rfl; done)
    simp only [List.getElem_toArray, List.getElem_cons_succ, List.getElem_cons_zero, Act.put, List.setIfInBounds_toArray, List.set_cons_zero, List.set_cons_succ]
    refine hd_take (v := ?_) 6 rfl (by kernel_rfl) (fun _ _ d _ _ h => (by cases d <;> exact h)) (by kernel_rfl) S2 (fun w' hS => ?_) ?_
    rotate_left
    focus (have q0 := HeB.g0 w' hS; have q1 := HeB.g1 w' hS; have q2 := HeB.g2 w' hS; have q3 := HeB.g3 w' hS; have q4 := HeB.g4 w' hS; clear hS; go_simp; try rfl; done)
    simp only [List.getElem_toArray, List.getElem_cons_succ, List.getElem_cons_zero, Act.put, List.setIfInBounds_toArray, List.set_cons_zero, List.set_cons_succ]
    refine hd_take (v := ?_) 8 rfl (by kernel_rfl) (fun _ _ d _ _ h => (by cases d <;> exact h)) (by kernel_rfl) S2 (fun w' hS => ?_) ?_
    rotate_left
    focus (have q0 := HeB.g0 w' hS; have q1 := HeB.g1 w' hS; have q2 := HeB.g2 w' hS; have q3 := HeB.g3 w' hS; have q4 := HeB.g4 w' hS; clear hS; go_simp; try rfl; done)
    simp only [List.getElem_toArray, List.getElem_cons_succ, List.getElem_cons_zero, Act.put, List.setIfInBounds_toArray, List.set_cons_zero, List.set_cons_succ]
    refine hd_take (v := ?_) 9 rfl (by kernel_rfl) (fun _ _ d _ _ h => (by cases d <;> exact h)) (by kernel_rfl) S2 (fun w' hS => ?_) ?_
    rotate_left
    focus (have q0 := HeB.g0 w' hS; have q1 := HeB.g1 w' hS; have q2 := HeB.g2 w' hS; have q3 := HeB.g3 w' hS; have q4 := HeB.g4 w' hS; clear hS; go_simp; try rfl; done)
    simp only [List.getElem_toArray, List.getElem_cons_succ, List.getElem_cons_zero, Act.put, List.setIfInBounds_toArray, List.set_cons_zero, List.set_cons_succ]
    refine hd_one 7 (by kernel_rfl) ?_
    refine op_call rfl (by kernel_rfl) (by go_simp; first | exact ⟨rfl, rfl⟩ | rfl) ?_
    refine (rchained_any (t.msg + n) w2 (by have := HT.out.m0; have := HNN.out.1; omega) (by have := HT.out.m1; have := HNN.out.2; omega)).mono ?_
    rintro e wx ⟨he, hw⟩
    subst he
    subst hw
    have hS2 := S2
    refine ⟨_, rfl, hS2, ?_⟩
    simp only [List.getElem_toArray, List.getElem_cons_succ, List.getElem_cons_zero, Act.put, List.setIfInBounds_toArray, List.set_cons_zero, List.set_cons_succ]
    refine hd_one 10 (by kernel_rfl) ?_
    refine op_call rfl (by kernel_rfl) (by go_simp; first | exact ⟨rfl, rfl⟩ | rfl) ?_
    refine (rchained_any t.msg w2 HT.out.m0 (by have := HT.out.m1; omega)).mono ?_
    rintro e wx ⟨he, hw⟩
    subst he
    subst hw
    have hS2 := S2
    refine ⟨_, rfl, hS2, ?_⟩
    simp only [List.getElem_toArray, List.getElem_cons_succ, List.getElem_cons_zero, Act.put, List.setIfInBounds_toArray, List.set_cons_zero, List.set_cons_succ]
    refine hd_take (v := ?_) 11 rfl (by kernel_rfl) (fun _ _ d _ _ h => (by cases d <;> exact h)) (by kernel_rfl) S2 (fun w' hS => ?_) ?_
    rotate_left
    focus (clear hS; go_simp; try rfl; done)
    simp only [List.getElem_toArray, List.getElem_cons_succ, List.getElem_cons_zero, Act.put, List.setIfInBounds_toArray, List.set_cons_zero, List.set_cons_succ]
    refine hd_one 12 (by kernel_rfl) ?_
    refine op_call rfl (by kernel_rfl) (by go_simp; first | exact ⟨rfl, rfl⟩ | rfl) ?_
    refine (rput_box H2.out i HI.out 5 t.key (lastM (t.msg + n) - lastM t.msg) (by have := HOK.out.len; omega) HOK.out.b (by have := HL1.out; omega)).mono ?_
    rintro e w4 ⟨v4, rfl, h4⟩
    have H4 := Lib.hid h4
    have hS2 := HeB.of H4.out
    have S3 := hS2
    clear h4
    refine ⟨_, rfl, hS2, ?_⟩
    simp only [List.getElem_toArray, List.getElem_cons_succ, List.getElem_cons_zero, Act.put, List.setIfInBounds_toArray, List.set_cons_zero, List.set_cons_succ]
    refine hd_take (v := ?_) 13 rfl (by kernel_rfl) (fun _ _ d _ _ h => (by cases d <;> exact h)) (by kernel_rfl) S3 (fun w' hS => ?_) ?_
    rotate_left
    focus (clear hS; go_simp; try rfl; done)
    simp only [List.getElem_toArray, List.getElem_cons_succ, List.getElem_cons_zero, Act.put, List.setIfInBounds_toArray, List.set_cons_zero, List.set_cons_succ]
    refine hd_done (by kernel_rfl) ?_
    go_wp2_with fail
    go_ret
    exact ⟨_, rfl, by rw [HV.out]; exact H4.out.keepL⟩
  have t3 : (t.alg == (3 : Int)) = false := beq_f a3
  have a4 : 4 ≤ t.alg ∧ t.alg ≤ 7 := by have := HT.out.a0; have := HT.out.a1; omega
  have HV : Hid ((⟨wkK t, wkS t, takenA t t.msg (t.msg + n)⟩ : Rn) = ⟨3, 200, fullR (rateA t.alg) t.msg n⟩) := Lib.hid (by unfold wkK wkS takenA fullR; rw [if_neg a3, if_neg a3, if_neg a3, if_pos a4.1, if_pos a4.1, if_pos a4.1])
  have hr4 : rateA t.alg = 64 ∨ rateA t.alg = 128 ∨ rateA t.alg = 168 ∨ rateA t.alg = 136 := by have := rateA_two t.alg; omega
  have HR4 := Lib.hid hr4
  clear a2 a3 a4 hr4
  go_enter Tryz.func52, Tryz.ntmps52
  go_wp2_with fail
  refine (rsize_any t.alg _).mono ?_
  rintro e wz ⟨rfl, rfl⟩
  rw [HZ.out]
  go_upto_region 5 with fail
  have hwb := HWB.out
  unfold heCells at hwb
  obtain ⟨hW, hB⟩ := hwb
  try rw [hW]
  try rw [hB]
  try simp only [hB]
  clear hW hB
  refine hd_start (HeB B t) (by kernel_rfl) ?_
  intro w2 hw'
  have H2 := Lib.hid (H1.out.draw 1)
  rw [← hw'] at H2
  clear hw' H1
  have S2 := HeB.of H2.out
  refine hd_take (v := ?_) 0 rfl (by kernel_rfl) (fun _ _ d _ _ h => (by cases d <;> exact h)) (by kernel_rfl) S2 (fun w' hS => ?_) ?_
  rotate_left
  focus (have q0 := HeB.g0 w' hS; have q1 := HeB.g1 w' hS; have q2 := HeB.g2 w' hS; have q3 := HeB.g3 w' hS; have q4 := HeB.g4 w' hS; clear hS; go_simp; try rfl; done)
  simp only [List.getElem_toArray, List.getElem_cons_succ, List.getElem_cons_zero, Act.put, List.setIfInBounds_toArray, List.set_cons_zero, List.set_cons_succ]
  refine hd_take (v := ?_) 1 rfl (by kernel_rfl) (fun _ _ d _ _ h => (by cases d <;> exact h)) (by kernel_rfl) S2 (fun w' hS => ?_) ?_
  rotate_left
  focus (have q0 := HeB.g0 w' hS; have q1 := HeB.g1 w' hS; have q2 := HeB.g2 w' hS; have q3 := HeB.g3 w' hS; have q4 := HeB.g4 w' hS; clear hS; go_simp; try rfl; done)
  simp only [List.getElem_toArray, List.getElem_cons_succ, List.getElem_cons_zero, Act.put, List.setIfInBounds_toArray, List.set_cons_zero, List.set_cons_succ]
  refine hd_take (v := ?_) 2 rfl (by kernel_rfl) (fun _ _ d _ _ h => (by cases d <;> exact h)) (by kernel_rfl) S2 (fun w' hS => ?_) ?_
  rotate_left
  focus (have q0 := HeB.g0 w' hS; have q1 := HeB.g1 w' hS; have q2 := HeB.g2 w' hS; have q3 := HeB.g3 w' hS; have q4 := HeB.g4 w' hS; clear hS; go_simp; try rfl; done)
  simp only [List.getElem_toArray, List.getElem_cons_succ, List.getElem_cons_zero, Act.put, List.setIfInBounds_toArray, List.set_cons_zero, List.set_cons_succ]
  refine hd_take (v := ?_) 4 rfl (by kernel_rfl) (fun _ _ d _ _ h => (by cases d <;> exact h)) (by kernel_rfl) S2 (fun w' hS => ?_) ?_
  rotate_left
  focus (have q0 := HeB.g0 w' hS; have q1 := HeB.g1 w' hS; have q2 := HeB.g2 w' hS; have q3 := HeB.g3 w' hS; have q4 := HeB.g4 w' hS; clear hS; go_simp; try rfl; done)
  simp only [List.getElem_toArray, List.getElem_cons_succ, List.getElem_cons_zero, Act.put, List.setIfInBounds_toArray, List.set_cons_zero, List.set_cons_succ]
  refine hd_take (v := ?_) 5 rfl (by kernel_rfl) (fun _ _ d _ _ h => (by cases d <;> exact h)) (by kernel_rfl) S2 (fun w' hS => ?_) ?_
  rotate_left
  focus (have q0 := HeB.g0 w' hS; have q1 := HeB.g1 w' hS; have q2 := HeB.g2 w' hS; have q3 := HeB.g3 w' hS; have q4 := HeB.g4 w' hS; clear hS; go_simp; try rfl; done)
  simp only [List.getElem_toArray, List.getElem_cons_succ, List.getElem_cons_zero, Act.put, List.setIfInBounds_toArray, List.set_cons_zero, List.set_cons_succ]
  refine hd_take (v := ?_) 6 rfl (by kernel_rfl) (fun _ _ d _ _ h => (by cases d <;> exact h)) (by kernel_rfl) S2 (fun w' hS => ?_) ?_
  rotate_left
  focus (have q0 := HeB.g0 w' hS; have q1 := HeB.g1 w' hS; have q2 := HeB.g2 w' hS; have q3 := HeB.g3 w' hS; have q4 := HeB.g4 w' hS; clear hS; go_simp; try rfl; done)
  simp only [List.getElem_toArray, List.getElem_cons_succ, List.getElem_cons_zero, Act.put, List.setIfInBounds_toArray, List.set_cons_zero, List.set_cons_succ]
  refine hd_one 3 (by kernel_rfl) ?_
  refine op_call rfl (by kernel_rfl) (by go_simp; first | exact ⟨rfl, rfl⟩ | rfl) ?_
  refine (rrate_any t.alg w2).mono ?_
  rintro e wx ⟨he, hw⟩
  subst he
  subst hw
  have hS2 := S2
  refine ⟨_, rfl, hS2, ?_⟩
  simp only [List.getElem_toArray, List.getElem_cons_succ, List.getElem_cons_zero, Act.put, List.setIfInBounds_toArray, List.set_cons_zero, List.set_cons_succ]
  refine hd_one 7 (by kernel_rfl) ?_
  refine op_call rfl (by kernel_rfl) (by go_simp; first | exact ⟨rfl, rfl⟩ | rfl) ?_
  refine (rfull_any (rateA t.alg) t.msg n HR4.out HT.out.m0 (by have := HT.out.m1; omega) HNN.out.1 (by have := HNN.out.2; omega) w2).mono ?_
  rintro e w3 ⟨rfl, hb⟩
  have H3 := Lib.hid (H2.out.below hb)
  have hS2 := HeB.of H3.out
  clear hb
  refine ⟨_, rfl, hS2, ?_⟩
  simp only [List.getElem_toArray, List.getElem_cons_succ, List.getElem_cons_zero, Act.put, List.setIfInBounds_toArray, List.set_cons_zero, List.set_cons_succ]
  refine hd_one 8 (by kernel_rfl) ?_
  refine op_call rfl (by kernel_rfl) (by go_simp; first | exact ⟨rfl, rfl⟩ | rfl) ?_
  refine (rput_box H3.out i HI.out 3 200 (fullR (rateA t.alg) t.msg n) (by have := HOK.out.len; omega) HOK.out.b (by have := fullR_rng HR4.out HT.out.m0 HNN.out.1; have := HNN.out.2; omega)).mono ?_
  rintro e w4 ⟨v4, rfl, h4⟩
  have H4 := Lib.hid h4
  have hS2 := HeB.of H4.out
  have S3 := hS2
  clear h4
  refine ⟨_, rfl, hS2, ?_⟩
  simp only [List.getElem_toArray, List.getElem_cons_succ, List.getElem_cons_zero, Act.put, List.setIfInBounds_toArray, List.set_cons_zero, List.set_cons_succ]
  refine hd_take (v := ?_) 9 rfl (by kernel_rfl) (fun _ _ d _ _ h => (by cases d <;> exact h)) (by kernel_rfl) S3 (fun w' hS => ?_) ?_
  rotate_left
  focus (clear hS; go_simp; try rfl; done)
  simp only [List.getElem_toArray, List.getElem_cons_succ, List.getElem_cons_zero, Act.put, List.setIfInBounds_toArray, List.set_cons_zero, List.set_cons_succ]
  refine hd_done (by kernel_rfl) ?_
  go_wp2_with fail
  go_ret
  exact ⟨_, rfl, by rw [HV.out]; exact H4.out.keepL⟩
set_option maxHeartbeats 8000000 in
theorem rsummed_env (h : Env w0 w obs) (i : Nat) {v : Value} {rs : List Rn} (hi : obs[i]? = some (obRuns v rs)) (hok : OKr rs 4) (t : Th) (ht : OKse t) :
    Calls Tryz.prog 53 #[v, heV t] w fun e w' => ∃ v', e = .returned v' ∧ Env w0 w' (obs.set i (obRuns v' (timesN rs ⟨wkK t, wkS t, summedA t⟩))) := by
  have H := Lib.hid h
  have HI := Lib.hid hi
  have HOK := Lib.hid hok
  have HT := Lib.hid ht
  have h1 := h.newK 54 (heCells t)
  clear h hi hok ht
  obtain ⟨W, hW⟩ : ∃ y, w.alloc (.cells (heCells t) 54) = y := ⟨_, rfl⟩
  obtain ⟨B, hB⟩ : ∃ y, w.heap.size = y := ⟨_, rfl⟩
  rw [hW, hB] at h1
  have H1 := Lib.hid h1
  have HWB := Lib.hid (And.intro hW hB)
  clear h1 hW hB
  unfold heV
  by_cases a2 : t.alg = 1 ∨ t.alg = 2
  · have HA := Lib.hid a2
    have hz : hashA t.alg = 32 ∨ hashA t.alg = 64 := hashA_alg a2
    obtain ⟨z, hze⟩ : ∃ z, hashA t.alg = z := ⟨_, rfl⟩
    rw [hze] at hz
    have tz : decide (0 < z) = true := decide_eq_true (by omega)
    have HZ := Lib.hid hze
    have HV : Hid ((⟨wkK t, wkS t, summedA t⟩ : Rn) = ⟨evkA t.alg, wideA t.alg, taggedR t.alg t.msg⟩) := Lib.hid (by unfold wkK wkS summedA; rw [if_neg (by omega), if_neg (by omega), if_neg (by omega), if_neg (by omega), if_neg (by omega), if_neg (by omega), taggedR_is a2 HT.out.m0])
    have HBW := Lib.hid (bA_wide a2)
    clear a2 hz hze
    go_enter Tryz.func53, Tryz.ntmps53
    go_wp2_with fail
    refine (rsize_any t.alg _).mono ?_
    rintro e wz ⟨rfl, rfl⟩
    rw [HZ.out]
    go_upto_region 2 with fail
    have hwb := HWB.out
    unfold heCells at hwb
    obtain ⟨hW, hB⟩ := hwb
    try rw [hW]
    try rw [hB]
    try simp only [hB]
    clear hW hB
    refine hd_start (HeB B t) (by kernel_rfl) ?_
    intro w2 hw'
    have H2 := Lib.hid (H1.out.draw 1)
    rw [← hw'] at H2
    clear hw' H1
    have S2 := HeB.of H2.out
    refine hd_take (v := ?_) 0 rfl (by kernel_rfl) (fun _ _ d _ _ h => (by cases d <;> exact h)) (by kernel_rfl) S2 (fun w' hS => ?_) ?_
    rotate_left
    focus (have q0 := HeB.g0 w' hS; have q1 := HeB.g1 w' hS; have q2 := HeB.g2 w' hS; have q3 := HeB.g3 w' hS; have q4 := HeB.g4 w' hS; clear hS; go_simp; try rfl; done)
    simp only [List.getElem_toArray, List.getElem_cons_succ, List.getElem_cons_zero, Act.put, List.setIfInBounds_toArray, List.set_cons_zero, List.set_cons_succ]
    refine hd_take (v := ?_) 1 rfl (by kernel_rfl) (fun _ _ d _ _ h => (by cases d <;> exact h)) (by kernel_rfl) S2 (fun w' hS => ?_) ?_
    rotate_left
    focus (have q0 := HeB.g0 w' hS; have q1 := HeB.g1 w' hS; have q2 := HeB.g2 w' hS; have q3 := HeB.g3 w' hS; have q4 := HeB.g4 w' hS; clear hS; go_simp; try rfl; done)
    simp only [List.getElem_toArray, List.getElem_cons_succ, List.getElem_cons_zero, Act.put, List.setIfInBounds_toArray, List.set_cons_zero, List.set_cons_succ]
    refine hd_take (v := ?_) 2 rfl (by kernel_rfl) (fun _ _ d _ _ h => (by cases d <;> exact h)) (by kernel_rfl) S2 (fun w' hS => ?_) ?_
    rotate_left
    focus (have q0 := HeB.g0 w' hS; have q1 := HeB.g1 w' hS; have q2 := HeB.g2 w' hS; have q3 := HeB.g3 w' hS; have q4 := HeB.g4 w' hS; clear hS; go_simp; try rfl; done)
    simp only [List.getElem_toArray, List.getElem_cons_succ, List.getElem_cons_zero, Act.put, List.setIfInBounds_toArray, List.set_cons_zero, List.set_cons_succ]
    refine hd_take (v := ?_) 4 rfl (by kernel_rfl) (fun _ _ d _ _ h => (by cases d <;> exact h)) (by kernel_rfl) S2 (fun w' hS => ?_) ?_
    rotate_left
    focus (have q0 := HeB.g0 w' hS; have q1 := HeB.g1 w' hS; have q2 := HeB.g2 w' hS; have q3 := HeB.g3 w' hS; have q4 := HeB.g4 w' hS; clear hS; go_simp; try rfl; done)
    simp only [List.getElem_toArray, List.getElem_cons_succ, List.getElem_cons_zero, Act.put, List.setIfInBounds_toArray, List.set_cons_zero, List.set_cons_succ]
    refine hd_take (v := ?_) 5 rfl (by kernel_rfl) (fun _ _ d _ _ h => (by cases d <;> exact h)) (by kernel_rfl) S2 (fun w' hS => ?_) ?_
    rotate_left
    focus (have q0 := HeB.g0 w' hS; have q1 := HeB.g1 w' hS; have q2 := HeB.g2 w' hS; have q3 := HeB.g3 w' hS; have q4 := HeB.g4 w' hS; clear hS; go_simp; try rfl; done)
    simp only [List.getElem_toArray, List.getElem_cons_succ, List.getElem_cons_zero, Act.put, List.setIfInBounds_toArray, List.set_cons_zero, List.set_cons_succ]
    refine hd_take (v := ?_) 7 rfl (by kernel_rfl) (fun _ _ d _ _ h => (by cases d <;> exact h)) (by kernel_rfl) S2 (fun w' hS => ?_) ?_
    rotate_left
    focus (have q0 := HeB.g0 w' hS; have q1 := HeB.g1 w' hS; have q2 := HeB.g2 w' hS; have q3 := HeB.g3 w' hS; have q4 := HeB.g4 w' hS; clear hS; go_simp; try rfl; done)
    simp only [List.getElem_toArray, List.getElem_cons_succ, List.getElem_cons_zero, Act.put, List.setIfInBounds_toArray, List.set_cons_zero, List.set_cons_succ]
    refine hd_take (v := ?_) 8 rfl (by kernel_rfl) (fun _ _ d _ _ h => (by cases d <;> exact h)) (by kernel_rfl) S2 (fun w' hS => ?_) ?_
    rotate_left
    focus (have q0 := HeB.g0 w' hS; have q1 := HeB.g1 w' hS; have q2 := HeB.g2 w' hS; have q3 := HeB.g3 w' hS; have q4 := HeB.g4 w' hS; clear hS; go_simp; try rfl; done)
    simp only [List.getElem_toArray, List.getElem_cons_succ, List.getElem_cons_zero, Act.put, List.setIfInBounds_toArray, List.set_cons_zero, List.set_cons_succ]
    refine hd_take (v := ?_) 9 rfl (by kernel_rfl) (fun _ _ d _ _ h => (by cases d <;> exact h)) (by kernel_rfl) S2 (fun w' hS => ?_) ?_
    rotate_left
    focus (have q0 := HeB.g0 w' hS; have q1 := HeB.g1 w' hS; have q2 := HeB.g2 w' hS; have q3 := HeB.g3 w' hS; have q4 := HeB.g4 w' hS; clear hS; go_simp; try rfl; done)
    simp only [List.getElem_toArray, List.getElem_cons_succ, List.getElem_cons_zero, Act.put, List.setIfInBounds_toArray, List.set_cons_zero, List.set_cons_succ]
    refine hd_take (v := ?_) 10 rfl (by kernel_rfl) (fun _ _ d _ _ h => (by cases d <;> exact h)) (by kernel_rfl) S2 (fun w' hS => ?_) ?_
    rotate_left
    focus (have q0 := HeB.g0 w' hS; have q1 := HeB.g1 w' hS; have q2 := HeB.g2 w' hS; have q3 := HeB.g3 w' hS; have q4 := HeB.g4 w' hS; clear hS; go_simp; try rfl; done)
    simp only [List.getElem_toArray, List.getElem_cons_succ, List.getElem_cons_zero, Act.put, List.setIfInBounds_toArray, List.set_cons_zero, List.set_cons_succ]
    refine hd_one 3 (by kernel_rfl) ?_
    refine op_call rfl (by kernel_rfl) (by go_simp; first | exact ⟨rfl, rfl⟩ | rfl) ?_
    refine (revent_any t.alg HA.out w2).mono ?_
    rintro e wx ⟨he, hw⟩
    subst he
    subst hw
    have hS2 := S2
    refine ⟨_, rfl, hS2, ?_⟩
    simp only [List.getElem_toArray, List.getElem_cons_succ, List.getElem_cons_zero, Act.put, List.setIfInBounds_toArray, List.set_cons_zero, List.set_cons_succ]
    refine hd_one 6 (by kernel_rfl) ?_
    refine op_call rfl (by kernel_rfl) (by go_simp; first | exact ⟨rfl, rfl⟩ | rfl) ?_
    refine (rblock_any t.alg w2).mono ?_
    rintro e wx ⟨he, hw⟩
    rw [HBW.out] at he
    subst he
    subst hw
    have hS2 := S2
    refine ⟨_, rfl, hS2, ?_⟩
    simp only [List.getElem_toArray, List.getElem_cons_succ, List.getElem_cons_zero, Act.put, List.setIfInBounds_toArray, List.set_cons_zero, List.set_cons_succ]
    refine hd_one 11 (by kernel_rfl) ?_
    refine op_call rfl (by kernel_rfl) (by go_simp; first | exact ⟨rfl, rfl⟩ | rfl) ?_
    refine (rtagged_any t.alg t.msg HA.out HT.out.m0 (by have := HT.out.m1; omega) w2).mono ?_
    rintro e wx ⟨he, hw⟩
    subst he
    subst hw
    have hS2 := S2
    refine ⟨_, rfl, hS2, ?_⟩
    simp only [List.getElem_toArray, List.getElem_cons_succ, List.getElem_cons_zero, Act.put, List.setIfInBounds_toArray, List.set_cons_zero, List.set_cons_succ]
    refine hd_one 12 (by kernel_rfl) ?_
    refine op_call rfl (by kernel_rfl) (by go_simp; first | exact ⟨rfl, rfl⟩ | rfl) ?_
    refine (rput_box H2.out i HI.out (evkA t.alg) (wideA t.alg) (taggedR t.alg t.msg) (by have := HOK.out.len; omega) HOK.out.b (by have h8 := lastR_rng t.alg (bA t.alg + t.msg); have h9 := lastR_rng t.alg (bA t.alg + hashA t.alg); show lastR t.alg (bA t.alg + t.msg) + lastR t.alg (bA t.alg + hashA t.alg) ≤ _; omega)).mono ?_
    rintro e w4 ⟨v4, rfl, h4⟩
    have H4 := Lib.hid h4
    have hS2 := HeB.of H4.out
    have S3 := hS2
    clear h4
    refine ⟨_, rfl, hS2, ?_⟩
    simp only [List.getElem_toArray, List.getElem_cons_succ, List.getElem_cons_zero, Act.put, List.setIfInBounds_toArray, List.set_cons_zero, List.set_cons_succ]
    refine hd_take (v := ?_) 13 rfl (by kernel_rfl) (fun _ _ d _ _ h => (by cases d <;> exact h)) (by kernel_rfl) S3 (fun w' hS => ?_) ?_
    rotate_left
    focus (clear hS; go_simp; try rfl; done)
    simp only [List.getElem_toArray, List.getElem_cons_succ, List.getElem_cons_zero, Act.put, List.setIfInBounds_toArray, List.set_cons_zero, List.set_cons_succ]
    refine hd_done (by kernel_rfl) ?_
    go_wp2_with fail
    go_ret
    exact ⟨_, rfl, by rw [HV.out]; exact H4.out.keepL⟩
  have hz0 : hashA t.alg = 0 := by unfold hashA; rw [if_neg (fun e => a2 (.inl e)), if_neg (fun e => a2 (.inr e))]
  have HZ := Lib.hid hz0
  clear hz0
  by_cases a3 : t.alg = 3
  · have t3 : (t.alg == (3 : Int)) = true := beq_t a3
    have HV : Hid ((⟨wkK t, wkS t, summedA t⟩ : Rn) = ⟨5, t.key, 1⟩) := Lib.hid (by unfold wkK wkS summedA; rw [if_pos a3, if_pos a3, if_pos a3])
    clear a2 a3
    go_enter Tryz.func53, Tryz.ntmps53
    go_wp2_with fail
    refine (rsize_any t.alg _).mono ?_
    rintro e wz ⟨rfl, rfl⟩
    rw [HZ.out]
    go_upto_region 4 with fail
    have hwb := HWB.out
    unfold heCells at hwb
    obtain ⟨hW, hB⟩ := hwb
    try rw [hW]
    try rw [hB]
    try simp only [hB]
    clear hW hB
    have SB := HeB.of H1.out
    have s0 := SB.c0
    have s1 := SB.c1
    have s2 := SB.c2
    go_wp2_with fail
    refine (rput_box H1.out i HI.out 5 t.key 1 (by have := HOK.out.len; omega) HOK.out.b (by omega)).mono ?_
    rintro e w4 ⟨v4, rfl, h4⟩
    have H4 := Lib.hid h4
    clear h4 SB s0 s1 s2
    go_wp2_with fail
    go_ret
    exact ⟨_, rfl, by rw [HV.out]; exact H4.out.keepL⟩
  have t3 : (t.alg == (3 : Int)) = false := beq_f a3
  have a4 : 4 ≤ t.alg ∧ t.alg ≤ 7 := by have := HT.out.a0; have := HT.out.a1; omega
  obtain ⟨c, hc⟩ : ∃ c : Int, endA t = c := ⟨_, rfl⟩
  have hc2 : 2 ≤ c ∧ c ≤ 3 := by rw [← hc]; exact endA_rng t
  have hr4 : rateA t.alg = 64 ∨ rateA t.alg = 128 ∨ rateA t.alg = 168 ∨ rateA t.alg = 136 := by have := rateA_two t.alg; omega
  have hv0 : (⟨wkK t, wkS t, summedA t⟩ : Rn) = ⟨3, 200, fullR (rateA t.alg) t.msg c + 1⟩ := by
    unfold wkK wkS summedA takenA fullR
    rw [if_neg a3, if_neg a3, if_neg a3, if_neg a3, if_pos a4.1, if_pos a4.1, if_pos a4.1, if_pos a4.1, hc]
  have HV := Lib.hid hv0
  have hf := fullR_rng (b := rateA t.alg) (n := t.msg) (m := c) hr4 HT.out.m0 (by omega)
  obtain ⟨f, hfe⟩ : ∃ f, fullR (rateA t.alg) t.msg c = f := ⟨_, rfl⟩
  rw [hfe] at hf
  have wf : IntKind.i64.wrap (f + 1) = f + 1 := IntWalk.i64_in _ (by omega)
  have ho1 := HT.out.o1
  have ho0 := HT.out.o0
  have wo : IntKind.i64.wrap (8 * t.out) = 8 * t.out := IntWalk.i64_in _ (by omega)
  have hx : (xofR t.alg = true ∧ c = 2) ∨ (xofR t.alg = false ∧ (if 256 ≤ 8 * t.out then (3 : Int) else 2) = c) := by
    rw [← hc]
    unfold xofR endA
    by_cases e6 : t.alg = 6
    · left; rw [if_pos e6]; exact ⟨rfl, if_neg (by omega)⟩
    by_cases e7 : t.alg = 7
    · left; rw [if_neg e6, if_pos e7]; exact ⟨rfl, if_neg (by omega)⟩
    · right
      rw [if_neg e6, if_neg e7]
      refine ⟨rfl, ?_⟩
      by_cases e : 32 ≤ t.out
      · rw [if_pos (by omega), if_pos ⟨by omega, e⟩]
      · rw [if_neg (by omega), if_neg (fun h => e h.2)]
  have HR4 := Lib.hid hr4
  have HF := Lib.hid (And.intro hfe (And.intro hf hc2))
  have HX := Lib.hid hx
  clear a2 a3 a4 hr4 hc hv0 hfe hf ho1 ho0 hx
  go_enter Tryz.func53, Tryz.ntmps53
  go_wp2_with fail
  refine (rsize_any t.alg _).mono ?_
  rintro e wz ⟨rfl, rfl⟩
  rw [HZ.out]
  go_upto_region 5 with fail
  have hwb := HWB.out
  unfold heCells at hwb
  obtain ⟨hW, hB⟩ := hwb
  try rw [hW]
  try rw [hB]
  try simp only [hB]
  clear hW hB
  have SB := HeB.of H1.out
  have s0 := SB.c0
  have s1 := SB.c1
  have s2 := SB.c2
  go_wp2_with fail
  refine (rnumber_any (8 * t.out) W (by have := HT.out.o0; omega) (by have := HT.out.o1; omega)).mono ?_
  rintro e wz ⟨rfl, rfl⟩
  obtain ⟨c0, hc0⟩ : ∃ c : Int, (if 256 ≤ 8 * t.out then 3 else 2) = c := ⟨_, rfl⟩
  rw [hc0]
  have HC0 := Lib.hid hc0
  clear hc0
  go_wp2_with fail
  refine (rxof_any t.alg W).mono ?_
  rintro e wz ⟨rfl, rfl⟩
  rcases HX.out with ⟨x1, x2⟩ | ⟨x1, x2⟩
  · rw [x1]
    have HX2 := Lib.hid x2
    clear x1 x2
    go_wp2_with fail
    refine (rnumber_any 0 W (by omega) (by omega)).mono ?_
    rintro e wz ⟨rfl, rfl⟩
    rw [if_neg (by omega), ← HX2.out]
    go_upto_region 8 with fail
    clear SB s0 s1 s2
    refine hd_start (HeB B t) (by kernel_rfl) ?_
    intro w2 hw'
    have H2 := Lib.hid (H1.out.draw 1)
    rw [← hw'] at H2
    clear hw' H1
    have S2 := HeB.of H2.out
    refine hd_take (v := ?_) 0 rfl (by kernel_rfl) (fun _ _ d _ _ h => (by cases d <;> exact h)) (by kernel_rfl) S2 (fun w' hS => ?_) ?_
    rotate_left
    focus (have q0 := HeB.g0 w' hS; have q1 := HeB.g1 w' hS; have q2 := HeB.g2 w' hS; have q3 := HeB.g3 w' hS; have q4 := HeB.g4 w' hS; clear hS; go_simp; try rfl; done)
    simp only [List.getElem_toArray, List.getElem_cons_succ, List.getElem_cons_zero, Act.put, List.setIfInBounds_toArray, List.set_cons_zero, List.set_cons_succ]
    refine hd_take (v := ?_) 1 rfl (by kernel_rfl) (fun _ _ d _ _ h => (by cases d <;> exact h)) (by kernel_rfl) S2 (fun w' hS => ?_) ?_
    rotate_left
    focus (have q0 := HeB.g0 w' hS; have q1 := HeB.g1 w' hS; have q2 := HeB.g2 w' hS; have q3 := HeB.g3 w' hS; have q4 := HeB.g4 w' hS; clear hS; go_simp; try rfl; done)
    simp only [List.getElem_toArray, List.getElem_cons_succ, List.getElem_cons_zero, Act.put, List.setIfInBounds_toArray, List.set_cons_zero, List.set_cons_succ]
    refine hd_take (v := ?_) 2 rfl (by kernel_rfl) (fun _ _ d _ _ h => (by cases d <;> exact h)) (by kernel_rfl) S2 (fun w' hS => ?_) ?_
    rotate_left
    focus (have q0 := HeB.g0 w' hS; have q1 := HeB.g1 w' hS; have q2 := HeB.g2 w' hS; have q3 := HeB.g3 w' hS; have q4 := HeB.g4 w' hS; clear hS; go_simp; try rfl; done)
    simp only [List.getElem_toArray, List.getElem_cons_succ, List.getElem_cons_zero, Act.put, List.setIfInBounds_toArray, List.set_cons_zero, List.set_cons_succ]
    refine hd_take (v := ?_) 4 rfl (by kernel_rfl) (fun _ _ d _ _ h => (by cases d <;> exact h)) (by kernel_rfl) S2 (fun w' hS => ?_) ?_
    rotate_left
    focus (have q0 := HeB.g0 w' hS; have q1 := HeB.g1 w' hS; have q2 := HeB.g2 w' hS; have q3 := HeB.g3 w' hS; have q4 := HeB.g4 w' hS; clear hS; go_simp; try rfl; done)
    simp only [List.getElem_toArray, List.getElem_cons_succ, List.getElem_cons_zero, Act.put, List.setIfInBounds_toArray, List.set_cons_zero, List.set_cons_succ]
    refine hd_take (v := ?_) 5 rfl (by kernel_rfl) (fun _ _ d _ _ h => (by cases d <;> exact h)) (by kernel_rfl) S2 (fun w' hS => ?_) ?_
    rotate_left
    focus (have q0 := HeB.g0 w' hS; have q1 := HeB.g1 w' hS; have q2 := HeB.g2 w' hS; have q3 := HeB.g3 w' hS; have q4 := HeB.g4 w' hS; clear hS; go_simp; try rfl; done)
    simp only [List.getElem_toArray, List.getElem_cons_succ, List.getElem_cons_zero, Act.put, List.setIfInBounds_toArray, List.set_cons_zero, List.set_cons_succ]
    refine hd_take (v := ?_) 6 rfl (by kernel_rfl) (fun _ _ d _ _ h => (by cases d <;> exact h)) (by kernel_rfl) S2 (fun w' hS => ?_) ?_
    rotate_left
    focus (have q0 := HeB.g0 w' hS; have q1 := HeB.g1 w' hS; have q2 := HeB.g2 w' hS; have q3 := HeB.g3 w' hS; have q4 := HeB.g4 w' hS; clear hS; go_simp; try rfl; done)
    simp only [List.getElem_toArray, List.getElem_cons_succ, List.getElem_cons_zero, Act.put, List.setIfInBounds_toArray, List.set_cons_zero, List.set_cons_succ]
    refine hd_one 3 (by kernel_rfl) ?_
    refine op_call rfl (by kernel_rfl) (by go_simp; first | exact ⟨rfl, rfl⟩ | rfl) ?_
    refine (rrate_any t.alg w2).mono ?_
    rintro e wx ⟨he, hw⟩
    subst he
    subst hw
    have hS2 := S2
    refine ⟨_, rfl, hS2, ?_⟩
    simp only [List.getElem_toArray, List.getElem_cons_succ, List.getElem_cons_zero, Act.put, List.setIfInBounds_toArray, List.set_cons_zero, List.set_cons_succ]
    refine hd_one 7 (by kernel_rfl) ?_
    refine op_call rfl (by kernel_rfl) (by go_simp; first | exact ⟨rfl, rfl⟩ | rfl) ?_
    refine (rfull_any (rateA t.alg) t.msg c HR4.out HT.out.m0 (by have := HT.out.m1; omega) (by have := HF.out.2.2; omega) (by have := HF.out.2.2; omega) w2).mono ?_
    rintro e w3 ⟨he, hb⟩
    rw [HF.out.1] at he
    subst he
    have H3 := Lib.hid (H2.out.below hb)
    have hS2 := HeB.of H3.out
    have S3a := hS2
    clear hb
    refine ⟨_, rfl, hS2, ?_⟩
    simp only [List.getElem_toArray, List.getElem_cons_succ, List.getElem_cons_zero, Act.put, List.setIfInBounds_toArray, List.set_cons_zero, List.set_cons_succ]
    refine hd_take (v := ?_) 8 rfl (by kernel_rfl) (fun _ _ d _ _ h => (by cases d <;> exact h)) (by kernel_rfl) S3a (fun w' hS => ?_) ?_
    rotate_left
    focus (clear hS; go_simp; try rfl; done)
    simp only [List.getElem_toArray, List.getElem_cons_succ, List.getElem_cons_zero, Act.put, List.setIfInBounds_toArray, List.set_cons_zero, List.set_cons_succ]
    refine hd_one 9 (by kernel_rfl) ?_
    refine op_call rfl (by kernel_rfl) (by go_simp; first | exact ⟨rfl, rfl⟩ | rfl) ?_
    refine (rput_box H3.out i HI.out 3 200 (f + 1) (by have := HOK.out.len; omega) HOK.out.b (by have := HF.out.2.1; have := HF.out.2.2; omega)).mono ?_
    rintro e w4 ⟨v4, rfl, h4⟩
    have H4 := Lib.hid h4
    have hS2 := HeB.of H4.out
    have S3 := hS2
    clear h4
    refine ⟨_, rfl, hS2, ?_⟩
    simp only [List.getElem_toArray, List.getElem_cons_succ, List.getElem_cons_zero, Act.put, List.setIfInBounds_toArray, List.set_cons_zero, List.set_cons_succ]
    refine hd_take (v := ?_) 10 rfl (by kernel_rfl) (fun _ _ d _ _ h => (by cases d <;> exact h)) (by kernel_rfl) S3 (fun w' hS => ?_) ?_
    rotate_left
    focus (clear hS; go_simp; try rfl; done)
    simp only [List.getElem_toArray, List.getElem_cons_succ, List.getElem_cons_zero, Act.put, List.setIfInBounds_toArray, List.set_cons_zero, List.set_cons_succ]
    refine hd_done (by kernel_rfl) ?_
    go_wp2_with fail
    go_ret
    exact ⟨_, rfl, by rw [HV.out, HF.out.1]; exact H4.out.keepL⟩
  · rw [x1]
    have HX2 : Hid (c0 = c) := Lib.hid (HC0.out.symm.trans x2)
    rw [HX2.out]
    clear x1 x2
    go_upto_region 8 with fail
    clear SB s0 s1 s2
    refine hd_start (HeB B t) (by kernel_rfl) ?_
    intro w2 hw'
    have H2 := Lib.hid (H1.out.draw 1)
    rw [← hw'] at H2
    clear hw' H1
    have S2 := HeB.of H2.out
    refine hd_take (v := ?_) 0 rfl (by kernel_rfl) (fun _ _ d _ _ h => (by cases d <;> exact h)) (by kernel_rfl) S2 (fun w' hS => ?_) ?_
    rotate_left
    focus (have q0 := HeB.g0 w' hS; have q1 := HeB.g1 w' hS; have q2 := HeB.g2 w' hS; have q3 := HeB.g3 w' hS; have q4 := HeB.g4 w' hS; clear hS; go_simp; try rfl; done)
    simp only [List.getElem_toArray, List.getElem_cons_succ, List.getElem_cons_zero, Act.put, List.setIfInBounds_toArray, List.set_cons_zero, List.set_cons_succ]
    refine hd_take (v := ?_) 1 rfl (by kernel_rfl) (fun _ _ d _ _ h => (by cases d <;> exact h)) (by kernel_rfl) S2 (fun w' hS => ?_) ?_
    rotate_left
    focus (have q0 := HeB.g0 w' hS; have q1 := HeB.g1 w' hS; have q2 := HeB.g2 w' hS; have q3 := HeB.g3 w' hS; have q4 := HeB.g4 w' hS; clear hS; go_simp; try rfl; done)
    simp only [List.getElem_toArray, List.getElem_cons_succ, List.getElem_cons_zero, Act.put, List.setIfInBounds_toArray, List.set_cons_zero, List.set_cons_succ]
    refine hd_take (v := ?_) 2 rfl (by kernel_rfl) (fun _ _ d _ _ h => (by cases d <;> exact h)) (by kernel_rfl) S2 (fun w' hS => ?_) ?_
    rotate_left
    focus (have q0 := HeB.g0 w' hS; have q1 := HeB.g1 w' hS; have q2 := HeB.g2 w' hS; have q3 := HeB.g3 w' hS; have q4 := HeB.g4 w' hS; clear hS; go_simp; try rfl; done)
    simp only [List.getElem_toArray, List.getElem_cons_succ, List.getElem_cons_zero, Act.put, List.setIfInBounds_toArray, List.set_cons_zero, List.set_cons_succ]
    refine hd_take (v := ?_) 4 rfl (by kernel_rfl) (fun _ _ d _ _ h => (by cases d <;> exact h)) (by kernel_rfl) S2 (fun w' hS => ?_) ?_
    rotate_left
    focus (have q0 := HeB.g0 w' hS; have q1 := HeB.g1 w' hS; have q2 := HeB.g2 w' hS; have q3 := HeB.g3 w' hS; have q4 := HeB.g4 w' hS; clear hS; go_simp; try rfl; done)
    simp only [List.getElem_toArray, List.getElem_cons_succ, List.getElem_cons_zero, Act.put, List.setIfInBounds_toArray, List.set_cons_zero, List.set_cons_succ]
    refine hd_take (v := ?_) 5 rfl (by kernel_rfl) (fun _ _ d _ _ h => (by cases d <;> exact h)) (by kernel_rfl) S2 (fun w' hS => ?_) ?_
    rotate_left
    focus (have q0 := HeB.g0 w' hS; have q1 := HeB.g1 w' hS; have q2 := HeB.g2 w' hS; have q3 := HeB.g3 w' hS; have q4 := HeB.g4 w' hS; clear hS; go_simp; try rfl; done)
    simp only [List.getElem_toArray, List.getElem_cons_succ, List.getElem_cons_zero, Act.put, List.setIfInBounds_toArray, List.set_cons_zero, List.set_cons_succ]
    refine hd_take (v := ?_) 6 rfl (by kernel_rfl) (fun _ _ d _ _ h => (by cases d <;> exact h)) (by kernel_rfl) S2 (fun w' hS => ?_) ?_
    rotate_left
    focus (have q0 := HeB.g0 w' hS; have q1 := HeB.g1 w' hS; have q2 := HeB.g2 w' hS; have q3 := HeB.g3 w' hS; have q4 := HeB.g4 w' hS; clear hS; go_simp; try rfl; done)
    simp only [List.getElem_toArray, List.getElem_cons_succ, List.getElem_cons_zero, Act.put, List.setIfInBounds_toArray, List.set_cons_zero, List.set_cons_succ]
    refine hd_one 3 (by kernel_rfl) ?_
    refine op_call rfl (by kernel_rfl) (by go_simp; first | exact ⟨rfl, rfl⟩ | rfl) ?_
    refine (rrate_any t.alg w2).mono ?_
    rintro e wx ⟨he, hw⟩
    subst he
    subst hw
    have hS2 := S2
    refine ⟨_, rfl, hS2, ?_⟩
    simp only [List.getElem_toArray, List.getElem_cons_succ, List.getElem_cons_zero, Act.put, List.setIfInBounds_toArray, List.set_cons_zero, List.set_cons_succ]
    refine hd_one 7 (by kernel_rfl) ?_
    refine op_call rfl (by kernel_rfl) (by go_simp; first | exact ⟨rfl, rfl⟩ | rfl) ?_
    refine (rfull_any (rateA t.alg) t.msg c HR4.out HT.out.m0 (by have := HT.out.m1; omega) (by have := HF.out.2.2; omega) (by have := HF.out.2.2; omega) w2).mono ?_
    rintro e w3 ⟨he, hb⟩
    rw [HF.out.1] at he
    subst he
    have H3 := Lib.hid (H2.out.below hb)
    have hS2 := HeB.of H3.out
    have S3a := hS2
    clear hb
    refine ⟨_, rfl, hS2, ?_⟩
    simp only [List.getElem_toArray, List.getElem_cons_succ, List.getElem_cons_zero, Act.put, List.setIfInBounds_toArray, List.set_cons_zero, List.set_cons_succ]
    refine hd_take (v := ?_) 8 rfl (by kernel_rfl) (fun _ _ d _ _ h => (by cases d <;> exact h)) (by kernel_rfl) S3a (fun w' hS => ?_) ?_
    rotate_left
    focus (clear hS; go_simp; try rfl; done)
    simp only [List.getElem_toArray, List.getElem_cons_succ, List.getElem_cons_zero, Act.put, List.setIfInBounds_toArray, List.set_cons_zero, List.set_cons_succ]
    refine hd_one 9 (by kernel_rfl) ?_
    refine op_call rfl (by kernel_rfl) (by go_simp; first | exact ⟨rfl, rfl⟩ | rfl) ?_
    refine (rput_box H3.out i HI.out 3 200 (f + 1) (by have := HOK.out.len; omega) HOK.out.b (by have := HF.out.2.1; have := HF.out.2.2; omega)).mono ?_
    rintro e w4 ⟨v4, rfl, h4⟩
    have H4 := Lib.hid h4
    have hS2 := HeB.of H4.out
    have S3 := hS2
    clear h4
    refine ⟨_, rfl, hS2, ?_⟩
    simp only [List.getElem_toArray, List.getElem_cons_succ, List.getElem_cons_zero, Act.put, List.setIfInBounds_toArray, List.set_cons_zero, List.set_cons_succ]
    refine hd_take (v := ?_) 10 rfl (by kernel_rfl) (fun _ _ d _ _ h => (by cases d <;> exact h)) (by kernel_rfl) S3 (fun w' hS => ?_) ?_
    rotate_left
    focus (clear hS; go_simp; try rfl; done)
    simp only [List.getElem_toArray, List.getElem_cons_succ, List.getElem_cons_zero, Act.put, List.setIfInBounds_toArray, List.set_cons_zero, List.set_cons_succ]
    refine hd_done (by kernel_rfl) ?_
    go_wp2_with fail
    go_ret
    exact ⟨_, rfl, by rw [HV.out, HF.out.1]; exact H4.out.keepL⟩
end
end Go.Proofs.YtkidijjhedjifaaGreat
namespace Go.Proofs.YtkidijjhedjifaaGreat
open Go.RowKit
set_option maxRecDepth 100000
set_option linter.unusedVariables false
set_option linter.unusedSimpArgs false
attribute [local go_sem] Oper.semAt_some
def Oc (obs : List Ob) (ip il P : Nat) (cs : Array Value) (v : Value) (rs : List Rn) : List Ob := (obs.set ip (obK P 57 cs)).set il (obRuns v rs)
structure OcI (obs : List Ob) (ip il : Nat) : Prop where
  p : ip < obs.length
  l : il < obs.length
  n : ip ≠ il
section
variable {w0 w w' : World} {obs X : List Ob} {ip il P : Nat} {cs cs' : Array Value} {v v' : Value} {rs rs' : List Rn} {σ : Hs}
theorem Oc_len : (Oc obs ip il P cs v rs).length = obs.length := by unfold Oc; rw [List.length_set, List.length_set]
theorem Oc_l (h : OcI obs ip il) : (Oc obs ip il P cs v rs)[il]? = some (obRuns v rs) := by unfold Oc; exact List.getElem?_set_self (by rw [List.length_set]; exact h.l)
theorem Oc_p (h : OcI obs ip il) : (Oc obs ip il P cs v rs)[ip]? = some (obK P 57 cs) := by unfold Oc; rw [List.getElem?_set_ne (Ne.symm h.n)]; exact List.getElem?_set_self h.p
theorem Oc_setl : (Oc obs ip il P cs v rs).set il (obRuns v' rs') = Oc obs ip il P cs v' rs' := by unfold Oc; rw [List.set_set]
theorem Oc_setp (h : OcI obs ip il) : (Oc obs ip il P cs v rs).set ip (obK P 57 cs') = Oc obs ip il P cs' v rs := by unfold Oc; rw [List.set_comm _ _ (Ne.symm h.n), List.set_set]
theorem Oc_il (h : OcI obs ip il) (X : List Ob) : (Oc obs ip il P cs v rs ++ X)[il]? = some (obRuns v rs) := by rw [List.getElem?_append_left (by rw [Oc_len]; exact h.l)]; exact Oc_l h
theorem Oc_ip (h : OcI obs ip il) (X : List Ob) : (Oc obs ip il P cs v rs ++ X)[ip]? = some (obK P 57 cs) := by rw [List.getElem?_append_left (by rw [Oc_len]; exact h.p)]; exact Oc_p h
theorem Oc_pl (h : OcI obs ip il) : (Oc obs ip il P cs v rs ++ X).set il (obRuns v' rs') = Oc obs ip il P cs v' rs' ++ X := by rw [List.set_append_left _ _ (by rw [Oc_len]; exact h.l), Oc_setl]
theorem Oc_pp (h : OcI obs ip il) : (Oc obs ip il P cs v rs ++ X).set ip (obK P 57 cs') = Oc obs ip il P cs' v rs ++ X := by rw [List.set_append_left _ _ (by rw [Oc_len]; exact h.p), Oc_setp h]
theorem rput_d (hx : OcI obs ip il) (h : Env w0 w (Oc obs ip il P cs v rs ++ X)) (k s n : Int) (hok : OKr rs 1) (hn : n ≤ 2000000000000) :
    Calls Tryz.prog 20 #[v, .int .u8 k, .int .i64 s, .int .i64 n] w fun e w' => ∃ v', e = .returned v' ∧ Env w0 w' (Oc obs ip il P cs v' (timesN rs ⟨k, s, n⟩) ++ X) := by
  refine (rput_env h il (Oc_il hx X) k s n (by have := hok.len; omega) hok.b hn).mono ?_
  rintro e w' ⟨v', rfl, h1⟩
  rw [Oc_pl hx] at h1
  exact ⟨v', rfl, h1⟩
theorem rbegun_d (hx : OcI obs ip il) (h : Env w0 w (Oc obs ip il P cs v rs ++ X)) (hok : OKr rs 4) (t : Th) (ht : OKse t) :
    Calls Tryz.prog 51 #[v, heV t] w fun e w' => ∃ v', e = .returned v' ∧ Env w0 w' (Oc obs ip il P cs v' ((beginE t).foldl timesN rs) ++ X) := by
  refine (rbegun_env h il (Oc_il hx X) hok t ht).mono ?_
  rintro e w' ⟨v', rfl, h1⟩
  rw [Oc_pl hx] at h1
  exact ⟨v', rfl, h1⟩
theorem rtold_d (hx : OcI obs ip il) (h : Env w0 w (Oc obs ip il P cs v rs ++ X)) (hok : OKr rs 4) (t : Th) (ht : OKse t) (n : Int) (hn0 : 0 ≤ n) (hn1 : n ≤ 65536) :
    Calls Tryz.prog 52 #[v, heV t, .int .i64 n] w fun e w' => ∃ v', e = .returned v' ∧ Env w0 w' (Oc obs ip il P cs v' (timesN rs ⟨wkK t, wkS t, takenA t t.msg (t.msg + n)⟩) ++ X) := by
  refine (rtold_env h il (Oc_il hx X) hok t ht n hn0 hn1).mono ?_
  rintro e w' ⟨v', rfl, h1⟩
  rw [Oc_pl hx] at h1
  exact ⟨v', rfl, h1⟩
theorem rsummed_d (hx : OcI obs ip il) (h : Env w0 w (Oc obs ip il P cs v rs ++ X)) (hok : OKr rs 4) (t : Th) (ht : OKse t) :
    Calls Tryz.prog 53 #[v, heV t] w fun e w' => ∃ v', e = .returned v' ∧ Env w0 w' (Oc obs ip il P cs v' (timesN rs ⟨wkK t, wkS t, summedA t⟩) ++ X) := by
  refine (rsummed_env h il (Oc_il hx X) hok t ht).mono ?_
  rintro e w' ⟨v', rfl, h1⟩
  rw [Oc_pl hx] at h1
  exact ⟨v', rfl, h1⟩
theorem Oc_blk (hx : OcI obs ip il) (h : Env w0 w (Oc obs ip il P cs v rs ++ X)) : Blk w P 57 cs := h.blk ip (Oc_ip hx X)
theorem Oc_turn (hx : OcI obs ip il) (h : Env w0 w (Oc obs ip il P cs v rs ++ X)) (hb : Blk w' P 57 cs') (ho : Only (fun x => x = P) w w') : Env w0 w' (Oc obs ip il P cs' v rs ++ X) := by
  have h1 := h.turnBlk ip (Oc_ip hx X) hb ho
  rw [Oc_pp hx] at h1
  exact h1
theorem two_blk {O : List Ob} {x : Ob} {B : Nat} {t : TypeId} {c : Array Value} (h : Env w0 w (O ++ [x, obK B t c])) : Blk w B t c := h.blk (O.length + 1) (by rw [List.getElem?_append_right (by omega), show O.length + 1 - O.length = 1 from by omega]; rfl)
theorem one_blk {O : List Ob} {x : Ob} {B : Nat} {t : TypeId} {c : Array Value} (h : Env w0 w (O ++ [obK B t c, x])) : Blk w B t c := h.blk O.length (by rw [List.getElem?_append_right (Nat.le_refl _), Nat.sub_self]; rfl)
theorem two_turn {O : List Ob} {x : Ob} {B : Nat} {t : TypeId} {c c' : Array Value} (h : Env w0 w (O ++ [x, obK B t c])) (hb : Blk w' B t c') (ho : Only (fun x => x = B) w w') : Env w0 w' (O ++ [x, obK B t c']) := by
  have h1 := h.turnBlk (O.length + 1) (by rw [List.getElem?_append_right (by omega), show O.length + 1 - O.length = 1 from by omega]; rfl) hb ho
  rw [List.set_append_right _ _ (by omega), show O.length + 1 - O.length = 1 from by omega] at h1
  exact h1
theorem two_drop {O : List Ob} {x y : Ob} (h : Env w0 w (O ++ [x, y])) : Env w0 w O := by
  have h1 : Env w0 w ((O ++ [x]) ++ [y]) := by rw [List.append_assoc]; exact h
  exact h1.keepL.keepL
theorem Env.ofRP (h : Env w0 w obs) (hi : obs[ip]? = some (obRP P σ)) : ∃ cs, PubCs cs σ ∧ Env w0 w (obs.set ip (obK P 57 cs)) := by
  obtain ⟨F, h1, _, _, h4⟩ := h.get ip hi
  obtain ⟨⟨cs, hb, hp⟩, rfl⟩ := h1
  exact ⟨cs, hp, h4 w (fun x => x = P) (obK P 57 cs) ⟨hb, rfl⟩ (Only.refl _ _) (fun x hx => .inl hx)⟩
theorem Oc_start (hx : OcI obs ip il) (h : Env w0 w obs) (hi : obs[ip]? = some (obRP P σ)) (hl : obs[il]? = some (obRuns v rs)) : ∃ cs, PubCs cs σ ∧ Env w0 w (Oc obs ip il P cs v rs) := by
  obtain ⟨cs, hp, h1⟩ := h.ofRP hi
  refine ⟨cs, hp, ?_⟩
  unfold Oc
  rw [setIs _ _ _ (by rw [List.getElem?_set_ne hx.n]; exact hl)]
  exact h1
theorem Oc_end (hx : OcI obs ip il) (h : Env w0 w (Oc obs ip il P cs v rs)) (hp : PubCs cs σ) : Env w0 w ((obs.set ip (obRP P σ)).set il (obRuns v rs)) := by
  obtain ⟨F, h1, _, _, h4⟩ := h.get ip (Oc_p hx)
  obtain ⟨hb, rfl⟩ := h1
  have h5 := h4 w (fun x => x = P) (obRP P σ) ⟨⟨cs, hb, hp⟩, rfl⟩ (Only.refl _ _) (fun x hx => .inl hx)
  unfold Oc at h5
  rw [List.set_comm _ _ (Ne.symm hx.n), List.set_set] at h5
  exact h5
end
/-- both boxes -/
structure SBth (B1 B2 : Nat) (s : Sk) (t : Th) (W : World) : Prop where
  b : SkAt W B1 0 s
  h : HeB B2 t W
section
variable {B1 B2 : Nat} {s : Sk} {t : Th}
theorem SBth.b0 (W : World) (h : SBth B1 B2 s t W) : W.cell? ⟨B1, 0, none⟩ = some (.int .u8 s.kind) := by have q := h.b.c0; simpa using q
theorem SBth.b1 (W : World) (h : SBth B1 B2 s t W) : W.cell? ⟨B1, 1, none⟩ = some (.int .i64 s.handle) := by have q := h.b.c1; simpa using q
theorem SBth.b2 (W : World) (h : SBth B1 B2 s t W) : W.cell? ⟨B1, 2, none⟩ = some (.int .u8 s.alg) := by have q := h.b.c2; simpa using q
theorem SBth.b3 (W : World) (h : SBth B1 B2 s t W) : W.cell? ⟨B1, 3, none⟩ = some (.int .i64 s.count) := by have q := h.b.c3; simpa using q
theorem SBth.b4 (W : World) (h : SBth B1 B2 s t W) : W.cell? ⟨B1, 4, none⟩ = some (.int .i64 s.out) := by have q := h.b.c4; simpa using q
theorem SBth.b5 (W : World) (h : SBth B1 B2 s t W) : W.cell? ⟨B1, 5, none⟩ = some (.int .i64 s.data) := by have q := h.b.c5; simpa using q
theorem SBth.b6 (W : World) (h : SBth B1 B2 s t W) : W.cell? ⟨B1, 6, none⟩ = some (.int .i64 s.more) := by have q := h.b.c6; simpa using q
theorem SBth.h0 (W : World) (h : SBth B1 B2 s t W) : W.cell? ⟨B2, 0, none⟩ = some (.int .i64 t.key) := h.h.c0
theorem SBth.h1 (W : World) (h : SBth B1 B2 s t W) : W.cell? ⟨B2, 1, none⟩ = some (.int .u8 t.alg) := h.h.c1
theorem SBth.h2 (W : World) (h : SBth B1 B2 s t W) : W.cell? ⟨B2, 2, none⟩ = some (.int .i64 t.out) := h.h.c2
theorem SBth.h3 (W : World) (h : SBth B1 B2 s t W) : W.cell? ⟨B2, 3, none⟩ = some (.int .i64 t.custom) := h.h.c3
theorem SBth.h4 (W : World) (h : SBth B1 B2 s t W) : W.cell? ⟨B2, 4, none⟩ = some (.int .i64 t.msg) := h.h.c4
theorem SBth.of {w0 w : World} {O : List Ob} (h : Env w0 w (O ++ [obK B1 40 (skCells s), obK B2 54 (heCells t)])) : SBth B1 B2 s t w := ⟨skBox (one_blk h), HeB.blk (two_blk h)⟩
end
theorem box_set {w : World} {B : Nat} {c : Array Value} (h : Blk w B 54 c) (hc : ∃ a b d e f, c = #[a, b, d, e, f]) (t : Th) :
    Blk (((((w.setCell ⟨B, 0, none⟩ (.int .i64 t.key)).setCell ⟨B, 1, none⟩ (.int .u8 t.alg)).setCell ⟨B, 2, none⟩ (.int .i64 t.out)).setCell ⟨B, 3, none⟩ (.int .i64 t.custom)).setCell ⟨B, 4, none⟩ (.int .i64 t.msg)) B 54 (heCells t) := by
  obtain ⟨a, b, d, e, f, rfl⟩ := hc
  exact ((((h.set 0 _).set 1 _).set 2 _).set 3 _).set 4 _
theorem box_only {w : World} {B : Nat} {a b c d e : Value} : Only (fun x => x = B) w (((((w.setCell ⟨B, 0, none⟩ a).setCell ⟨B, 1, none⟩ b).setCell ⟨B, 2, none⟩ c).setCell ⟨B, 3, none⟩ d).setCell ⟨B, 4, none⟩ e) :=
  (((((Only.refl (fun x => x = B) w).set (p := ⟨B, 0, none⟩) (.inl rfl) _).set (p := ⟨B, 1, none⟩) (.inl rfl) _).set (p := ⟨B, 2, none⟩) (.inl rfl) _).set (p := ⟨B, 3, none⟩) (.inl rfl) _).set (p := ⟨B, 4, none⟩) (.inl rfl) _
theorem pub_set {w : World} {P n : Nat} {cs : Array Value} (h : Blk w P 57 cs) (t : Th) :
    Blk (((((w.setCell ⟨P, 64 + n * 5, none⟩ (.int .i64 t.key)).setCell ⟨P, 64 + n * 5 + 1, none⟩ (.int .u8 t.alg)).setCell ⟨P, 64 + n * 5 + 2, none⟩ (.int .i64 t.out)).setCell ⟨P, 64 + n * 5 + 3, none⟩ (.int .i64 t.custom)).setCell ⟨P, 64 + n * 5 + 4, none⟩ (.int .i64 t.msg)) P 57 (heSet cs n t) :=
  ((((h.set _ _).set _ _).set _ _).set _ _).set _ _
theorem pub_only {w : World} {P n : Nat} {a b c d e : Value} : Only (fun x => x = P) w (((((w.setCell ⟨P, 64 + n * 5, none⟩ a).setCell ⟨P, 64 + n * 5 + 1, none⟩ b).setCell ⟨P, 64 + n * 5 + 2, none⟩ c).setCell ⟨P, 64 + n * 5 + 3, none⟩ d).setCell ⟨P, 64 + n * 5 + 4, none⟩ e) :=
  (((((Only.refl (fun x => x = P) w).set (p := ⟨P, 64 + n * 5, none⟩) (.inl rfl) _).set (p := ⟨P, 64 + n * 5 + 1, none⟩) (.inl rfl) _).set (p := ⟨P, 64 + n * 5 + 2, none⟩) (.inl rfl) _).set (p := ⟨P, 64 + n * 5 + 3, none⟩) (.inl rfl) _).set (p := ⟨P, 64 + n * 5 + 4, none⟩) (.inl rfl) _
end Go.Proofs.YtkidijjhedjifaaGreat
