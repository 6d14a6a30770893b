/- New, and Do: an operation whole. -/
import Derived.Test.YtkidijjhedjifaaGreatRows
import Derived.Test.YtkidijjhedjifaaGreatQCostScript0
import Derived.Test.YtkidijjhedjifaaGreatQCostScript6
/- What the operations do: the two derivations. -/
namespace Go.Proofs.YtkidijjhedjifaaGreat
open Go.RowKit
set_option maxRecDepth 100000
set_option linter.unusedVariables false
set_option linter.unusedSimpArgs false
attribute [local go_sem] Oper.semAt_some
section
variable {w0 w : World} {obs : List Ob} {p m k B : Nat} {σ : Hs} {s : Sk}
structure SHk (p m B E : Nat) (s : Sk) (t : Th) (K V : Int) (W : World) : Prop where
  sc : SCost p m B s t true W
  e0 : W.cell? ⟨E, 0, none⟩ = some (.int .u8 K)
  e1 : W.cell? ⟨E, 1, none⟩ = some (.int .i64 V)
section
variable {E : Nat} {t : Th} {K V : Int}
theorem SHk.fc (W : World) (h : SHk p m B E s t K V W) : W.cell? ⟨p, 0, none⟩ = some (.map (some m)) := h.sc.pub.c
theorem SHk.fat (W : World) (h : SHk p m B E s t K V W) : (Instr.lookup 47 (.map (some m)) (.int .i64 s.handle) false).run Tryz.prog W = .ok (.agg #[.int .u8 t.alg, .int .i64 t.out, .int .i64 t.key, .int .i64 t.custom, .int .i64 t.msg]) W := h.sc.pub.at'
theorem SHk.f1 (W : World) (h : SHk p m B E s t K V W) : W.cell? ⟨B, 1, none⟩ = some (.int .i64 s.handle) := h.sc.b1
theorem SHk.f2 (W : World) (h : SHk p m B E s t K V W) : W.cell? ⟨B, 2, none⟩ = some (.int .u8 s.alg) := h.sc.b2
theorem SHk.f3 (W : World) (h : SHk p m B E s t K V W) : W.cell? ⟨B, 3, none⟩ = some (.int .i64 s.count) := h.sc.b3
theorem SHk.f4 (W : World) (h : SHk p m B E s t K V W) : W.cell? ⟨B, 4, none⟩ = some (.int .i64 s.out) := h.sc.b4
theorem SHk.f5 (W : World) (h : SHk p m B E s t K V W) : W.cell? ⟨B, 5, none⟩ = some (.int .i64 s.data) := h.sc.b5
theorem SHk.f6 (W : World) (h : SHk p m B E s t K V W) : W.cell? ⟨B, 6, none⟩ = some (.int .i64 s.more) := h.sc.b6
theorem SHk.g0 (W : World) (h : SHk p m B E s t K V W) : W.cell? ⟨E, 0, none⟩ = some (.int .u8 K) := h.e0
theorem SHk.g1 (W : World) (h : SHk p m B E s t K V W) : W.cell? ⟨E, 1, none⟩ = some (.int .i64 V) := h.e1
structure Mh (M : List Ob) (i l n : Nat) (p m k : Nat) (σ : Hs) (q : Value) (rs : List Rn) (B : Nat) (s : Sk) (E : Nat) (K V : Int) : Prop where
  pub : M[i]? = some (obPub p m k σ)
  led : M[l]? = some (obP q (some rs))
  box : M[n]? = some (obK B 40 (skCells s))
  ev : M[n + 1]? = some (obK E 64 #[.int .u8 K, .int .i64 V])
theorem Mh.setL {M : List Ob} {i l n : Nat} {q : Value} {rs : List Rn} (h : Mh M i l n p m k σ q rs B s E K V) (hil : i ≠ l) (hl : l < n) (rs' : List Rn) : Mh (M.set l (obP q (some rs'))) i l n p m k σ q rs' B s E K V :=
  ⟨by rw [List.getElem?_set_ne (by omega)]; exact h.pub, List.getElem?_set_self (List.getElem?_eq_some_iff.1 h.led).1, by rw [List.getElem?_set_ne (by omega)]; exact h.box, by rw [List.getElem?_set_ne (by omega)]; exact h.ev⟩
theorem Env.mh {M : List Ob} {i l n : Nat} {q : Value} {rs : List Rn} (h : Env w0 w M) (g : Mh M i l n p m k σ q rs B s E K V) (hs : okI s.handle) (ht : σ s.handle = some t) : SHk p m B E s t K V w := by
  have h1 := h.sc i n g.pub g.box hs
  rw [ht] at h1
  have h2 := h.blk (n + 1) g.ev
  exact ⟨h1, h2.cellAt 0 rfl, h2.cellAt 1 rfl⟩
end
set_option maxHeartbeats 4000000 in
theorem hkdf_env (h : Env w0 w obs) (i l : Nat) (hil : i ≠ l) (hi : obs[i]? = some (obPub p m k σ)) {q : Value} {rs : List Rn} (hl : obs[l]? = some (obP q (some rs))) (s : Sk) (hs : okI s.handle) {t : Th} (ht : σ s.handle = some t) (hky0 : 0 ≤ t.key) (hky1 : t.key ≤ 512) (ha : s.alg = 1 ∨ s.alg = 2) (hd : 0 ≤ s.data) (hd1 : s.data ≤ 65536) (ho : 1 ≤ s.out) (ho1 : s.out ≤ 512) (hm0 : 0 ≤ s.more) (hm1 : s.more ≤ 65536) {cb : Int} (hb : RB cb rs) (hcb : cb ≤ 100000000) :
    Calls Tryz.prog 39 #[pV p, q, skV s] w fun e w' => e = .returned (.tuple #[]) ∧ Env w0 w' ((obs.set l (obP q (some (timesN rs ⟨evkA s.alg, wideA s.alg, Go.Proofs.YtkidijjhedjifaaGreat.hk0 t s + hkTo s (hkN s)⟩)))).set i (obPub p m k (takeH σ ⟨0, 0, s.out, 0, 0⟩))) := by
  have H1 := Lib.hid (h.newK 40 (skCells s))
  have hil1 := (List.getElem?_eq_some_iff.1 hi).1
  have hll1 := (List.getElem?_eq_some_iff.1 hl).1
  have HI := Lib.hid hi
  have HL := Lib.hid hl
  have HS := Lib.hid hs
  have HRB := Lib.hid hb
  clear h hi hl hs hb
  unfold pV skV
  unfold skCells at H1
  go_enter Tryz.func39, Tryz.ntmps39
  have HT := Lib.hid ht
  clear ht
  go_wp2_with fail
  obtain ⟨B, hB⟩ : ∃ B, w.heap.size = B := ⟨_, rfl⟩
  obtain ⟨w1, hw1⟩ : ∃ y, w.alloc (.cells #[.int .u8 s.kind, .int .i64 s.handle, .int .u8 s.alg, .int .i64 s.count, .int .i64 s.out, .int .i64 s.data, .int .i64 s.more] 40) = y := ⟨_, rfl⟩
  rw [hw1, hB] at H1
  try rw [hw1]
  try rw [hB]
  clear hw1 hB
  obtain ⟨M, hM⟩ : ∃ M, obs ++ [obK B 40 #[.int .u8 s.kind, .int .i64 s.handle, .int .u8 s.alg, .int .i64 s.count, .int .i64 s.out, .int .i64 s.data, .int .i64 s.more]] = M := ⟨_, rfl⟩
  have I1 : Hid (M[i]? = some (obPub p m k σ)) := by rw [← hM, List.getElem?_append_left hil1]; exact HI
  have I2 : Hid (M[l]? = some (obP q (some rs))) := by rw [← hM, List.getElem?_append_left hll1]; exact HL
  have I3 : Hid (M[obs.length]? = some (obK B 40 (skCells s))) := by rw [← hM, List.getElem?_append_right (Nat.le_refl _), Nat.sub_self]; exact Lib.hid rfl
  rw [hM] at H1
  have HM := Lib.hid hM
  clear hM
  obtain ⟨K, hK⟩ : ∃ K, evkA s.alg = K := ⟨_, rfl⟩
  obtain ⟨V, hV⟩ : ∃ V, wideA s.alg = V := ⟨_, rfl⟩
  obtain ⟨g, hg⟩ : ∃ g, hashA s.alg = g := ⟨_, rfl⟩
  have hg2 : g = 32 ∨ g = 64 := by rw [← hg]; exact hashA_alg ha
  have HK := Lib.hid (And.intro hK (And.intro hV hg))
  have HA := Lib.hid ha
  clear hK hV hg ha
  refine (event_any s.alg w1).mono ?_
  rintro e w2 ⟨rfl, hb2⟩
  rw [HK.out.1, HK.out.2.1]
  have H2 := Lib.hid (H1.out.below hb2)
  clear hb2 H1
  have sd := H2.out.sc i obs.length I1.out I3.out HS.out
  have b0 := sd.b0
  have b1 := sd.b1
  have b2 := sd.b2
  have b3 := sd.b3
  have b4 := sd.b4
  have b5 := sd.b5
  have b6 := sd.b6
  have hBl : B < w2.heap.size := (H2.out.blk obs.length I3.out).lt
  clear sd
  go_wp2_with fail
  clear b0 b1 b2 b3 b4 b5 b6
  have h3 := H2.out.newK 64 #[.int .u8 K, .int .i64 V]
  obtain ⟨E, hE⟩ : ∃ y, w2.heap.size = y := ⟨_, rfl⟩
  obtain ⟨w3, hw3⟩ : ∃ y, w2.alloc (.cells #[.int .u8 K, .int .i64 V] 64) = y := ⟨_, rfl⟩
  rw [hw3, hE] at h3
  obtain ⟨M2, hM2⟩ : ∃ y, M ++ [obK E 64 #[.int .u8 K, .int .i64 V]] = y := ⟨_, rfl⟩
  have hml : M.length = obs.length + 1 := by rw [← HM.out]; simp
  have G2 : Hid (Mh M2 i l obs.length p m k σ q rs B s E K V) := by
    rw [← hM2]
    exact Lib.hid ⟨atL I1.out, atL I2.out, atL I3.out, by rw [← hml]; exact atR 0⟩
  have P2 : Hid (Pre M2 obs) := by rw [← hM2, ← HM.out]; exact Lib.hid (Pre.app2 _ _ _)
  rw [hM2] at h3
  have H3 := Lib.hid h3
  try rw [hw3]
  try rw [hE]
  clear h3 hw3 hE hM2 hml H2 hBl I1 I2 I3 HM
  refine (hash_any s.alg w3).mono ?_
  rintro e w4 ⟨rfl, rfl⟩
  rw [HK.out.2.2]
  have sd := H3.out.mh G2.out HS.out HT.out
  have b0 := sd.sc.b0
  have b1 := sd.sc.b1
  have b2 := sd.sc.b2
  have b3 := sd.sc.b3
  have b4 := sd.sc.b4
  have b5 := sd.sc.b5
  have b6 := sd.sc.b6
  have e0 := sd.e0
  have e1 := sd.e1
  clear sd
  obtain ⟨x, hx⟩ : ∃ x, saltA s = x := ⟨_, rfl⟩
  have hxe : (if s.data = 0 then g else s.data) = x := by rw [← hx, ← HK.out.2.2]; rfl
  have hx0 : 0 ≤ x ∧ x ≤ 65536 := by
    rw [← hxe]
    split <;> omega
  have HX := Lib.hid hx
  clear hx
  have HG := Lib.hid hg2
  clear hg2
  go_upto_if 24 with fail
  go_cut [9] from 23 to 25 (fun v wx => v = .int .i64 x ∧ wx = w3)
  case first =>
    by_cases n0 : s.data = 0
    · rw [if_pos n0] at hxe
      subst hxe
      have q0 : (s.data == (0 : Int)) = true := by rw [beq_iff_eq]; exact n0
      clear n0
      go_wp2_with fail
      go_meet
      exact ⟨rfl, rfl⟩
    · rw [if_neg n0] at hxe
      subst hxe
      have q0 : (s.data == (0 : Int)) = false := by rw [beq_eq_false_iff_ne]; exact n0
      clear n0
      go_wp2_with fail
      go_meet
      exact ⟨rfl, rfl⟩
  case rest =>
    obtain ⟨rfl, rfl⟩ := hcut
    clear hxe
    clear b0 b1 b2 b3 b4 b5 b6 e0 e1
    have hg2 := HG.out
    have a1 := keyB_rng (a := s.alg) (n := x) (by omega)
    have a2 := tagB_rng (a := s.alg) (n := t.key) (by omega)
    have a3 := keyB_rng (a := s.alg) (n := g) (by omega)
    obtain ⟨y1, hy1⟩ : ∃ y, keyB s.alg x = y := ⟨_, rfl⟩
    obtain ⟨y2, hy2⟩ : ∃ y, tagB s.alg t.key = y := ⟨_, rfl⟩
    obtain ⟨y3, hy3⟩ : ∃ y, keyB s.alg g = y := ⟨_, rfl⟩
    rw [hy1] at a1
    rw [hy2] at a2
    rw [hy3] at a3
    have hN0 : hk0 t s = y1 + y2 + y3 := by
      unfold hk0
      rw [HX.out, HK.out.2.2, hy1, hy2, hy3]
    have HY := Lib.hid (And.intro hy1 (And.intro hy2 hy3))
    clear hy1 hy2 hy3
    have hwa : IntKind.i64.wrap (y1 + y2) = y1 + y2 := IntWalk.i64_in _ (by omega)
    have hwb : IntKind.i64.wrap (y1 + y2 + y3) = y1 + y2 + y3 := IntWalk.i64_in _ (by omega)
    have HN0 := Lib.hid hN0
    clear hN0
    go_upto_region 6 with fail
    refine hd_start (SHk p m B E s t K V) (by kernel_rfl) ?_
    intro w4 hw'
    have H4 := Lib.hid (H3.out.draw 1)
    rw [← hw'] at H4
    clear hw' H3
    have S4 := H4.out.mh G2.out HS.out HT.out
    refine hd_take (v := ?_) 0 rfl (by kernel_rfl) (fun _ _ d _ _ h => (by cases d <;> exact h)) (by kernel_rfl) S4 (fun w' hS => ?_) ?_
    rotate_left
    focus (have q0 := SHk.fc w' hS; have q1 := SHk.fat w' hS; have q2 := SHk.f1 w' hS; have q3 := SHk.f2 w' hS; have q4 := SHk.g0 w' hS; have q5 := SHk.g1 w' hS; clear hS; go_simp; try rfl; done)
    simp only [List.getElem_toArray, List.getElem_cons_succ, List.getElem_cons_zero, Act.put, List.setIfInBounds_toArray, List.set_cons_zero, List.set_cons_succ]
    refine hd_take (v := ?_) 1 rfl (by kernel_rfl) (fun _ _ d _ _ h => (by cases d <;> exact h)) (by kernel_rfl) S4 (fun w' hS => ?_) ?_
    rotate_left
    focus (have q0 := SHk.fc w' hS; have q1 := SHk.fat w' hS; have q2 := SHk.f1 w' hS; have q3 := SHk.f2 w' hS; have q4 := SHk.g0 w' hS; have q5 := SHk.g1 w' hS; clear hS; go_simp; try rfl; done)
    simp only [List.getElem_toArray, List.getElem_cons_succ, List.getElem_cons_zero, Act.put, List.setIfInBounds_toArray, List.set_cons_zero, List.set_cons_succ]
    refine hd_take (v := ?_) 2 rfl (by kernel_rfl) (fun _ _ d _ _ h => (by cases d <;> exact h)) (by kernel_rfl) S4 (fun w' hS => ?_) ?_
    rotate_left
    focus (have q0 := SHk.fc w' hS; have q1 := SHk.fat w' hS; have q2 := SHk.f1 w' hS; have q3 := SHk.f2 w' hS; have q4 := SHk.g0 w' hS; have q5 := SHk.g1 w' hS; clear hS; go_simp; try rfl; done)
    simp only [List.getElem_toArray, List.getElem_cons_succ, List.getElem_cons_zero, Act.put, List.setIfInBounds_toArray, List.set_cons_zero, List.set_cons_succ]
    refine hd_take (v := ?_) 3 rfl (by kernel_rfl) (fun _ _ d _ _ h => (by cases d <;> exact h)) (by kernel_rfl) S4 (fun w' hS => ?_) ?_
    rotate_left
    focus (have q0 := SHk.fc w' hS; have q1 := SHk.fat w' hS; have q2 := SHk.f1 w' hS; have q3 := SHk.f2 w' hS; have q4 := SHk.g0 w' hS; have q5 := SHk.g1 w' hS; clear hS; go_simp; try rfl; done)
    simp only [List.getElem_toArray, List.getElem_cons_succ, List.getElem_cons_zero, Act.put, List.setIfInBounds_toArray, List.set_cons_zero, List.set_cons_succ]
    refine hd_take (v := ?_) 4 rfl (by kernel_rfl) (fun _ _ d _ _ h => (by cases d <;> exact h)) (by kernel_rfl) S4 (fun w' hS => ?_) ?_
    rotate_left
    focus (have q0 := SHk.fc w' hS; have q1 := SHk.fat w' hS; have q2 := SHk.f1 w' hS; have q3 := SHk.f2 w' hS; have q4 := SHk.g0 w' hS; have q5 := SHk.g1 w' hS; clear hS; go_simp; try rfl; done)
    simp only [List.getElem_toArray, List.getElem_cons_succ, List.getElem_cons_zero, Act.put, List.setIfInBounds_toArray, List.set_cons_zero, List.set_cons_succ]
    refine hd_take (v := ?_) 6 rfl (by kernel_rfl) (fun _ _ d _ _ h => (by cases d <;> exact h)) (by kernel_rfl) S4 (fun w' hS => ?_) ?_
    rotate_left
    focus (have q0 := SHk.fc w' hS; have q1 := SHk.fat w' hS; have q2 := SHk.f1 w' hS; have q3 := SHk.f2 w' hS; have q4 := SHk.g0 w' hS; have q5 := SHk.g1 w' hS; clear hS; go_simp; try rfl; done)
    simp only [List.getElem_toArray, List.getElem_cons_succ, List.getElem_cons_zero, Act.put, List.setIfInBounds_toArray, List.set_cons_zero, List.set_cons_succ]
    refine hd_take (v := ?_) 7 rfl (by kernel_rfl) (fun _ _ d _ _ h => (by cases d <;> exact h)) (by kernel_rfl) S4 (fun w' hS => ?_) ?_
    rotate_left
    focus (have q0 := SHk.fc w' hS; have q1 := SHk.fat w' hS; have q2 := SHk.f1 w' hS; have q3 := SHk.f2 w' hS; have q4 := SHk.g0 w' hS; have q5 := SHk.g1 w' hS; clear hS; go_simp; try rfl; done)
    simp only [List.getElem_toArray, List.getElem_cons_succ, List.getElem_cons_zero, Act.put, List.setIfInBounds_toArray, List.set_cons_zero, List.set_cons_succ]
    refine hd_take (v := ?_) 8 rfl (by kernel_rfl) (fun _ _ d _ _ h => (by cases d <;> exact h)) (by kernel_rfl) S4 (fun w' hS => ?_) ?_
    rotate_left
    focus (have q0 := SHk.fc w' hS; have q1 := SHk.fat w' hS; have q2 := SHk.f1 w' hS; have q3 := SHk.f2 w' hS; have q4 := SHk.g0 w' hS; have q5 := SHk.g1 w' hS; clear hS; go_simp; try rfl; done)
    simp only [List.getElem_toArray, List.getElem_cons_succ, List.getElem_cons_zero, Act.put, List.setIfInBounds_toArray, List.set_cons_zero, List.set_cons_succ]
    refine hd_take (v := ?_) 9 rfl (by kernel_rfl) (fun _ _ d _ _ h => (by cases d <;> exact h)) (by kernel_rfl) S4 (fun w' hS => ?_) ?_
    rotate_left
    focus (have q0 := SHk.fc w' hS; have q1 := SHk.fat w' hS; have q2 := SHk.f1 w' hS; have q3 := SHk.f2 w' hS; have q4 := SHk.g0 w' hS; have q5 := SHk.g1 w' hS; clear hS; go_simp; try rfl; done)
    simp only [List.getElem_toArray, List.getElem_cons_succ, List.getElem_cons_zero, Act.put, List.setIfInBounds_toArray, List.set_cons_zero, List.set_cons_succ]
    refine hd_take (v := ?_) 10 rfl (by kernel_rfl) (fun _ _ d _ _ h => (by cases d <;> exact h)) (by kernel_rfl) S4 (fun w' hS => ?_) ?_
    rotate_left
    focus (have q0 := SHk.fc w' hS; have q1 := SHk.fat w' hS; have q2 := SHk.f1 w' hS; have q3 := SHk.f2 w' hS; have q4 := SHk.g0 w' hS; have q5 := SHk.g1 w' hS; clear hS; go_simp; try rfl; done)
    simp only [List.getElem_toArray, List.getElem_cons_succ, List.getElem_cons_zero, Act.put, List.setIfInBounds_toArray, List.set_cons_zero, List.set_cons_succ]
    refine hd_take (v := ?_) 11 rfl (by kernel_rfl) (fun _ _ d _ _ h => (by cases d <;> exact h)) (by kernel_rfl) S4 (fun w' hS => ?_) ?_
    rotate_left
    focus (have q0 := SHk.fc w' hS; have q1 := SHk.fat w' hS; have q2 := SHk.f1 w' hS; have q3 := SHk.f2 w' hS; have q4 := SHk.g0 w' hS; have q5 := SHk.g1 w' hS; clear hS; go_simp; try rfl; done)
    simp only [List.getElem_toArray, List.getElem_cons_succ, List.getElem_cons_zero, Act.put, List.setIfInBounds_toArray, List.set_cons_zero, List.set_cons_succ]
    refine hd_take (v := ?_) 12 rfl (by kernel_rfl) (fun _ _ d _ _ h => (by cases d <;> exact h)) (by kernel_rfl) S4 (fun w' hS => ?_) ?_
    rotate_left
    focus (have q0 := SHk.fc w' hS; have q1 := SHk.fat w' hS; have q2 := SHk.f1 w' hS; have q3 := SHk.f2 w' hS; have q4 := SHk.g0 w' hS; have q5 := SHk.g1 w' hS; clear hS; go_simp; try rfl; done)
    simp only [List.getElem_toArray, List.getElem_cons_succ, List.getElem_cons_zero, Act.put, List.setIfInBounds_toArray, List.set_cons_zero, List.set_cons_succ]
    refine hd_take (v := ?_) 13 rfl (by kernel_rfl) (fun _ _ d _ _ h => (by cases d <;> exact h)) (by kernel_rfl) S4 (fun w' hS => ?_) ?_
    rotate_left
    focus (have q0 := SHk.fc w' hS; have q1 := SHk.fat w' hS; have q2 := SHk.f1 w' hS; have q3 := SHk.f2 w' hS; have q4 := SHk.g0 w' hS; have q5 := SHk.g1 w' hS; clear hS; go_simp; try rfl; done)
    simp only [List.getElem_toArray, List.getElem_cons_succ, List.getElem_cons_zero, Act.put, List.setIfInBounds_toArray, List.set_cons_zero, List.set_cons_succ]
    refine hd_take (v := ?_) 14 rfl (by kernel_rfl) (fun _ _ d _ _ h => (by cases d <;> exact h)) (by kernel_rfl) S4 (fun w' hS => ?_) ?_
    rotate_left
    focus (have q0 := SHk.fc w' hS; have q1 := SHk.fat w' hS; have q2 := SHk.f1 w' hS; have q3 := SHk.f2 w' hS; have q4 := SHk.g0 w' hS; have q5 := SHk.g1 w' hS; clear hS; go_simp; try rfl; done)
    simp only [List.getElem_toArray, List.getElem_cons_succ, List.getElem_cons_zero, Act.put, List.setIfInBounds_toArray, List.set_cons_zero, List.set_cons_succ]
    refine hd_take (v := ?_) 15 rfl (by kernel_rfl) (fun _ _ d _ _ h => (by cases d <;> exact h)) (by kernel_rfl) S4 (fun w' hS => ?_) ?_
    rotate_left
    focus (have q0 := SHk.fc w' hS; have q1 := SHk.fat w' hS; have q2 := SHk.f1 w' hS; have q3 := SHk.f2 w' hS; have q4 := SHk.g0 w' hS; have q5 := SHk.g1 w' hS; clear hS; go_simp; try rfl; done)
    simp only [List.getElem_toArray, List.getElem_cons_succ, List.getElem_cons_zero, Act.put, List.setIfInBounds_toArray, List.set_cons_zero, List.set_cons_succ]
    refine hd_take (v := ?_) 18 rfl (by kernel_rfl) (fun _ _ d _ _ h => (by cases d <;> exact h)) (by kernel_rfl) S4 (fun w' hS => ?_) ?_
    rotate_left
    focus (have q0 := SHk.fc w' hS; have q1 := SHk.fat w' hS; have q2 := SHk.f1 w' hS; have q3 := SHk.f2 w' hS; have q4 := SHk.g0 w' hS; have q5 := SHk.g1 w' hS; clear hS; go_simp; try rfl; done)
    simp only [List.getElem_toArray, List.getElem_cons_succ, List.getElem_cons_zero, Act.put, List.setIfInBounds_toArray, List.set_cons_zero, List.set_cons_succ]
    refine hd_take (v := ?_) 19 rfl (by kernel_rfl) (fun _ _ d _ _ h => (by cases d <;> exact h)) (by kernel_rfl) S4 (fun w' hS => ?_) ?_
    rotate_left
    focus (have q0 := SHk.fc w' hS; have q1 := SHk.fat w' hS; have q2 := SHk.f1 w' hS; have q3 := SHk.f2 w' hS; have q4 := SHk.g0 w' hS; have q5 := SHk.g1 w' hS; clear hS; go_simp; try rfl; done)
    simp only [List.getElem_toArray, List.getElem_cons_succ, List.getElem_cons_zero, Act.put, List.setIfInBounds_toArray, List.set_cons_zero, List.set_cons_succ]
    refine hd_take (v := ?_) 20 rfl (by kernel_rfl) (fun _ _ d _ _ h => (by cases d <;> exact h)) (by kernel_rfl) S4 (fun w' hS => ?_) ?_
    rotate_left
    focus (have q0 := SHk.fc w' hS; have q1 := SHk.fat w' hS; have q2 := SHk.f1 w' hS; have q3 := SHk.f2 w' hS; have q4 := SHk.g0 w' hS; have q5 := SHk.g1 w' hS; clear hS; go_simp; try rfl; done)
    simp only [List.getElem_toArray, List.getElem_cons_succ, List.getElem_cons_zero, Act.put, List.setIfInBounds_toArray, List.set_cons_zero, List.set_cons_succ]
    refine hd_one 5 (by kernel_rfl) ?_
    refine op_call rfl (by kernel_rfl) (by go_simp; first | exact ⟨rfl, rfl⟩ | rfl) ?_
    refine (keyBlocks_any s.alg x w4 (by omega) (by omega)).mono ?_
    rintro e w5 ⟨he, hb⟩
    rw [HY.out.1] at he
    subst he
    have H5 := Lib.hid (H4.out.below hb)
    clear hb
    have hS2 := H5.out.mh G2.out HS.out HT.out
    refine ⟨_, rfl, hS2, ?_⟩
    simp only [List.getElem_toArray, List.getElem_cons_succ, List.getElem_cons_zero, Act.put, List.setIfInBounds_toArray, List.set_cons_zero, List.set_cons_succ]
    refine hd_one 16 (by kernel_rfl) ?_
    refine op_call rfl (by kernel_rfl) (by go_simp; first | exact ⟨rfl, rfl⟩ | rfl) ?_
    refine (tagBlocks_any s.alg t.key w5 (by omega) (by omega)).mono ?_
    rintro e w6 ⟨he, hb⟩
    rw [HY.out.2.1] at he
    subst he
    have H6 := Lib.hid (H5.out.below hb)
    clear hb
    have hS2 := H6.out.mh G2.out HS.out HT.out
    have S6 := hS2
    refine ⟨_, rfl, hS2, ?_⟩
    simp only [List.getElem_toArray, List.getElem_cons_succ, List.getElem_cons_zero, Act.put, List.setIfInBounds_toArray, List.set_cons_zero, List.set_cons_succ]
    refine hd_take (v := ?_) 17 rfl (by kernel_rfl) (fun _ _ d _ _ h => (by cases d <;> exact h)) (by kernel_rfl) S6 (fun w' hS => ?_) ?_
    rotate_left
    focus (clear hS; go_simp; try rfl; done)
    simp only [List.getElem_toArray, List.getElem_cons_succ, List.getElem_cons_zero, Act.put, List.setIfInBounds_toArray, List.set_cons_zero, List.set_cons_succ]
    try rw [hwa]
    refine hd_one 21 (by kernel_rfl) ?_
    refine op_call rfl (by kernel_rfl) (by go_simp; first | exact ⟨rfl, rfl⟩ | rfl) ?_
    refine (keyBlocks_any s.alg g w6 (by omega) (by omega)).mono ?_
    rintro e w7 ⟨he, hb⟩
    rw [HY.out.2.2] at he
    subst he
    have H7 := Lib.hid (H6.out.below hb)
    clear hb
    have hS2 := H7.out.mh G2.out HS.out HT.out
    have S7 := hS2
    refine ⟨_, rfl, hS2, ?_⟩
    simp only [List.getElem_toArray, List.getElem_cons_succ, List.getElem_cons_zero, Act.put, List.setIfInBounds_toArray, List.set_cons_zero, List.set_cons_succ]
    refine hd_take (v := ?_) 22 rfl (by kernel_rfl) (fun _ _ d _ _ h => (by cases d <;> exact h)) (by kernel_rfl) S7 (fun w' hS => ?_) ?_
    rotate_left
    focus (clear hS; go_simp; try rfl; done)
    simp only [List.getElem_toArray, List.getElem_cons_succ, List.getElem_cons_zero, Act.put, List.setIfInBounds_toArray, List.set_cons_zero, List.set_cons_succ]
    try rw [hwb]
    refine hd_one 23 (by kernel_rfl) ?_
    refine op_call rfl (by kernel_rfl) (by go_simp; first | exact ⟨rfl, rfl⟩ | rfl) ?_
    refine (timesS_env H7.out l G2.out.led K V (y1 + y2 + y3) HRB.out (by omega) (by omega)).mono ?_
    rintro e w8 ⟨he, h8⟩
    subst he
    have h8' := h8
    have hS2 := h8.mh (G2.out.setL hil hll1 _) HS.out HT.out
    refine ⟨_, rfl, hS2, ?_⟩
    simp only [List.getElem_toArray, List.getElem_cons_succ, List.getElem_cons_zero, Act.put, List.setIfInBounds_toArray, List.set_cons_zero, List.set_cons_succ]
    refine hd_done (by kernel_rfl) ?_
    clear S4 S6 S7 h8'
    obtain ⟨N0, hN⟩ : ∃ y, y1 + y2 + y3 = y := ⟨_, rfl⟩
    have hNr : 6 ≤ N0 ∧ N0 ≤ 4000 := by omega
    rw [hN] at h8 HN0
    clear hwa hwb a1 a2 a3 hN HY
    obtain ⟨M8, hM8⟩ : ∃ y, M2.set l (obP q (some (timesN rs ⟨K, V, N0⟩))) = y := ⟨_, rfl⟩
    have G8 : Hid (Mh M8 i l obs.length p m k σ q (timesN rs ⟨K, V, N0⟩) B s E K V) := by rw [← hM8]; exact Lib.hid (G2.out.setL hil hll1 _)
    have P8 : Hid (Pre M8 (obs.set l (obP q (some (timesN rs ⟨K, V, N0⟩))))) := by
      rw [← hM8]
      have := P2.out.set l (by first | exact hll1 | (simp only [List.length_set]; exact hll1)) (obP q (some (timesN rs ⟨K, V, N0⟩)))
      try simp only [List.set_set] at this
      exact Lib.hid this
    rw [hM8] at h8
    have H8 := Lib.hid h8
    clear h8 hM8
    obtain ⟨n, hn⟩ : ∃ n, hkN s = n := ⟨_, rfl⟩
    have hnr := hkN_rng HA.out ho ho1
    rw [hn, HK.out.2.2] at hnr
    have HNN := Lib.hid hn
    have hE : timesN rs ⟨evkA s.alg, wideA s.alg, hk0 t s + hkTo s (hkN s)⟩ = timesN rs ⟨K, V, N0 + hkTo s n⟩ := by rw [HK.out.1, HK.out.2.1, HN0.out, hn]
    have HE := Lib.hid hE
    have HTO := Lib.hid (hkTo_rng HA.out hm0)
    have HRR := Lib.hid (hkR_rng HA.out hm0)
    clear hE hn
    go_wp2_with fail
    go_loopw [10, 11] (fun dv av wx => ∃ j : Nat, j ≤ n ∧ dv = .int .i64 (g * (j : Int)) ∧ ∃ L, Hid (Env w0 wx L) ∧ Hid (Mh L i l obs.length p m k σ q (timesN rs ⟨K, V, N0 + hkTo s j⟩) B s E K V) ∧ Hid (Pre L (obs.set l (obP q (some (timesN rs ⟨K, V, N0 + hkTo s j⟩)))))) (fun dv _ _ => (s.out - intOf dv).toNat)
    case atStart =>
      have e8 : N0 + hkTo s 0 = N0 := by show N0 + 0 = N0; omega
      refine ⟨0, Nat.zero_le _, by simp, M8, H8, ?_, ?_⟩
      · rw [e8]; exact G8
      · rw [e8]; exact P8
    case round =>
      obtain ⟨j, hj, rfl, L, HL8, GL, PL⟩ := hrel
      clear H8 G8 P8 M8
      obtain ⟨d, hdd⟩ : ∃ d, g * (j : Int) = d := ⟨_, rfl⟩
      have hd0 : 0 ≤ d ∧ d ≤ 600 := by rcases hg2 with rfl | rfl <;> omega
      have hto := HTO.out j
      have hrr := HRR.out j
      have hcap : hkTo s j ≤ 17600 := by
        refine Int.le_trans hto.2 ?_
        refine Int.le_trans (Int.mul_le_mul_of_nonneg_right (show (j : Int) ≤ 16 by omega) (by omega)) ?_
        omega
      rw [hdd]
      by_cases hjn : j < n
      · have hlt : d < s.out := by rw [← hdd]; rcases hg2 with rfl | rfl <;> omega
        have t3 : decide (d < s.out) = true := decide_eq_true hlt
        have hnx : g * ((j + 1 : Nat) : Int) = d + g := by rw [← hdd]; rcases hg2 with rfl | rfl <;> omega
        have hj0 : (d == (0 : Int)) = decide (j = 0) := by
          rw [← hdd]
          by_cases e : j = 0
          · subst e
            simp
          · rw [decide_eq_false e, beq_eq_false_iff_ne]
            rcases hg2 with rfl | rfl <;> omega
        obtain ⟨a, haa⟩ : ∃ a : Int, (if j = 0 then 0 else g) = a := ⟨_, rfl⟩
        have ha0 : 0 ≤ a ∧ a ≤ 64 := by rw [← haa]; split <;> omega
        obtain ⟨y, hy⟩ : ∃ y, hkR s j = y := ⟨_, rfl⟩
        have hyt : tagB s.alg (a + s.more + 1) = y := by
          rw [← hy, ← haa, ← HK.out.2.2]
          unfold hkR
          rfl
        have hstep : N0 + hkTo s j + y = N0 + hkTo s (j + 1) := by
          rw [← hy]
          show _ = N0 + (hkTo s j + hkR s j)
          omega
        rw [hy] at hrr
        have HST := Lib.hid (And.intro hyt hstep)
        obtain ⟨z, hz⟩ : ∃ z, hkTo s j = z := ⟨_, rfl⟩
        rw [hz] at hto hcap GL PL HST
        have hwd : IntKind.i64.wrap (d + g) = d + g := IntWalk.i64_in _ (by omega)
        have hwc : IntKind.i64.wrap (a + s.more) = a + s.more := IntWalk.i64_in _ (by omega)
        have hwe : IntKind.i64.wrap (a + s.more + 1) = a + s.more + 1 := IntWalk.i64_in _ (by omega)
        have HD := Lib.hid hdd
        have HZ := Lib.hid hz
        have HJ0 := Lib.hid hj0
        have HAA := Lib.hid haa
        have HNX := Lib.hid hnx
        clear hdd hyt hstep hy hz hj0 haa hnx
        have sd := HL8.out.mh GL.out HS.out HT.out
        have b0 := sd.sc.b0
        have b1 := sd.sc.b1
        have b2 := sd.sc.b2
        have b3 := sd.sc.b3
        have b4 := sd.sc.b4
        have b5 := sd.sc.b5
        have b6 := sd.sc.b6
        have e0 := sd.e0
        have e1 := sd.e1
        clear sd
        go_upto_if 59 with fail
        go_cut [11] from 50 to 70 (fun v wx => v = .int .i64 a ∧ wx = wr)
        case first =>
          by_cases n0 : j = 0
          · have q0 : (d == (0 : Int)) = true := by rw [HJ0.out]; exact decide_eq_true n0
            have ha1 := HAA.out
            rw [if_pos n0] at ha1
            subst ha1
            clear n0
            go_wp2_with fail
            go_meet
            exact ⟨rfl, rfl⟩
          · have q0 : (d == (0 : Int)) = false := by rw [HJ0.out]; exact decide_eq_false n0
            have ha1 := HAA.out
            rw [if_neg n0] at ha1
            subst ha1
            clear n0
            go_wp2_with fail
            go_meet
            exact ⟨rfl, rfl⟩
        case rest =>
          obtain ⟨rfl, rfl⟩ := hcut
          clear b0 b1 b2 b3 b4 b5 b6 e0 e1
          go_upto_region 13 with fail
          refine hd_start (SHk p m B E s t K V) (by kernel_rfl) ?_
          intro w9 hw'
          have H9 := Lib.hid (HL8.out.draw 1)
          rw [← hw'] at H9
          clear hw' HL8
          have S9 := H9.out.mh GL.out HS.out HT.out
          refine hd_take (v := ?_) 0 rfl (by kernel_rfl) (fun _ _ d _ _ h => (by cases d <;> exact h)) (by kernel_rfl) S9 (fun w' hS => ?_) ?_
          rotate_left
          focus (have q0 := SHk.f2 w' hS; have q1 := SHk.f6 w' hS; have q2 := SHk.g0 w' hS; have q3 := SHk.g1 w' hS; clear hS; go_simp; try rfl; done)
          simp only [List.getElem_toArray, List.getElem_cons_succ, List.getElem_cons_zero, Act.put, List.setIfInBounds_toArray, List.set_cons_zero, List.set_cons_succ]
          refine hd_take (v := ?_) 1 rfl (by kernel_rfl) (fun _ _ d _ _ h => (by cases d <;> exact h)) (by kernel_rfl) S9 (fun w' hS => ?_) ?_
          rotate_left
          focus (have q0 := SHk.f2 w' hS; have q1 := SHk.f6 w' hS; have q2 := SHk.g0 w' hS; have q3 := SHk.g1 w' hS; clear hS; go_simp; try rfl; done)
          simp only [List.getElem_toArray, List.getElem_cons_succ, List.getElem_cons_zero, Act.put, List.setIfInBounds_toArray, List.set_cons_zero, List.set_cons_succ]
          refine hd_take (v := ?_) 2 rfl (by kernel_rfl) (fun _ _ d _ _ h => (by cases d <;> exact h)) (by kernel_rfl) S9 (fun w' hS => ?_) ?_
          rotate_left
          focus (have q0 := SHk.f2 w' hS; have q1 := SHk.f6 w' hS; have q2 := SHk.g0 w' hS; have q3 := SHk.g1 w' hS; clear hS; go_simp; try rfl; done)
          simp only [List.getElem_toArray, List.getElem_cons_succ, List.getElem_cons_zero, Act.put, List.setIfInBounds_toArray, List.set_cons_zero, List.set_cons_succ]
          refine hd_take (v := ?_) 3 rfl (by kernel_rfl) (fun _ _ d _ _ h => (by cases d <;> exact h)) (by kernel_rfl) S9 (fun w' hS => ?_) ?_
          rotate_left
          focus (have q0 := SHk.f2 w' hS; have q1 := SHk.f6 w' hS; have q2 := SHk.g0 w' hS; have q3 := SHk.g1 w' hS; clear hS; go_simp; try rfl; done)
          simp only [List.getElem_toArray, List.getElem_cons_succ, List.getElem_cons_zero, Act.put, List.setIfInBounds_toArray, List.set_cons_zero, List.set_cons_succ]
          refine hd_take (v := ?_) 4 rfl (by kernel_rfl) (fun _ _ d _ _ h => (by cases d <;> exact h)) (by kernel_rfl) S9 (fun w' hS => ?_) ?_
          rotate_left
          focus (have q0 := SHk.f2 w' hS; have q1 := SHk.f6 w' hS; have q2 := SHk.g0 w' hS; have q3 := SHk.g1 w' hS; clear hS; go_simp; try rfl; done)
          simp only [List.getElem_toArray, List.getElem_cons_succ, List.getElem_cons_zero, Act.put, List.setIfInBounds_toArray, List.set_cons_zero, List.set_cons_succ]
          refine hd_take (v := ?_) 5 rfl (by kernel_rfl) (fun _ _ d _ _ h => (by cases d <;> exact h)) (by kernel_rfl) S9 (fun w' hS => ?_) ?_
          rotate_left
          focus (have q0 := SHk.f2 w' hS; have q1 := SHk.f6 w' hS; have q2 := SHk.g0 w' hS; have q3 := SHk.g1 w' hS; clear hS; go_simp; try rfl; done)
          simp only [List.getElem_toArray, List.getElem_cons_succ, List.getElem_cons_zero, Act.put, List.setIfInBounds_toArray, List.set_cons_zero, List.set_cons_succ]
          refine hd_take (v := ?_) 6 rfl (by kernel_rfl) (fun _ _ d _ _ h => (by cases d <;> exact h)) (by kernel_rfl) S9 (fun w' hS => ?_) ?_
          rotate_left
          focus (have q0 := SHk.f2 w' hS; have q1 := SHk.f6 w' hS; have q2 := SHk.g0 w' hS; have q3 := SHk.g1 w' hS; clear hS; go_simp; try rfl; done)
          simp only [List.getElem_toArray, List.getElem_cons_succ, List.getElem_cons_zero, Act.put, List.setIfInBounds_toArray, List.set_cons_zero, List.set_cons_succ]
          refine hd_take (v := ?_) 7 rfl (by kernel_rfl) (fun _ _ d _ _ h => (by cases d <;> exact h)) (by kernel_rfl) S9 (fun w' hS => ?_) ?_
          rotate_left
          focus (have q0 := SHk.f2 w' hS; have q1 := SHk.f6 w' hS; have q2 := SHk.g0 w' hS; have q3 := SHk.g1 w' hS; clear hS; go_simp; try rfl; done)
          simp only [List.getElem_toArray, List.getElem_cons_succ, List.getElem_cons_zero, Act.put, List.setIfInBounds_toArray, List.set_cons_zero, List.set_cons_succ]
          try rw [hwc]
          refine hd_take (v := ?_) 8 rfl (by kernel_rfl) (fun _ _ d _ _ h => (by cases d <;> exact h)) (by kernel_rfl) S9 (fun w' hS => ?_) ?_
          rotate_left
          focus (clear hS; go_simp; try rfl; done)
          simp only [List.getElem_toArray, List.getElem_cons_succ, List.getElem_cons_zero, Act.put, List.setIfInBounds_toArray, List.set_cons_zero, List.set_cons_succ]
          try rw [hwe]
          refine hd_one 9 (by kernel_rfl) ?_
          refine op_call rfl (by kernel_rfl) (by go_simp; first | exact ⟨rfl, rfl⟩ | rfl) ?_
          refine (tagBlocks_any s.alg (a + s.more + 1) w9 (by omega) (by omega)).mono ?_
          rintro e w10 ⟨he, hb⟩
          rw [HST.out.1] at he
          subst he
          have H10 := Lib.hid (H9.out.below hb)
          clear hb
          have hS2 := H10.out.mh GL.out HS.out HT.out
          refine ⟨_, rfl, hS2, ?_⟩
          simp only [List.getElem_toArray, List.getElem_cons_succ, List.getElem_cons_zero, Act.put, List.setIfInBounds_toArray, List.set_cons_zero, List.set_cons_succ]
          refine hd_one 10 (by kernel_rfl) ?_
          refine op_call rfl (by kernel_rfl) (by go_simp; first | exact ⟨rfl, rfl⟩ | rfl) ?_
          refine (timesS_env H10.out l GL.out.led K V y (HRB.out.note ⟨K, V, N0 + z⟩ (d := 30000) (by show N0 + z ≤ 30000; omega) (by omega)) (by omega) (by omega)).mono ?_
          rintro e w11 ⟨he, h11⟩
          subst he
          rw [timesN_twice rs K V (N0 + z) y (by omega) (by omega), HST.out.2] at h11
          have GL2 := GL.out.setL hil hll1 (timesN rs ⟨K, V, N0 + hkTo s (j + 1)⟩)
          have hS2 := h11.mh GL2 HS.out HT.out
          have H11 := Lib.hid h11
          have GLL := Lib.hid GL2
          clear h11 GL2
          refine ⟨_, rfl, hS2, ?_⟩
          simp only [List.getElem_toArray, List.getElem_cons_succ, List.getElem_cons_zero, Act.put, List.setIfInBounds_toArray, List.set_cons_zero, List.set_cons_succ]
          refine hd_done (by kernel_rfl) ?_
          clear S9
          go_wp2_with fail
          refine ⟨⟨j + 1, by omega, by rw [HNX.out], _, H11, GLL, ?_⟩, ?_⟩
          · have e9 := PL.out.set l (by rw [List.length_set]; exact hll1) (obP q (some (timesN rs ⟨K, V, N0 + hkTo s (j + 1)⟩)))
            rw [List.set_set] at e9
            exact Lib.hid e9
          · simp only [intOf]
            omega
      · have hge : ¬ d < s.out := by rw [← hdd]; rcases hg2 with rfl | rfl <;> omega
        have t3 : decide (d < s.out) = false := decide_eq_false hge
        have hjn2 : j = n := by omega
        subst hjn2
        have HD := Lib.hid hdd
        clear hdd hge hjn
        have sd := HL8.out.mh GL.out HS.out HT.out
        have b0 := sd.sc.b0
        have b1 := sd.sc.b1
        have b2 := sd.sc.b2
        have b3 := sd.sc.b3
        have b4 := sd.sc.b4
        have b5 := sd.sc.b5
        have b6 := sd.sc.b6
        have e0 := sd.e0
        have e1 := sd.e1
        clear sd
        go_wp2_with fail
        clear b0 b1 b2 b3 b4 b5 b6 e0 e1
        refine (take_env HL8.out i GL.out.pub ⟨0, 0, s.out, 0, 0⟩).mono ?_
        rintro e w20 ⟨rfl, h20⟩
        have H20 := Lib.hid h20
        clear h20
        go_wp2_with fail
        go_end0
        have e9 := PL.out.set i (by rw [List.length_set]; exact hil1) (obPub p m k (takeH σ ⟨0, 0, s.out, 0, 0⟩))
        refine ⟨rfl, ?_⟩
        rw [HE.out]
        exact H20.out.ofPre e9
set_option maxHeartbeats 4000000 in
theorem pbkdf_env (h : Env w0 w obs) (i l : Nat) (hil : i ≠ l) (hi : obs[i]? = some (obPub p m k σ)) {q : Value} {rs : List Rn} (hl : obs[l]? = some (obP q (some rs))) (s : Sk) (hs : okI s.handle) {t : Th} (ht : σ s.handle = some t) (hky0 : 0 ≤ t.key) (hky1 : t.key ≤ 512) (ha : s.alg = 1 ∨ s.alg = 2) (hd : 0 ≤ s.data) (hd1 : s.data ≤ 65536) (ho : 1 ≤ s.out) (ho1 : s.out ≤ 512) (hc0 : 1 ≤ s.count) (hc1 : s.count ≤ 1048576) {cb : Int} (hb : RB cb rs) (hcb : cb ≤ 100000000) :
    Calls Tryz.prog 41 #[pV p, q, skV s] w fun e w' => e = .returned (.tuple #[]) ∧ Env w0 w' ((obs.set l (obP q (some (timesN rs ⟨evkA s.alg, wideA s.alg, pbA t s⟩)))).set i (obPub p m k (takeH σ ⟨0, 0, s.out, 0, 0⟩))) := by
  have H1 := Lib.hid (h.newK 40 (skCells s))
  have hil1 := (List.getElem?_eq_some_iff.1 hi).1
  have hll1 := (List.getElem?_eq_some_iff.1 hl).1
  have HI := Lib.hid hi
  have HL := Lib.hid hl
  have HS := Lib.hid hs
  have HRB := Lib.hid hb
  clear h hi hl hs hb
  unfold pV skV
  unfold skCells at H1
  go_enter Tryz.func41, Tryz.ntmps41
  have HT := Lib.hid ht
  clear ht
  go_wp2_with fail
  obtain ⟨B, hB⟩ : ∃ B, w.heap.size = B := ⟨_, rfl⟩
  obtain ⟨w1, hw1⟩ : ∃ y, w.alloc (.cells #[.int .u8 s.kind, .int .i64 s.handle, .int .u8 s.alg, .int .i64 s.count, .int .i64 s.out, .int .i64 s.data, .int .i64 s.more] 40) = y := ⟨_, rfl⟩
  rw [hw1, hB] at H1
  try rw [hw1]
  try rw [hB]
  clear hw1 hB
  obtain ⟨M, hM⟩ : ∃ M, obs ++ [obK B 40 #[.int .u8 s.kind, .int .i64 s.handle, .int .u8 s.alg, .int .i64 s.count, .int .i64 s.out, .int .i64 s.data, .int .i64 s.more]] = M := ⟨_, rfl⟩
  have I1 : Hid (M[i]? = some (obPub p m k σ)) := by rw [← hM, List.getElem?_append_left hil1]; exact HI
  have I2 : Hid (M[l]? = some (obP q (some rs))) := by rw [← hM, List.getElem?_append_left hll1]; exact HL
  have I3 : Hid (M[obs.length]? = some (obK B 40 (skCells s))) := by rw [← hM, List.getElem?_append_right (Nat.le_refl _), Nat.sub_self]; exact Lib.hid rfl
  rw [hM] at H1
  have HM := Lib.hid hM
  clear hM
  obtain ⟨K, hK⟩ : ∃ K, evkA s.alg = K := ⟨_, rfl⟩
  obtain ⟨V, hV⟩ : ∃ V, wideA s.alg = V := ⟨_, rfl⟩
  obtain ⟨g, hg⟩ : ∃ g, hashA s.alg = g := ⟨_, rfl⟩
  have hg2 : g = 32 ∨ g = 64 := by rw [← hg]; exact hashA_alg ha
  have HK := Lib.hid (And.intro hK (And.intro hV hg))
  have HA := Lib.hid ha
  clear hK hV hg ha
  refine (event_any s.alg w1).mono ?_
  rintro e w2 ⟨rfl, hb2⟩
  rw [HK.out.1, HK.out.2.1]
  have H2 := Lib.hid (H1.out.below hb2)
  clear hb2 H1
  have sd := H2.out.sc i obs.length I1.out I3.out HS.out
  have b0 := sd.b0
  have b1 := sd.b1
  have b2 := sd.b2
  have b3 := sd.b3
  have b4 := sd.b4
  have b5 := sd.b5
  have b6 := sd.b6
  have hBl : B < w2.heap.size := (H2.out.blk obs.length I3.out).lt
  clear sd
  go_wp2_with fail
  clear b0 b1 b2 b3 b4 b5 b6
  have h3 := H2.out.newK 64 #[.int .u8 K, .int .i64 V]
  obtain ⟨E, hE⟩ : ∃ y, w2.heap.size = y := ⟨_, rfl⟩
  obtain ⟨w3, hw3⟩ : ∃ y, w2.alloc (.cells #[.int .u8 K, .int .i64 V] 64) = y := ⟨_, rfl⟩
  rw [hw3, hE] at h3
  obtain ⟨M2, hM2⟩ : ∃ y, M ++ [obK E 64 #[.int .u8 K, .int .i64 V]] = y := ⟨_, rfl⟩
  have hml : M.length = obs.length + 1 := by rw [← HM.out]; simp
  have G2 : Hid (Mh M2 i l obs.length p m k σ q rs B s E K V) := by
    rw [← hM2]
    exact Lib.hid ⟨atL I1.out, atL I2.out, atL I3.out, by rw [← hml]; exact atR 0⟩
  have P2 : Hid (Pre M2 obs) := by rw [← hM2, ← HM.out]; exact Lib.hid (Pre.app2 _ _ _)
  rw [hM2] at h3
  have H3 := Lib.hid h3
  try rw [hw3]
  try rw [hE]
  clear h3 hw3 hE hM2 hml H2 hBl I1 I2 I3 HM
  refine (hash_any s.alg w3).mono ?_
  rintro e w4 ⟨rfl, rfl⟩
  rw [HK.out.2.2]
  rcases hg2 with rfl | rfl
  · skip
    have sd := H3.out.mh G2.out HS.out HT.out
    have b0 := sd.sc.b0
    have b1 := sd.sc.b1
    have b2 := sd.sc.b2
    have b3 := sd.sc.b3
    have b4 := sd.sc.b4
    have b5 := sd.sc.b5
    have b6 := sd.sc.b6
    have e0 := sd.e0
    have e1 := sd.e1
    clear sd
    obtain ⟨y1, hy1⟩ : ∃ y, tagB s.alg (s.data + 4) = y := ⟨_, rfl⟩
    have a1 := tagB_rng (a := s.alg) (n := s.data + 4) (by omega)
    obtain ⟨y3, hy3⟩ : ∃ y, keyB s.alg t.key = y := ⟨_, rfl⟩
    have a3 := keyB_rng (a := s.alg) (n := t.key) (by omega)
    have hy2 : tagB s.alg 32 = 2 := by rw [← HK.out.2.2]; exact tagB_hash HA.out
    rw [hy1] at a1
    rw [hy3] at a3
    obtain ⟨mn, hmn⟩ : ∃ mn, (s.out + 32 - 1) / 32 = mn := ⟨_, rfl⟩
    have hmn0 : 1 ≤ mn ∧ mn ≤ 16 := by omega
    obtain ⟨ea, hea⟩ : ∃ ea, y1 + (s.count - 1) * 2 = ea := ⟨_, rfl⟩
    have hea0 : 0 ≤ ea ∧ ea ≤ 2200000 := by omega
    have hprod : 0 ≤ mn * ea ∧ mn * ea ≤ 35200000 := by
      refine ⟨Int.mul_nonneg (by omega) hea0.1, Int.le_trans (Int.mul_le_mul_of_nonneg_right hmn0.2 hea0.1) (by omega)⟩
    obtain ⟨y4, hy4⟩ : ∃ y, mn * ea = y := ⟨_, rfl⟩
    obtain ⟨y5, hy5⟩ : ∃ y, y3 + y4 = y := ⟨_, rfl⟩
    rw [hy4] at hprod
    have hTOT : pbA t s = y5 := by
      unfold pbA
      rw [HK.out.2.2, hmn, hy1, hy2, hea, hy3, hy4, hy5]
    have hwa : IntKind.i64.wrap (s.data + 4) = s.data + 4 := IntWalk.i64_in _ (by omega)
    have hwb : IntKind.i64.wrap (s.count - 1) = s.count - 1 := IntWalk.i64_in _ (by omega)
    have hwc : IntKind.i64.wrap ((s.count - 1) * 2) = (s.count - 1) * 2 := IntWalk.i64_in _ (by omega)
    have hwd : IntKind.i64.wrap (y1 + (s.count - 1) * 2) = ea := by rw [hea]; exact IntWalk.i64_in _ (by omega)
    have hwe : IntKind.i64.wrap (mn * ea) = y4 := by rw [hy4]; exact IntWalk.i64_in _ (by omega)
    have hwf : IntKind.i64.wrap (y3 + y4) = y5 := by rw [hy5]; exact IntWalk.i64_in _ (by omega)
    have hm2 : IntKind.i64.wrap (IntKind.i64.wrap (IntKind.i64.wrap (s.out + 32) - 1)) = s.out + 32 - 1 := by
      rw [IntWalk.i64_in (s.out + 32) (by omega), IntWalk.i64_in (s.out + 32 - 1) (by omega), IntWalk.i64_in _ (by omega)]
    have hr5 : 2 ≤ y5 ∧ y5 ≤ 35300000 := by omega
    have HE := Lib.hid (show timesN rs ⟨evkA s.alg, wideA s.alg, pbA t s⟩ = (timesN rs ⟨K, V, y5⟩) from by rw [HK.out.1, HK.out.2.1, hTOT])
    have HY := Lib.hid (And.intro hy1 (And.intro hy2 hy3))
    have HMN := Lib.hid hmn
    have HW := Lib.hid (And.intro hwa (And.intro hwb (And.intro hwc (And.intro hwd (And.intro hwe hwf)))))
    clear hy1 hy2 hy3 hea hy4 hy5 hTOT hmn hwa hwb hwc hwd hwe hwf hm2
    go_upto_region 4 with fail
    try rw [HMN.out]
    clear b0 b1 b2 b3 b4 b5 b6 e0 e1
    refine hd_start (SHk p m B E s t K V) (by kernel_rfl) ?_
    intro w4 hw'
    have H4 := Lib.hid (H3.out.draw 1)
    rw [← hw'] at H4
    clear hw' H3
    have S4 := H4.out.mh G2.out HS.out HT.out
    refine hd_take (v := ?_) 0 rfl (by kernel_rfl) (fun _ _ d _ _ h => (by cases d <;> exact h)) (by kernel_rfl) S4 (fun w' hS => ?_) ?_
    rotate_left
    focus (have q0 := SHk.f2 w' hS; have q1 := SHk.f3 w' hS; have q2 := SHk.f5 w' hS; clear hS; go_simp; try rfl; done)
    simp only [List.getElem_toArray, List.getElem_cons_succ, List.getElem_cons_zero, Act.put, List.setIfInBounds_toArray, List.set_cons_zero, List.set_cons_succ]
    refine hd_take (v := ?_) 1 rfl (by kernel_rfl) (fun _ _ d _ _ h => (by cases d <;> exact h)) (by kernel_rfl) S4 (fun w' hS => ?_) ?_
    rotate_left
    focus (have q0 := SHk.f2 w' hS; have q1 := SHk.f3 w' hS; have q2 := SHk.f5 w' hS; clear hS; go_simp; try rfl; done)
    simp only [List.getElem_toArray, List.getElem_cons_succ, List.getElem_cons_zero, Act.put, List.setIfInBounds_toArray, List.set_cons_zero, List.set_cons_succ]
    refine hd_take (v := ?_) 2 rfl (by kernel_rfl) (fun _ _ d _ _ h => (by cases d <;> exact h)) (by kernel_rfl) S4 (fun w' hS => ?_) ?_
    rotate_left
    focus (have q0 := SHk.f2 w' hS; have q1 := SHk.f3 w' hS; have q2 := SHk.f5 w' hS; clear hS; go_simp; try rfl; done)
    simp only [List.getElem_toArray, List.getElem_cons_succ, List.getElem_cons_zero, Act.put, List.setIfInBounds_toArray, List.set_cons_zero, List.set_cons_succ]
    refine hd_take (v := ?_) 3 rfl (by kernel_rfl) (fun _ _ d _ _ h => (by cases d <;> exact h)) (by kernel_rfl) S4 (fun w' hS => ?_) ?_
    rotate_left
    focus (have q0 := SHk.f2 w' hS; have q1 := SHk.f3 w' hS; have q2 := SHk.f5 w' hS; clear hS; go_simp; try rfl; done)
    simp only [List.getElem_toArray, List.getElem_cons_succ, List.getElem_cons_zero, Act.put, List.setIfInBounds_toArray, List.set_cons_zero, List.set_cons_succ]
    refine hd_take (v := ?_) 4 rfl (by kernel_rfl) (fun _ _ d _ _ h => (by cases d <;> exact h)) (by kernel_rfl) S4 (fun w' hS => ?_) ?_
    rotate_left
    focus (have q0 := SHk.f2 w' hS; have q1 := SHk.f3 w' hS; have q2 := SHk.f5 w' hS; clear hS; go_simp; try rfl; done)
    simp only [List.getElem_toArray, List.getElem_cons_succ, List.getElem_cons_zero, Act.put, List.setIfInBounds_toArray, List.set_cons_zero, List.set_cons_succ]
    refine hd_take (v := ?_) 6 rfl (by kernel_rfl) (fun _ _ d _ _ h => (by cases d <;> exact h)) (by kernel_rfl) S4 (fun w' hS => ?_) ?_
    rotate_left
    focus (have q0 := SHk.f2 w' hS; have q1 := SHk.f3 w' hS; have q2 := SHk.f5 w' hS; clear hS; go_simp; try rfl; done)
    simp only [List.getElem_toArray, List.getElem_cons_succ, List.getElem_cons_zero, Act.put, List.setIfInBounds_toArray, List.set_cons_zero, List.set_cons_succ]
    refine hd_take (v := ?_) 7 rfl (by kernel_rfl) (fun _ _ d _ _ h => (by cases d <;> exact h)) (by kernel_rfl) S4 (fun w' hS => ?_) ?_
    rotate_left
    focus (have q0 := SHk.f2 w' hS; have q1 := SHk.f3 w' hS; have q2 := SHk.f5 w' hS; clear hS; go_simp; try rfl; done)
    simp only [List.getElem_toArray, List.getElem_cons_succ, List.getElem_cons_zero, Act.put, List.setIfInBounds_toArray, List.set_cons_zero, List.set_cons_succ]
    refine hd_take (v := ?_) 8 rfl (by kernel_rfl) (fun _ _ d _ _ h => (by cases d <;> exact h)) (by kernel_rfl) S4 (fun w' hS => ?_) ?_
    rotate_left
    focus (have q0 := SHk.f2 w' hS; have q1 := SHk.f3 w' hS; have q2 := SHk.f5 w' hS; clear hS; go_simp; try rfl; done)
    simp only [List.getElem_toArray, List.getElem_cons_succ, List.getElem_cons_zero, Act.put, List.setIfInBounds_toArray, List.set_cons_zero, List.set_cons_succ]
    refine hd_take (v := ?_) 9 rfl (by kernel_rfl) (fun _ _ d _ _ h => (by cases d <;> exact h)) (by kernel_rfl) S4 (fun w' hS => ?_) ?_
    rotate_left
    focus (have q0 := SHk.f2 w' hS; have q1 := SHk.f3 w' hS; have q2 := SHk.f5 w' hS; clear hS; go_simp; try rfl; done)
    simp only [List.getElem_toArray, List.getElem_cons_succ, List.getElem_cons_zero, Act.put, List.setIfInBounds_toArray, List.set_cons_zero, List.set_cons_succ]
    refine hd_take (v := ?_) 10 rfl (by kernel_rfl) (fun _ _ d _ _ h => (by cases d <;> exact h)) (by kernel_rfl) S4 (fun w' hS => ?_) ?_
    rotate_left
    focus (have q0 := SHk.f2 w' hS; have q1 := SHk.f3 w' hS; have q2 := SHk.f5 w' hS; clear hS; go_simp; try rfl; done)
    simp only [List.getElem_toArray, List.getElem_cons_succ, List.getElem_cons_zero, Act.put, List.setIfInBounds_toArray, List.set_cons_zero, List.set_cons_succ]
    refine hd_take (v := ?_) 11 rfl (by kernel_rfl) (fun _ _ d _ _ h => (by cases d <;> exact h)) (by kernel_rfl) S4 (fun w' hS => ?_) ?_
    rotate_left
    focus (have q0 := SHk.f2 w' hS; have q1 := SHk.f3 w' hS; have q2 := SHk.f5 w' hS; clear hS; go_simp; try rfl; done)
    simp only [List.getElem_toArray, List.getElem_cons_succ, List.getElem_cons_zero, Act.put, List.setIfInBounds_toArray, List.set_cons_zero, List.set_cons_succ]
    try rw [HW.out.1]
    try rw [HW.out.2.1]
    refine hd_one 5 (by kernel_rfl) ?_
    refine op_call rfl (by kernel_rfl) (by go_simp; first | exact ⟨rfl, rfl⟩ | rfl) ?_
    refine (tagBlocks_any s.alg (s.data + 4) w4 (by omega) (by omega)).mono ?_
    rintro e w5 ⟨he, hb⟩
    rw [HY.out.1] at he
    subst he
    have H5 := Lib.hid (H4.out.below hb)
    clear hb
    have hS2 := H5.out.mh G2.out HS.out HT.out
    refine ⟨_, rfl, hS2, ?_⟩
    simp only [List.getElem_toArray, List.getElem_cons_succ, List.getElem_cons_zero, Act.put, List.setIfInBounds_toArray, List.set_cons_zero, List.set_cons_succ]
    refine hd_one 12 (by kernel_rfl) ?_
    refine op_call rfl (by kernel_rfl) (by go_simp; first | exact ⟨rfl, rfl⟩ | rfl) ?_
    refine (tagBlocks_any s.alg 32 w5 (by omega) (by omega)).mono ?_
    rintro e w6 ⟨he, hb⟩
    rw [HY.out.2.1] at he
    subst he
    have H6 := Lib.hid (H5.out.below hb)
    clear hb
    have hS2 := H6.out.mh G2.out HS.out HT.out
    have S6 := hS2
    refine ⟨_, rfl, hS2, ?_⟩
    simp only [List.getElem_toArray, List.getElem_cons_succ, List.getElem_cons_zero, Act.put, List.setIfInBounds_toArray, List.set_cons_zero, List.set_cons_succ]
    refine hd_take (v := ?_) 13 rfl (by kernel_rfl) (fun _ _ d _ _ h => (by cases d <;> exact h)) (by kernel_rfl) S6 (fun w' hS => ?_) ?_
    rotate_left
    focus (clear hS; go_simp; try rfl; done)
    simp only [List.getElem_toArray, List.getElem_cons_succ, List.getElem_cons_zero, Act.put, List.setIfInBounds_toArray, List.set_cons_zero, List.set_cons_succ]
    try rw [HW.out.2.2.1]
    refine hd_take (v := ?_) 14 rfl (by kernel_rfl) (fun _ _ d _ _ h => (by cases d <;> exact h)) (by kernel_rfl) S6 (fun w' hS => ?_) ?_
    rotate_left
    focus (clear hS; go_simp; try rfl; done)
    simp only [List.getElem_toArray, List.getElem_cons_succ, List.getElem_cons_zero, Act.put, List.setIfInBounds_toArray, List.set_cons_zero, List.set_cons_succ]
    try rw [HW.out.2.2.2.1]
    refine hd_take (v := ?_) 15 rfl (by kernel_rfl) (fun _ _ d _ _ h => (by cases d <;> exact h)) (by kernel_rfl) S6 (fun w' hS => ?_) ?_
    rotate_left
    focus (clear hS; go_simp; try rfl; done)
    simp only [List.getElem_toArray, List.getElem_cons_succ, List.getElem_cons_zero, Act.put, List.setIfInBounds_toArray, List.set_cons_zero, List.set_cons_succ]
    refine hd_done (by kernel_rfl) ?_
    clear S4 S6
    go_upto_region 5 with fail
    refine hd_start (SHk p m B E s t K V) (by kernel_rfl) ?_
    intro w7 hw'
    have H7 := Lib.hid (H6.out.draw 1)
    rw [← hw'] at H7
    clear hw' H6
    have S7 := H7.out.mh G2.out HS.out HT.out
    refine hd_take (v := ?_) 0 rfl (by kernel_rfl) (fun _ _ d _ _ h => (by cases d <;> exact h)) (by kernel_rfl) S7 (fun w' hS => ?_) ?_
    rotate_left
    focus (have q0 := SHk.fc w' hS; have q1 := SHk.fat w' hS; have q2 := SHk.f1 w' hS; have q3 := SHk.f2 w' hS; have q4 := SHk.g0 w' hS; have q5 := SHk.g1 w' hS; clear hS; go_simp; try rfl; done)
    simp only [List.getElem_toArray, List.getElem_cons_succ, List.getElem_cons_zero, Act.put, List.setIfInBounds_toArray, List.set_cons_zero, List.set_cons_succ]
    refine hd_take (v := ?_) 1 rfl (by kernel_rfl) (fun _ _ d _ _ h => (by cases d <;> exact h)) (by kernel_rfl) S7 (fun w' hS => ?_) ?_
    rotate_left
    focus (have q0 := SHk.fc w' hS; have q1 := SHk.fat w' hS; have q2 := SHk.f1 w' hS; have q3 := SHk.f2 w' hS; have q4 := SHk.g0 w' hS; have q5 := SHk.g1 w' hS; clear hS; go_simp; try rfl; done)
    simp only [List.getElem_toArray, List.getElem_cons_succ, List.getElem_cons_zero, Act.put, List.setIfInBounds_toArray, List.set_cons_zero, List.set_cons_succ]
    refine hd_take (v := ?_) 2 rfl (by kernel_rfl) (fun _ _ d _ _ h => (by cases d <;> exact h)) (by kernel_rfl) S7 (fun w' hS => ?_) ?_
    rotate_left
    focus (have q0 := SHk.fc w' hS; have q1 := SHk.fat w' hS; have q2 := SHk.f1 w' hS; have q3 := SHk.f2 w' hS; have q4 := SHk.g0 w' hS; have q5 := SHk.g1 w' hS; clear hS; go_simp; try rfl; done)
    simp only [List.getElem_toArray, List.getElem_cons_succ, List.getElem_cons_zero, Act.put, List.setIfInBounds_toArray, List.set_cons_zero, List.set_cons_succ]
    refine hd_take (v := ?_) 3 rfl (by kernel_rfl) (fun _ _ d _ _ h => (by cases d <;> exact h)) (by kernel_rfl) S7 (fun w' hS => ?_) ?_
    rotate_left
    focus (have q0 := SHk.fc w' hS; have q1 := SHk.fat w' hS; have q2 := SHk.f1 w' hS; have q3 := SHk.f2 w' hS; have q4 := SHk.g0 w' hS; have q5 := SHk.g1 w' hS; clear hS; go_simp; try rfl; done)
    simp only [List.getElem_toArray, List.getElem_cons_succ, List.getElem_cons_zero, Act.put, List.setIfInBounds_toArray, List.set_cons_zero, List.set_cons_succ]
    refine hd_take (v := ?_) 4 rfl (by kernel_rfl) (fun _ _ d _ _ h => (by cases d <;> exact h)) (by kernel_rfl) S7 (fun w' hS => ?_) ?_
    rotate_left
    focus (have q0 := SHk.fc w' hS; have q1 := SHk.fat w' hS; have q2 := SHk.f1 w' hS; have q3 := SHk.f2 w' hS; have q4 := SHk.g0 w' hS; have q5 := SHk.g1 w' hS; clear hS; go_simp; try rfl; done)
    simp only [List.getElem_toArray, List.getElem_cons_succ, List.getElem_cons_zero, Act.put, List.setIfInBounds_toArray, List.set_cons_zero, List.set_cons_succ]
    refine hd_take (v := ?_) 5 rfl (by kernel_rfl) (fun _ _ d _ _ h => (by cases d <;> exact h)) (by kernel_rfl) S7 (fun w' hS => ?_) ?_
    rotate_left
    focus (have q0 := SHk.fc w' hS; have q1 := SHk.fat w' hS; have q2 := SHk.f1 w' hS; have q3 := SHk.f2 w' hS; have q4 := SHk.g0 w' hS; have q5 := SHk.g1 w' hS; clear hS; go_simp; try rfl; done)
    simp only [List.getElem_toArray, List.getElem_cons_succ, List.getElem_cons_zero, Act.put, List.setIfInBounds_toArray, List.set_cons_zero, List.set_cons_succ]
    refine hd_take (v := ?_) 6 rfl (by kernel_rfl) (fun _ _ d _ _ h => (by cases d <;> exact h)) (by kernel_rfl) S7 (fun w' hS => ?_) ?_
    rotate_left
    focus (have q0 := SHk.fc w' hS; have q1 := SHk.fat w' hS; have q2 := SHk.f1 w' hS; have q3 := SHk.f2 w' hS; have q4 := SHk.g0 w' hS; have q5 := SHk.g1 w' hS; clear hS; go_simp; try rfl; done)
    simp only [List.getElem_toArray, List.getElem_cons_succ, List.getElem_cons_zero, Act.put, List.setIfInBounds_toArray, List.set_cons_zero, List.set_cons_succ]
    refine hd_take (v := ?_) 7 rfl (by kernel_rfl) (fun _ _ d _ _ h => (by cases d <;> exact h)) (by kernel_rfl) S7 (fun w' hS => ?_) ?_
    rotate_left
    focus (have q0 := SHk.fc w' hS; have q1 := SHk.fat w' hS; have q2 := SHk.f1 w' hS; have q3 := SHk.f2 w' hS; have q4 := SHk.g0 w' hS; have q5 := SHk.g1 w' hS; clear hS; go_simp; try rfl; done)
    simp only [List.getElem_toArray, List.getElem_cons_succ, List.getElem_cons_zero, Act.put, List.setIfInBounds_toArray, List.set_cons_zero, List.set_cons_succ]
    refine hd_take (v := ?_) 8 rfl (by kernel_rfl) (fun _ _ d _ _ h => (by cases d <;> exact h)) (by kernel_rfl) S7 (fun w' hS => ?_) ?_
    rotate_left
    focus (have q0 := SHk.fc w' hS; have q1 := SHk.fat w' hS; have q2 := SHk.f1 w' hS; have q3 := SHk.f2 w' hS; have q4 := SHk.g0 w' hS; have q5 := SHk.g1 w' hS; clear hS; go_simp; try rfl; done)
    simp only [List.getElem_toArray, List.getElem_cons_succ, List.getElem_cons_zero, Act.put, List.setIfInBounds_toArray, List.set_cons_zero, List.set_cons_succ]
    refine hd_take (v := ?_) 9 rfl (by kernel_rfl) (fun _ _ d _ _ h => (by cases d <;> exact h)) (by kernel_rfl) S7 (fun w' hS => ?_) ?_
    rotate_left
    focus (have q0 := SHk.fc w' hS; have q1 := SHk.fat w' hS; have q2 := SHk.f1 w' hS; have q3 := SHk.f2 w' hS; have q4 := SHk.g0 w' hS; have q5 := SHk.g1 w' hS; clear hS; go_simp; try rfl; done)
    simp only [List.getElem_toArray, List.getElem_cons_succ, List.getElem_cons_zero, Act.put, List.setIfInBounds_toArray, List.set_cons_zero, List.set_cons_succ]
    refine hd_take (v := ?_) 10 rfl (by kernel_rfl) (fun _ _ d _ _ h => (by cases d <;> exact h)) (by kernel_rfl) S7 (fun w' hS => ?_) ?_
    rotate_left
    focus (have q0 := SHk.fc w' hS; have q1 := SHk.fat w' hS; have q2 := SHk.f1 w' hS; have q3 := SHk.f2 w' hS; have q4 := SHk.g0 w' hS; have q5 := SHk.g1 w' hS; clear hS; go_simp; try rfl; done)
    simp only [List.getElem_toArray, List.getElem_cons_succ, List.getElem_cons_zero, Act.put, List.setIfInBounds_toArray, List.set_cons_zero, List.set_cons_succ]
    refine hd_take (v := ?_) 11 rfl (by kernel_rfl) (fun _ _ d _ _ h => (by cases d <;> exact h)) (by kernel_rfl) S7 (fun w' hS => ?_) ?_
    rotate_left
    focus (have q0 := SHk.fc w' hS; have q1 := SHk.fat w' hS; have q2 := SHk.f1 w' hS; have q3 := SHk.f2 w' hS; have q4 := SHk.g0 w' hS; have q5 := SHk.g1 w' hS; clear hS; go_simp; try rfl; done)
    simp only [List.getElem_toArray, List.getElem_cons_succ, List.getElem_cons_zero, Act.put, List.setIfInBounds_toArray, List.set_cons_zero, List.set_cons_succ]
    refine hd_take (v := ?_) 13 rfl (by kernel_rfl) (fun _ _ d _ _ h => (by cases d <;> exact h)) (by kernel_rfl) S7 (fun w' hS => ?_) ?_
    rotate_left
    focus (have q0 := SHk.fc w' hS; have q1 := SHk.fat w' hS; have q2 := SHk.f1 w' hS; have q3 := SHk.f2 w' hS; have q4 := SHk.g0 w' hS; have q5 := SHk.g1 w' hS; clear hS; go_simp; try rfl; done)
    simp only [List.getElem_toArray, List.getElem_cons_succ, List.getElem_cons_zero, Act.put, List.setIfInBounds_toArray, List.set_cons_zero, List.set_cons_succ]
    refine hd_take (v := ?_) 14 rfl (by kernel_rfl) (fun _ _ d _ _ h => (by cases d <;> exact h)) (by kernel_rfl) S7 (fun w' hS => ?_) ?_
    rotate_left
    focus (have q0 := SHk.fc w' hS; have q1 := SHk.fat w' hS; have q2 := SHk.f1 w' hS; have q3 := SHk.f2 w' hS; have q4 := SHk.g0 w' hS; have q5 := SHk.g1 w' hS; clear hS; go_simp; try rfl; done)
    simp only [List.getElem_toArray, List.getElem_cons_succ, List.getElem_cons_zero, Act.put, List.setIfInBounds_toArray, List.set_cons_zero, List.set_cons_succ]
    refine hd_take (v := ?_) 15 rfl (by kernel_rfl) (fun _ _ d _ _ h => (by cases d <;> exact h)) (by kernel_rfl) S7 (fun w' hS => ?_) ?_
    rotate_left
    focus (have q0 := SHk.fc w' hS; have q1 := SHk.fat w' hS; have q2 := SHk.f1 w' hS; have q3 := SHk.f2 w' hS; have q4 := SHk.g0 w' hS; have q5 := SHk.g1 w' hS; clear hS; go_simp; try rfl; done)
    simp only [List.getElem_toArray, List.getElem_cons_succ, List.getElem_cons_zero, Act.put, List.setIfInBounds_toArray, List.set_cons_zero, List.set_cons_succ]
    try rw [HW.out.2.2.2.2.1]
    refine hd_one 12 (by kernel_rfl) ?_
    refine op_call rfl (by kernel_rfl) (by go_simp; first | exact ⟨rfl, rfl⟩ | rfl) ?_
    refine (keyBlocks_any s.alg t.key w7 (by omega) (by omega)).mono ?_
    rintro e w8 ⟨he, hb⟩
    rw [HY.out.2.2] at he
    subst he
    have H8 := Lib.hid (H7.out.below hb)
    clear hb
    have hS2 := H8.out.mh G2.out HS.out HT.out
    have S8 := hS2
    refine ⟨_, rfl, hS2, ?_⟩
    simp only [List.getElem_toArray, List.getElem_cons_succ, List.getElem_cons_zero, Act.put, List.setIfInBounds_toArray, List.set_cons_zero, List.set_cons_succ]
    refine hd_take (v := ?_) 16 rfl (by kernel_rfl) (fun _ _ d _ _ h => (by cases d <;> exact h)) (by kernel_rfl) S8 (fun w' hS => ?_) ?_
    rotate_left
    focus (clear hS; go_simp; try rfl; done)
    simp only [List.getElem_toArray, List.getElem_cons_succ, List.getElem_cons_zero, Act.put, List.setIfInBounds_toArray, List.set_cons_zero, List.set_cons_succ]
    try rw [HW.out.2.2.2.2.2]
    refine hd_one 17 (by kernel_rfl) ?_
    refine op_call rfl (by kernel_rfl) (by go_simp; first | exact ⟨rfl, rfl⟩ | rfl) ?_
    refine (timesS_env H8.out l G2.out.led K V y5 HRB.out (by omega) (by omega)).mono ?_
    rintro e w9 ⟨he, h9⟩
    subst he
    have h9' := h9
    have hS2 := h9.mh (G2.out.setL hil hll1 _) HS.out HT.out
    refine ⟨_, rfl, hS2, ?_⟩
    simp only [List.getElem_toArray, List.getElem_cons_succ, List.getElem_cons_zero, Act.put, List.setIfInBounds_toArray, List.set_cons_zero, List.set_cons_succ]
    refine hd_done (by kernel_rfl) ?_
    clear S7 S8 h9'
    obtain ⟨M9, hM9⟩ : ∃ y, M2.set l (obP q (some (timesN rs ⟨K, V, y5⟩))) = y := ⟨_, rfl⟩
    have G9 : Hid (Mh M9 i l obs.length p m k σ q (timesN rs ⟨K, V, y5⟩) B s E K V) := by rw [← hM9]; exact Lib.hid (G2.out.setL hil hll1 _)
    have P9 : Hid (Pre M9 (obs.set l (obP q (some (timesN rs ⟨K, V, y5⟩))))) := by
      rw [← hM9]
      have := P2.out.set l (by first | exact hll1 | (simp only [List.length_set]; exact hll1)) (obP q (some (timesN rs ⟨K, V, y5⟩)))
      try simp only [List.set_set] at this
      exact Lib.hid this
    rw [hM9] at h9
    have H9 := Lib.hid h9
    clear h9 hM9
    have sd := H9.out.mh G9.out HS.out HT.out
    have b0 := sd.sc.b0
    have b1 := sd.sc.b1
    have b2 := sd.sc.b2
    have b3 := sd.sc.b3
    have b4 := sd.sc.b4
    have b5 := sd.sc.b5
    have b6 := sd.sc.b6
    have e0 := sd.e0
    have e1 := sd.e1
    clear sd
    go_wp2_with fail
    clear b0 b1 b2 b3 b4 b5 b6 e0 e1
    refine (take_env H9.out i G9.out.pub ⟨0, 0, s.out, 0, 0⟩).mono ?_
    rintro e w20 ⟨rfl, h20⟩
    have H20 := Lib.hid h20
    clear h20
    go_wp2_with fail
    go_end0
    have e9 := P9.out.set i (by rw [List.length_set]; exact hil1) (obPub p m k (takeH σ ⟨0, 0, s.out, 0, 0⟩))
    refine ⟨rfl, ?_⟩
    rw [HE.out]
    exact H20.out.ofPre e9
  · skip
    have sd := H3.out.mh G2.out HS.out HT.out
    have b0 := sd.sc.b0
    have b1 := sd.sc.b1
    have b2 := sd.sc.b2
    have b3 := sd.sc.b3
    have b4 := sd.sc.b4
    have b5 := sd.sc.b5
    have b6 := sd.sc.b6
    have e0 := sd.e0
    have e1 := sd.e1
    clear sd
    obtain ⟨y1, hy1⟩ : ∃ y, tagB s.alg (s.data + 4) = y := ⟨_, rfl⟩
    have a1 := tagB_rng (a := s.alg) (n := s.data + 4) (by omega)
    obtain ⟨y3, hy3⟩ : ∃ y, keyB s.alg t.key = y := ⟨_, rfl⟩
    have a3 := keyB_rng (a := s.alg) (n := t.key) (by omega)
    have hy2 : tagB s.alg 64 = 2 := by rw [← HK.out.2.2]; exact tagB_hash HA.out
    rw [hy1] at a1
    rw [hy3] at a3
    obtain ⟨mn, hmn⟩ : ∃ mn, (s.out + 64 - 1) / 64 = mn := ⟨_, rfl⟩
    have hmn0 : 1 ≤ mn ∧ mn ≤ 16 := by omega
    obtain ⟨ea, hea⟩ : ∃ ea, y1 + (s.count - 1) * 2 = ea := ⟨_, rfl⟩
    have hea0 : 0 ≤ ea ∧ ea ≤ 2200000 := by omega
    have hprod : 0 ≤ mn * ea ∧ mn * ea ≤ 35200000 := by
      refine ⟨Int.mul_nonneg (by omega) hea0.1, Int.le_trans (Int.mul_le_mul_of_nonneg_right hmn0.2 hea0.1) (by omega)⟩
    obtain ⟨y4, hy4⟩ : ∃ y, mn * ea = y := ⟨_, rfl⟩
    obtain ⟨y5, hy5⟩ : ∃ y, y3 + y4 = y := ⟨_, rfl⟩
    rw [hy4] at hprod
    have hTOT : pbA t s = y5 := by
      unfold pbA
      rw [HK.out.2.2, hmn, hy1, hy2, hea, hy3, hy4, hy5]
    have hwa : IntKind.i64.wrap (s.data + 4) = s.data + 4 := IntWalk.i64_in _ (by omega)
    have hwb : IntKind.i64.wrap (s.count - 1) = s.count - 1 := IntWalk.i64_in _ (by omega)
    have hwc : IntKind.i64.wrap ((s.count - 1) * 2) = (s.count - 1) * 2 := IntWalk.i64_in _ (by omega)
    have hwd : IntKind.i64.wrap (y1 + (s.count - 1) * 2) = ea := by rw [hea]; exact IntWalk.i64_in _ (by omega)
    have hwe : IntKind.i64.wrap (mn * ea) = y4 := by rw [hy4]; exact IntWalk.i64_in _ (by omega)
    have hwf : IntKind.i64.wrap (y3 + y4) = y5 := by rw [hy5]; exact IntWalk.i64_in _ (by omega)
    have hm2 : IntKind.i64.wrap (IntKind.i64.wrap (IntKind.i64.wrap (s.out + 64) - 1)) = s.out + 64 - 1 := by
      rw [IntWalk.i64_in (s.out + 64) (by omega), IntWalk.i64_in (s.out + 64 - 1) (by omega), IntWalk.i64_in _ (by omega)]
    have hr5 : 2 ≤ y5 ∧ y5 ≤ 35300000 := by omega
    have HE := Lib.hid (show timesN rs ⟨evkA s.alg, wideA s.alg, pbA t s⟩ = (timesN rs ⟨K, V, y5⟩) from by rw [HK.out.1, HK.out.2.1, hTOT])
    have HY := Lib.hid (And.intro hy1 (And.intro hy2 hy3))
    have HMN := Lib.hid hmn
    have HW := Lib.hid (And.intro hwa (And.intro hwb (And.intro hwc (And.intro hwd (And.intro hwe hwf)))))
    clear hy1 hy2 hy3 hea hy4 hy5 hTOT hmn hwa hwb hwc hwd hwe hwf hm2
    go_upto_region 4 with fail
    try rw [HMN.out]
    clear b0 b1 b2 b3 b4 b5 b6 e0 e1
    refine hd_start (SHk p m B E s t K V) (by kernel_rfl) ?_
    intro w4 hw'
    have H4 := Lib.hid (H3.out.draw 1)
    rw [← hw'] at H4
    clear hw' H3
    have S4 := H4.out.mh G2.out HS.out HT.out
    refine hd_take (v := ?_) 0 rfl (by kernel_rfl) (fun _ _ d _ _ h => (by cases d <;> exact h)) (by kernel_rfl) S4 (fun w' hS => ?_) ?_
    rotate_left
    focus (have q0 := SHk.f2 w' hS; have q1 := SHk.f3 w' hS; have q2 := SHk.f5 w' hS; clear hS; go_simp; try rfl; done)
    simp only [List.getElem_toArray, List.getElem_cons_succ, List.getElem_cons_zero, Act.put, List.setIfInBounds_toArray, List.set_cons_zero, List.set_cons_succ]
    refine hd_take (v := ?_) 1 rfl (by kernel_rfl) (fun _ _ d _ _ h => (by cases d <;> exact h)) (by kernel_rfl) S4 (fun w' hS => ?_) ?_
    rotate_left
    focus (have q0 := SHk.f2 w' hS; have q1 := SHk.f3 w' hS; have q2 := SHk.f5 w' hS; clear hS; go_simp; try rfl; done)
    simp only [List.getElem_toArray, List.getElem_cons_succ, List.getElem_cons_zero, Act.put, List.setIfInBounds_toArray, List.set_cons_zero, List.set_cons_succ]
    refine hd_take (v := ?_) 2 rfl (by kernel_rfl) (fun _ _ d _ _ h => (by cases d <;> exact h)) (by kernel_rfl) S4 (fun w' hS => ?_) ?_
    rotate_left
    focus (have q0 := SHk.f2 w' hS; have q1 := SHk.f3 w' hS; have q2 := SHk.f5 w' hS; clear hS; go_simp; try rfl; done)
    simp only [List.getElem_toArray, List.getElem_cons_succ, List.getElem_cons_zero, Act.put, List.setIfInBounds_toArray, List.set_cons_zero, List.set_cons_succ]
    refine hd_take (v := ?_) 3 rfl (by kernel_rfl) (fun _ _ d _ _ h => (by cases d <;> exact h)) (by kernel_rfl) S4 (fun w' hS => ?_) ?_
    rotate_left
    focus (have q0 := SHk.f2 w' hS; have q1 := SHk.f3 w' hS; have q2 := SHk.f5 w' hS; clear hS; go_simp; try rfl; done)
    simp only [List.getElem_toArray, List.getElem_cons_succ, List.getElem_cons_zero, Act.put, List.setIfInBounds_toArray, List.set_cons_zero, List.set_cons_succ]
    refine hd_take (v := ?_) 4 rfl (by kernel_rfl) (fun _ _ d _ _ h => (by cases d <;> exact h)) (by kernel_rfl) S4 (fun w' hS => ?_) ?_
    rotate_left
    focus (have q0 := SHk.f2 w' hS; have q1 := SHk.f3 w' hS; have q2 := SHk.f5 w' hS; clear hS; go_simp; try rfl; done)
    simp only [List.getElem_toArray, List.getElem_cons_succ, List.getElem_cons_zero, Act.put, List.setIfInBounds_toArray, List.set_cons_zero, List.set_cons_succ]
    refine hd_take (v := ?_) 6 rfl (by kernel_rfl) (fun _ _ d _ _ h => (by cases d <;> exact h)) (by kernel_rfl) S4 (fun w' hS => ?_) ?_
    rotate_left
    focus (have q0 := SHk.f2 w' hS; have q1 := SHk.f3 w' hS; have q2 := SHk.f5 w' hS; clear hS; go_simp; try rfl; done)
    simp only [List.getElem_toArray, List.getElem_cons_succ, List.getElem_cons_zero, Act.put, List.setIfInBounds_toArray, List.set_cons_zero, List.set_cons_succ]
    refine hd_take (v := ?_) 7 rfl (by kernel_rfl) (fun _ _ d _ _ h => (by cases d <;> exact h)) (by kernel_rfl) S4 (fun w' hS => ?_) ?_
    rotate_left
    focus (have q0 := SHk.f2 w' hS; have q1 := SHk.f3 w' hS; have q2 := SHk.f5 w' hS; clear hS; go_simp; try rfl; done)
    simp only [List.getElem_toArray, List.getElem_cons_succ, List.getElem_cons_zero, Act.put, List.setIfInBounds_toArray, List.set_cons_zero, List.set_cons_succ]
    refine hd_take (v := ?_) 8 rfl (by kernel_rfl) (fun _ _ d _ _ h => (by cases d <;> exact h)) (by kernel_rfl) S4 (fun w' hS => ?_) ?_
    rotate_left
    focus (have q0 := SHk.f2 w' hS; have q1 := SHk.f3 w' hS; have q2 := SHk.f5 w' hS; clear hS; go_simp; try rfl; done)
    simp only [List.getElem_toArray, List.getElem_cons_succ, List.getElem_cons_zero, Act.put, List.setIfInBounds_toArray, List.set_cons_zero, List.set_cons_succ]
    refine hd_take (v := ?_) 9 rfl (by kernel_rfl) (fun _ _ d _ _ h => (by cases d <;> exact h)) (by kernel_rfl) S4 (fun w' hS => ?_) ?_
    rotate_left
    focus (have q0 := SHk.f2 w' hS; have q1 := SHk.f3 w' hS; have q2 := SHk.f5 w' hS; clear hS; go_simp; try rfl; done)
    simp only [List.getElem_toArray, List.getElem_cons_succ, List.getElem_cons_zero, Act.put, List.setIfInBounds_toArray, List.set_cons_zero, List.set_cons_succ]
    refine hd_take (v := ?_) 10 rfl (by kernel_rfl) (fun _ _ d _ _ h => (by cases d <;> exact h)) (by kernel_rfl) S4 (fun w' hS => ?_) ?_
    rotate_left
    focus (have q0 := SHk.f2 w' hS; have q1 := SHk.f3 w' hS; have q2 := SHk.f5 w' hS; clear hS; go_simp; try rfl; done)
    simp only [List.getElem_toArray, List.getElem_cons_succ, List.getElem_cons_zero, Act.put, List.setIfInBounds_toArray, List.set_cons_zero, List.set_cons_succ]
    refine hd_take (v := ?_) 11 rfl (by kernel_rfl) (fun _ _ d _ _ h => (by cases d <;> exact h)) (by kernel_rfl) S4 (fun w' hS => ?_) ?_
    rotate_left
    focus (have q0 := SHk.f2 w' hS; have q1 := SHk.f3 w' hS; have q2 := SHk.f5 w' hS; clear hS; go_simp; try rfl; done)
    simp only [List.getElem_toArray, List.getElem_cons_succ, List.getElem_cons_zero, Act.put, List.setIfInBounds_toArray, List.set_cons_zero, List.set_cons_succ]
    try rw [HW.out.1]
    try rw [HW.out.2.1]
    refine hd_one 5 (by kernel_rfl) ?_
    refine op_call rfl (by kernel_rfl) (by go_simp; first | exact ⟨rfl, rfl⟩ | rfl) ?_
    refine (tagBlocks_any s.alg (s.data + 4) w4 (by omega) (by omega)).mono ?_
    rintro e w5 ⟨he, hb⟩
    rw [HY.out.1] at he
    subst he
    have H5 := Lib.hid (H4.out.below hb)
    clear hb
    have hS2 := H5.out.mh G2.out HS.out HT.out
    refine ⟨_, rfl, hS2, ?_⟩
    simp only [List.getElem_toArray, List.getElem_cons_succ, List.getElem_cons_zero, Act.put, List.setIfInBounds_toArray, List.set_cons_zero, List.set_cons_succ]
    refine hd_one 12 (by kernel_rfl) ?_
    refine op_call rfl (by kernel_rfl) (by go_simp; first | exact ⟨rfl, rfl⟩ | rfl) ?_
    refine (tagBlocks_any s.alg 64 w5 (by omega) (by omega)).mono ?_
    rintro e w6 ⟨he, hb⟩
    rw [HY.out.2.1] at he
    subst he
    have H6 := Lib.hid (H5.out.below hb)
    clear hb
    have hS2 := H6.out.mh G2.out HS.out HT.out
    have S6 := hS2
    refine ⟨_, rfl, hS2, ?_⟩
    simp only [List.getElem_toArray, List.getElem_cons_succ, List.getElem_cons_zero, Act.put, List.setIfInBounds_toArray, List.set_cons_zero, List.set_cons_succ]
    refine hd_take (v := ?_) 13 rfl (by kernel_rfl) (fun _ _ d _ _ h => (by cases d <;> exact h)) (by kernel_rfl) S6 (fun w' hS => ?_) ?_
    rotate_left
    focus (clear hS; go_simp; try rfl; done)
    simp only [List.getElem_toArray, List.getElem_cons_succ, List.getElem_cons_zero, Act.put, List.setIfInBounds_toArray, List.set_cons_zero, List.set_cons_succ]
    try rw [HW.out.2.2.1]
    refine hd_take (v := ?_) 14 rfl (by kernel_rfl) (fun _ _ d _ _ h => (by cases d <;> exact h)) (by kernel_rfl) S6 (fun w' hS => ?_) ?_
    rotate_left
    focus (clear hS; go_simp; try rfl; done)
    simp only [List.getElem_toArray, List.getElem_cons_succ, List.getElem_cons_zero, Act.put, List.setIfInBounds_toArray, List.set_cons_zero, List.set_cons_succ]
    try rw [HW.out.2.2.2.1]
    refine hd_take (v := ?_) 15 rfl (by kernel_rfl) (fun _ _ d _ _ h => (by cases d <;> exact h)) (by kernel_rfl) S6 (fun w' hS => ?_) ?_
    rotate_left
    focus (clear hS; go_simp; try rfl; done)
    simp only [List.getElem_toArray, List.getElem_cons_succ, List.getElem_cons_zero, Act.put, List.setIfInBounds_toArray, List.set_cons_zero, List.set_cons_succ]
    refine hd_done (by kernel_rfl) ?_
    clear S4 S6
    go_upto_region 5 with fail
    refine hd_start (SHk p m B E s t K V) (by kernel_rfl) ?_
    intro w7 hw'
    have H7 := Lib.hid (H6.out.draw 1)
    rw [← hw'] at H7
    clear hw' H6
    have S7 := H7.out.mh G2.out HS.out HT.out
    refine hd_take (v := ?_) 0 rfl (by kernel_rfl) (fun _ _ d _ _ h => (by cases d <;> exact h)) (by kernel_rfl) S7 (fun w' hS => ?_) ?_
    rotate_left
    focus (have q0 := SHk.fc w' hS; have q1 := SHk.fat w' hS; have q2 := SHk.f1 w' hS; have q3 := SHk.f2 w' hS; have q4 := SHk.g0 w' hS; have q5 := SHk.g1 w' hS; clear hS; go_simp; try rfl; done)
    simp only [List.getElem_toArray, List.getElem_cons_succ, List.getElem_cons_zero, Act.put, List.setIfInBounds_toArray, List.set_cons_zero, List.set_cons_succ]
    refine hd_take (v := ?_) 1 rfl (by kernel_rfl) (fun _ _ d _ _ h => (by cases d <;> exact h)) (by kernel_rfl) S7 (fun w' hS => ?_) ?_
    rotate_left
    focus (have q0 := SHk.fc w' hS; have q1 := SHk.fat w' hS; have q2 := SHk.f1 w' hS; have q3 := SHk.f2 w' hS; have q4 := SHk.g0 w' hS; have q5 := SHk.g1 w' hS; clear hS; go_simp; try rfl; done)
    simp only [List.getElem_toArray, List.getElem_cons_succ, List.getElem_cons_zero, Act.put, List.setIfInBounds_toArray, List.set_cons_zero, List.set_cons_succ]
    refine hd_take (v := ?_) 2 rfl (by kernel_rfl) (fun _ _ d _ _ h => (by cases d <;> exact h)) (by kernel_rfl) S7 (fun w' hS => ?_) ?_
    rotate_left
    focus (have q0 := SHk.fc w' hS; have q1 := SHk.fat w' hS; have q2 := SHk.f1 w' hS; have q3 := SHk.f2 w' hS; have q4 := SHk.g0 w' hS; have q5 := SHk.g1 w' hS; clear hS; go_simp; try rfl; done)
    simp only [List.getElem_toArray, List.getElem_cons_succ, List.getElem_cons_zero, Act.put, List.setIfInBounds_toArray, List.set_cons_zero, List.set_cons_succ]
    refine hd_take (v := ?_) 3 rfl (by kernel_rfl) (fun _ _ d _ _ h => (by cases d <;> exact h)) (by kernel_rfl) S7 (fun w' hS => ?_) ?_
    rotate_left
    focus (have q0 := SHk.fc w' hS; have q1 := SHk.fat w' hS; have q2 := SHk.f1 w' hS; have q3 := SHk.f2 w' hS; have q4 := SHk.g0 w' hS; have q5 := SHk.g1 w' hS; clear hS; go_simp; try rfl; done)
    simp only [List.getElem_toArray, List.getElem_cons_succ, List.getElem_cons_zero, Act.put, List.setIfInBounds_toArray, List.set_cons_zero, List.set_cons_succ]
    refine hd_take (v := ?_) 4 rfl (by kernel_rfl) (fun _ _ d _ _ h => (by cases d <;> exact h)) (by kernel_rfl) S7 (fun w' hS => ?_) ?_
    rotate_left
    focus (have q0 := SHk.fc w' hS; have q1 := SHk.fat w' hS; have q2 := SHk.f1 w' hS; have q3 := SHk.f2 w' hS; have q4 := SHk.g0 w' hS; have q5 := SHk.g1 w' hS; clear hS; go_simp; try rfl; done)
    simp only [List.getElem_toArray, List.getElem_cons_succ, List.getElem_cons_zero, Act.put, List.setIfInBounds_toArray, List.set_cons_zero, List.set_cons_succ]
    refine hd_take (v := ?_) 5 rfl (by kernel_rfl) (fun _ _ d _ _ h => (by cases d <;> exact h)) (by kernel_rfl) S7 (fun w' hS => ?_) ?_
    rotate_left
    focus (have q0 := SHk.fc w' hS; have q1 := SHk.fat w' hS; have q2 := SHk.f1 w' hS; have q3 := SHk.f2 w' hS; have q4 := SHk.g0 w' hS; have q5 := SHk.g1 w' hS; clear hS; go_simp; try rfl; done)
    simp only [List.getElem_toArray, List.getElem_cons_succ, List.getElem_cons_zero, Act.put, List.setIfInBounds_toArray, List.set_cons_zero, List.set_cons_succ]
    refine hd_take (v := ?_) 6 rfl (by kernel_rfl) (fun _ _ d _ _ h => (by cases d <;> exact h)) (by kernel_rfl) S7 (fun w' hS => ?_) ?_
    rotate_left
    focus (have q0 := SHk.fc w' hS; have q1 := SHk.fat w' hS; have q2 := SHk.f1 w' hS; have q3 := SHk.f2 w' hS; have q4 := SHk.g0 w' hS; have q5 := SHk.g1 w' hS; clear hS; go_simp; try rfl; done)
    simp only [List.getElem_toArray, List.getElem_cons_succ, List.getElem_cons_zero, Act.put, List.setIfInBounds_toArray, List.set_cons_zero, List.set_cons_succ]
    refine hd_take (v := ?_) 7 rfl (by kernel_rfl) (fun _ _ d _ _ h => (by cases d <;> exact h)) (by kernel_rfl) S7 (fun w' hS => ?_) ?_
    rotate_left
    focus (have q0 := SHk.fc w' hS; have q1 := SHk.fat w' hS; have q2 := SHk.f1 w' hS; have q3 := SHk.f2 w' hS; have q4 := SHk.g0 w' hS; have q5 := SHk.g1 w' hS; clear hS; go_simp; try rfl; done)
    simp only [List.getElem_toArray, List.getElem_cons_succ, List.getElem_cons_zero, Act.put, List.setIfInBounds_toArray, List.set_cons_zero, List.set_cons_succ]
    refine hd_take (v := ?_) 8 rfl (by kernel_rfl) (fun _ _ d _ _ h => (by cases d <;> exact h)) (by kernel_rfl) S7 (fun w' hS => ?_) ?_
    rotate_left
    focus (have q0 := SHk.fc w' hS; have q1 := SHk.fat w' hS; have q2 := SHk.f1 w' hS; have q3 := SHk.f2 w' hS; have q4 := SHk.g0 w' hS; have q5 := SHk.g1 w' hS; clear hS; go_simp; try rfl; done)
    simp only [List.getElem_toArray, List.getElem_cons_succ, List.getElem_cons_zero, Act.put, List.setIfInBounds_toArray, List.set_cons_zero, List.set_cons_succ]
    refine hd_take (v := ?_) 9 rfl (by kernel_rfl) (fun _ _ d _ _ h => (by cases d <;> exact h)) (by kernel_rfl) S7 (fun w' hS => ?_) ?_
    rotate_left
    focus (have q0 := SHk.fc w' hS; have q1 := SHk.fat w' hS; have q2 := SHk.f1 w' hS; have q3 := SHk.f2 w' hS; have q4 := SHk.g0 w' hS; have q5 := SHk.g1 w' hS; clear hS; go_simp; try rfl; done)
    simp only [List.getElem_toArray, List.getElem_cons_succ, List.getElem_cons_zero, Act.put, List.setIfInBounds_toArray, List.set_cons_zero, List.set_cons_succ]
    refine hd_take (v := ?_) 10 rfl (by kernel_rfl) (fun _ _ d _ _ h => (by cases d <;> exact h)) (by kernel_rfl) S7 (fun w' hS => ?_) ?_
    rotate_left
    focus (have q0 := SHk.fc w' hS; have q1 := SHk.fat w' hS; have q2 := SHk.f1 w' hS; have q3 := SHk.f2 w' hS; have q4 := SHk.g0 w' hS; have q5 := SHk.g1 w' hS; clear hS; go_simp; try rfl; done)
    simp only [List.getElem_toArray, List.getElem_cons_succ, List.getElem_cons_zero, Act.put, List.setIfInBounds_toArray, List.set_cons_zero, List.set_cons_succ]
    refine hd_take (v := ?_) 11 rfl (by kernel_rfl) (fun _ _ d _ _ h => (by cases d <;> exact h)) (by kernel_rfl) S7 (fun w' hS => ?_) ?_
    rotate_left
    focus (have q0 := SHk.fc w' hS; have q1 := SHk.fat w' hS; have q2 := SHk.f1 w' hS; have q3 := SHk.f2 w' hS; have q4 := SHk.g0 w' hS; have q5 := SHk.g1 w' hS; clear hS; go_simp; try rfl; done)
    simp only [List.getElem_toArray, List.getElem_cons_succ, List.getElem_cons_zero, Act.put, List.setIfInBounds_toArray, List.set_cons_zero, List.set_cons_succ]
    refine hd_take (v := ?_) 13 rfl (by kernel_rfl) (fun _ _ d _ _ h => (by cases d <;> exact h)) (by kernel_rfl) S7 (fun w' hS => ?_) ?_
    rotate_left
    focus (have q0 := SHk.fc w' hS; have q1 := SHk.fat w' hS; have q2 := SHk.f1 w' hS; have q3 := SHk.f2 w' hS; have q4 := SHk.g0 w' hS; have q5 := SHk.g1 w' hS; clear hS; go_simp; try rfl; done)
    simp only [List.getElem_toArray, List.getElem_cons_succ, List.getElem_cons_zero, Act.put, List.setIfInBounds_toArray, List.set_cons_zero, List.set_cons_succ]
    refine hd_take (v := ?_) 14 rfl (by kernel_rfl) (fun _ _ d _ _ h => (by cases d <;> exact h)) (by kernel_rfl) S7 (fun w' hS => ?_) ?_
    rotate_left
    focus (have q0 := SHk.fc w' hS; have q1 := SHk.fat w' hS; have q2 := SHk.f1 w' hS; have q3 := SHk.f2 w' hS; have q4 := SHk.g0 w' hS; have q5 := SHk.g1 w' hS; clear hS; go_simp; try rfl; done)
    simp only [List.getElem_toArray, List.getElem_cons_succ, List.getElem_cons_zero, Act.put, List.setIfInBounds_toArray, List.set_cons_zero, List.set_cons_succ]
    refine hd_take (v := ?_) 15 rfl (by kernel_rfl) (fun _ _ d _ _ h => (by cases d <;> exact h)) (by kernel_rfl) S7 (fun w' hS => ?_) ?_
    rotate_left
    focus (have q0 := SHk.fc w' hS; have q1 := SHk.fat w' hS; have q2 := SHk.f1 w' hS; have q3 := SHk.f2 w' hS; have q4 := SHk.g0 w' hS; have q5 := SHk.g1 w' hS; clear hS; go_simp; try rfl; done)
    simp only [List.getElem_toArray, List.getElem_cons_succ, List.getElem_cons_zero, Act.put, List.setIfInBounds_toArray, List.set_cons_zero, List.set_cons_succ]
    try rw [HW.out.2.2.2.2.1]
    refine hd_one 12 (by kernel_rfl) ?_
    refine op_call rfl (by kernel_rfl) (by go_simp; first | exact ⟨rfl, rfl⟩ | rfl) ?_
    refine (keyBlocks_any s.alg t.key w7 (by omega) (by omega)).mono ?_
    rintro e w8 ⟨he, hb⟩
    rw [HY.out.2.2] at he
    subst he
    have H8 := Lib.hid (H7.out.below hb)
    clear hb
    have hS2 := H8.out.mh G2.out HS.out HT.out
    have S8 := hS2
    refine ⟨_, rfl, hS2, ?_⟩
    simp only [List.getElem_toArray, List.getElem_cons_succ, List.getElem_cons_zero, Act.put, List.setIfInBounds_toArray, List.set_cons_zero, List.set_cons_succ]
    refine hd_take (v := ?_) 16 rfl (by kernel_rfl) (fun _ _ d _ _ h => (by cases d <;> exact h)) (by kernel_rfl) S8 (fun w' hS => ?_) ?_
    rotate_left
    focus (clear hS; go_simp; try rfl; done)
    simp only [List.getElem_toArray, List.getElem_cons_succ, List.getElem_cons_zero, Act.put, List.setIfInBounds_toArray, List.set_cons_zero, List.set_cons_succ]
    try rw [HW.out.2.2.2.2.2]
    refine hd_one 17 (by kernel_rfl) ?_
    refine op_call rfl (by kernel_rfl) (by go_simp; first | exact ⟨rfl, rfl⟩ | rfl) ?_
    refine (timesS_env H8.out l G2.out.led K V y5 HRB.out (by omega) (by omega)).mono ?_
    rintro e w9 ⟨he, h9⟩
    subst he
    have h9' := h9
    have hS2 := h9.mh (G2.out.setL hil hll1 _) HS.out HT.out
    refine ⟨_, rfl, hS2, ?_⟩
    simp only [List.getElem_toArray, List.getElem_cons_succ, List.getElem_cons_zero, Act.put, List.setIfInBounds_toArray, List.set_cons_zero, List.set_cons_succ]
    refine hd_done (by kernel_rfl) ?_
    clear S7 S8 h9'
    obtain ⟨M9, hM9⟩ : ∃ y, M2.set l (obP q (some (timesN rs ⟨K, V, y5⟩))) = y := ⟨_, rfl⟩
    have G9 : Hid (Mh M9 i l obs.length p m k σ q (timesN rs ⟨K, V, y5⟩) B s E K V) := by rw [← hM9]; exact Lib.hid (G2.out.setL hil hll1 _)
    have P9 : Hid (Pre M9 (obs.set l (obP q (some (timesN rs ⟨K, V, y5⟩))))) := by
      rw [← hM9]
      have := P2.out.set l (by first | exact hll1 | (simp only [List.length_set]; exact hll1)) (obP q (some (timesN rs ⟨K, V, y5⟩)))
      try simp only [List.set_set] at this
      exact Lib.hid this
    rw [hM9] at h9
    have H9 := Lib.hid h9
    clear h9 hM9
    have sd := H9.out.mh G9.out HS.out HT.out
    have b0 := sd.sc.b0
    have b1 := sd.sc.b1
    have b2 := sd.sc.b2
    have b3 := sd.sc.b3
    have b4 := sd.sc.b4
    have b5 := sd.sc.b5
    have b6 := sd.sc.b6
    have e0 := sd.e0
    have e1 := sd.e1
    clear sd
    go_wp2_with fail
    clear b0 b1 b2 b3 b4 b5 b6 e0 e1
    refine (take_env H9.out i G9.out.pub ⟨0, 0, s.out, 0, 0⟩).mono ?_
    rintro e w20 ⟨rfl, h20⟩
    have H20 := Lib.hid h20
    clear h20
    go_wp2_with fail
    go_end0
    have e9 := P9.out.set i (by rw [List.length_set]; exact hil1) (obPub p m k (takeH σ ⟨0, 0, s.out, 0, 0⟩))
    refine ⟨rfl, ?_⟩
    rw [HE.out]
    exact H20.out.ofPre e9
end
end Go.Proofs.YtkidijjhedjifaaGreat
namespace Go.Proofs.YtkidijjhedjifaaGreat
open Go.RowKit
set_option maxRecDepth 100000
set_option linter.unusedVariables false
set_option linter.unusedSimpArgs false
attribute [local go_sem] Oper.semAt_some
section
variable {w0 w : World} {obs : List Ob} {p m k : Nat} {σ : Hs}
theorem ten {kn : Nat} (h : 1 ≤ kn ∧ kn ≤ 10) : kn = 1 ∨ kn = 2 ∨ kn = 3 ∨ kn = 4 ∨ kn = 5 ∨ kn = 6 ∨ kn = 7 ∨ kn = 8 ∨ kn = 9 ∨ kn = 10 := by omega
theorem code_all (h : PubAt w p m k σ) (kn : Nat) (hk : 1 ≤ kn ∧ kn ≤ 10) (s : Sk) (hkind : s.kind = (kn : Int)) (hs : okI s.handle) : Calls Tryz.prog (kdC kn) #[pV p, skV s] w (Told (.int .i64 (codeS σ s)) w) := by
  rcases ten hk with rfl | rfl | rfl | rfl | rfl | rfl | rfl | rfl | rfl | rfl
  · rw [show codeS σ s = cputC σ s from by simp [codeS, hkind]]; exact cput_any h s hs
  · rw [show codeS σ s = beginC σ s from by simp [codeS, hkind]]; exact cbegin_any h s hs
  · rw [show codeS σ s = updC σ s from by simp [codeS, hkind]]; exact cupd_any h s hs
  · rw [show codeS σ s = sesC σ s from by simp [codeS, hkind]]; exact cses_any h s hs
  · rw [show codeS σ s = verC σ s from by simp [codeS, hkind]]; exact cver_any h s hs
  · rw [show codeS σ s = cloC σ s from by simp [codeS, hkind]]; exact cclo_any h s hs
  · rw [show codeS σ s = hkdfC σ s from by simp [codeS, hkind]]; exact chkdf_any h s hs
  · rw [show codeS σ s = pbkC σ s from by simp [codeS, hkind]]; exact cpbk_any h s hs
  · rw [show codeS σ s = keyC σ s from by simp [codeS, hkind]]; exact ckey_any h s hs
  · rw [show codeS σ s = anyC σ s from by simp [codeS, hkind]]; exact cany_any h s hs
theorem do_all (h : Env w0 w obs) (i l : Nat) (hil : i ≠ l) (hi : obs[i]? = some (obPub p m k σ)) {q : Value} {rs : List Rn} (hl : obs[l]? = some (obP q (some rs))) (kn : Nat) (hk : 1 ≤ kn ∧ kn ≤ 10) (s : Sk) (hkind : s.kind = (kn : Int)) (hs : okI s.handle) {mm : Int} (hok : OKh mm σ) (hmm : mm ≤ 700000000)
    (hd : 0 ≤ s.data) (hm : 0 ≤ s.more) (hc : codeS σ s = 0) {cb : Int} (hb : RB cb rs) (hcb : cb ≤ 100000000) :
    Calls Tryz.prog (kdO kn) #[pV p, q, skV s] w fun e w' => e = .returned (.tuple #[]) ∧ Env w0 w' ((obs.set l (obP q (some ((evS σ s).foldl timesN rs)))).set i (obPub p m k (nxS σ s))) := by
  rcases ten hk with rfl | rfl | rfl | rfl | rfl | rfl | rfl | rfl | rfl | rfl
  · rw [show evS σ s = [] from by simp [evS, hkind], show nxS σ s = takeH σ ⟨0, 0, s.data, 0, 0⟩ from by simp [nxS, hkind]]
    exact put_env h i l hil hi hl s hs hb hcb
  · rw [show codeS σ s = beginC σ s from by simp [codeS, hkind]] at hc
    obtain ⟨t, h1, h2, h3, h4, h5, h6, h7, h8, h9, h10⟩ := beginC_zero hc
    have ht := hok.ok _ _ h1
    rw [show evS σ s = beginE (thB t s) from by simp [evS, hkind, h1], show nxS σ s = takeH σ (thB t s) from by simp [nxS, hkind, h1]]
    exact begin_env h i l hil hi hl s hs h1 ht.k0 ht.k1 hd h7 hb hcb
  · rw [show codeS σ s = updC σ s from by simp [codeS, hkind]] at hc
    obtain ⟨t, h1, h2, h3⟩ := updC_zero hc
    have ht := hok.ok _ _ h1
    rw [show evS σ s = [⟨wkK t, wkS t, takenA t t.msg (t.msg + s.data)⟩] from by simp [evS, hkind, h1], show nxS σ s = σ.put s.handle (some { t with msg := t.msg + s.data }) from by simp [nxS, hkind, h1]]
    exact update_env h i l hil hi hl s hs h1 ht (by omega) hd h3 (hok.dom _ _ h1) hb hcb
  · rw [show codeS σ s = sesC σ s from by simp [codeS, hkind]] at hc
    obtain ⟨t, h1, h2⟩ := sesC_zero hc
    have ht := hok.ok _ _ h1
    rw [show evS σ s = [⟨wkK t, wkS t, summedA t⟩, ⟨8, 1024, 1⟩] from by simp [evS, hkind, h1], show nxS σ s = σ.put s.handle none from by simp [nxS, hkind, h1]]
    exact finish_env h i l hil hi hl s hs h1 ht (by omega) (hok.dom _ _ h1) hb hcb
  · rw [show codeS σ s = verC σ s from by simp [codeS, hkind]] at hc
    obtain ⟨t, h1, h2, h3⟩ := verC_zero hc
    have ht := hok.ok _ _ h1
    rw [show evS σ s = [⟨wkK t, wkS t, summedA t⟩, ⟨6, t.out, 1⟩, ⟨8, 1024, 1⟩] from by simp [evS, hkind, h1], show nxS σ s = σ.put s.handle none from by simp [nxS, hkind, h1]]
    exact verify_env h i l hil hi hl s hs h1 ht (by omega) (hok.dom _ _ h1) hb hcb
  · rw [show codeS σ s = cloC σ s from by simp [codeS, hkind]] at hc
    obtain ⟨t, h1, h2⟩ := cloC_zero hc
    rw [show evS σ s = [] from by simp [evS, hkind], show nxS σ s = takeH σ t from by simp [nxS, hkind, h1]]
    exact clone_env h i l hil hi hl s hs h1 hb hcb
  · rw [show codeS σ s = hkdfC σ s from by simp [codeS, hkind]] at hc
    obtain ⟨t, h1, h2, h3, h4, h5, h6, h7, h8⟩ := hkdfC_zero hc
    have ht := hok.ok _ _ h1
    rw [show evS σ s = [⟨evkA s.alg, wideA s.alg, hk0 t s + hkTo s (hkN s)⟩] from by simp [evS, hkind, h1], show nxS σ s = takeH σ ⟨0, 0, s.out, 0, 0⟩ from by simp [nxS, hkind]]
    exact hkdf_env h i l hil hi hl s hs h1 ht.k0 ht.k1 h3 hd h4 h6 h7 hm h5 hb hcb
  · rw [show codeS σ s = pbkC σ s from by simp [codeS, hkind]] at hc
    obtain ⟨t, h1, h2, h3, h4, h5, h6, h7, h8, h9⟩ := pbkC_zero hc
    have ht := hok.ok _ _ h1
    rw [show evS σ s = [⟨evkA s.alg, wideA s.alg, pbA t s⟩] from by simp [evS, hkind, h1], show nxS σ s = takeH σ ⟨0, 0, s.out, 0, 0⟩ from by simp [nxS, hkind]]
    exact pbkdf_env h i l hil hi hl s hs h1 ht.k0 ht.k1 h3 hd h4 h7 h8 h5 h6 hb hcb
  · rw [show evS σ s = [] from by simp [evS, hkind], show nxS σ s = σ from by simp [nxS, hkind]]
    exact reveal_env h i l hil hi hl s hs hb hcb
  · rw [show codeS σ s = anyC σ s from by simp [codeS, hkind]] at hc
    obtain ⟨t, h1⟩ := anyC_zero hc
    rw [show evS σ s = [⟨8, 1024, 1⟩] from by simp [evS, hkind], show nxS σ s = σ.put s.handle none from by simp [nxS, hkind]]
    exact drop_env h i l hil hi hl s hs (hok.dom _ _ h1) hb (by omega)
/-! ### New -/
theorem wpList_insert_kind {ops : Array Oper} {rest : List Oper} {o : Oper} {a : Act} {Q : Exit → Act → World → Prop} (hg : o.guard = none) (mo xo vo : Operand) (hop : o.op = Op.insert 48 mo xo vo) {b n : Nat} (hm : a.eval mo = .map (some b)) (hx : a.eval xo = .int .u8 ((n + 1 : Nat) : Int)) (hv : a.eval vo = kdV (n + 1))
    (hM : MapK w b n) (hn : n < 10) (hK : ∀ w', MapK w' b (n + 1) → Only (fun x => x = b) w w' → wpList Tryz.prog ops Q rest (a.put o.dst undef) w') : wpList Tryz.prog ops Q (o :: rest) a w := by
  refine wpList_plain hg fun K' hK' => ?_
  obtain ⟨w', hrun, r1, r2⟩ := hM.more hn
  obtain ⟨key, hkey⟩ : ∃ key : Int, ((n + 1 : Nat) : Int) = key := ⟨_, rfl⟩
  rw [hkey] at hx hrun
  clear hkey
  unfold Oper.wp
  simp [execOp, hop, hm, hx, hv, hrun, Result.andThen]
  exact hK' _ _ (hK w' r1 r2)
set_option maxHeartbeats 2000000 in
theorem table_any (w : World) : Calls Tryz.prog 15 #[] w fun e w' => ∃ b : Nat, e = .returned (.map (some b)) ∧ MapK w' b 10 ∧ Below w.heap.size w w' ∧ w.heap.size ≤ b := by
  have hmm := @run_makeMap Tryz.prog
  go_enter Tryz.func15, Tryz.ntmps15
  have K0 : Hid (MapK (w.alloc (.map #[] 0)) w.heap.size 0 ∧ Below w.heap.size w (w.alloc (.map #[] 0))) := Lib.hid ⟨MapK.made w, (Below.refl _ _).alloc (Nat.le_refl _) _⟩
  go_wp2_with ((with_reducible change wpList _ _ _ (Oper.mk _ (Op.insert _ _ _ _) _ _ _ _ :: _) _ _); refine wpList_insert_kind rfl _ _ _ rfl (n := 0) rfl rfl rfl K0.out.1 (by omega) ?_)
  intro w1 m1 o1
  have K1 := Lib.hid (And.intro m1 (K0.out.2.trans (o1.below0 (fun x hx e => by omega) K0.out.2.size)))
  clear m1 o1 K0
  go_wp2_with ((with_reducible change wpList _ _ _ (Oper.mk _ (Op.insert _ _ _ _) _ _ _ _ :: _) _ _); refine wpList_insert_kind rfl _ _ _ rfl (n := 1) rfl rfl rfl K1.out.1 (by omega) ?_)
  intro w2 m2 o2
  have K2 := Lib.hid (And.intro m2 (K1.out.2.trans (o2.below0 (fun x hx e => by omega) K1.out.2.size)))
  clear m2 o2 K1
  go_wp2_with ((with_reducible change wpList _ _ _ (Oper.mk _ (Op.insert _ _ _ _) _ _ _ _ :: _) _ _); refine wpList_insert_kind rfl _ _ _ rfl (n := 2) rfl rfl rfl K2.out.1 (by omega) ?_)
  intro w3 m3 o3
  have K3 := Lib.hid (And.intro m3 (K2.out.2.trans (o3.below0 (fun x hx e => by omega) K2.out.2.size)))
  clear m3 o3 K2
  go_wp2_with ((with_reducible change wpList _ _ _ (Oper.mk _ (Op.insert _ _ _ _) _ _ _ _ :: _) _ _); refine wpList_insert_kind rfl _ _ _ rfl (n := 3) rfl rfl rfl K3.out.1 (by omega) ?_)
  intro w4 m4 o4
  have K4 := Lib.hid (And.intro m4 (K3.out.2.trans (o4.below0 (fun x hx e => by omega) K3.out.2.size)))
  clear m4 o4 K3
  go_wp2_with ((with_reducible change wpList _ _ _ (Oper.mk _ (Op.insert _ _ _ _) _ _ _ _ :: _) _ _); refine wpList_insert_kind rfl _ _ _ rfl (n := 4) rfl rfl rfl K4.out.1 (by omega) ?_)
  intro w5 m5 o5
  have K5 := Lib.hid (And.intro m5 (K4.out.2.trans (o5.below0 (fun x hx e => by omega) K4.out.2.size)))
  clear m5 o5 K4
  go_wp2_with ((with_reducible change wpList _ _ _ (Oper.mk _ (Op.insert _ _ _ _) _ _ _ _ :: _) _ _); refine wpList_insert_kind rfl _ _ _ rfl (n := 5) rfl rfl rfl K5.out.1 (by omega) ?_)
  intro w6 m6 o6
  have K6 := Lib.hid (And.intro m6 (K5.out.2.trans (o6.below0 (fun x hx e => by omega) K5.out.2.size)))
  clear m6 o6 K5
  go_wp2_with ((with_reducible change wpList _ _ _ (Oper.mk _ (Op.insert _ _ _ _) _ _ _ _ :: _) _ _); refine wpList_insert_kind rfl _ _ _ rfl (n := 6) rfl rfl rfl K6.out.1 (by omega) ?_)
  intro w7 m7 o7
  have K7 := Lib.hid (And.intro m7 (K6.out.2.trans (o7.below0 (fun x hx e => by omega) K6.out.2.size)))
  clear m7 o7 K6
  go_wp2_with ((with_reducible change wpList _ _ _ (Oper.mk _ (Op.insert _ _ _ _) _ _ _ _ :: _) _ _); refine wpList_insert_kind rfl _ _ _ rfl (n := 7) rfl rfl rfl K7.out.1 (by omega) ?_)
  intro w8 m8 o8
  have K8 := Lib.hid (And.intro m8 (K7.out.2.trans (o8.below0 (fun x hx e => by omega) K7.out.2.size)))
  clear m8 o8 K7
  go_wp2_with ((with_reducible change wpList _ _ _ (Oper.mk _ (Op.insert _ _ _ _) _ _ _ _ :: _) _ _); refine wpList_insert_kind rfl _ _ _ rfl (n := 8) rfl rfl rfl K8.out.1 (by omega) ?_)
  intro w9 m9 o9
  have K9 := Lib.hid (And.intro m9 (K8.out.2.trans (o9.below0 (fun x hx e => by omega) K8.out.2.size)))
  clear m9 o9 K8
  go_wp2_with ((with_reducible change wpList _ _ _ (Oper.mk _ (Op.insert _ _ _ _) _ _ _ _ :: _) _ _); refine wpList_insert_kind rfl _ _ _ rfl (n := 9) rfl rfl rfl K9.out.1 (by omega) ?_)
  intro w10 m10 o10
  have K10 := Lib.hid (And.intro m10 (K9.out.2.trans (o10.below0 (fun x hx e => by omega) K9.out.2.size)))
  clear m10 o10 K9
  go_wp2_with fail
  go_ret
  exact ⟨_, rfl, K10.out.1, K10.out.2, Nat.le_refl _⟩
theorem new_any (w : World) : Calls Tryz.prog 4 #[] w fun e w' => ∃ p m k : Nat, e = .returned (pV p) ∧ PubAt w' p m k hs0 ∧ Below w.heap.size w w' ∧ ∀ x, pfp p m k x → w.heap.size ≤ x := by
  have hmm := @run_makeMap Tryz.prog
  go_enter Tryz.func4, Tryz.ntmps4
  go_wp2_with fail
  refine (table_any _).mono ?_
  rintro e w2 ⟨b, rfl, hk, hb, hle⟩
  have hm : MapH w2 w.heap.size hs0 := (MapH.made w).only (Only.nothing hb) (fun h => h)
  have HB : Hid (Below w.heap.size w w2) := Lib.hid (((Below.refl _ _).alloc (Nat.le_refl _) _).trans (hb.mono (by simp)))
  have hle' : w.heap.size + 1 ≤ b := by simpa using hle
  have HK := Lib.hid (And.intro hk (And.intro hm hle'))
  clear hk hm hle hb
  go_wp2
  go_ret
  obtain ⟨hk, hm, hle⟩ := HK.out
  have h2 := HB.out.size
  have hlm := hm.lt
  have hlk := hk.lt
  have ha : Below w2.heap.size w2 (w2.alloc (.cells #[.map (some w.heap.size), .map (some b)] 51)) := (Below.refl _ _).alloc (Nat.le_refl _) _
  refine ⟨w2.heap.size, w.heap.size, b, rfl, ⟨Blk.new w2 _ _, hm.only (Only.nothing ha) (fun h => h), hk.only (Only.nothing ha) (fun h => h), by omega, by omega, by omega⟩, HB.out.trans (ha.mono h2), ?_⟩
  rintro x (rfl | rfl | rfl) <;> omega
theorem new_env (h : Env w0 w obs) : Calls Tryz.prog 4 #[] w fun e w' => ∃ p m k : Nat, e = .returned (pV p) ∧ Env w0 w' (obs ++ [obPub p m k hs0]) := by
  refine (new_any w).mono ?_
  rintro e w' ⟨p, m, k, rfl, h1, h2, h3⟩
  exact ⟨p, m, k, rfl, h.push (F' := pfp p m k) (obPub p m k hs0) ⟨h1, rfl⟩ h2 h3⟩
end
end Go.Proofs.YtkidijjhedjifaaGreat
