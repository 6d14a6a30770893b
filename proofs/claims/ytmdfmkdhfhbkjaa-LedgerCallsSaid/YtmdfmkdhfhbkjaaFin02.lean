/- The law's pair, its told lists gone: keep and act(Call 2) over rows of values. -/
import Derived.Test.YtmdfmkdhfhbkjaaRows
import Derived.Test.YtmdfmkdhfhbkjaaAct02
namespace Go.Proofs.Ytmdfmkdhfhbkjaa
open Go.RowKit
set_option maxRecDepth 100000
set_option linter.unusedVariables false
set_option linter.unusedSimpArgs false
attribute [local go_sem] Oper.semAt_some
theorem Env.rowGrow {w0 w w' : World} {obs : List Ob} (h : Env w0 w obs) (i : Nat) {e : TypeId} {sz n n' : Nat} {u u' : Value} {cs cs' : List Value} (hi : obs[i]? = some (obE e sz u n cs))
    (hown : w'.ownsRow 0 e sz u' n' cs') (hg : w.grownBy w' u.ownBlock) (hat : u'.ownBlock = u.ownBlock ∨ u'.ownBlock = some w.heap.size) : Env w0 w' (obs.set i (obE e sz u' n' cs')) := by
  obtain ⟨F, ⟨h1, rfl⟩, h2, h3, h4⟩ := h.get i hi
  have ho : Only (fpv u) w w' := Only.grown (Only.refl _ w) hg (fun k hk => .inl hk)
  have hu : ∀ x, fpv u' x → fpv u x ∨ w.heap.size ≤ x := by
    intro x hx
    have hx' : u'.ownBlock = some x := hx
    rcases hat with hat | hat
    · rw [hat] at hx'
      exact .inl hx'
    · rw [hat] at hx'
      injection hx' with hx'
      exact .inr (by omega)
  exact h4 w' (fpv u') (obE e sz u' n' cs') ⟨hown, rfl⟩ ho hu
theorem wpList_append_row {w0 w1 : World} {obs : List Ob} {x : Value} (hx1 : x.oneCell' = true) (h : Env w0 w1 obs) (i : Nat) {u : Value} {n : Nat} {vs : List Value} (hi : obs[i]? = some (obE 32 1 u n vs)) {a : Act} {o : Oper} {Q : Exit → Act → World → Prop} {ops : Array Oper} {rest : List Oper}
    (s y : Operand) (hgd : o.guard = none) (ho : o.op = .call { callee := .builtin .append, args := #[s, y], argTypes := #[29, 29] }) (hs : a.eval s = u) (hx : a.eval y = .slice (some ⟨w1.heap.size, 0, none⟩) 1 1) (hn : n ≤ 5000000000000)
    (kk : ∀ u' w', Env w0 w' (obs.set i (obE 32 1 u' (n + 1) (vs ++ [x]))) → wpList Try.prog ops Q rest (a.put o.dst u') w') : wpList Try.prog ops Q (o :: rest) a (w1.alloc (.cells #[x] 32)) := by
  obtain ⟨i0, hi0, hz0, hz1, hz2⟩ := info_parts infoNs
  have hb : Below w1.heap.size w1 (w1.alloc (.cells #[x] 32)) := (Below.refl _ _).alloc (Nat.le_refl _) _
  have hrow := (h.below hb).row i hi
  refine wpList_append_lies _ hgd s y 29 ho 0 32 i0 _ 1 24 Try.underlying29 hi0 hz0 hz1 hz2 rfl (by decide) u n vs hs hrow ⟨w1.heap.size, 0, none⟩ 1 1 [x] hx rfl (World.news_of_block (heap_alloc_new w1 (.cells #[x] 32))) (by simpa using hx1) (by decide) (by unfold maxLen; omega) (by omega) (Nat.zero_le _) _ rfl ?_
  intro g cap w' h1 h2 h3 h4
  exact kk _ _ ((h.below hb).rowGrow i hi h1 h2 (by
    rcases h3 with h3 | h3
    · exact .inl (by rw [h3]; rfl)
    · exact .inr (by rw [h3]; rfl)))
/-- a pair whose told list is a row of values -/
structure PairAt2 (obs : List Ob) (d b : Nat) (p q u v : Value) (rs : List Rn) (vs : List Value) (us : List (Value × List Rn)) : Prop where
  blk : obs[d]? = some (obK b 31 #[p, q, u, v])
  lp : obs[d + 1]? = some (obP p (some rs))
  lr : obs[d + 2]? = some (obR q (some rs))
  tu : obs[d + 3]? = some (obE 32 1 u vs.length vs)
  tv : obs[d + 4]? = some (obTR v us)
theorem PairAt2.more {obs : List Ob} {d b : Nat} {p q u v : Value} {rs : List Rn} {ts : List Value} {us : List (Value × List Rn)} (h : PairAt2 obs d b p q u v rs ts us) (L : List Ob) : PairAt2 (obs ++ L) d b p q u v rs ts us := by
  have hl := (List.getElem?_eq_some_iff.1 h.tv).1
  exact ⟨by rw [List.getElem?_append_left (by omega)]; exact h.blk, by rw [List.getElem?_append_left (by omega)]; exact h.lp, by rw [List.getElem?_append_left (by omega)]; exact h.lr, by rw [List.getElem?_append_left (by omega)]; exact h.tu, by rw [List.getElem?_append_left (by omega)]; exact h.tv⟩
theorem rowForm {w0 w : World} {obs : List Ob} (h : Env w0 w obs) (i : Nat) {e : TypeId} {sz n : Nat} {u : Value} {cs : List Value} (hi : obs[i]? = some (obE e sz u n cs)) : ∃ ao cap, u = .slice ao n cap := by
  have hl := h.row i hi
  rcases hl.2 with ⟨rfl, h0⟩ | ⟨g, cap, cur, rfl, _⟩
  · exact ⟨none, 0, by rw [h0]⟩
  · exact ⟨some ⟨g, 0, none⟩, cap, rfl⟩
set_option maxHeartbeats 8000000 in
theorem keep2_env {w0 w : World} {obs : List Ob} {xo yo : Option Addr} {xc yc : Nat} {l : List Rn} (h : Env w0 w (obs ++ [obRuns (.slice xo l.length xc) l, obRuns (.slice yo l.length yc) l])) (d b : Nat) {p q u v : Value} {rs : List Rn} {ts : List Value} {us : List (Value × List Rn)} (hp : PairAt2 obs d b p q u v rs ts us)
    (h1 : ts.length ≤ 1000) (h2 : us.length ≤ 1000) :
    Calls Try.prog 38 #[.pointer (some ⟨b, 0, none⟩), .slice xo l.length xc, .slice yo l.length yc] w fun e w' => e = .returned (.bool true) ∧
      ∃ obs' u' v', Env w0 w' obs' ∧ Turned d obs obs' ∧ obs'[d]? = some (obK b 31 #[p, q, u', v']) := by
  have hl := (List.getElem?_eq_some_iff.1 hp.tv).1
  have HE := Lib.hid h
  have HP := Lib.hid hp
  have e2 : w.cell? ⟨b, 2, none⟩ = some u := (h.blk d (hp.more _).blk).cellAt 2 rfl
  clear h hp
  go_enter Try.func38, Try.ntmps38
  go_wp2_with (at_builtin; refine wpList_append_row (x := .slice xo l.length xc) rfl HE.out (d + 3) (HP.out.more _).tu _ _ rfl rfl rfl rfl (by omega) ?_)
  intro u' w1 h5
  rw [List.set_append_left _ _ (by omega)] at h5
  obtain ⟨uo, uc, hu'⟩ := rowForm h5 (u := u') (n := ts.length + 1) (d + 3) (by rw [List.getElem?_append_left (by simp; omega)]; exact List.getElem?_set_self (by omega))
  subst hu'
  obtain ⟨o1, ho1⟩ : ∃ x, obs.set (d + 3) (obE 32 1 (.slice uo (ts.length + 1) uc) (ts.length + 1) (ts ++ [.slice xo l.length xc])) = x := ⟨_, rfl⟩
  rw [ho1] at h5
  have hb1 : o1[d]? = some (obK b 31 #[p, q, u, v]) := by rw [← ho1, List.getElem?_set_ne (by omega)]; exact HP.out.blk
  have hv1 : o1[d + 4]? = some (obTR v us) := by rw [← ho1, List.getElem?_set_ne (by omega)]; exact HP.out.tv
  have hl1 : o1.length = obs.length := by rw [← ho1]; simp
  have ht1 : Turned d obs o1 := by rw [← ho1]; exact (Turned.refl d obs).set _ ⟨by omega, by omega⟩ _
  have k1 := h5.blk d (show (o1 ++ [_, _])[d]? = _ by rw [List.getElem?_append_left (by omega)]; exact hb1)
  have f2 := k1.unfrozen 2
  have g2 : w1.cell? ⟨b, 2, none⟩ = some u := k1.cellAt 2 rfl
  have h6 := h5.turnBlk d (show (o1 ++ [_, _])[d]? = _ by rw [List.getElem?_append_left (by omega)]; exact hb1) (k1.set 2 (.slice uo (ts.length + 1) uc)) ((Only.refl (fun x => x = b) w1).set (p := ⟨b, 2, none⟩) (.inl rfl) _)
  rw [List.set_append_left _ _ (by omega)] at h6
  obtain ⟨o2, ho2⟩ : ∃ x, o1.set d (obK b 31 #[p, q, .slice uo (ts.length + 1) uc, v]) = x := ⟨_, rfl⟩
  have H6 : Hid (Env w0 (w1.setCell ⟨b, 2, none⟩ (.slice uo (ts.length + 1) uc)) ((o2 ++ [obRuns (.slice xo l.length xc) l]) ++ [obRuns (.slice yo l.length yc) l])) := by rw [← ho2, List.append_assoc]; exact Lib.hid h6
  have hl2 : o2.length = obs.length := by rw [← ho2]; simpa using hl1
  have hb2 : o2[d]? = some (obK b 31 #[p, q, .slice uo (ts.length + 1) uc, v]) := by rw [← ho2]; exact List.getElem?_set_self (by omega)
  have hv2 : o2[d + 4]? = some (obTR v us) := by rw [← ho2, List.getElem?_set_ne (by omega)]; exact hv1
  have ht2 : Turned d obs o2 := by rw [← ho2]; exact ht1.set _ ⟨by omega, by omega⟩ _
  have HB2 := Lib.hid (And.intro hb2 hv2)
  have HT2 := Lib.hid ht2
  clear k1 h6 h5 hb1 hl1 hv1 ht1 hb2 hv2 ht2 ho2 ho1 e2 HE
  go_upto_region 2 with fail
  clear f2 g2
  obtain ⟨w2, hw2⟩ : ∃ x, w1.setCell ⟨b, 2, none⟩ (.slice uo (ts.length + 1) uc) = x := ⟨_, rfl⟩
  rw [hw2] at H6 ⊢
  clear hw2
  have e3 : w2.cell? ⟨b, 3, none⟩ = some v := (H6.out.blk d (b := b) (by rw [List.getElem?_append_left (by simp; omega), List.getElem?_append_left (by omega)]; exact HB2.out.1)).cellAt 3 rfl
  go_wp2_with (at_builtin; refine wpList_append_TR H6.out (d + 4) (by rw [List.getElem?_append_left (by omega)]; exact HB2.out.2) _ _ rfl rfl rfl rfl (by omega) ?_)
  intro v' w3 h5
  obtain ⟨vo, vc, hv', _, _⟩ := obTR_form h5 (u := v') (ts := us ++ [(.slice yo l.length yc, l)]) (d + 4) (by rw [List.getElem?_append_left (by simp; omega)]; exact List.getElem?_set_self (by omega))
  rw [List.length_append, List.length_singleton] at hv'
  subst hv'
  obtain ⟨o3, ho3⟩ : ∃ x, o2.set (d + 4) (obTR (.slice vo (us.length + 1) vc) (us ++ [(.slice yo l.length yc, l)])) = x := ⟨_, rfl⟩
  rw [ho3] at h5
  have hl3 : o3.length = obs.length := by rw [← ho3]; simpa using hl2
  have hb3 : o3[d]? = some (obK b 31 #[p, q, .slice uo (ts.length + 1) uc, v]) := by rw [← ho3, List.getElem?_set_ne (by omega)]; exact HB2.out.1
  have hv3 : o3[d + 4]? = some (obTR (.slice vo (us.length + 1) vc) (us ++ [(.slice yo l.length yc, l)])) := by rw [← ho3]; exact List.getElem?_set_self (by omega)
  have ht3 : Turned d obs o3 := by rw [← ho3]; exact HT2.out.set _ ⟨by omega, by omega⟩ _
  have k1 := h5.blk d (show (o3 ++ [_])[d]? = _ by rw [List.getElem?_append_left (by omega)]; exact hb3)
  have f2 := k1.unfrozen 3
  have g2 : w3.cell? ⟨b, 3, none⟩ = some v := k1.cellAt 3 rfl
  have h6 := h5.turnBlk d (show (o3 ++ [_])[d]? = _ by rw [List.getElem?_append_left (by omega)]; exact hb3) (k1.set 3 (.slice vo (us.length + 1) vc)) ((Only.refl (fun x => x = b) w3).set (p := ⟨b, 3, none⟩) (.inl rfl) _)
  rw [List.set_append_left _ _ (by omega)] at h6
  obtain ⟨o4, ho4⟩ : ∃ x, o3.set d (obK b 31 #[p, q, .slice uo (ts.length + 1) uc, .slice vo (us.length + 1) vc]) = x := ⟨_, rfl⟩
  have H7 : Hid (Env w0 (w3.setCell ⟨b, 3, none⟩ (.slice vo (us.length + 1) vc)) (o4 ++ [obRuns (.slice xo l.length xc) l])) := by rw [← ho4]; exact Lib.hid h6
  have hl4 : o4.length = obs.length := by rw [← ho4]; simpa using hl3
  have hb4 : Hid (o4[d]? = some (obK b 31 #[p, q, .slice uo (ts.length + 1) uc, .slice vo (us.length + 1) vc])) := by rw [← ho4]; exact Lib.hid (List.getElem?_set_self (by omega))
  have hv4 : Hid (o4[d + 4]? = some (obTR (.slice vo (us.length + 1) vc) (us ++ [(.slice yo l.length yc, l)]))) := by rw [← ho4, List.getElem?_set_ne (by omega)]; exact Lib.hid hv3
  have HT4 : Hid (Turned d obs o4) := by rw [← ho4]; exact Lib.hid (ht3.set _ ⟨by omega, by omega⟩ _)
  clear k1 h6 h5 hb3 hv3 ht3 hl3 ho3 ho4 e3 H6
  go_upto_region 3 with fail
  clear f2 g2
  obtain ⟨w4, hw4⟩ : ∃ x, w3.setCell ⟨b, 3, none⟩ (.slice vo (us.length + 1) vc) = x := ⟨_, rfl⟩
  rw [hw4] at H7 ⊢
  clear hw4
  go_wp2_with fail
  have rx : RunsRd w4 (.slice xo l.length xc) l := (H7.out.runs o4.length ((atE o4 [_] 0).trans rfl)).rd
  have ry : RunsRd w4 (.slice yo l.length yc) l := obTR_get H7.out (d + 4) (by rw [List.getElem?_append_left (by omega)]; exact hv4.out) (j := us.length) (by simp)
  refine (sameRuns_env' H7.out rx ry).mono ?_
  rintro e w5 ⟨rfl, h5⟩
  have H8 := Lib.hid h5
  clear h5 H7 rx ry
  rw [decide_eq_true rfl]
  go_wp2
  go_ret
  exact ⟨rfl, o4, _, _, H8.out.left02, HT4.out, hb4.out⟩
theorem cutT {w0 w : World} {obs obs' : List Ob} {A : Ob} {d : Nat} (h : Env w0 w obs') (ht : Turned d (obs ++ [A]) obs') (hd : d + 5 ≤ obs.length) : ∃ o, Env w0 w o ∧ Turned d obs o := by
  have e : obs' = obs'.take obs.length ++ obs'.drop obs.length := (List.take_append_drop _ _).symm
  have hl := ht.1
  rw [List.length_append, List.length_singleton] at hl
  refine ⟨obs'.take obs.length, Env.left02 (B := obs'.drop obs.length) (by rw [← e]; exact h), ?_, ?_⟩
  · rw [List.length_take]; omega
  · intro j hj
    rcases Nat.lt_or_ge j obs.length with hjl | hjl
    · rw [List.getElem?_take_of_lt hjl, ht.2 j hj, List.getElem?_append_left hjl]
    · rw [List.getElem?_eq_none (by rw [List.length_take]; omega), List.getElem?_eq_none hjl]
set_option maxHeartbeats 8000000 in
theorem act2_env {w0 w : World} {obs : List Ob} (h : Env w0 w obs) (d b : Nat) {p q u v : Value} {rs : List Rn} {ts : List Value} {us : List (Value × List Rn)} (hp : PairAt2 obs d b p q u v rs ts us) (hl1 : rs.length ≤ 1000) (h1 : ts.length ≤ 1000) (h2 : us.length ≤ 1000) :
    Calls Try.prog 13 #[.pointer (some ⟨b, 0, none⟩), actV 0 2 0 0 0] w fun e w' => e = .returned (.bool true) ∧ ∃ obs', Env w0 w' obs' ∧ Turned d obs obs' := by
  have hh := h.newK 41 #[.int .i64 0, .int .i64 2, .int .u8 0, .int .i64 0, .int .i64 0]
  have H1 : Hid (Env w0 (w.alloc (.cells #[.int .i64 0, .int .i64 2, .int .u8 0, .int .i64 0, .int .i64 0] 41)) (obs ++ [obA w.heap.size 0 2 0 0 0])) := Lib.hid hh
  have HP := Lib.hid hp
  have hlo := (List.getElem?_eq_some_iff.1 hp.tv).1
  clear hh h hp
  unfold actV
  go_enter Try.func13, Try.ntmps13
  obtain ⟨w2, hw2⟩ : ∃ x, w.alloc (.cells #[.int .i64 0, .int .i64 2, .int .u8 0, .int .i64 0, .int .i64 0] 41) = x := ⟨_, rfl⟩
  obtain ⟨G, hG⟩ : ∃ x, w.heap.size = x := ⟨_, rfl⟩
  rw [hw2, hG] at H1
  go_upto_region 1 with fail
  try rw [hw2]
  try rw [hG]
  clear hw2 hG
  have g1 : w2.cell? ⟨G, 1, none⟩ = some (.int .i64 2) := (H1.out.blk obs.length ((atE obs [_] 0).trans rfl)).cellAt 1 rfl
  go_upto_block 0 with fail
  clear g1
  have hatA : ∀ o : List Ob, o.length = obs.length → (o ++ [obA G 0 2 0 0 0])[obs.length]? = some (obA G 0 2 0 0 0) := fun o ho => by rw [← ho]; exact (atE o [_] 0).trans rfl
  have HAT := Lib.hid hatA
  clear hatA
  go_upto_region 11 with fail
  refine hd_start (StA b G p q 0 2 0 0 0) (by kernel_rfl) ?_
  intro w3 hw'
  have H3 := Lib.hid (H1.out.draw 1)
  rw [← hw'] at H3
  clear hw' H1
  have S3 : StA b G p q 0 2 0 0 0 w3 := StA.of H3.out (HP.out.more _).blk (HAT.out obs rfl)
  refine hd_take (v := ?_) 0 rfl (by kernel_rfl) (fun _ _ d _ _ h => (by cases d <;> exact h)) (by kernel_rfl) S3 (fun w' hS => ?_) ?_
  rotate_left
  focus (have q0 := StA.ra w' hS; have q1 := StA.re w' hS; clear hS; go_simp; try rfl; done)
  simp only [List.getElem_toArray, List.getElem_cons_succ, List.getElem_cons_zero, Act.put, List.setIfInBounds_toArray, List.set_cons_zero, List.set_cons_succ]
  refine hd_take (v := ?_) 1 rfl (by kernel_rfl) (fun _ _ d _ _ h => (by cases d <;> exact h)) (by kernel_rfl) S3 (fun w' hS => ?_) ?_
  rotate_left
  focus (have q0 := StA.ra w' hS; have q1 := StA.re w' hS; clear hS; go_simp; try rfl; done)
  simp only [List.getElem_toArray, List.getElem_cons_succ, List.getElem_cons_zero, Act.put, List.setIfInBounds_toArray, List.set_cons_zero, List.set_cons_succ]
  refine hd_take (v := ?_) 2 rfl (by kernel_rfl) (fun _ _ d _ _ h => (by cases d <;> exact h)) (by kernel_rfl) S3 (fun w' hS => ?_) ?_
  rotate_left
  focus (have q0 := StA.ra w' hS; have q1 := StA.re w' hS; clear hS; go_simp; try rfl; done)
  simp only [List.getElem_toArray, List.getElem_cons_succ, List.getElem_cons_zero, Act.put, List.setIfInBounds_toArray, List.set_cons_zero, List.set_cons_succ]
  refine hd_take (v := ?_) 3 rfl (by kernel_rfl) (fun _ _ d _ _ h => (by cases d <;> exact h)) (by kernel_rfl) S3 (fun w' hS => ?_) ?_
  rotate_left
  focus (have q0 := StA.ra w' hS; have q1 := StA.re w' hS; clear hS; go_simp; try rfl; done)
  simp only [List.getElem_toArray, List.getElem_cons_succ, List.getElem_cons_zero, Act.put, List.setIfInBounds_toArray, List.set_cons_zero, List.set_cons_succ]
  refine hd_take (v := ?_) 4 rfl (by kernel_rfl) (fun _ _ d _ _ h => (by cases d <;> exact h)) (by kernel_rfl) S3 (fun w' hS => ?_) ?_
  rotate_left
  focus (have q0 := StA.ra w' hS; have q1 := StA.re w' hS; clear hS; go_simp; try rfl; done)
  simp only [List.getElem_toArray, List.getElem_cons_succ, List.getElem_cons_zero, Act.put, List.setIfInBounds_toArray, List.set_cons_zero, List.set_cons_succ]
  refine hd_take (v := ?_) 6 rfl (by kernel_rfl) (fun _ _ d _ _ h => (by cases d <;> exact h)) (by kernel_rfl) S3 (fun w' hS => ?_) ?_
  rotate_left
  focus (have q0 := StA.ra w' hS; have q1 := StA.re w' hS; clear hS; go_simp; try rfl; done)
  simp only [List.getElem_toArray, List.getElem_cons_succ, List.getElem_cons_zero, Act.put, List.setIfInBounds_toArray, List.set_cons_zero, List.set_cons_succ]
  refine hd_take (v := ?_) 7 rfl (by kernel_rfl) (fun _ _ d _ _ h => (by cases d <;> exact h)) (by kernel_rfl) S3 (fun w' hS => ?_) ?_
  rotate_left
  focus (have q0 := StA.ra w' hS; have q1 := StA.re w' hS; clear hS; go_simp; try rfl; done)
  simp only [List.getElem_toArray, List.getElem_cons_succ, List.getElem_cons_zero, Act.put, List.setIfInBounds_toArray, List.set_cons_zero, List.set_cons_succ]
  refine hd_take (v := ?_) 8 rfl (by kernel_rfl) (fun _ _ d _ _ h => (by cases d <;> exact h)) (by kernel_rfl) S3 (fun w' hS => ?_) ?_
  rotate_left
  focus (have q0 := StA.ra w' hS; have q1 := StA.re w' hS; clear hS; go_simp; try rfl; done)
  simp only [List.getElem_toArray, List.getElem_cons_succ, List.getElem_cons_zero, Act.put, List.setIfInBounds_toArray, List.set_cons_zero, List.set_cons_succ]
  refine hd_take (v := ?_) 9 rfl (by kernel_rfl) (fun _ _ d _ _ h => (by cases d <;> exact h)) (by kernel_rfl) S3 (fun w' hS => ?_) ?_
  rotate_left
  focus (have q0 := StA.ra w' hS; have q1 := StA.re w' hS; clear hS; go_simp; try rfl; done)
  simp only [List.getElem_toArray, List.getElem_cons_succ, List.getElem_cons_zero, Act.put, List.setIfInBounds_toArray, List.set_cons_zero, List.set_cons_succ]
  refine hd_one 5 (by kernel_rfl) ?_
  refine op_call rfl (by kernel_rfl) (by go_simp; first | exact ⟨rfl, rfl⟩ | rfl) ?_
  refine (runsP_env' H3.out (d + 1) (HP.out.more _).lp (by omega)).mono ?_
  rintro e w4 ⟨x, he, h5⟩
  subst he
  have hS2 : StA b G p q 0 2 0 0 0 w4 := StA.of h5 ((HP.out.more _).more _).blk (g := obs.length) (by rw [List.getElem?_append_left (by simp)]; exact HAT.out _ rfl)
  obtain ⟨xo, xc, hx, _, _, _⟩ := header (h5.runs (v := x) (l := rs) (obs ++ [obA G 0 2 0 0 0]).length ((atE _ _ 0).trans rfl))
  subst hx
  have H4 := Lib.hid h5
  clear h5 H3
  refine ⟨_, rfl, hS2, ?_⟩
  simp only [List.getElem_toArray, List.getElem_cons_succ, List.getElem_cons_zero, Act.put, List.setIfInBounds_toArray, List.set_cons_zero, List.set_cons_succ]
  refine hd_one 10 (by kernel_rfl) ?_
  refine op_call rfl (by kernel_rfl) (by go_simp; first | exact ⟨rfl, rfl⟩ | rfl) ?_
  refine (runsR_env' H4.out (d + 2) ((HP.out.more _).more _).lr (by omega)).mono ?_
  rintro e w5 ⟨y, he, h5⟩
  subst he
  rw [List.append_assoc] at h5
  have hS2 : StA b G p q 0 2 0 0 0 w5 := StA.of h5 ((HP.out.more _).more _).blk (g := obs.length) (by rw [List.getElem?_append_left (by simp)]; exact HAT.out _ rfl)
  obtain ⟨yo, yc, hy, _, _, _⟩ := header (h5.runs (v := y) (l := rs) ((obs ++ [obA G 0 2 0 0 0]).length + 1) ((atE _ _ 1).trans rfl))
  subst hy
  have H5 := Lib.hid h5
  clear h5 H4
  refine ⟨_, rfl, hS2, ?_⟩
  simp only [List.getElem_toArray, List.getElem_cons_succ, List.getElem_cons_zero, Act.put, List.setIfInBounds_toArray, List.set_cons_zero, List.set_cons_succ]
  refine hd_one 11 (by kernel_rfl) ?_
  refine op_call rfl (by kernel_rfl) (by go_simp; first | exact ⟨rfl, rfl⟩ | rfl) ?_
  refine (keep2_env H5.out d b (HP.out.more _) (by omega) (by omega)).mono ?_
  rintro e w6 ⟨he, o1, u1, v1, h5, ht1, hb1⟩
  subst he
  have hS2 : StA b G p q 0 2 0 0 0 w6 := StA.of h5 hb1 (g := obs.length) (by rw [ht1.2 _ (by omega)]; exact HAT.out _ rfl)
  have S6 := hS2
  have H6 := Lib.hid h5
  have HT6 := Lib.hid ht1
  clear h5 hb1 ht1
  refine ⟨_, rfl, hS2, ?_⟩
  simp only [List.getElem_toArray, List.getElem_cons_succ, List.getElem_cons_zero, Act.put, List.setIfInBounds_toArray, List.set_cons_zero, List.set_cons_succ]
  refine hd_take (v := ?_) 12 rfl (by kernel_rfl) (fun _ _ d _ _ h => (by cases d <;> exact h)) (by kernel_rfl) S6 (fun w' hS => ?_) ?_
  rotate_left
  focus (clear hS; go_simp; try rfl; done)
  simp only [List.getElem_toArray, List.getElem_cons_succ, List.getElem_cons_zero, Act.put, List.setIfInBounds_toArray, List.set_cons_zero, List.set_cons_succ]
  refine hd_done (by kernel_rfl) ?_
  clear S3 S6
  go_wp2
  go_ret
  obtain ⟨o, q1, q2⟩ := cutT H6.out HT6.out (by omega)
  exact ⟨rfl, o, q1, q2⟩
end Go.Proofs.Ytmdfmkdhfhbkjaa
