/- The law's pair: act, a call of both. -/
import Derived.Test.YtmdfmkdhfhbkjaaRows
import Derived.Test.YtmdfmkdhfhbkjaaNear02
import Derived.Test.YtmdfmkdhfhbkjaaMarksPlain
namespace Go.Proofs.Ytmdfmkdhfhbkjaa
open Go.RowKit
set_option maxRecDepth 100000
set_option linter.unusedVariables false
set_option linter.unusedSimpArgs false
attribute [local go_sem] Oper.semAt_some
theorem noteL_len02 (rs : List Rn) (k s n : Int) : (noteL rs k s n).length ≤ rs.length + 1 := by
  rcases List.eq_nil_or_concat rs with rfl | ⟨r0, r, rfl⟩
  · simp [noteL]
  · rw [List.concat_eq_append]
    by_cases h : r.k = k ∧ r.s = s
    · rw [← h.1, ← h.2, noteL_same]; simp
    · rw [noteL_other _ _ _ _ _ h]; simp
/-- a pair after i calls -/
structure PS (i : Nat) (rs : List Rn) (ts us : List (Value × List Rn)) : Prop where
  nrm : Nrm rs
  sum : tot rs ≤ 4611686018427387504 + i
  len : rs.length ≤ i
  tl : ts.length ≤ i
  same : ts.map (·.2) = us.map (·.2)
  small : ∀ x ∈ ts, x.2.length ≤ 1000
theorem PS.wl {i : Nat} {rs : List Rn} {ts us : List (Value × List Rn)} (h : PS i rs ts us) : us.length = ts.length := by
  have := congrArg List.length h.same
  simpa using this.symm
theorem PS.posi {i : Nat} {rs : List Rn} {ts us : List (Value × List Rn)} (h : PS i rs ts us) : Posi rs := fun r hr => h.nrm.posi r hr
theorem PS.nn {i : Nat} {rs : List Rn} {ts us : List (Value × List Rn)} (h : PS i rs ts us) : 0 ≤ tot rs := by
  have := evs_len rs h.posi
  omega
theorem PS.up {i : Nat} {rs : List Rn} {ts us : List (Value × List Rn)} (h : PS i rs ts us) : PS (i + 1) rs ts us :=
  ⟨h.nrm, by have := h.sum; omega, by have := h.len; omega, by have := h.tl; omega, h.same, h.small⟩
theorem PS.note {i : Nat} {rs : List Rn} {ts us : List (Value × List Rn)} (h : PS i rs ts us) (k s n : Int) (hn : 1 ≤ n) (hb : n = 1 ∨ n ≤ 4611686018427387904 - tot rs - 400) : PS (i + 1) (noteL rs k s n) ts us :=
  ⟨h.nrm.note k s n hn, by rw [tot_note]; have := h.sum; omega, by have := noteL_len02 rs k s n; have := h.len; omega, by have := h.tl; omega, h.same, h.small⟩
theorem PS.reset {i : Nat} {rs : List Rn} {ts us : List (Value × List Rn)} (h : PS i rs ts us) : PS (i + 1) [] ts us :=
  ⟨trivial, by simp [tot]; omega, by simp, by have := h.tl; omega, h.same, h.small⟩
theorem PS.told {i : Nat} {rs : List Rn} {ts us : List (Value × List Rn)} (h : PS i rs ts us) (x y : Value) (l : List Rn) (hl : l.length ≤ rs.length) (hi : i ≤ 400) : PS (i + 1) rs (ts ++ [(x, l)]) (us ++ [(y, l)]) :=
  ⟨h.nrm, by have := h.sum; omega, by have := h.len; omega, by have := h.tl; simp; omega, by simp [h.same], fun z hz => by
    rcases List.mem_append.1 hz with hz | hz
    · exact h.small z hz
    · simp at hz
      subst hz
      have := h.len
      simp
      omega⟩
theorem PairAt.mid {obs : List Ob} {d b : Nat} {p q u v : Value} {rs : List Rn} {ts us : List (Value × List Rn)} (h : PairAt obs d b p q u v rs ts us) (x : Ob) (L : List Ob) : (obs.set (d + 1) x ++ L)[d]? = some (obK b 31 #[p, q, u, v]) ∧ (obs.set (d + 1) x ++ L)[d + 2]? = some (obR q (some rs)) := by
  have hl := (List.getElem?_eq_some_iff.1 h.tv).1
  exact ⟨by rw [List.getElem?_append_left (by simp; omega), List.getElem?_set_ne (by omega)]; exact h.blk, by rw [List.getElem?_append_left (by simp; omega), List.getElem?_set_ne (by omega)]; exact h.lr⟩
theorem PairAt.both {obs : List Ob} {d b : Nat} {p q u v : Value} {rs : List Rn} {ts us : List (Value × List Rn)} (h : PairAt obs d b p q u v rs ts us) (rs' : List Rn) : PairAt ((obs.set (d + 1) (obP p (some rs'))).set (d + 2) (obR q (some rs'))) d b p q u v rs' ts us := by
  have hl := (List.getElem?_eq_some_iff.1 h.tv).1
  refine ⟨?_, ?_, ?_, ?_, ?_⟩
  · rw [List.getElem?_set_ne (by omega), List.getElem?_set_ne (by omega)]; exact h.blk
  · rw [List.getElem?_set_ne (by omega)]; exact List.getElem?_set_self (by omega)
  · exact List.getElem?_set_self (by simp; omega)
  · rw [List.getElem?_set_ne (by omega), List.getElem?_set_ne (by omega)]; exact h.tu
  · rw [List.getElem?_set_ne (by omega), List.getElem?_set_ne (by omega)]; exact h.tv
theorem Turned.both (d : Nat) (obs : List Ob) (x y : Ob) : Turned d obs ((obs.set (d + 1) x).set (d + 2) y) := ((Turned.refl d obs).set _ ⟨by omega, by omega⟩ _).set _ ⟨by omega, by omega⟩ _
structure ActR (w0 : World) (obs : List Ob) (d b : Nat) (p q : Value) (i : Nat) (e : Ending) (w' : World) : Prop where
  ex : e = .returned (.bool true) ∧ ∃ obs' u v rs ts us, Env w0 w' obs' ∧ PairAt obs' d b p q u v rs ts us ∧ Turned d obs obs' ∧ PS i rs ts us
theorem cutA {w0 w : World} {obs obs' : List Ob} {A : Ob} {d b : Nat} {p q u v : Value} {rs : List Rn} {ts us : List (Value × List Rn)} (h : Env w0 w obs') (hp : PairAt obs' d b p q u v rs ts us) (ht : Turned d (obs ++ [A]) obs') (hd : d + 5 ≤ obs.length) : ∃ o, Env w0 w o ∧ PairAt o d b p q u v rs ts us ∧ Turned d obs o := by
  have e : obs' = obs'.take obs.length ++ obs'.drop obs.length := (List.take_append_drop _ _).symm
  have hl := ht.1
  rw [List.length_append, List.length_singleton] at hl
  refine ⟨obs'.take obs.length, Env.left02 (B := obs'.drop obs.length) (by rw [← e]; exact h), ⟨?_, ?_, ?_, ?_, ?_⟩, ?_, ?_⟩
  · rw [List.getElem?_take_of_lt (by omega)]; exact hp.blk
  · rw [List.getElem?_take_of_lt (by omega)]; exact hp.lp
  · rw [List.getElem?_take_of_lt (by omega)]; exact hp.lr
  · rw [List.getElem?_take_of_lt (by omega)]; exact hp.tu
  · rw [List.getElem?_take_of_lt (by omega)]; exact hp.tv
  · rw [List.length_take]; omega
  · intro j hj
    rcases Nat.lt_or_ge j obs.length with hjl | hjl
    · rw [List.getElem?_take_of_lt hjl, ht.2 j hj, List.getElem?_append_left hjl]
    · rw [List.getElem?_eq_none (by rw [List.length_take]; omega), List.getElem?_eq_none hjl]
set_option maxHeartbeats 16000000 in
theorem act_env {w0 w : World} {obs : List Ob} (h : Env w0 w obs) (d b : Nat) {p q u v : Value} {rs : List Rn} {ts us : List (Value × List Rn)} (hp : PairAt obs d b p q u v rs ts us) (i : Nat) (hps : PS i rs ts us) (hi : i ≤ 400) (on cl k s n : Int)
    (hk : 0 ≤ k ∧ k ≤ 255) (hn : -9223372036854775808 ≤ n ∧ n ≤ 9223372036854775807) (hnear : cl = 1 → n ≤ 0 ∨ n ≤ 4611686018427387904 - tot rs - 400) :
    Calls Try.prog 13 #[.pointer (some ⟨b, 0, none⟩), actV on cl k s n] w (ActR w0 obs d b p q (i + 1)) := by
  have h1 := h.newK 41 #[.int .i64 on, .int .i64 cl, .int .u8 k, .int .i64 s, .int .i64 n]
  have H1 : Hid (Env w0 (w.alloc (.cells #[.int .i64 on, .int .i64 cl, .int .u8 k, .int .i64 s, .int .i64 n] 41)) (obs ++ [obA w.heap.size on cl k s n])) := Lib.hid h1
  have HP := Lib.hid hp
  have HPS := Lib.hid hps
  have HN := Lib.hid hnear
  have hlo := (List.getElem?_eq_some_iff.1 hp.tv).1
  have hl1 := hps.len
  have hT : Hid (0 ≤ tot rs ∧ tot rs ≤ 4611686018427388904) := Lib.hid ⟨hps.nn, by have := hps.sum; omega⟩
  clear h1 h hp hps hnear
  unfold actV
  go_enter Try.func13, Try.ntmps13
  obtain ⟨w2, hw2⟩ : ∃ x, w.alloc (.cells #[.int .i64 on, .int .i64 cl, .int .u8 k, .int .i64 s, .int .i64 n] 41) = x := ⟨_, rfl⟩
  obtain ⟨G, hG⟩ : ∃ x, w.heap.size = x := ⟨_, rfl⟩
  rw [hw2, hG] at H1
  go_upto_region 1 with fail
  try rw [hw2]
  try rw [hG]
  clear hw2 hG
  have g1 : w2.cell? ⟨G, 1, none⟩ = some (.int .i64 cl) := (H1.out.blk obs.length ((atE obs [_] 0).trans rfl)).cellAt 1 rfl
  go_upto_block 0 with fail
  clear g1
  have hatA : ∀ o : List Ob, o.length = obs.length → (o ++ [obA G on cl k s n])[obs.length]? = some (obA G on cl k s n) := fun o ho => by rw [← ho]; exact (atE o [_] 0).trans rfl
  have HAT := Lib.hid hatA
  clear hatA
  by_cases c0 : cl = 0
  · have t0 : (cl == (0 : Int)) = true := by rw [c0]; rfl
    clear c0
    --[c0
    go_upto_region 3 with fail
    clear t0
    refine hd_start (StA b G p q on cl k s n) (by kernel_rfl) ?_
    intro w3 hw'
    have H3 := Lib.hid (H1.out.draw 1)
    rw [← hw'] at H3
    clear hw' H1
    have S3 : StA b G p q on cl k s n w3 := StA.of H3.out (HP.out.more _).blk (HAT.out obs rfl)
    refine hd_take (v := ?_) 0 rfl (by kernel_rfl) (fun _ _ d _ _ h => (by cases d <;> exact h)) (by kernel_rfl) S3 (fun w' hS => ?_) ?_
    rotate_left
    focus (have q0 := StA.ra w' hS; have q1 := StA.re w' hS; clear hS; go_simp; try rfl; done)
    simp only [List.getElem_toArray, List.getElem_cons_succ, List.getElem_cons_zero, Act.put, List.setIfInBounds_toArray, List.set_cons_zero, List.set_cons_succ]
    refine hd_take (v := ?_) 1 rfl (by kernel_rfl) (fun _ _ d _ _ h => (by cases d <;> exact h)) (by kernel_rfl) S3 (fun w' hS => ?_) ?_
    rotate_left
    focus (have q0 := StA.ra w' hS; have q1 := StA.re w' hS; clear hS; go_simp; try rfl; done)
    simp only [List.getElem_toArray, List.getElem_cons_succ, List.getElem_cons_zero, Act.put, List.setIfInBounds_toArray, List.set_cons_zero, List.set_cons_succ]
    refine hd_take (v := ?_) 2 rfl (by kernel_rfl) (fun _ _ d _ _ h => (by cases d <;> exact h)) (by kernel_rfl) S3 (fun w' hS => ?_) ?_
    rotate_left
    focus (have q0 := StA.ra w' hS; have q1 := StA.re w' hS; clear hS; go_simp; try rfl; done)
    simp only [List.getElem_toArray, List.getElem_cons_succ, List.getElem_cons_zero, Act.put, List.setIfInBounds_toArray, List.set_cons_zero, List.set_cons_succ]
    refine hd_take (v := ?_) 3 rfl (by kernel_rfl) (fun _ _ d _ _ h => (by cases d <;> exact h)) (by kernel_rfl) S3 (fun w' hS => ?_) ?_
    rotate_left
    focus (have q0 := StA.ra w' hS; have q1 := StA.re w' hS; clear hS; go_simp; try rfl; done)
    simp only [List.getElem_toArray, List.getElem_cons_succ, List.getElem_cons_zero, Act.put, List.setIfInBounds_toArray, List.set_cons_zero, List.set_cons_succ]
    refine hd_take (v := ?_) 4 rfl (by kernel_rfl) (fun _ _ d _ _ h => (by cases d <;> exact h)) (by kernel_rfl) S3 (fun w' hS => ?_) ?_
    rotate_left
    focus (have q0 := StA.ra w' hS; have q1 := StA.re w' hS; clear hS; go_simp; try rfl; done)
    simp only [List.getElem_toArray, List.getElem_cons_succ, List.getElem_cons_zero, Act.put, List.setIfInBounds_toArray, List.set_cons_zero, List.set_cons_succ]
    refine hd_take (v := ?_) 5 rfl (by kernel_rfl) (fun _ _ d _ _ h => (by cases d <;> exact h)) (by kernel_rfl) S3 (fun w' hS => ?_) ?_
    rotate_left
    focus (have q0 := StA.ra w' hS; have q1 := StA.re w' hS; clear hS; go_simp; try rfl; done)
    simp only [List.getElem_toArray, List.getElem_cons_succ, List.getElem_cons_zero, Act.put, List.setIfInBounds_toArray, List.set_cons_zero, List.set_cons_succ]
    refine hd_one 6 (by kernel_rfl) ?_
    refine op_call rfl (by kernel_rfl) (by go_simp; first | exact ⟨rfl, rfl⟩ | rfl) ?_
    refine (noteP_env H3.out (d + 1) (HP.out.more _).lp k s (Room.some (by have := hT.out; omega) (by omega))).mono ?_
    rintro e w4 ⟨he, h5⟩
    subst he
    rw [List.set_append_left _ _ (by omega)] at h5
    have hS2 : StA b G p q on cl k s n w4 := StA.of h5 (HP.out.mid _ _).1 (HAT.out _ (by simp))
    have S4 := hS2
    have H4 := Lib.hid h5
    clear h5 H3
    refine ⟨_, rfl, hS2, ?_⟩
    simp only [List.getElem_toArray, List.getElem_cons_succ, List.getElem_cons_zero, Act.put, List.setIfInBounds_toArray, List.set_cons_zero, List.set_cons_succ]
    refine hd_done (by kernel_rfl) ?_
    clear S3 hS2
    go_upto_region 4 with fail
    refine hd_start (StA b G p q on cl k s n) (by kernel_rfl) ?_
    intro w5 hw'
    have H5 := Lib.hid (H4.out.draw 1)
    rw [← hw'] at H5
    clear hw' H4
    have S5 : StA b G p q on cl k s n w5 := StA.of H5.out (HP.out.mid _ _).1 (HAT.out _ (by simp))
    refine hd_take (v := ?_) 0 rfl (by kernel_rfl) (fun _ _ d _ _ h => (by cases d <;> exact h)) (by kernel_rfl) S5 (fun w' hS => ?_) ?_
    rotate_left
    focus (have q0 := StA.ra w' hS; have q1 := StA.re w' hS; clear hS; go_simp; try rfl; done)
    simp only [List.getElem_toArray, List.getElem_cons_succ, List.getElem_cons_zero, Act.put, List.setIfInBounds_toArray, List.set_cons_zero, List.set_cons_succ]
    refine hd_take (v := ?_) 1 rfl (by kernel_rfl) (fun _ _ d _ _ h => (by cases d <;> exact h)) (by kernel_rfl) S5 (fun w' hS => ?_) ?_
    rotate_left
    focus (have q0 := StA.ra w' hS; have q1 := StA.re w' hS; clear hS; go_simp; try rfl; done)
    simp only [List.getElem_toArray, List.getElem_cons_succ, List.getElem_cons_zero, Act.put, List.setIfInBounds_toArray, List.set_cons_zero, List.set_cons_succ]
    refine hd_take (v := ?_) 2 rfl (by kernel_rfl) (fun _ _ d _ _ h => (by cases d <;> exact h)) (by kernel_rfl) S5 (fun w' hS => ?_) ?_
    rotate_left
    focus (have q0 := StA.ra w' hS; have q1 := StA.re w' hS; clear hS; go_simp; try rfl; done)
    simp only [List.getElem_toArray, List.getElem_cons_succ, List.getElem_cons_zero, Act.put, List.setIfInBounds_toArray, List.set_cons_zero, List.set_cons_succ]
    refine hd_take (v := ?_) 3 rfl (by kernel_rfl) (fun _ _ d _ _ h => (by cases d <;> exact h)) (by kernel_rfl) S5 (fun w' hS => ?_) ?_
    rotate_left
    focus (have q0 := StA.ra w' hS; have q1 := StA.re w' hS; clear hS; go_simp; try rfl; done)
    simp only [List.getElem_toArray, List.getElem_cons_succ, List.getElem_cons_zero, Act.put, List.setIfInBounds_toArray, List.set_cons_zero, List.set_cons_succ]
    refine hd_take (v := ?_) 4 rfl (by kernel_rfl) (fun _ _ d _ _ h => (by cases d <;> exact h)) (by kernel_rfl) S5 (fun w' hS => ?_) ?_
    rotate_left
    focus (have q0 := StA.ra w' hS; have q1 := StA.re w' hS; clear hS; go_simp; try rfl; done)
    simp only [List.getElem_toArray, List.getElem_cons_succ, List.getElem_cons_zero, Act.put, List.setIfInBounds_toArray, List.set_cons_zero, List.set_cons_succ]
    refine hd_take (v := ?_) 5 rfl (by kernel_rfl) (fun _ _ d _ _ h => (by cases d <;> exact h)) (by kernel_rfl) S5 (fun w' hS => ?_) ?_
    rotate_left
    focus (have q0 := StA.ra w' hS; have q1 := StA.re w' hS; clear hS; go_simp; try rfl; done)
    simp only [List.getElem_toArray, List.getElem_cons_succ, List.getElem_cons_zero, Act.put, List.setIfInBounds_toArray, List.set_cons_zero, List.set_cons_succ]
    refine hd_one 6 (by kernel_rfl) ?_
    refine op_call rfl (by kernel_rfl) (by go_simp; first | exact ⟨rfl, rfl⟩ | rfl) ?_
    refine (noteR_env' H5.out (d + 2) (HP.out.mid _ _).2 k s (Room.some (by have := hT.out; omega) (by omega))).mono ?_
    rintro e w6 ⟨he, h5⟩
    subst he
    rw [List.set_append_left _ _ (by simp; omega)] at h5
    have hS2 : StA b G p q on cl k s n w6 := StA.of h5 ((List.getElem?_append_left (by simp; omega)).trans (HP.out.both (noteL rs k s 1)).blk) (HAT.out _ (by simp))
    have H6 := Lib.hid h5
    clear h5 H5
    refine ⟨_, rfl, hS2, ?_⟩
    simp only [List.getElem_toArray, List.getElem_cons_succ, List.getElem_cons_zero, Act.put, List.setIfInBounds_toArray, List.set_cons_zero, List.set_cons_succ]
    refine hd_done (by kernel_rfl) ?_
    clear S4 S5 hS2
    go_wp2
    go_ret
    exact ⟨rfl, _, _, _, _, _, _, H6.out.left02, HP.out.both (noteL rs k s 1), Turned.both _ _ _ _, HPS.out.note k s 1 (by omega) (.inl rfl)⟩
    --]c0
  · have t0 : (cl == (0 : Int)) = false := by rw [beq_eq_false_iff_ne]; exact c0
    clear c0
    by_cases c1 : cl = 1
    · have t1 : (cl == (1 : Int)) = true := by rw [c1]; rfl
      obtain ⟨rs', hrs, hps'⟩ : ∃ rs', timesO (some rs) k s n = some rs' ∧ PS (i + 1) rs' ts us := by
        unfold timesO
        by_cases h : n < 1
        · exact ⟨rs, by rw [if_pos h], HPS.out.up⟩
        · exact ⟨noteL rs k s n, by rw [if_neg h]; rfl, HPS.out.note k s n (by omega) (by have := HN.out c1; omega)⟩
      have hroom : Hid (Room (some rs) n) := Lib.hid (Room.some (by have := hT.out; have := HN.out c1; omega) (by omega))
      have HPS' := Lib.hid hps'
      have HRS := Lib.hid hrs
      clear c1 hps' hrs
      --[c1
      go_upto_region 7 with fail
      clear t0 t1
      refine hd_start (StA b G p q on cl k s n) (by kernel_rfl) ?_
      intro w3 hw'
      have H3 := Lib.hid (H1.out.draw 1)
      rw [← hw'] at H3
      clear hw' H1
      have S3 : StA b G p q on cl k s n w3 := StA.of H3.out (HP.out.more _).blk (HAT.out obs rfl)
      refine hd_take (v := ?_) 0 rfl (by kernel_rfl) (fun _ _ d _ _ h => (by cases d <;> exact h)) (by kernel_rfl) S3 (fun w' hS => ?_) ?_
      rotate_left
      focus (have q0 := StA.ra w' hS; have q1 := StA.re w' hS; clear hS; go_simp; try rfl; done)
      simp only [List.getElem_toArray, List.getElem_cons_succ, List.getElem_cons_zero, Act.put, List.setIfInBounds_toArray, List.set_cons_zero, List.set_cons_succ]
      refine hd_take (v := ?_) 1 rfl (by kernel_rfl) (fun _ _ d _ _ h => (by cases d <;> exact h)) (by kernel_rfl) S3 (fun w' hS => ?_) ?_
      rotate_left
      focus (have q0 := StA.ra w' hS; have q1 := StA.re w' hS; clear hS; go_simp; try rfl; done)
      simp only [List.getElem_toArray, List.getElem_cons_succ, List.getElem_cons_zero, Act.put, List.setIfInBounds_toArray, List.set_cons_zero, List.set_cons_succ]
      refine hd_take (v := ?_) 2 rfl (by kernel_rfl) (fun _ _ d _ _ h => (by cases d <;> exact h)) (by kernel_rfl) S3 (fun w' hS => ?_) ?_
      rotate_left
      focus (have q0 := StA.ra w' hS; have q1 := StA.re w' hS; clear hS; go_simp; try rfl; done)
      simp only [List.getElem_toArray, List.getElem_cons_succ, List.getElem_cons_zero, Act.put, List.setIfInBounds_toArray, List.set_cons_zero, List.set_cons_succ]
      refine hd_take (v := ?_) 3 rfl (by kernel_rfl) (fun _ _ d _ _ h => (by cases d <;> exact h)) (by kernel_rfl) S3 (fun w' hS => ?_) ?_
      rotate_left
      focus (have q0 := StA.ra w' hS; have q1 := StA.re w' hS; clear hS; go_simp; try rfl; done)
      simp only [List.getElem_toArray, List.getElem_cons_succ, List.getElem_cons_zero, Act.put, List.setIfInBounds_toArray, List.set_cons_zero, List.set_cons_succ]
      refine hd_take (v := ?_) 4 rfl (by kernel_rfl) (fun _ _ d _ _ h => (by cases d <;> exact h)) (by kernel_rfl) S3 (fun w' hS => ?_) ?_
      rotate_left
      focus (have q0 := StA.ra w' hS; have q1 := StA.re w' hS; clear hS; go_simp; try rfl; done)
      simp only [List.getElem_toArray, List.getElem_cons_succ, List.getElem_cons_zero, Act.put, List.setIfInBounds_toArray, List.set_cons_zero, List.set_cons_succ]
      refine hd_take (v := ?_) 5 rfl (by kernel_rfl) (fun _ _ d _ _ h => (by cases d <;> exact h)) (by kernel_rfl) S3 (fun w' hS => ?_) ?_
      rotate_left
      focus (have q0 := StA.ra w' hS; have q1 := StA.re w' hS; clear hS; go_simp; try rfl; done)
      simp only [List.getElem_toArray, List.getElem_cons_succ, List.getElem_cons_zero, Act.put, List.setIfInBounds_toArray, List.set_cons_zero, List.set_cons_succ]
      refine hd_take (v := ?_) 6 rfl (by kernel_rfl) (fun _ _ d _ _ h => (by cases d <;> exact h)) (by kernel_rfl) S3 (fun w' hS => ?_) ?_
      rotate_left
      focus (have q0 := StA.ra w' hS; have q1 := StA.re w' hS; clear hS; go_simp; try rfl; done)
      simp only [List.getElem_toArray, List.getElem_cons_succ, List.getElem_cons_zero, Act.put, List.setIfInBounds_toArray, List.set_cons_zero, List.set_cons_succ]
      refine hd_take (v := ?_) 7 rfl (by kernel_rfl) (fun _ _ d _ _ h => (by cases d <;> exact h)) (by kernel_rfl) S3 (fun w' hS => ?_) ?_
      rotate_left
      focus (have q0 := StA.ra w' hS; have q1 := StA.re w' hS; clear hS; go_simp; try rfl; done)
      simp only [List.getElem_toArray, List.getElem_cons_succ, List.getElem_cons_zero, Act.put, List.setIfInBounds_toArray, List.set_cons_zero, List.set_cons_succ]
      refine hd_one 8 (by kernel_rfl) ?_
      refine op_call rfl (by kernel_rfl) (by go_simp; first | exact ⟨rfl, rfl⟩ | rfl) ?_
      refine (timesP_env H3.out (d + 1) (HP.out.more _).lp k s n hroom.out).mono ?_
      rintro e w4 ⟨he, h5⟩
      subst he
      rw [List.set_append_left _ _ (by omega), HRS.out] at h5
      have hS2 : StA b G p q on cl k s n w4 := StA.of h5 (HP.out.mid _ _).1 (HAT.out _ (by simp))
      have S4 := hS2
      have H4 := Lib.hid h5
      clear h5 H3
      refine ⟨_, rfl, hS2, ?_⟩
      simp only [List.getElem_toArray, List.getElem_cons_succ, List.getElem_cons_zero, Act.put, List.setIfInBounds_toArray, List.set_cons_zero, List.set_cons_succ]
      refine hd_done (by kernel_rfl) ?_
      clear S3 hS2
      go_upto_region 8 with fail
      refine hd_start (StA b G p q on cl k s n) (by kernel_rfl) ?_
      intro w5 hw'
      have H5 := Lib.hid (H4.out.draw 1)
      rw [← hw'] at H5
      clear hw' H4
      have S5 : StA b G p q on cl k s n w5 := StA.of H5.out (HP.out.mid _ _).1 (HAT.out _ (by simp))
      refine hd_take (v := ?_) 0 rfl (by kernel_rfl) (fun _ _ d _ _ h => (by cases d <;> exact h)) (by kernel_rfl) S5 (fun w' hS => ?_) ?_
      rotate_left
      focus (have q0 := StA.ra w' hS; have q1 := StA.re w' hS; clear hS; go_simp; try rfl; done)
      simp only [List.getElem_toArray, List.getElem_cons_succ, List.getElem_cons_zero, Act.put, List.setIfInBounds_toArray, List.set_cons_zero, List.set_cons_succ]
      refine hd_take (v := ?_) 1 rfl (by kernel_rfl) (fun _ _ d _ _ h => (by cases d <;> exact h)) (by kernel_rfl) S5 (fun w' hS => ?_) ?_
      rotate_left
      focus (have q0 := StA.ra w' hS; have q1 := StA.re w' hS; clear hS; go_simp; try rfl; done)
      simp only [List.getElem_toArray, List.getElem_cons_succ, List.getElem_cons_zero, Act.put, List.setIfInBounds_toArray, List.set_cons_zero, List.set_cons_succ]
      refine hd_take (v := ?_) 2 rfl (by kernel_rfl) (fun _ _ d _ _ h => (by cases d <;> exact h)) (by kernel_rfl) S5 (fun w' hS => ?_) ?_
      rotate_left
      focus (have q0 := StA.ra w' hS; have q1 := StA.re w' hS; clear hS; go_simp; try rfl; done)
      simp only [List.getElem_toArray, List.getElem_cons_succ, List.getElem_cons_zero, Act.put, List.setIfInBounds_toArray, List.set_cons_zero, List.set_cons_succ]
      refine hd_take (v := ?_) 3 rfl (by kernel_rfl) (fun _ _ d _ _ h => (by cases d <;> exact h)) (by kernel_rfl) S5 (fun w' hS => ?_) ?_
      rotate_left
      focus (have q0 := StA.ra w' hS; have q1 := StA.re w' hS; clear hS; go_simp; try rfl; done)
      simp only [List.getElem_toArray, List.getElem_cons_succ, List.getElem_cons_zero, Act.put, List.setIfInBounds_toArray, List.set_cons_zero, List.set_cons_succ]
      refine hd_take (v := ?_) 4 rfl (by kernel_rfl) (fun _ _ d _ _ h => (by cases d <;> exact h)) (by kernel_rfl) S5 (fun w' hS => ?_) ?_
      rotate_left
      focus (have q0 := StA.ra w' hS; have q1 := StA.re w' hS; clear hS; go_simp; try rfl; done)
      simp only [List.getElem_toArray, List.getElem_cons_succ, List.getElem_cons_zero, Act.put, List.setIfInBounds_toArray, List.set_cons_zero, List.set_cons_succ]
      refine hd_take (v := ?_) 5 rfl (by kernel_rfl) (fun _ _ d _ _ h => (by cases d <;> exact h)) (by kernel_rfl) S5 (fun w' hS => ?_) ?_
      rotate_left
      focus (have q0 := StA.ra w' hS; have q1 := StA.re w' hS; clear hS; go_simp; try rfl; done)
      simp only [List.getElem_toArray, List.getElem_cons_succ, List.getElem_cons_zero, Act.put, List.setIfInBounds_toArray, List.set_cons_zero, List.set_cons_succ]
      refine hd_take (v := ?_) 6 rfl (by kernel_rfl) (fun _ _ d _ _ h => (by cases d <;> exact h)) (by kernel_rfl) S5 (fun w' hS => ?_) ?_
      rotate_left
      focus (have q0 := StA.ra w' hS; have q1 := StA.re w' hS; clear hS; go_simp; try rfl; done)
      simp only [List.getElem_toArray, List.getElem_cons_succ, List.getElem_cons_zero, Act.put, List.setIfInBounds_toArray, List.set_cons_zero, List.set_cons_succ]
      refine hd_take (v := ?_) 7 rfl (by kernel_rfl) (fun _ _ d _ _ h => (by cases d <;> exact h)) (by kernel_rfl) S5 (fun w' hS => ?_) ?_
      rotate_left
      focus (have q0 := StA.ra w' hS; have q1 := StA.re w' hS; clear hS; go_simp; try rfl; done)
      simp only [List.getElem_toArray, List.getElem_cons_succ, List.getElem_cons_zero, Act.put, List.setIfInBounds_toArray, List.set_cons_zero, List.set_cons_succ]
      refine hd_one 8 (by kernel_rfl) ?_
      refine op_call rfl (by kernel_rfl) (by go_simp; first | exact ⟨rfl, rfl⟩ | rfl) ?_
      refine (timesR_env H5.out (d + 2) (HP.out.mid _ _).2 k s n hroom.out).mono ?_
      rintro e w6 ⟨he, h5⟩
      subst he
      rw [List.set_append_left _ _ (by simp; omega), HRS.out] at h5
      have hS2 : StA b G p q on cl k s n w6 := StA.of h5 ((List.getElem?_append_left (by simp; omega)).trans (HP.out.both rs').blk) (HAT.out _ (by simp))
      have H6 := Lib.hid h5
      clear h5 H5
      refine ⟨_, rfl, hS2, ?_⟩
      simp only [List.getElem_toArray, List.getElem_cons_succ, List.getElem_cons_zero, Act.put, List.setIfInBounds_toArray, List.set_cons_zero, List.set_cons_succ]
      refine hd_done (by kernel_rfl) ?_
      clear S4 S5 hS2
      go_wp2
      go_ret
      exact ⟨rfl, _, _, _, _, _, _, H6.out.left02, HP.out.both rs', Turned.both _ _ _ _, HPS'.out⟩
      --]c1
    · have t1 : (cl == (1 : Int)) = false := by rw [beq_eq_false_iff_ne]; exact c1
      clear c1
      by_cases c2 : cl = 2
      · have t2 : (cl == (2 : Int)) = true := by rw [c2]; rfl
        clear c2
        --[c2
        go_upto_region 11 with fail
        clear t0 t1 t2
        refine hd_start (StA b G p q on cl k s n) (by kernel_rfl) ?_
        intro w3 hw'
        have H3 := Lib.hid (H1.out.draw 1)
        rw [← hw'] at H3
        clear hw' H1
        have S3 : StA b G p q on cl k s n w3 := StA.of H3.out (HP.out.more _).blk (HAT.out obs rfl)
        refine hd_take (v := ?_) 0 rfl (by kernel_rfl) (fun _ _ d _ _ h => (by cases d <;> exact h)) (by kernel_rfl) S3 (fun w' hS => ?_) ?_
        rotate_left
        focus (have q0 := StA.ra w' hS; have q1 := StA.re w' hS; clear hS; go_simp; try rfl; done)
        simp only [List.getElem_toArray, List.getElem_cons_succ, List.getElem_cons_zero, Act.put, List.setIfInBounds_toArray, List.set_cons_zero, List.set_cons_succ]
        refine hd_take (v := ?_) 1 rfl (by kernel_rfl) (fun _ _ d _ _ h => (by cases d <;> exact h)) (by kernel_rfl) S3 (fun w' hS => ?_) ?_
        rotate_left
        focus (have q0 := StA.ra w' hS; have q1 := StA.re w' hS; clear hS; go_simp; try rfl; done)
        simp only [List.getElem_toArray, List.getElem_cons_succ, List.getElem_cons_zero, Act.put, List.setIfInBounds_toArray, List.set_cons_zero, List.set_cons_succ]
        refine hd_take (v := ?_) 2 rfl (by kernel_rfl) (fun _ _ d _ _ h => (by cases d <;> exact h)) (by kernel_rfl) S3 (fun w' hS => ?_) ?_
        rotate_left
        focus (have q0 := StA.ra w' hS; have q1 := StA.re w' hS; clear hS; go_simp; try rfl; done)
        simp only [List.getElem_toArray, List.getElem_cons_succ, List.getElem_cons_zero, Act.put, List.setIfInBounds_toArray, List.set_cons_zero, List.set_cons_succ]
        refine hd_take (v := ?_) 3 rfl (by kernel_rfl) (fun _ _ d _ _ h => (by cases d <;> exact h)) (by kernel_rfl) S3 (fun w' hS => ?_) ?_
        rotate_left
        focus (have q0 := StA.ra w' hS; have q1 := StA.re w' hS; clear hS; go_simp; try rfl; done)
        simp only [List.getElem_toArray, List.getElem_cons_succ, List.getElem_cons_zero, Act.put, List.setIfInBounds_toArray, List.set_cons_zero, List.set_cons_succ]
        refine hd_take (v := ?_) 4 rfl (by kernel_rfl) (fun _ _ d _ _ h => (by cases d <;> exact h)) (by kernel_rfl) S3 (fun w' hS => ?_) ?_
        rotate_left
        focus (have q0 := StA.ra w' hS; have q1 := StA.re w' hS; clear hS; go_simp; try rfl; done)
        simp only [List.getElem_toArray, List.getElem_cons_succ, List.getElem_cons_zero, Act.put, List.setIfInBounds_toArray, List.set_cons_zero, List.set_cons_succ]
        refine hd_take (v := ?_) 6 rfl (by kernel_rfl) (fun _ _ d _ _ h => (by cases d <;> exact h)) (by kernel_rfl) S3 (fun w' hS => ?_) ?_
        rotate_left
        focus (have q0 := StA.ra w' hS; have q1 := StA.re w' hS; clear hS; go_simp; try rfl; done)
        simp only [List.getElem_toArray, List.getElem_cons_succ, List.getElem_cons_zero, Act.put, List.setIfInBounds_toArray, List.set_cons_zero, List.set_cons_succ]
        refine hd_take (v := ?_) 7 rfl (by kernel_rfl) (fun _ _ d _ _ h => (by cases d <;> exact h)) (by kernel_rfl) S3 (fun w' hS => ?_) ?_
        rotate_left
        focus (have q0 := StA.ra w' hS; have q1 := StA.re w' hS; clear hS; go_simp; try rfl; done)
        simp only [List.getElem_toArray, List.getElem_cons_succ, List.getElem_cons_zero, Act.put, List.setIfInBounds_toArray, List.set_cons_zero, List.set_cons_succ]
        refine hd_take (v := ?_) 8 rfl (by kernel_rfl) (fun _ _ d _ _ h => (by cases d <;> exact h)) (by kernel_rfl) S3 (fun w' hS => ?_) ?_
        rotate_left
        focus (have q0 := StA.ra w' hS; have q1 := StA.re w' hS; clear hS; go_simp; try rfl; done)
        simp only [List.getElem_toArray, List.getElem_cons_succ, List.getElem_cons_zero, Act.put, List.setIfInBounds_toArray, List.set_cons_zero, List.set_cons_succ]
        refine hd_take (v := ?_) 9 rfl (by kernel_rfl) (fun _ _ d _ _ h => (by cases d <;> exact h)) (by kernel_rfl) S3 (fun w' hS => ?_) ?_
        rotate_left
        focus (have q0 := StA.ra w' hS; have q1 := StA.re w' hS; clear hS; go_simp; try rfl; done)
        simp only [List.getElem_toArray, List.getElem_cons_succ, List.getElem_cons_zero, Act.put, List.setIfInBounds_toArray, List.set_cons_zero, List.set_cons_succ]
        refine hd_one 5 (by kernel_rfl) ?_
        refine op_call rfl (by kernel_rfl) (by go_simp; first | exact ⟨rfl, rfl⟩ | rfl) ?_
        refine (runsP_env' H3.out (d + 1) (HP.out.more _).lp (by omega)).mono ?_
        rintro e w4 ⟨x, he, h5⟩
        subst he
        have hS2 : StA b G p q on cl k s n w4 := StA.of h5 ((HP.out.more _).more _).blk (g := obs.length) (by rw [List.getElem?_append_left (by simp)]; exact HAT.out _ rfl)
        obtain ⟨xo, xc, hx, _, _, _⟩ := header (h5.runs (v := x) (l := rs) (obs ++ [obA G on cl k s n]).length ((atE _ _ 0).trans rfl))
        subst hx
        have H4 := Lib.hid h5
        clear h5 H3
        refine ⟨_, rfl, hS2, ?_⟩
        simp only [List.getElem_toArray, List.getElem_cons_succ, List.getElem_cons_zero, Act.put, List.setIfInBounds_toArray, List.set_cons_zero, List.set_cons_succ]
        refine hd_one 10 (by kernel_rfl) ?_
        refine op_call rfl (by kernel_rfl) (by go_simp; first | exact ⟨rfl, rfl⟩ | rfl) ?_
        refine (runsR_env' H4.out (d + 2) ((HP.out.more _).more _).lr (by omega)).mono ?_
        rintro e w5 ⟨y, he, h5⟩
        subst he
        rw [List.append_assoc] at h5
        have hS2 : StA b G p q on cl k s n w5 := StA.of h5 ((HP.out.more _).more _).blk (g := obs.length) (by rw [List.getElem?_append_left (by simp)]; exact HAT.out _ rfl)
        obtain ⟨yo, yc, hy, _, _, _⟩ := header (h5.runs (v := y) (l := rs) ((obs ++ [obA G on cl k s n]).length + 1) ((atE _ _ 1).trans rfl))
        subst hy
        have H5 := Lib.hid h5
        clear h5 H4
        refine ⟨_, rfl, hS2, ?_⟩
        simp only [List.getElem_toArray, List.getElem_cons_succ, List.getElem_cons_zero, Act.put, List.setIfInBounds_toArray, List.set_cons_zero, List.set_cons_succ]
        refine hd_one 11 (by kernel_rfl) ?_
        refine op_call rfl (by kernel_rfl) (by go_simp; first | exact ⟨rfl, rfl⟩ | rfl) ?_
        refine (keep_env H5.out d b (HP.out.more _) (by have := HPS.out.tl; omega) (by have := HPS.out.tl; have := HPS.out.wl; omega)).mono ?_
        rintro e w6 ⟨he, o1, u1, v1, h5, hp1, ht1⟩
        subst he
        have hS2 : StA b G p q on cl k s n w6 := StA.of h5 hp1.blk (g := obs.length) (by rw [ht1.2 _ (by omega)]; exact HAT.out _ rfl)
        have S6 := hS2
        have H6 := Lib.hid h5
        have HP6 := Lib.hid hp1
        have HT6 := Lib.hid ht1
        clear h5 hp1 ht1
        refine ⟨_, rfl, hS2, ?_⟩
        simp only [List.getElem_toArray, List.getElem_cons_succ, List.getElem_cons_zero, Act.put, List.setIfInBounds_toArray, List.set_cons_zero, List.set_cons_succ]
        refine hd_take (v := ?_) 12 rfl (by kernel_rfl) (fun _ _ d _ _ h => (by cases d <;> exact h)) (by kernel_rfl) S6 (fun w' hS => ?_) ?_
        rotate_left
        focus (clear hS; go_simp; try rfl; done)
        simp only [List.getElem_toArray, List.getElem_cons_succ, List.getElem_cons_zero, Act.put, List.setIfInBounds_toArray, List.set_cons_zero, List.set_cons_succ]
        refine hd_done (by kernel_rfl) ?_
        clear S3 S6
        go_wp2
        go_ret
        obtain ⟨o, q1, q2, q3⟩ := cutA H6.out HP6.out HT6.out (by omega)
        exact ⟨rfl, o, _, _, _, _, _, q1, q2, q3, HPS.out.told _ _ rs (Nat.le_refl _) hi⟩
        --]c2
      · have t2 : (cl == (2 : Int)) = false := by rw [beq_eq_false_iff_ne]; exact c2
        clear c2
        by_cases c3 : cl = 3
        · have t3 : (cl == (3 : Int)) = true := by rw [c3]; rfl
          clear c3
          have hsl := sinceL_len rs n
          --[c3
          go_upto_region 13 with fail
          clear t0 t1 t2 t3
          refine hd_start (StA b G p q on cl k s n) (by kernel_rfl) ?_
          intro w3 hw'
          have H3 := Lib.hid (H1.out.draw 1)
          rw [← hw'] at H3
          clear hw' H1
          have S3 : StA b G p q on cl k s n w3 := StA.of H3.out (HP.out.more _).blk (HAT.out obs rfl)
          refine hd_take (v := ?_) 0 rfl (by kernel_rfl) (fun _ _ d _ _ h => (by cases d <;> exact h)) (by kernel_rfl) S3 (fun w' hS => ?_) ?_
          rotate_left
          focus (have q0 := StA.ra w' hS; have q1 := StA.re w' hS; clear hS; go_simp; try rfl; done)
          simp only [List.getElem_toArray, List.getElem_cons_succ, List.getElem_cons_zero, Act.put, List.setIfInBounds_toArray, List.set_cons_zero, List.set_cons_succ]
          refine hd_take (v := ?_) 1 rfl (by kernel_rfl) (fun _ _ d _ _ h => (by cases d <;> exact h)) (by kernel_rfl) S3 (fun w' hS => ?_) ?_
          rotate_left
          focus (have q0 := StA.ra w' hS; have q1 := StA.re w' hS; clear hS; go_simp; try rfl; done)
          simp only [List.getElem_toArray, List.getElem_cons_succ, List.getElem_cons_zero, Act.put, List.setIfInBounds_toArray, List.set_cons_zero, List.set_cons_succ]
          refine hd_take (v := ?_) 2 rfl (by kernel_rfl) (fun _ _ d _ _ h => (by cases d <;> exact h)) (by kernel_rfl) S3 (fun w' hS => ?_) ?_
          rotate_left
          focus (have q0 := StA.ra w' hS; have q1 := StA.re w' hS; clear hS; go_simp; try rfl; done)
          simp only [List.getElem_toArray, List.getElem_cons_succ, List.getElem_cons_zero, Act.put, List.setIfInBounds_toArray, List.set_cons_zero, List.set_cons_succ]
          refine hd_take (v := ?_) 3 rfl (by kernel_rfl) (fun _ _ d _ _ h => (by cases d <;> exact h)) (by kernel_rfl) S3 (fun w' hS => ?_) ?_
          rotate_left
          focus (have q0 := StA.ra w' hS; have q1 := StA.re w' hS; clear hS; go_simp; try rfl; done)
          simp only [List.getElem_toArray, List.getElem_cons_succ, List.getElem_cons_zero, Act.put, List.setIfInBounds_toArray, List.set_cons_zero, List.set_cons_succ]
          refine hd_take (v := ?_) 4 rfl (by kernel_rfl) (fun _ _ d _ _ h => (by cases d <;> exact h)) (by kernel_rfl) S3 (fun w' hS => ?_) ?_
          rotate_left
          focus (have q0 := StA.ra w' hS; have q1 := StA.re w' hS; clear hS; go_simp; try rfl; done)
          simp only [List.getElem_toArray, List.getElem_cons_succ, List.getElem_cons_zero, Act.put, List.setIfInBounds_toArray, List.set_cons_zero, List.set_cons_succ]
          refine hd_take (v := ?_) 5 rfl (by kernel_rfl) (fun _ _ d _ _ h => (by cases d <;> exact h)) (by kernel_rfl) S3 (fun w' hS => ?_) ?_
          rotate_left
          focus (have q0 := StA.ra w' hS; have q1 := StA.re w' hS; clear hS; go_simp; try rfl; done)
          simp only [List.getElem_toArray, List.getElem_cons_succ, List.getElem_cons_zero, Act.put, List.setIfInBounds_toArray, List.set_cons_zero, List.set_cons_succ]
          refine hd_take (v := ?_) 6 rfl (by kernel_rfl) (fun _ _ d _ _ h => (by cases d <;> exact h)) (by kernel_rfl) S3 (fun w' hS => ?_) ?_
          rotate_left
          focus (have q0 := StA.ra w' hS; have q1 := StA.re w' hS; clear hS; go_simp; try rfl; done)
          simp only [List.getElem_toArray, List.getElem_cons_succ, List.getElem_cons_zero, Act.put, List.setIfInBounds_toArray, List.set_cons_zero, List.set_cons_succ]
          refine hd_take (v := ?_) 8 rfl (by kernel_rfl) (fun _ _ d _ _ h => (by cases d <;> exact h)) (by kernel_rfl) S3 (fun w' hS => ?_) ?_
          rotate_left
          focus (have q0 := StA.ra w' hS; have q1 := StA.re w' hS; clear hS; go_simp; try rfl; done)
          simp only [List.getElem_toArray, List.getElem_cons_succ, List.getElem_cons_zero, Act.put, List.setIfInBounds_toArray, List.set_cons_zero, List.set_cons_succ]
          refine hd_take (v := ?_) 9 rfl (by kernel_rfl) (fun _ _ d _ _ h => (by cases d <;> exact h)) (by kernel_rfl) S3 (fun w' hS => ?_) ?_
          rotate_left
          focus (have q0 := StA.ra w' hS; have q1 := StA.re w' hS; clear hS; go_simp; try rfl; done)
          simp only [List.getElem_toArray, List.getElem_cons_succ, List.getElem_cons_zero, Act.put, List.setIfInBounds_toArray, List.set_cons_zero, List.set_cons_succ]
          refine hd_take (v := ?_) 10 rfl (by kernel_rfl) (fun _ _ d _ _ h => (by cases d <;> exact h)) (by kernel_rfl) S3 (fun w' hS => ?_) ?_
          rotate_left
          focus (have q0 := StA.ra w' hS; have q1 := StA.re w' hS; clear hS; go_simp; try rfl; done)
          simp only [List.getElem_toArray, List.getElem_cons_succ, List.getElem_cons_zero, Act.put, List.setIfInBounds_toArray, List.set_cons_zero, List.set_cons_succ]
          refine hd_take (v := ?_) 11 rfl (by kernel_rfl) (fun _ _ d _ _ h => (by cases d <;> exact h)) (by kernel_rfl) S3 (fun w' hS => ?_) ?_
          rotate_left
          focus (have q0 := StA.ra w' hS; have q1 := StA.re w' hS; clear hS; go_simp; try rfl; done)
          simp only [List.getElem_toArray, List.getElem_cons_succ, List.getElem_cons_zero, Act.put, List.setIfInBounds_toArray, List.set_cons_zero, List.set_cons_succ]
          refine hd_take (v := ?_) 12 rfl (by kernel_rfl) (fun _ _ d _ _ h => (by cases d <;> exact h)) (by kernel_rfl) S3 (fun w' hS => ?_) ?_
          rotate_left
          focus (have q0 := StA.ra w' hS; have q1 := StA.re w' hS; clear hS; go_simp; try rfl; done)
          simp only [List.getElem_toArray, List.getElem_cons_succ, List.getElem_cons_zero, Act.put, List.setIfInBounds_toArray, List.set_cons_zero, List.set_cons_succ]
          refine hd_take (v := ?_) 13 rfl (by kernel_rfl) (fun _ _ d _ _ h => (by cases d <;> exact h)) (by kernel_rfl) S3 (fun w' hS => ?_) ?_
          rotate_left
          focus (have q0 := StA.ra w' hS; have q1 := StA.re w' hS; clear hS; go_simp; try rfl; done)
          simp only [List.getElem_toArray, List.getElem_cons_succ, List.getElem_cons_zero, Act.put, List.setIfInBounds_toArray, List.set_cons_zero, List.set_cons_succ]
          refine hd_one 7 (by kernel_rfl) ?_
          refine op_call rfl (by kernel_rfl) (by go_simp; first | exact ⟨rfl, rfl⟩ | rfl) ?_
          refine (sinceP_env H3.out (d + 1) (HP.out.more _).lp n (by omega) (by have := hT.out; omega) hn.1 hn.2).mono ?_
          rintro e w4 ⟨x, he, h5⟩
          subst he
          have hS2 : StA b G p q on cl k s n w4 := StA.of h5 ((HP.out.more _).more _).blk (g := obs.length) (by rw [List.getElem?_append_left (by simp)]; exact HAT.out _ rfl)
          obtain ⟨xo, xc, hx, _, _, _⟩ := header (h5.runs (v := x) (l := sinceL rs n) (obs ++ [obA G on cl k s n]).length ((atE _ _ 0).trans rfl))
          subst hx
          have H4 := Lib.hid h5
          clear h5 H3
          refine ⟨_, rfl, hS2, ?_⟩
          simp only [List.getElem_toArray, List.getElem_cons_succ, List.getElem_cons_zero, Act.put, List.setIfInBounds_toArray, List.set_cons_zero, List.set_cons_succ]
          refine hd_one 14 (by kernel_rfl) ?_
          refine op_call rfl (by kernel_rfl) (by go_simp; first | exact ⟨rfl, rfl⟩ | rfl) ?_
          refine (sinceR_env H4.out (d + 2) ((HP.out.more _).more _).lr n (by omega) (by have := hT.out; omega) hn.1 hn.2).mono ?_
          rintro e w5 ⟨y, he, h5⟩
          subst he
          rw [List.append_assoc] at h5
          have hS2 : StA b G p q on cl k s n w5 := StA.of h5 ((HP.out.more _).more _).blk (g := obs.length) (by rw [List.getElem?_append_left (by simp)]; exact HAT.out _ rfl)
          obtain ⟨yo, yc, hy, _, _, _⟩ := header (h5.runs (v := y) (l := sinceL rs n) ((obs ++ [obA G on cl k s n]).length + 1) ((atE _ _ 1).trans rfl))
          subst hy
          have H5 := Lib.hid h5
          clear h5 H4
          refine ⟨_, rfl, hS2, ?_⟩
          simp only [List.getElem_toArray, List.getElem_cons_succ, List.getElem_cons_zero, Act.put, List.setIfInBounds_toArray, List.set_cons_zero, List.set_cons_succ]
          refine hd_one 15 (by kernel_rfl) ?_
          refine op_call rfl (by kernel_rfl) (by go_simp; first | exact ⟨rfl, rfl⟩ | rfl) ?_
          refine (keep_env H5.out d b (HP.out.more _) (by have := HPS.out.tl; omega) (by have := HPS.out.tl; have := HPS.out.wl; omega)).mono ?_
          rintro e w6 ⟨he, o1, u1, v1, h5, hp1, ht1⟩
          subst he
          have hS2 : StA b G p q on cl k s n w6 := StA.of h5 hp1.blk (g := obs.length) (by rw [ht1.2 _ (by omega)]; exact HAT.out _ rfl)
          have S6 := hS2
          have H6 := Lib.hid h5
          have HP6 := Lib.hid hp1
          have HT6 := Lib.hid ht1
          clear h5 hp1 ht1
          refine ⟨_, rfl, hS2, ?_⟩
          simp only [List.getElem_toArray, List.getElem_cons_succ, List.getElem_cons_zero, Act.put, List.setIfInBounds_toArray, List.set_cons_zero, List.set_cons_succ]
          refine hd_take (v := ?_) 16 rfl (by kernel_rfl) (fun _ _ d _ _ h => (by cases d <;> exact h)) (by kernel_rfl) S6 (fun w' hS => ?_) ?_
          rotate_left
          focus (clear hS; go_simp; try rfl; done)
          simp only [List.getElem_toArray, List.getElem_cons_succ, List.getElem_cons_zero, Act.put, List.setIfInBounds_toArray, List.set_cons_zero, List.set_cons_succ]
          refine hd_done (by kernel_rfl) ?_
          clear S3 S6
          go_wp2
          go_ret
          obtain ⟨o, q1, q2, q3⟩ := cutA H6.out HP6.out HT6.out (by omega)
          exact ⟨rfl, o, _, _, _, _, _, q1, q2, q3, HPS.out.told _ _ (sinceL rs n) hsl hi⟩
          --]c3
        · have t3 : (cl == (3 : Int)) = false := by rw [beq_eq_false_iff_ne]; exact c3
          clear c3
          by_cases c4 : cl = 4
          · have t4 : (cl == (4 : Int)) = true := by rw [c4]; rfl
            clear c4
            --[c4
            go_upto_region 15 with fail
            clear t0 t1 t2 t3 t4
            refine hd_start (StA b G p q on cl k s n) (by kernel_rfl) ?_
            intro w3 hw'
            have H3 := Lib.hid (H1.out.draw 1)
            rw [← hw'] at H3
            clear hw' H1
            have S3 : StA b G p q on cl k s n w3 := StA.of H3.out (HP.out.more _).blk (HAT.out obs rfl)
            obtain ⟨C, hC⟩ : ∃ C, cnt rs k = C := ⟨_, rfl⟩
            have tC : (C == C) = true := beq_self_eq_true _
            refine hd_take (v := ?_) 0 rfl (by kernel_rfl) (fun _ _ d _ _ h => (by cases d <;> exact h)) (by kernel_rfl) S3 (fun w' hS => ?_) ?_
            rotate_left
            focus (have q0 := StA.ra w' hS; have q1 := StA.re w' hS; clear hS; go_simp; try rfl; done)
            simp only [List.getElem_toArray, List.getElem_cons_succ, List.getElem_cons_zero, Act.put, List.setIfInBounds_toArray, List.set_cons_zero, List.set_cons_succ]
            refine hd_take (v := ?_) 1 rfl (by kernel_rfl) (fun _ _ d _ _ h => (by cases d <;> exact h)) (by kernel_rfl) S3 (fun w' hS => ?_) ?_
            rotate_left
            focus (have q0 := StA.ra w' hS; have q1 := StA.re w' hS; clear hS; go_simp; try rfl; done)
            simp only [List.getElem_toArray, List.getElem_cons_succ, List.getElem_cons_zero, Act.put, List.setIfInBounds_toArray, List.set_cons_zero, List.set_cons_succ]
            refine hd_take (v := ?_) 2 rfl (by kernel_rfl) (fun _ _ d _ _ h => (by cases d <;> exact h)) (by kernel_rfl) S3 (fun w' hS => ?_) ?_
            rotate_left
            focus (have q0 := StA.ra w' hS; have q1 := StA.re w' hS; clear hS; go_simp; try rfl; done)
            simp only [List.getElem_toArray, List.getElem_cons_succ, List.getElem_cons_zero, Act.put, List.setIfInBounds_toArray, List.set_cons_zero, List.set_cons_succ]
            refine hd_take (v := ?_) 3 rfl (by kernel_rfl) (fun _ _ d _ _ h => (by cases d <;> exact h)) (by kernel_rfl) S3 (fun w' hS => ?_) ?_
            rotate_left
            focus (have q0 := StA.ra w' hS; have q1 := StA.re w' hS; clear hS; go_simp; try rfl; done)
            simp only [List.getElem_toArray, List.getElem_cons_succ, List.getElem_cons_zero, Act.put, List.setIfInBounds_toArray, List.set_cons_zero, List.set_cons_succ]
            refine hd_take (v := ?_) 4 rfl (by kernel_rfl) (fun _ _ d _ _ h => (by cases d <;> exact h)) (by kernel_rfl) S3 (fun w' hS => ?_) ?_
            rotate_left
            focus (have q0 := StA.ra w' hS; have q1 := StA.re w' hS; clear hS; go_simp; try rfl; done)
            simp only [List.getElem_toArray, List.getElem_cons_succ, List.getElem_cons_zero, Act.put, List.setIfInBounds_toArray, List.set_cons_zero, List.set_cons_succ]
            refine hd_take (v := ?_) 5 rfl (by kernel_rfl) (fun _ _ d _ _ h => (by cases d <;> exact h)) (by kernel_rfl) S3 (fun w' hS => ?_) ?_
            rotate_left
            focus (have q0 := StA.ra w' hS; have q1 := StA.re w' hS; clear hS; go_simp; try rfl; done)
            simp only [List.getElem_toArray, List.getElem_cons_succ, List.getElem_cons_zero, Act.put, List.setIfInBounds_toArray, List.set_cons_zero, List.set_cons_succ]
            refine hd_take (v := ?_) 6 rfl (by kernel_rfl) (fun _ _ d _ _ h => (by cases d <;> exact h)) (by kernel_rfl) S3 (fun w' hS => ?_) ?_
            rotate_left
            focus (have q0 := StA.ra w' hS; have q1 := StA.re w' hS; clear hS; go_simp; try rfl; done)
            simp only [List.getElem_toArray, List.getElem_cons_succ, List.getElem_cons_zero, Act.put, List.setIfInBounds_toArray, List.set_cons_zero, List.set_cons_succ]
            refine hd_take (v := ?_) 8 rfl (by kernel_rfl) (fun _ _ d _ _ h => (by cases d <;> exact h)) (by kernel_rfl) S3 (fun w' hS => ?_) ?_
            rotate_left
            focus (have q0 := StA.ra w' hS; have q1 := StA.re w' hS; clear hS; go_simp; try rfl; done)
            simp only [List.getElem_toArray, List.getElem_cons_succ, List.getElem_cons_zero, Act.put, List.setIfInBounds_toArray, List.set_cons_zero, List.set_cons_succ]
            refine hd_take (v := ?_) 9 rfl (by kernel_rfl) (fun _ _ d _ _ h => (by cases d <;> exact h)) (by kernel_rfl) S3 (fun w' hS => ?_) ?_
            rotate_left
            focus (have q0 := StA.ra w' hS; have q1 := StA.re w' hS; clear hS; go_simp; try rfl; done)
            simp only [List.getElem_toArray, List.getElem_cons_succ, List.getElem_cons_zero, Act.put, List.setIfInBounds_toArray, List.set_cons_zero, List.set_cons_succ]
            refine hd_take (v := ?_) 10 rfl (by kernel_rfl) (fun _ _ d _ _ h => (by cases d <;> exact h)) (by kernel_rfl) S3 (fun w' hS => ?_) ?_
            rotate_left
            focus (have q0 := StA.ra w' hS; have q1 := StA.re w' hS; clear hS; go_simp; try rfl; done)
            simp only [List.getElem_toArray, List.getElem_cons_succ, List.getElem_cons_zero, Act.put, List.setIfInBounds_toArray, List.set_cons_zero, List.set_cons_succ]
            refine hd_take (v := ?_) 11 rfl (by kernel_rfl) (fun _ _ d _ _ h => (by cases d <;> exact h)) (by kernel_rfl) S3 (fun w' hS => ?_) ?_
            rotate_left
            focus (have q0 := StA.ra w' hS; have q1 := StA.re w' hS; clear hS; go_simp; try rfl; done)
            simp only [List.getElem_toArray, List.getElem_cons_succ, List.getElem_cons_zero, Act.put, List.setIfInBounds_toArray, List.set_cons_zero, List.set_cons_succ]
            refine hd_take (v := ?_) 12 rfl (by kernel_rfl) (fun _ _ d _ _ h => (by cases d <;> exact h)) (by kernel_rfl) S3 (fun w' hS => ?_) ?_
            rotate_left
            focus (have q0 := StA.ra w' hS; have q1 := StA.re w' hS; clear hS; go_simp; try rfl; done)
            simp only [List.getElem_toArray, List.getElem_cons_succ, List.getElem_cons_zero, Act.put, List.setIfInBounds_toArray, List.set_cons_zero, List.set_cons_succ]
            refine hd_take (v := ?_) 13 rfl (by kernel_rfl) (fun _ _ d _ _ h => (by cases d <;> exact h)) (by kernel_rfl) S3 (fun w' hS => ?_) ?_
            rotate_left
            focus (have q0 := StA.ra w' hS; have q1 := StA.re w' hS; clear hS; go_simp; try rfl; done)
            simp only [List.getElem_toArray, List.getElem_cons_succ, List.getElem_cons_zero, Act.put, List.setIfInBounds_toArray, List.set_cons_zero, List.set_cons_succ]
            refine hd_take (v := ?_) 14 rfl (by kernel_rfl) (fun _ _ d _ _ h => (by cases d <;> exact h)) (by kernel_rfl) S3 (fun w' hS => ?_) ?_
            rotate_left
            focus (have q0 := StA.ra w' hS; have q1 := StA.re w' hS; clear hS; go_simp; try rfl; done)
            simp only [List.getElem_toArray, List.getElem_cons_succ, List.getElem_cons_zero, Act.put, List.setIfInBounds_toArray, List.set_cons_zero, List.set_cons_succ]
            refine hd_one 7 (by kernel_rfl) ?_
            refine op_call rfl (by kernel_rfl) (by go_simp; first | exact ⟨rfl, rfl⟩ | rfl) ?_
            refine (countP_env H3.out (d + 1) (HP.out.more _).lp k (by omega) (by have := hT.out; omega)).mono ?_
            rintro e w4 ⟨he, h5, _⟩
            rw [hC] at he
            subst he
            have H4 := Lib.hid h5
            clear h5
            have hS2 : StA b G p q on cl k s n w4 := StA.of H4.out (HP.out.more _).blk (HAT.out obs rfl)
            refine ⟨_, rfl, hS2, ?_⟩
            simp only [List.getElem_toArray, List.getElem_cons_succ, List.getElem_cons_zero, Act.put, List.setIfInBounds_toArray, List.set_cons_zero, List.set_cons_succ]
            refine hd_one 15 (by kernel_rfl) ?_
            refine op_call rfl (by kernel_rfl) (by go_simp; first | exact ⟨rfl, rfl⟩ | rfl) ?_
            refine (countR_env H4.out (d + 2) (HP.out.more _).lr k (by omega) (by have := hT.out; omega)).mono ?_
            rintro e w5 ⟨he, hw⟩
            rw [hC] at he
            subst he
            subst hw
            have S4 := hS2
            refine ⟨_, rfl, hS2, ?_⟩
            simp only [List.getElem_toArray, List.getElem_cons_succ, List.getElem_cons_zero, Act.put, List.setIfInBounds_toArray, List.set_cons_zero, List.set_cons_succ]
            refine hd_take (v := ?_) 16 rfl (by kernel_rfl) (fun _ _ d _ _ h => (by cases d <;> exact h)) (by kernel_rfl) S4 (fun w' hS => ?_) ?_
            rotate_left
            focus (clear hS; go_simp; try rfl; done)
            simp only [List.getElem_toArray, List.getElem_cons_succ, List.getElem_cons_zero, Act.put, List.setIfInBounds_toArray, List.set_cons_zero, List.set_cons_succ]
            refine hd_take (v := ?_) 17 rfl (by kernel_rfl) (fun _ _ d _ _ h => (by cases d <;> exact h)) (by kernel_rfl) S4 (fun w' hS => ?_) ?_
            rotate_left
            focus (clear hS; go_simp; try rfl; done)
            simp only [List.getElem_toArray, List.getElem_cons_succ, List.getElem_cons_zero, Act.put, List.setIfInBounds_toArray, List.set_cons_zero, List.set_cons_succ]
            refine hd_done (by kernel_rfl) ?_
            clear S3 S4
            go_wp2
            go_ret
            exact ⟨rfl, obs, _, _, _, _, _, H4.out.left02, HP.out, Turned.refl _ _, HPS.out.up⟩
            --]c4
          · have t4 : (cl == (4 : Int)) = false := by rw [beq_eq_false_iff_ne]; exact c4
            clear c4
            by_cases c5 : cl = 5
            · have t5 : (cl == (5 : Int)) = true := by rw [c5]; rfl
              clear c5
              obtain ⟨st, hst, hst2⟩ : ∃ st : Nat, n % 50 = (st : Int) ∧ st < 50 := ⟨(n % 50).toNat, by omega, by omega⟩
              --[c5
              go_upto_region 17 with fail
              clear t0 t1 t2 t3 t4 t5
              refine hd_start (StA b G p q on cl k s n) (by kernel_rfl) ?_
              intro w3 hw'
              have H3 := Lib.hid (H1.out.draw 1)
              rw [← hw'] at H3
              clear hw' H1
              have S3 : StA b G p q on cl k s n w3 := StA.of H3.out (HP.out.more _).blk (HAT.out obs rfl)
              refine hd_take (v := ?_) 0 rfl (by kernel_rfl) (fun _ _ d _ _ h => (by cases d <;> exact h)) (by kernel_rfl) S3 (fun w' hS => ?_) ?_
              rotate_left
              focus (have q0 := StA.ra w' hS; have q1 := StA.re w' hS; clear hS; go_simp; try rfl; done)
              simp only [List.getElem_toArray, List.getElem_cons_succ, List.getElem_cons_zero, Act.put, List.setIfInBounds_toArray, List.set_cons_zero, List.set_cons_succ]
              refine hd_take (v := ?_) 1 rfl (by kernel_rfl) (fun _ _ d _ _ h => (by cases d <;> exact h)) (by kernel_rfl) S3 (fun w' hS => ?_) ?_
              rotate_left
              focus (have q0 := StA.ra w' hS; have q1 := StA.re w' hS; clear hS; go_simp; try rfl; done)
              simp only [List.getElem_toArray, List.getElem_cons_succ, List.getElem_cons_zero, Act.put, List.setIfInBounds_toArray, List.set_cons_zero, List.set_cons_succ]
              refine hd_take (v := ?_) 2 rfl (by kernel_rfl) (fun _ _ d _ _ h => (by cases d <;> exact h)) (by kernel_rfl) S3 (fun w' hS => ?_) ?_
              rotate_left
              focus (have q0 := StA.ra w' hS; have q1 := StA.re w' hS; clear hS; go_simp; try rfl; done)
              simp only [List.getElem_toArray, List.getElem_cons_succ, List.getElem_cons_zero, Act.put, List.setIfInBounds_toArray, List.set_cons_zero, List.set_cons_succ]
              refine hd_take (v := ?_) 3 rfl (by kernel_rfl) (fun _ _ d _ _ h => (by cases d <;> exact h)) (by kernel_rfl) S3 (fun w' hS => ?_) ?_
              rotate_left
              focus (have q0 := StA.ra w' hS; have q1 := StA.re w' hS; clear hS; go_simp; try rfl; done)
              simp only [List.getElem_toArray, List.getElem_cons_succ, List.getElem_cons_zero, Act.put, List.setIfInBounds_toArray, List.set_cons_zero, List.set_cons_succ]
              refine hd_take (v := ?_) 4 rfl (by kernel_rfl) (fun _ _ d _ _ h => (by cases d <;> exact h)) (by kernel_rfl) S3 (fun w' hS => ?_) ?_
              rotate_left
              focus (have q0 := StA.ra w' hS; have q1 := StA.re w' hS; clear hS; go_simp; try rfl; done)
              simp only [List.getElem_toArray, List.getElem_cons_succ, List.getElem_cons_zero, Act.put, List.setIfInBounds_toArray, List.set_cons_zero, List.set_cons_succ]
              refine hd_take (v := ?_) 5 rfl (by kernel_rfl) (fun _ _ d _ _ h => (by cases d <;> exact h)) (by kernel_rfl) S3 (fun w' hS => ?_) ?_
              rotate_left
              focus (have q0 := StA.ra w' hS; have q1 := StA.re w' hS; clear hS; go_simp; try rfl; done)
              simp only [List.getElem_toArray, List.getElem_cons_succ, List.getElem_cons_zero, Act.put, List.setIfInBounds_toArray, List.set_cons_zero, List.set_cons_succ]
              refine hd_take (v := ?_) 6 rfl (by kernel_rfl) (fun _ _ d _ _ h => (by cases d <;> exact h)) (by kernel_rfl) S3 (fun w' hS => ?_) ?_
              rotate_left
              focus (have q0 := StA.ra w' hS; have q1 := StA.re w' hS; clear hS; go_simp; try rfl; done)
              simp only [List.getElem_toArray, List.getElem_cons_succ, List.getElem_cons_zero, Act.put, List.setIfInBounds_toArray, List.set_cons_zero, List.set_cons_succ]
              refine hd_take (v := ?_) 7 rfl (by kernel_rfl) (fun _ _ d _ _ h => (by cases d <;> exact h)) (by kernel_rfl) S3 (fun w' hS => ?_) ?_
              rotate_left
              focus (have q0 := StA.ra w' hS; have q1 := StA.re w' hS; clear hS; go_simp; try rfl; done)
              simp only [List.getElem_toArray, List.getElem_cons_succ, List.getElem_cons_zero, Act.put, List.setIfInBounds_toArray, List.set_cons_zero, List.set_cons_succ]
              refine hd_take (v := ?_) 8 rfl (by kernel_rfl) (fun _ _ d _ _ h => (by cases d <;> exact h)) (by kernel_rfl) S3 (fun w' hS => ?_) ?_
              rotate_left
              focus (have q0 := StA.ra w' hS; have q1 := StA.re w' hS; clear hS; go_simp; try rfl; done)
              simp only [List.getElem_toArray, List.getElem_cons_succ, List.getElem_cons_zero, Act.put, List.setIfInBounds_toArray, List.set_cons_zero, List.set_cons_succ]
              refine hd_take (v := ?_) 9 rfl (by kernel_rfl) (fun _ _ d _ _ h => (by cases d <;> exact h)) (by kernel_rfl) S3 (fun w' hS => ?_) ?_
              rotate_left
              focus (have q0 := StA.ra w' hS; have q1 := StA.re w' hS; clear hS; go_simp; try rfl; done)
              simp only [List.getElem_toArray, List.getElem_cons_succ, List.getElem_cons_zero, Act.put, List.setIfInBounds_toArray, List.set_cons_zero, List.set_cons_succ]
              refine hd_one 10 (by kernel_rfl) ?_
              refine op_call rfl (by kernel_rfl) (by go_simp; first | exact ⟨rfl, rfl⟩ | rfl) ?_
              refine (pick_any n 50 w3 (by omega) (by omega)).mono ?_
              rintro e w4 ⟨he, hw⟩
              rw [hst] at he
              subst he
              subst hw
              have hS2 := S3
              refine ⟨_, rfl, hS2, ?_⟩
              simp only [List.getElem_toArray, List.getElem_cons_succ, List.getElem_cons_zero, Act.put, List.setIfInBounds_toArray, List.set_cons_zero, List.set_cons_succ]
              refine hd_one 11 (by kernel_rfl) ?_
              refine op_call rfl (by kernel_rfl) (by go_simp; first | exact ⟨rfl, rfl⟩ | rfl) ?_
              refine (walk_env H3.out (d + 1) (d + 2) (by omega) (HP.out.more _).lp (HP.out.more _).lr (by omega) HPS.out.posi (by have := hT.out; omega) st hst2).mono ?_
              rintro e w6 ⟨he, h5⟩
              subst he
              rw [List.set_append_left _ _ (by omega), List.set_append_left _ _ (by simp; omega), show noteO (some rs) 77 (st : Int) 1 = some (noteL rs 77 (st : Int) 1) from rfl] at h5
              have hS2 : StA b G p q on cl k s n w6 := StA.of h5 ((List.getElem?_append_left (by simp; omega)).trans (HP.out.both (noteL rs 77 st 1)).blk) (HAT.out _ (by simp))
              have S6 := hS2
              have H6 := Lib.hid h5
              clear h5 H3
              refine ⟨_, rfl, hS2, ?_⟩
              simp only [List.getElem_toArray, List.getElem_cons_succ, List.getElem_cons_zero, Act.put, List.setIfInBounds_toArray, List.set_cons_zero, List.set_cons_succ]
              refine hd_take (v := ?_) 12 rfl (by kernel_rfl) (fun _ _ d _ _ h => (by cases d <;> exact h)) (by kernel_rfl) S6 (fun w' hS => ?_) ?_
              rotate_left
              focus (clear hS; go_simp; try rfl; done)
              simp only [List.getElem_toArray, List.getElem_cons_succ, List.getElem_cons_zero, Act.put, List.setIfInBounds_toArray, List.set_cons_zero, List.set_cons_succ]
              refine hd_done (by kernel_rfl) ?_
              clear S3 S6
              go_wp2
              go_ret
              exact ⟨rfl, _, _, _, _, _, _, H6.out.left02, HP.out.both (noteL rs 77 st 1), Turned.both _ _ _ _, HPS.out.note 77 st 1 (by omega) (.inl rfl)⟩
              --]c5
            · have t5 : (cl == (5 : Int)) = false := by rw [beq_eq_false_iff_ne]; exact c5
              clear c5
              by_cases c6 : cl = 6
              · have t6 : (cl == (6 : Int)) = true := by rw [c6]; rfl
                clear c6
                --[c6
                obtain ⟨a0, a1⟩ := (StA.of H1.out (HP.out.more _).blk (HAT.out obs rfl)).a
                go_wp2_with fail
                clear t0 t1 t2 t3 t4 t5 t6 a0 a1
                refine (resetN_env H1.out (d + 1) (HP.out.more _).lp).mono ?_
                rintro e w4 ⟨rfl, h5⟩
                rw [List.set_append_left _ _ (by omega)] at h5
                obtain ⟨a0, a1⟩ := (StA.of h5 (HP.out.mid _ _).1 (HAT.out _ (by simp))).a
                have H4 := Lib.hid h5
                clear h5 H1
                go_wp2_with fail
                refine (resetR_env H4.out (d + 2) (HP.out.mid _ _).2).mono ?_
                rintro e w6 ⟨rfl, h5⟩
                rw [List.set_append_left _ _ (by simp; omega)] at h5
                have H6 := Lib.hid h5
                clear h5 H4 a0 a1
                go_wp2
                go_ret
                exact ⟨rfl, _, _, _, _, _, _, H6.out.left02, HP.out.both [], Turned.both _ _ _ _, HPS.out.reset⟩
                --]c6
              · have t6 : (cl == (6 : Int)) = false := by rw [beq_eq_false_iff_ne]; exact c6
                clear c6
                --[c7
                go_upto_region 22 with fail
                clear t0 t1 t2 t3 t4 t5 t6
                refine hd_start (StA b G p q on cl k s n) (by kernel_rfl) ?_
                intro w3 hw'
                have H3 := Lib.hid (H1.out.draw 1)
                rw [← hw'] at H3
                clear hw' H1
                have S3 : StA b G p q on cl k s n w3 := StA.of H3.out (HP.out.more _).blk (HAT.out obs rfl)
                obtain ⟨C, hC⟩ : ∃ C, tot rs = C := ⟨_, rfl⟩
                have tC : (C == C) = true := beq_self_eq_true _
                refine hd_take (v := ?_) 0 rfl (by kernel_rfl) (fun _ _ d _ _ h => (by cases d <;> exact h)) (by kernel_rfl) S3 (fun w' hS => ?_) ?_
                rotate_left
                focus (have q0 := StA.ra w' hS; have q1 := StA.re w' hS; clear hS; go_simp; try rfl; done)
                simp only [List.getElem_toArray, List.getElem_cons_succ, List.getElem_cons_zero, Act.put, List.setIfInBounds_toArray, List.set_cons_zero, List.set_cons_succ]
                refine hd_take (v := ?_) 1 rfl (by kernel_rfl) (fun _ _ d _ _ h => (by cases d <;> exact h)) (by kernel_rfl) S3 (fun w' hS => ?_) ?_
                rotate_left
                focus (have q0 := StA.ra w' hS; have q1 := StA.re w' hS; clear hS; go_simp; try rfl; done)
                simp only [List.getElem_toArray, List.getElem_cons_succ, List.getElem_cons_zero, Act.put, List.setIfInBounds_toArray, List.set_cons_zero, List.set_cons_succ]
                refine hd_take (v := ?_) 2 rfl (by kernel_rfl) (fun _ _ d _ _ h => (by cases d <;> exact h)) (by kernel_rfl) S3 (fun w' hS => ?_) ?_
                rotate_left
                focus (have q0 := StA.ra w' hS; have q1 := StA.re w' hS; clear hS; go_simp; try rfl; done)
                simp only [List.getElem_toArray, List.getElem_cons_succ, List.getElem_cons_zero, Act.put, List.setIfInBounds_toArray, List.set_cons_zero, List.set_cons_succ]
                refine hd_take (v := ?_) 3 rfl (by kernel_rfl) (fun _ _ d _ _ h => (by cases d <;> exact h)) (by kernel_rfl) S3 (fun w' hS => ?_) ?_
                rotate_left
                focus (have q0 := StA.ra w' hS; have q1 := StA.re w' hS; clear hS; go_simp; try rfl; done)
                simp only [List.getElem_toArray, List.getElem_cons_succ, List.getElem_cons_zero, Act.put, List.setIfInBounds_toArray, List.set_cons_zero, List.set_cons_succ]
                refine hd_take (v := ?_) 5 rfl (by kernel_rfl) (fun _ _ d _ _ h => (by cases d <;> exact h)) (by kernel_rfl) S3 (fun w' hS => ?_) ?_
                rotate_left
                focus (have q0 := StA.ra w' hS; have q1 := StA.re w' hS; clear hS; go_simp; try rfl; done)
                simp only [List.getElem_toArray, List.getElem_cons_succ, List.getElem_cons_zero, Act.put, List.setIfInBounds_toArray, List.set_cons_zero, List.set_cons_succ]
                refine hd_take (v := ?_) 6 rfl (by kernel_rfl) (fun _ _ d _ _ h => (by cases d <;> exact h)) (by kernel_rfl) S3 (fun w' hS => ?_) ?_
                rotate_left
                focus (have q0 := StA.ra w' hS; have q1 := StA.re w' hS; clear hS; go_simp; try rfl; done)
                simp only [List.getElem_toArray, List.getElem_cons_succ, List.getElem_cons_zero, Act.put, List.setIfInBounds_toArray, List.set_cons_zero, List.set_cons_succ]
                refine hd_take (v := ?_) 7 rfl (by kernel_rfl) (fun _ _ d _ _ h => (by cases d <;> exact h)) (by kernel_rfl) S3 (fun w' hS => ?_) ?_
                rotate_left
                focus (have q0 := StA.ra w' hS; have q1 := StA.re w' hS; clear hS; go_simp; try rfl; done)
                simp only [List.getElem_toArray, List.getElem_cons_succ, List.getElem_cons_zero, Act.put, List.setIfInBounds_toArray, List.set_cons_zero, List.set_cons_succ]
                refine hd_take (v := ?_) 8 rfl (by kernel_rfl) (fun _ _ d _ _ h => (by cases d <;> exact h)) (by kernel_rfl) S3 (fun w' hS => ?_) ?_
                rotate_left
                focus (have q0 := StA.ra w' hS; have q1 := StA.re w' hS; clear hS; go_simp; try rfl; done)
                simp only [List.getElem_toArray, List.getElem_cons_succ, List.getElem_cons_zero, Act.put, List.setIfInBounds_toArray, List.set_cons_zero, List.set_cons_succ]
                refine hd_one 4 (by kernel_rfl) ?_
                refine op_call rfl (by kernel_rfl) (by go_simp; first | exact ⟨rfl, rfl⟩ | rfl) ?_
                refine (lenP_env' H3.out (d + 1) (HP.out.more _).lp).mono ?_
                rintro e w4 ⟨he, hw⟩
                rw [hC] at he
                subst he
                subst hw
                have hS2 := S3
                refine ⟨_, rfl, hS2, ?_⟩
                simp only [List.getElem_toArray, List.getElem_cons_succ, List.getElem_cons_zero, Act.put, List.setIfInBounds_toArray, List.set_cons_zero, List.set_cons_succ]
                refine hd_one 9 (by kernel_rfl) ?_
                refine op_call rfl (by kernel_rfl) (by go_simp; first | exact ⟨rfl, rfl⟩ | rfl) ?_
                refine (lenR_env H3.out (d + 2) (HP.out.more _).lr (by omega) (by have := hT.out; omega)).mono ?_
                rintro e w5 ⟨he, hw⟩
                rw [hC] at he
                subst he
                subst hw
                have hS2 := S3
                refine ⟨_, rfl, hS2, ?_⟩
                simp only [List.getElem_toArray, List.getElem_cons_succ, List.getElem_cons_zero, Act.put, List.setIfInBounds_toArray, List.set_cons_zero, List.set_cons_succ]
                refine hd_take (v := ?_) 10 rfl (by kernel_rfl) (fun _ _ d _ _ h => (by cases d <;> exact h)) (by kernel_rfl) S3 (fun w' hS => ?_) ?_
                rotate_left
                focus (have q0 := StA.ra w' hS; have q1 := StA.re w' hS; clear hS; go_simp; try rfl; done)
                simp only [List.getElem_toArray, List.getElem_cons_succ, List.getElem_cons_zero, Act.put, List.setIfInBounds_toArray, List.set_cons_zero, List.set_cons_succ]
                refine hd_take (v := ?_) 11 rfl (by kernel_rfl) (fun _ _ d _ _ h => (by cases d <;> exact h)) (by kernel_rfl) S3 (fun w' hS => ?_) ?_
                rotate_left
                focus (have q0 := StA.ra w' hS; have q1 := StA.re w' hS; clear hS; go_simp; try rfl; done)
                simp only [List.getElem_toArray, List.getElem_cons_succ, List.getElem_cons_zero, Act.put, List.setIfInBounds_toArray, List.set_cons_zero, List.set_cons_succ]
                refine hd_take (v := ?_) 12 rfl (by kernel_rfl) (fun _ _ d _ _ h => (by cases d <;> exact h)) (by kernel_rfl) S3 (fun w' hS => ?_) ?_
                rotate_left
                focus (have q0 := StA.ra w' hS; have q1 := StA.re w' hS; clear hS; go_simp; try rfl; done)
                simp only [List.getElem_toArray, List.getElem_cons_succ, List.getElem_cons_zero, Act.put, List.setIfInBounds_toArray, List.set_cons_zero, List.set_cons_succ]
                refine hd_take (v := ?_) 13 rfl (by kernel_rfl) (fun _ _ d _ _ h => (by cases d <;> exact h)) (by kernel_rfl) S3 (fun w' hS => ?_) ?_
                rotate_left
                focus (have q0 := StA.ra w' hS; have q1 := StA.re w' hS; clear hS; go_simp; try rfl; done)
                simp only [List.getElem_toArray, List.getElem_cons_succ, List.getElem_cons_zero, Act.put, List.setIfInBounds_toArray, List.set_cons_zero, List.set_cons_succ]
                refine hd_take (v := ?_) 14 rfl (by kernel_rfl) (fun _ _ d _ _ h => (by cases d <;> exact h)) (by kernel_rfl) S3 (fun w' hS => ?_) ?_
                rotate_left
                focus (have q0 := StA.ra w' hS; have q1 := StA.re w' hS; clear hS; go_simp; try rfl; done)
                simp only [List.getElem_toArray, List.getElem_cons_succ, List.getElem_cons_zero, Act.put, List.setIfInBounds_toArray, List.set_cons_zero, List.set_cons_succ]
                refine hd_take (v := ?_) 15 rfl (by kernel_rfl) (fun _ _ d _ _ h => (by cases d <;> exact h)) (by kernel_rfl) S3 (fun w' hS => ?_) ?_
                rotate_left
                focus (have q0 := StA.ra w' hS; have q1 := StA.re w' hS; clear hS; go_simp; try rfl; done)
                simp only [List.getElem_toArray, List.getElem_cons_succ, List.getElem_cons_zero, Act.put, List.setIfInBounds_toArray, List.set_cons_zero, List.set_cons_succ]
                refine hd_take (v := ?_) 17 rfl (by kernel_rfl) (fun _ _ d _ _ h => (by cases d <;> exact h)) (by kernel_rfl) S3 (fun w' hS => ?_) ?_
                rotate_left
                focus (have q0 := StA.ra w' hS; have q1 := StA.re w' hS; clear hS; go_simp; try rfl; done)
                simp only [List.getElem_toArray, List.getElem_cons_succ, List.getElem_cons_zero, Act.put, List.setIfInBounds_toArray, List.set_cons_zero, List.set_cons_succ]
                refine hd_take (v := ?_) 18 rfl (by kernel_rfl) (fun _ _ d _ _ h => (by cases d <;> exact h)) (by kernel_rfl) S3 (fun w' hS => ?_) ?_
                rotate_left
                focus (have q0 := StA.ra w' hS; have q1 := StA.re w' hS; clear hS; go_simp; try rfl; done)
                simp only [List.getElem_toArray, List.getElem_cons_succ, List.getElem_cons_zero, Act.put, List.setIfInBounds_toArray, List.set_cons_zero, List.set_cons_succ]
                refine hd_take (v := ?_) 19 rfl (by kernel_rfl) (fun _ _ d _ _ h => (by cases d <;> exact h)) (by kernel_rfl) S3 (fun w' hS => ?_) ?_
                rotate_left
                focus (have q0 := StA.ra w' hS; have q1 := StA.re w' hS; clear hS; go_simp; try rfl; done)
                simp only [List.getElem_toArray, List.getElem_cons_succ, List.getElem_cons_zero, Act.put, List.setIfInBounds_toArray, List.set_cons_zero, List.set_cons_succ]
                refine hd_take (v := ?_) 20 rfl (by kernel_rfl) (fun _ _ d _ _ h => (by cases d <;> exact h)) (by kernel_rfl) S3 (fun w' hS => ?_) ?_
                rotate_left
                focus (have q0 := StA.ra w' hS; have q1 := StA.re w' hS; clear hS; go_simp; try rfl; done)
                simp only [List.getElem_toArray, List.getElem_cons_succ, List.getElem_cons_zero, Act.put, List.setIfInBounds_toArray, List.set_cons_zero, List.set_cons_succ]
                refine hd_one 16 (by kernel_rfl) ?_
                refine op_call rfl (by kernel_rfl) (by go_simp; first | exact ⟨rfl, rfl⟩ | rfl) ?_
                refine (markN_env H3.out (d + 1) (HP.out.more _).lp).mono ?_
                rintro e w4 ⟨he, hw⟩
                rw [hC] at he
                subst he
                subst hw
                have hS2 := S3
                refine ⟨_, rfl, hS2, ?_⟩
                simp only [List.getElem_toArray, List.getElem_cons_succ, List.getElem_cons_zero, Act.put, List.setIfInBounds_toArray, List.set_cons_zero, List.set_cons_succ]
                refine hd_one 21 (by kernel_rfl) ?_
                refine op_call rfl (by kernel_rfl) (by go_simp; first | exact ⟨rfl, rfl⟩ | rfl) ?_
                refine (markR_env H3.out (d + 2) (HP.out.more _).lr (by omega) (by have := hT.out; omega)).mono ?_
                rintro e w5 ⟨he, hw⟩
                rw [hC] at he
                subst he
                subst hw
                have hS2 := S3
                refine ⟨_, rfl, hS2, ?_⟩
                simp only [List.getElem_toArray, List.getElem_cons_succ, List.getElem_cons_zero, Act.put, List.setIfInBounds_toArray, List.set_cons_zero, List.set_cons_succ]
                refine hd_take (v := ?_) 22 rfl (by kernel_rfl) (fun _ _ d _ _ h => (by cases d <;> exact h)) (by kernel_rfl) S3 (fun w' hS => ?_) ?_
                rotate_left
                focus (clear hS; go_simp; try rfl; done)
                simp only [List.getElem_toArray, List.getElem_cons_succ, List.getElem_cons_zero, Act.put, List.setIfInBounds_toArray, List.set_cons_zero, List.set_cons_succ]
                refine hd_take (v := ?_) 23 rfl (by kernel_rfl) (fun _ _ d _ _ h => (by cases d <;> exact h)) (by kernel_rfl) S3 (fun w' hS => ?_) ?_
                rotate_left
                focus (clear hS; go_simp; try rfl; done)
                simp only [List.getElem_toArray, List.getElem_cons_succ, List.getElem_cons_zero, Act.put, List.setIfInBounds_toArray, List.set_cons_zero, List.set_cons_succ]
                refine hd_take (v := ?_) 24 rfl (by kernel_rfl) (fun _ _ d _ _ h => (by cases d <;> exact h)) (by kernel_rfl) S3 (fun w' hS => ?_) ?_
                rotate_left
                focus (clear hS; go_simp; try rfl; done)
                simp only [List.getElem_toArray, List.getElem_cons_succ, List.getElem_cons_zero, Act.put, List.setIfInBounds_toArray, List.set_cons_zero, List.set_cons_succ]
                refine hd_done (by kernel_rfl) ?_
                clear S3
                go_wp2
                go_ret
                exact ⟨rfl, obs, _, _, _, _, _, H3.out.left02, HP.out, Turned.refl _ _, HPS.out.up⟩
                --]c7
end Go.Proofs.Ytmdfmkdhfhbkjaa
