/- The walk of TraceWhole: no event is lost. Conditions: the form's own reach. -/
import Derived.Test.YtfielodchoghlaaRows
import Derived.Test.YtfielodchoghlaaWholeA
import Derived.Test.YtfielodchoghlaaHistS
import Derived.Test.YtfielodchoghlaaHeld
import Derived.Deep.Cut
namespace Go.Proofs.Ytfielodchoghlaa
open Go.RowKit
set_option maxRecDepth 100000
set_option linter.unusedVariables false
set_option linter.unusedSimpArgs false
theorem up_at {h : List Rn} (hu : h.Pairwise (fun x y => ltR x y = true)) {i j : Nat} {x y : Rn} (hi : h[i]? = some x) (hj : h[j]? = some y) (hij : i < j) : ltR x y = true := by
  obtain ⟨h1, rfl⟩ := List.getElem?_eq_some_iff.1 hi
  obtain ⟨h2, rfl⟩ := List.getElem?_eq_some_iff.1 hj
  exact List.pairwise_iff_getElem.1 hu i j h1 h2 hij
theorem whole_no (w : World) (v : Value) (rs : List Rn) (hv : KN.R w v rs) (hm : mayL rs = false) :
    Calls Try.prog 7 #[v] w fun e w' => e = .returned (.bool true) ∧ Below w.heap.size w w' := by
  have HV := Lib.hid hv
  have HM := Lib.hid hm
  clear hv hm
  go_enter Try.func7, Try.ntmps7
  go_wp2_with fail
  refine (awake27_any w).mono ?_
  rintro e w1 ⟨rfl, hb⟩
  have h5 := (Env.start w).below hb
  clear hb
  have H1 := Lib.hid h5
  clear h5
  go_wp2_with fail
  refine (hist_no _ rs w1 (H1.out.oldK HV.out) HM.out).mono ?_
  rintro e w2 ⟨rfl, hb⟩
  have h5 := H1.out.below hb
  clear hb
  have H2 := Lib.hid h5
  clear h5 H1
  go_wp2_with fail
  refine (may_any _ rs w2 (H2.out.oldK HV.out)).mono ?_
  rintro e w3 ⟨he, hb⟩
  rw [HM.out] at he
  subst he
  have h5 := H2.out.below hb
  clear hb
  have H3 := Lib.hid h5
  clear h5 H2
  have HX := Lib.hid H3.out.base
  clear H3
  go_wp2
  go_ret
  exact ⟨rfl, HX.out⟩
set_option maxHeartbeats 8000000 in
theorem whole_yes (w : World) (v : Value) (rs : List Rn) (hv : KN.R w v rs) (hm : mayL rs = true) (hok : ∀ r ∈ rs, okRn r) :
    Calls Try.prog 7 #[v] w fun e w' => e = .returned (.bool true) ∧ Below w.heap.size w w' := by
  obtain ⟨hlen, hcs⟩ := may_ok hm
  have HV := Lib.hid hv
  have HM := Lib.hid hm
  have HOK := Lib.hid hok
  have HCS := Lib.hid hcs
  have HL := Lib.hid (ledH _ rs rfl hcs)
  have HLen := Lib.hid hlen
  obtain ⟨ao, cap, rfl, _, _, _⟩ := hv.any
  clear hv hm hok hcs
  go_enter Try.func7, Try.ntmps7
  go_wp2_with fail
  refine (awake27_any w).mono ?_
  rintro e w1 ⟨rfl, hb⟩
  have h5 := (Env.start w).below hb
  clear hb
  have H1 := Lib.hid h5
  clear h5
  go_wp2_with fail
  refine (hist_any _ rs w1 (H1.out.oldK HV.out) HM.out HOK.out).mono ?_
  rintro e w2 ⟨h, hh, hn⟩
  have HH := Lib.hid hh
  obtain ⟨hv, rfl, h5⟩ := Knd.New.env H1.out hn
  clear hn hh
  have H2 := Lib.hid h5
  clear h5 H1
  go_wp2_with fail
  refine (may_any _ rs w2 (H2.out.oldK HV.out)).mono ?_
  rintro e w3 ⟨he, hb⟩
  rw [HM.out] at he
  subst he
  have h5 := H2.out.below hb
  clear hb
  have H3 := Lib.hid h5
  clear h5 H2
  have hhl := HH.out.len
  have hl20 : h.length ≤ 1048576 := by omega
  clear hhl
  obtain ⟨ho, hcap, hvv, _⟩ := (H3.out.kR 0 rfl).any
  subst hvv
  go_wp2_with fail
  refine (total_any _ h _ (H3.out.kR 0 rfl) hl20 (fun k => by have := hist_bdW HM.out HH.out k; omega)).mono ?_
  rintro e w' ⟨he, rfl⟩
  rw [HH.out.tot] at he
  have ht := (tot_bdW HM.out rs.length)
  rw [List.take_length] at ht
  obtain ⟨T, hT⟩ : ∃ T, tot rs = T := ⟨_, rfl⟩
  rw [hT] at he ht
  have HT := Lib.hid hT
  clear hT
  subst he
  go_wp2_with fail
  refine (total_any _ rs _ (H3.out.oldK HV.out) hlen (fun k => by have := tot_bdW HM.out k; omega)).mono ?_
  rintro e w' ⟨he, rfl⟩
  rw [HT.out] at he
  subst he
  go_wp2_with fail
  go_loopw [4] (fun vi wr => ∃ j : Nat, vi = .int .i64 ((j : Int) + 1) ∧ Hid (Env w wr [KN.ob (.slice ho h.length hcap) h])) (fun vi _ => h.length - (intOf vi).toNat)
  case atStart => exact ⟨0, rfl, H3⟩
  case round =>
    clear H3
    obtain ⟨j, rfl, HE⟩ := hrel
    by_cases hlt : j + 1 < h.length
    · --[a
      obtain ⟨⟨xk, xs, xc⟩, hx⟩ : ∃ x, h[j]? = some x := ⟨_, List.getElem?_eq_getElem (by omega)⟩
      obtain ⟨⟨yk, ys, yc⟩, hy⟩ : ∃ x, h[j + 1]? = some x := ⟨_, List.getElem?_eq_getElem (by omega)⟩
      obtain ⟨g, off, rfl, hglt, x1, x2, x3⟩ := runAt (HE.out.kR 0 rfl) (Below.refl _ _) hx
      obtain ⟨g', off', he, _, y1, y2, y3⟩ := runAt (HE.out.kR 0 rfl) (Below.refl _ _) hy
      injection he with he
      injection he with he1 he2
      subst he1
      subst he2
      have HUP := Lib.hid ((ltR_iff _ _).1 (up_at HH.out.up hx hy (by omega)))
      dsimp only at HUP
      have F1 : ∀ w', Below wr.heap.size wr w' → w'.cell? ⟨g, off + j * 3, none⟩ = some (.int .u8 xk) := fun w' hS => (hS.cell (p := ⟨g, off + j * 3, none⟩) hglt).trans x1
      have F2 : ∀ w', Below wr.heap.size wr w' → w'.cell? ⟨g, off + j * 3 + 1, none⟩ = some (.int .i64 xs) := fun w' hS => (hS.cell (p := ⟨g, off + j * 3 + 1, none⟩) hglt).trans x2
      have F3 : ∀ w', Below wr.heap.size wr w' → w'.cell? ⟨g, off + (j + 1) * 3, none⟩ = some (.int .u8 yk) := fun w' hS => (hS.cell (p := ⟨g, off + (j + 1) * 3, none⟩) hglt).trans y1
      have F4 : ∀ w', Below wr.heap.size wr w' → w'.cell? ⟨g, off + (j + 1) * 3 + 1, none⟩ = some (.int .i64 ys) := fun w' hS => (hS.cell (p := ⟨g, off + (j + 1) * 3 + 1, none⟩) hglt).trans y2
      have hlt2 : ((j : Int) + 1) < (h.length : Int) := by omega
      have hlt3 : (j : Int) < (h.length : Int) := by omega
      have hwj : IntKind.i64.wrap (j : Int) = j := IntWalk.i64_in _ (by omega)
      clear hx hy x1 x2 x3 y1 y2 y3 hglt
      go_upto_region 11 with fail
      refine hd_start (Below wr.heap.size wr) (by kernel_rfl) ?_
      intro w5 hw'
      have hS0 : Below wr.heap.size wr w5 := by rw [hw']; exact ⟨rfl, rfl, rfl, Nat.le_refl _, fun _ _ => rfl⟩
      have hz : wr.heap.size ≤ w5.heap.size := hS0.size
      clear hw'
      refine hd_take (v := ?_) 0 rfl (by kernel_rfl) (fun _ _ d _ _ h => (by cases d <;> exact h)) (by kernel_rfl) hS0 (fun w' hS => ?_) ?_
      rotate_left
      focus (have q0 := F1 w' hS; have q1 := F2 w' hS; have q2 := F3 w' hS; have q3 := F4 w' hS; clear hS; go_simp; try rfl; done)
      simp only [List.getElem_toArray, List.getElem_cons_succ, List.getElem_cons_zero, Act.put, List.setIfInBounds_toArray, List.set_cons_zero, List.set_cons_succ]
      refine hd_take (v := ?_) 1 rfl (by kernel_rfl) (fun _ _ d _ _ h => (by cases d <;> exact h)) (by kernel_rfl) hS0 (fun w' hS => ?_) ?_
      rotate_left
      focus (have q0 := F1 w' hS; have q1 := F2 w' hS; have q2 := F3 w' hS; have q3 := F4 w' hS; clear hS; go_simp; try rfl; done)
      simp only [List.getElem_toArray, List.getElem_cons_succ, List.getElem_cons_zero, Act.put, List.setIfInBounds_toArray, List.set_cons_zero, List.set_cons_succ]
      refine hd_take (v := ?_) 2 rfl (by kernel_rfl) (fun _ _ d _ _ h => (by cases d <;> exact h)) (by kernel_rfl) hS0 (fun w' hS => ?_) ?_
      rotate_left
      focus (have q0 := F1 w' hS; have q1 := F2 w' hS; have q2 := F3 w' hS; have q3 := F4 w' hS; clear hS; go_simp; try rfl; done)
      simp only [List.getElem_toArray, List.getElem_cons_succ, List.getElem_cons_zero, Act.put, List.setIfInBounds_toArray, List.set_cons_zero, List.set_cons_succ]
      refine hd_take (v := ?_) 3 rfl (by kernel_rfl) (fun _ _ d _ _ h => (by cases d <;> exact h)) (by kernel_rfl) hS0 (fun w' hS => ?_) ?_
      rotate_left
      focus (have q0 := F1 w' hS; have q1 := F2 w' hS; have q2 := F3 w' hS; have q3 := F4 w' hS; clear hS; go_simp; try rfl; done)
      simp only [List.getElem_toArray, List.getElem_cons_succ, List.getElem_cons_zero, Act.put, List.setIfInBounds_toArray, List.set_cons_zero, List.set_cons_succ]
      refine hd_take (v := ?_) 4 rfl (by kernel_rfl) (fun _ _ d _ _ h => (by cases d <;> exact h)) (by kernel_rfl) hS0 (fun w' hS => ?_) ?_
      rotate_left
      focus (have q0 := F1 w' hS; have q1 := F2 w' hS; have q2 := F3 w' hS; have q3 := F4 w' hS; clear hS; go_simp; try rfl; done)
      simp only [List.getElem_toArray, List.getElem_cons_succ, List.getElem_cons_zero, Act.put, List.setIfInBounds_toArray, List.set_cons_zero, List.set_cons_succ]
      refine hd_take (v := ?_) 5 rfl (by kernel_rfl) (fun _ _ d _ _ h => (by cases d <;> exact h)) (by kernel_rfl) hS0 (fun w' hS => ?_) ?_
      rotate_left
      focus (have q0 := F1 w' hS; have q1 := F2 w' hS; have q2 := F3 w' hS; have q3 := F4 w' hS; clear hS; go_simp; try rfl; done)
      simp only [List.getElem_toArray, List.getElem_cons_succ, List.getElem_cons_zero, Act.put, List.setIfInBounds_toArray, List.set_cons_zero, List.set_cons_succ]
      refine hd_take (v := ?_) 6 rfl (by kernel_rfl) (fun _ _ d _ _ h => (by cases d <;> exact h)) (by kernel_rfl) hS0 (fun w' hS => ?_) ?_
      rotate_left
      focus (have q0 := F1 w' hS; have q1 := F2 w' hS; have q2 := F3 w' hS; have q3 := F4 w' hS; clear hS; go_simp; try rfl; done)
      simp only [List.getElem_toArray, List.getElem_cons_succ, List.getElem_cons_zero, Act.put, List.setIfInBounds_toArray, List.set_cons_zero, List.set_cons_succ]
      refine hd_take (v := ?_) 7 rfl (by kernel_rfl) (fun _ _ d _ _ h => (by cases d <;> exact h)) (by kernel_rfl) hS0 (fun w' hS => ?_) ?_
      rotate_left
      focus (have q0 := F1 w' hS; have q1 := F2 w' hS; have q2 := F3 w' hS; have q3 := F4 w' hS; clear hS; go_simp; try rfl; done)
      simp only [List.getElem_toArray, List.getElem_cons_succ, List.getElem_cons_zero, Act.put, List.setIfInBounds_toArray, List.set_cons_zero, List.set_cons_succ]
      refine hd_take (v := ?_) 8 rfl (by kernel_rfl) (fun _ _ d _ _ h => (by cases d <;> exact h)) (by kernel_rfl) hS0 (fun w' hS => ?_) ?_
      rotate_left
      focus (have q0 := F1 w' hS; have q1 := F2 w' hS; have q2 := F3 w' hS; have q3 := F4 w' hS; clear hS; go_simp; try rfl; done)
      simp only [List.getElem_toArray, List.getElem_cons_succ, List.getElem_cons_zero, Act.put, List.setIfInBounds_toArray, List.set_cons_zero, List.set_cons_succ]
      refine hd_take (v := ?_) 9 rfl (by kernel_rfl) (fun _ _ d _ _ h => (by cases d <;> exact h)) (by kernel_rfl) hS0 (fun w' hS => ?_) ?_
      rotate_left
      focus (have q0 := F1 w' hS; have q1 := F2 w' hS; have q2 := F3 w' hS; have q3 := F4 w' hS; clear hS; go_simp; try rfl; done)
      simp only [List.getElem_toArray, List.getElem_cons_succ, List.getElem_cons_zero, Act.put, List.setIfInBounds_toArray, List.set_cons_zero, List.set_cons_succ]
      refine hd_take (v := ?_) 10 rfl (by kernel_rfl) (fun _ _ d _ _ h => (by cases d <;> exact h)) (by kernel_rfl) hS0 (fun w' hS => ?_) ?_
      rotate_left
      focus (have q0 := F1 w' hS; have q1 := F2 w' hS; have q2 := F3 w' hS; have q3 := F4 w' hS; clear hS; go_simp; try rfl; done)
      simp only [List.getElem_toArray, List.getElem_cons_succ, List.getElem_cons_zero, Act.put, List.setIfInBounds_toArray, List.set_cons_zero, List.set_cons_succ]
      clear F1 F2 F3 F4
      refine hd_two 11 12 (by kernel_rfl) ?_ ?_
      · skip
        refine op_run rfl (by kernel_rfl) (by go_simp; first | done | exact ⟨rfl, rfl⟩ | rfl) ?_
        refine ⟨hS0.alloc hz _, ?_⟩
        simp only [List.getElem_toArray, List.getElem_cons_succ, List.getElem_cons_zero, Act.put, List.setIfInBounds_toArray, List.set_cons_zero, List.set_cons_succ]
        have B5 : Blk (w5.alloc (.cells #[.int .u8 0, .int .i64 0] 49)) w5.heap.size 49 #[.int .u8 0, .int .i64 0] := Blk.new w5 _ _
        have hS1 := hS0.alloc hz (.cells #[.int .u8 0, .int .i64 0] 49)
        obtain ⟨w6, hw6⟩ : ∃ y, w5.alloc (.cells #[.int .u8 0, .int .i64 0] 49) = y := ⟨_, rfl⟩
        rw [hw6] at B5 hS1
        try rw [hw6]
        clear hw6
        have hz1 : wr.heap.size ≤ w6.heap.size := hS1.size
        refine hd_one 12 (by kernel_rfl) ?_
        refine op_run rfl (by kernel_rfl) (by go_simp; first | done | exact ⟨rfl, rfl⟩ | rfl) ?_
        refine ⟨hS1.alloc hz1 _, ?_⟩
        simp only [List.getElem_toArray, List.getElem_cons_succ, List.getElem_cons_zero, Act.put, List.setIfInBounds_toArray, List.set_cons_zero, List.set_cons_succ]
        have B6 : Blk (w6.alloc (.cells #[.int .u8 0, .int .i64 0] 49)) w6.heap.size 49 #[.int .u8 0, .int .i64 0] := Blk.new w6 _ _
        have hne : w5.heap.size ≠ w6.heap.size := by have := B5.lt; omega
        have B5 := B5.alloc (.cells #[.int .u8 0, .int .i64 0] 49)
        have hS2 := hS1.alloc hz1 (.cells #[.int .u8 0, .int .i64 0] 49)
        obtain ⟨w7, hw7⟩ : ∃ y, w6.alloc (.cells #[.int .u8 0, .int .i64 0] 49) = y := ⟨_, rfl⟩
        rw [hw7] at B5 B6 hS2
        try rw [hw7]
        clear hw7
        refine hd_one 13 (by kernel_rfl) ?_
        refine op_store_ev _ (.int .u8 xk) (.int .i64 xs) rfl (by kernel_rfl) rfl rfl B5 (by kernel_rfl) rfl ?_
        intro w8 C8 O8
        have hS3 : Below wr.heap.size wr w8 := hS2.trans (O8.below0 (fun x hx he => by omega) hS2.size)
        refine ⟨hS3, ?_⟩
        simp only [List.getElem_toArray, List.getElem_cons_succ, List.getElem_cons_zero, Act.put, List.setIfInBounds_toArray, List.set_cons_zero, List.set_cons_succ]
        refine hd_one 14 (by kernel_rfl) ?_
        refine op_store_ev _ (.int .u8 yk) (.int .i64 ys) rfl (by kernel_rfl) rfl rfl (B6.only O8 (by omega)) (by kernel_rfl) rfl ?_
        intro w9 C9 O9
        have hS4 : Below wr.heap.size wr w9 := hS3.trans (O9.below0 (fun x hx he => by omega) hS3.size)
        refine ⟨hS4, ?_⟩
        simp only [List.getElem_toArray, List.getElem_cons_succ, List.getElem_cons_zero, Act.put, List.setIfInBounds_toArray, List.set_cons_zero, List.set_cons_succ]
        have C8 := C8.only O9 (by omega)
        refine hd_done (by kernel_rfl) ?_
        have HE2 := Lib.hid (HE.out.below hS4)
        have a0 := C8.cellAt 0 rfl
        have a1 := C8.cellAt 1 rfl
        have b0 := C9.cellAt 0 rfl
        have b1 := C9.cellAt 1 rfl
        clear C8 C9 O8 O9 hS0 hS1 hS2 hS3 hS4 HE B5 B6
        rcases HUP.out with hk | ⟨hk, hs⟩
        · have t1 : decide (yk < xk) = false := by rw [decide_eq_false_iff_not]; omega
          have t2 : (xk == yk) = false := by rw [beq_eq_false_iff_ne]; omega
          clear hk
          go_wp2
          go_roundw
          case rel => exact ⟨j + 1, by simp, HE2⟩
          case measure => simp [intOf]; omega
        · have t1 : decide (yk < xk) = false := by rw [decide_eq_false_iff_not]; omega
          have t2 : (xk == yk) = true := by rw [beq_iff_eq]; exact hk
          have t3 : decide (ys ≤ xs) = false := by rw [decide_eq_false_iff_not]; omega
          clear hk hs
          go_wp2
          go_roundw
          case rel => exact ⟨j + 1, by simp, HE2⟩
          case measure => simp [intOf]; omega

      · skip
        refine op_run rfl (by kernel_rfl) (by go_simp; first | done | exact ⟨rfl, rfl⟩ | rfl) ?_
        refine ⟨hS0.alloc hz _, ?_⟩
        simp only [List.getElem_toArray, List.getElem_cons_succ, List.getElem_cons_zero, Act.put, List.setIfInBounds_toArray, List.set_cons_zero, List.set_cons_succ]
        have B5 : Blk (w5.alloc (.cells #[.int .u8 0, .int .i64 0] 49)) w5.heap.size 49 #[.int .u8 0, .int .i64 0] := Blk.new w5 _ _
        have hS1 := hS0.alloc hz (.cells #[.int .u8 0, .int .i64 0] 49)
        obtain ⟨w6, hw6⟩ : ∃ y, w5.alloc (.cells #[.int .u8 0, .int .i64 0] 49) = y := ⟨_, rfl⟩
        rw [hw6] at B5 hS1
        try rw [hw6]
        clear hw6
        have hz1 : wr.heap.size ≤ w6.heap.size := hS1.size
        refine hd_one 11 (by kernel_rfl) ?_
        refine op_run rfl (by kernel_rfl) (by go_simp; first | done | exact ⟨rfl, rfl⟩ | rfl) ?_
        refine ⟨hS1.alloc hz1 _, ?_⟩
        simp only [List.getElem_toArray, List.getElem_cons_succ, List.getElem_cons_zero, Act.put, List.setIfInBounds_toArray, List.set_cons_zero, List.set_cons_succ]
        have B6 : Blk (w6.alloc (.cells #[.int .u8 0, .int .i64 0] 49)) w6.heap.size 49 #[.int .u8 0, .int .i64 0] := Blk.new w6 _ _
        have hne : w5.heap.size ≠ w6.heap.size := by have := B5.lt; omega
        have B5 := B5.alloc (.cells #[.int .u8 0, .int .i64 0] 49)
        have hS2 := hS1.alloc hz1 (.cells #[.int .u8 0, .int .i64 0] 49)
        obtain ⟨w7, hw7⟩ : ∃ y, w6.alloc (.cells #[.int .u8 0, .int .i64 0] 49) = y := ⟨_, rfl⟩
        rw [hw7] at B5 B6 hS2
        try rw [hw7]
        clear hw7
        refine hd_one 13 (by kernel_rfl) ?_
        refine op_store_ev _ (.int .u8 xk) (.int .i64 xs) rfl (by kernel_rfl) rfl rfl B6 (by kernel_rfl) rfl ?_
        intro w8 C8 O8
        have hS3 : Below wr.heap.size wr w8 := hS2.trans (O8.below0 (fun x hx he => by omega) hS2.size)
        refine ⟨hS3, ?_⟩
        simp only [List.getElem_toArray, List.getElem_cons_succ, List.getElem_cons_zero, Act.put, List.setIfInBounds_toArray, List.set_cons_zero, List.set_cons_succ]
        refine hd_one 14 (by kernel_rfl) ?_
        refine op_store_ev _ (.int .u8 yk) (.int .i64 ys) rfl (by kernel_rfl) rfl rfl (B5.only O8 (by omega)) (by kernel_rfl) rfl ?_
        intro w9 C9 O9
        have hS4 : Below wr.heap.size wr w9 := hS3.trans (O9.below0 (fun x hx he => by omega) hS3.size)
        refine ⟨hS4, ?_⟩
        simp only [List.getElem_toArray, List.getElem_cons_succ, List.getElem_cons_zero, Act.put, List.setIfInBounds_toArray, List.set_cons_zero, List.set_cons_succ]
        have C8 := C8.only O9 (by omega)
        refine hd_done (by kernel_rfl) ?_
        have HE2 := Lib.hid (HE.out.below hS4)
        have a0 := C8.cellAt 0 rfl
        have a1 := C8.cellAt 1 rfl
        have b0 := C9.cellAt 0 rfl
        have b1 := C9.cellAt 1 rfl
        clear C8 C9 O8 O9 hS0 hS1 hS2 hS3 hS4 HE B5 B6
        rcases HUP.out with hk | ⟨hk, hs⟩
        · have t1 : decide (yk < xk) = false := by rw [decide_eq_false_iff_not]; omega
          have t2 : (xk == yk) = false := by rw [beq_eq_false_iff_ne]; omega
          clear hk
          go_wp2
          go_roundw
          case rel => exact ⟨j + 1, by simp, HE2⟩
          case measure => simp [intOf]; omega
        · have t1 : decide (yk < xk) = false := by rw [decide_eq_false_iff_not]; omega
          have t2 : (xk == yk) = true := by rw [beq_iff_eq]; exact hk
          have t3 : decide (ys ≤ xs) = false := by rw [decide_eq_false_iff_not]; omega
          clear hk hs
          go_wp2
          go_roundw
          case rel => exact ⟨j + 1, by simp, HE2⟩
          case measure => simp [intOf]; omega

      --]a
    · skip
      have t0 : decide ((j : Int) + 1 < (h.length : Int)) = false := by rw [decide_eq_false_iff_not]; omega
      clear hlt
      go_wp2_with fail
      refine (newP_env' HE.out).mono ?_
      rintro e w4 ⟨kp, rfl, h5⟩
      skip
      have H4 := Lib.hid h5
      clear h5 HE
      go_wp2_with fail
      clear t0
      go_loopw [8, 9, 10] (fun vn vo vi wr => ∃ (k : Nat) (n : Int) (o : Bool), vi = .int .i64 (k : Int) ∧ vn = .int .i64 n ∧ vo = .bool o ∧ k ≤ rs.length ∧ Hid (insTo rs (fun _ => true) k = (n, o)) ∧ Hid (Env w wr [KN.ob (.slice ho h.length hcap) h, obP kp (some (noteH (rs.take k)))])) (fun _ _ vi _ => rs.length - (intOf vi).toNat)
      case atStart => exact ⟨0, 0, false, rfl, rfl, rfl, Nat.zero_le _, Lib.hid rfl, by rw [List.take_zero]; exact H4⟩
      case round =>
        clear H4
        obtain ⟨k, n, o, rfl, rfl, rfl, hk, HI, HE⟩ := hrel
        by_cases hlt : k < rs.length
        · --[b
          obtain ⟨⟨rk, rsz, rc⟩, hx⟩ : ∃ x, rs[k]? = some x := ⟨_, List.getElem?_eq_getElem hlt⟩
          have HX := Lib.hid hx
          obtain ⟨g, off, rfl, hglt, d1, d2, d3⟩ := runAt HV.out HE.out.base hx
          obtain ⟨r1, r2⟩ := HCS.out _ (List.mem_of_getElem? hx)
          dsimp only at r1 r2
          have hb1 := ins_bd HCS.out (fun _ => true) k hk
          rw [HI.out] at hb1
          have hb2 := (tot_bdW HM.out k).2
          dsimp only at hb1
          have hn0 : 0 ≤ n ∧ n ≤ 4503599627370496 := by omega
          have LK := ledH _ (rs.take k) rfl (fun x hx => HCS.out x (List.mem_of_mem_take hx))
          have hroom : Hid (Room (some (noteH (rs.take k))) rc) := Lib.hid (Room.some (by rw [LK.tot]; omega) (by have := LK.len; rw [List.length_take] at this; omega))
          have hs := insTo_succ (fun _ => true) hx
          rw [HI.out] at hs
          have HS := Lib.hid hs
          have hwr : IntKind.i64.wrap (n + rc) = n + rc := IntWalk.i64_in _ (by omega)
          clear hx hb1 hb2 LK hs HI
          go_upto_region 20 with fail
          refine wp_region_tame (fun w' => w' = wr.drewN 1) 0 11 (by kernel_rfl) (by kernel_rfl) (fun _ _ d _ _ h => (by cases d <;> exact h)) rfl (by decide) ?_
          simp only [List.take_succ_cons, List.take_zero, List.drop_succ_cons, List.drop_zero]
          refine wpPre_nil ?_
          refine wpTame_run (v := ?_) (by decide) rfl (fun w' hS => ?_) ?_
          rotate_left
          focus (subst hS; go_simp; try rfl; done)
          simp only [Act.put, List.setIfInBounds_toArray, List.set_cons_zero, List.set_cons_succ]
          refine wpTame_run (v := ?_) (by decide) rfl (fun w' hS => ?_) ?_
          rotate_left
          focus (subst hS; go_simp; try rfl; done)
          simp only [Act.put, List.setIfInBounds_toArray, List.set_cons_zero, List.set_cons_succ]
          refine wpTame_run (v := ?_) (by decide) rfl (fun w' hS => ?_) ?_
          rotate_left
          focus (subst hS; go_simp; try rfl; done)
          simp only [Act.put, List.setIfInBounds_toArray, List.set_cons_zero, List.set_cons_succ]
          refine wpTame_run (v := ?_) (by decide) rfl (fun w' hS => ?_) ?_
          rotate_left
          focus (subst hS; go_simp; try rfl; done)
          simp only [Act.put, List.setIfInBounds_toArray, List.set_cons_zero, List.set_cons_succ]
          refine wpTame_run (v := ?_) (by decide) rfl (fun w' hS => ?_) ?_
          rotate_left
          focus (subst hS; go_simp; try rfl; done)
          simp only [Act.put, List.setIfInBounds_toArray, List.set_cons_zero, List.set_cons_succ]
          refine wpTame_run (v := ?_) (by decide) rfl (fun w' hS => ?_) ?_
          rotate_left
          focus (subst hS; go_simp; try rfl; done)
          simp only [Act.put, List.setIfInBounds_toArray, List.set_cons_zero, List.set_cons_succ]
          refine wpTame_run (v := ?_) (by decide) rfl (fun w' hS => ?_) ?_
          rotate_left
          focus (subst hS; go_simp; try rfl; done)
          simp only [Act.put, List.setIfInBounds_toArray, List.set_cons_zero, List.set_cons_succ]
          refine wpTame_run (v := ?_) (by decide) rfl (fun w' hS => ?_) ?_
          rotate_left
          focus (subst hS; go_simp; try rfl; done)
          simp only [Act.put, List.setIfInBounds_toArray, List.set_cons_zero, List.set_cons_succ]
          refine wpTame_run (v := ?_) (by decide) rfl (fun w' hS => ?_) ?_
          rotate_left
          focus (subst hS; go_simp; try rfl; done)
          simp only [Act.put, List.setIfInBounds_toArray, List.set_cons_zero, List.set_cons_succ]
          refine wpTame_run (v := ?_) (by decide) rfl (fun w' hS => ?_) ?_
          rotate_left
          focus (subst hS; go_simp; try rfl; done)
          simp only [Act.put, List.setIfInBounds_toArray, List.set_cons_zero, List.set_cons_succ]
          refine wpTame_run (v := ?_) (by decide) rfl (fun w' hS => ?_) ?_
          rotate_left
          focus (subst hS; go_simp; try rfl; done)
          simp only [Act.put, List.setIfInBounds_toArray, List.set_cons_zero, List.set_cons_succ]
          refine wpTame_nil ?_
          intro w5 hw'
          have HE1 := Lib.hid (HE.out.draw 1)
          rw [← hw'] at HE1
          clear hw' HE
          go_wp2_with fail
          refine (timesP_env HE1.out 1 rfl rk rsz rc hroom.out).mono ?_
          rintro e w6 ⟨rfl, h5⟩
          rw [noteTo_succ HX.out r1] at h5
          have HE2 := Lib.hid h5
          clear h5 HE1
          obtain ⟨g', off', he, _, e1, e2, e3⟩ := runAt HV.out HE2.out.base HX.out
          injection he with he
          injection he with he1 he2
          subst he1
          subst he2
          clear d1 d2 d3 hroom HX
          by_cases c1 : rk = 11
          · have u1 : (rk == 11) = true := by rw [beq_iff_eq]; exact c1
            have HI2 : Hid (insTo rs (fun _ => true) (k + 1) = (n, true)) := Lib.hid (by rw [HS.out]; unfold insS; rw [if_pos c1])
            clear c1
            clear HS
            go_wp2
            go_roundw
            case rel => exact ⟨k + 1, n, true, by go_num, rfl, rfl, by omega, HI2, HE2⟩
            case measure => simp [intOf]; omega
          · have u1 : (rk == 11) = false := by rw [beq_eq_false_iff_ne]; exact c1
            by_cases c2 : rk = 12
            · have u2 : (rk == 12) = true := by rw [beq_iff_eq]; exact c2
              have HI2 : Hid (insTo rs (fun _ => true) (k + 1) = (n, false)) := Lib.hid (by rw [HS.out]; unfold insS; rw [if_neg c1, if_pos c2])
              clear c1 c2
              clear HS
              go_wp2
              go_roundw
              case rel => exact ⟨k + 1, n, false, by go_num, rfl, rfl, by omega, HI2, HE2⟩
              case measure => simp [intOf]; omega
            · have u2 : (rk == 12) = false := by rw [beq_eq_false_iff_ne]; exact c2
              cases o with
              | true =>
                have HI2 : Hid (insTo rs (fun _ => true) (k + 1) = (n + rc, true)) := Lib.hid (by rw [HS.out]; unfold insS; rw [if_neg c1, if_neg c2, if_pos ⟨rfl, rfl⟩])
                clear c1 c2
                clear HS
                go_wp2
                go_roundw
                case rel => exact ⟨k + 1, n + rc, true, by go_num, rfl, rfl, by omega, HI2, HE2⟩
                case measure => simp [intOf]; omega
              | false =>
                have HI2 : Hid (insTo rs (fun _ => true) (k + 1) = (n, false)) := Lib.hid (by rw [HS.out]; unfold insS; rw [if_neg c1, if_neg c2, if_neg (by simp)])
                clear c1 c2
                clear HS
                go_wp2
                go_roundw
                case rel => exact ⟨k + 1, n, false, by go_num, rfl, rfl, by omega, HI2, HE2⟩
                case measure => simp [intOf]; omega
          --]b
        · obtain rfl : k = rs.length := by omega
          rw [List.take_length] at HE
          have hb1 := ins_bd HCS.out (fun _ => true) rs.length (Nat.le_refl _)
          rw [HI.out, List.take_length, HT.out] at hb1
          dsimp only at hb1
          have hins : insK rs (fun _ => true) = n := by unfold insK; rw [HI.out]
          have HINS := Lib.hid hins
          obtain ⟨K, hK⟩ : ∃ K, noteH rs = K := ⟨_, rfl⟩
          have hKl : K.length ≤ 1048576 := by rw [← hK]; have := HL.out.len; omega
          rw [hK] at HE
          have HK := Lib.hid hK
          clear hins hK HI
          go_wp2_with fail
          refine (runsP_envB HE.out 1 rfl (by omega)).mono ?_
          rintro e w7 hn
          obtain ⟨kv, rfl, h5⟩ := Knd.New.env HE.out hn
          clear hn
          have HE3 := Lib.hid h5
          clear h5 HE
          go_wp2_with fail
          refine (may_any _ K w7 (HE3.out.kR 2 rfl)).mono ?_
          rintro e w8 ⟨he, hb⟩
          obtain ⟨mk, hmk⟩ : ∃ b, mayL K = b := ⟨_, rfl⟩
          rw [hmk] at he
          subst he
          have h5 := HE3.out.below hb
          clear hb
          have HE4 := Lib.hid h5
          clear h5 HE3
          have HMK := Lib.hid hmk
          clear hmk
          cases mk with
          | false =>
            --[c
            have hov := led_over HM.out (by rw [HK.out]; exact HMK.out)
            rw [HT.out] at hov
            have u9 : decide (4294967296 < T) = true := decide_eq_true hov
            go_wp2_with fail
            refine (total_any _ rs _ (HE4.out.oldK HV.out) hlen (fun k => by have := tot_bdW HM.out k; omega)).mono ?_
            rintro e w' ⟨he, rfl⟩
            rw [HT.out] at he
            subst he
            have HX := Lib.hid HE4.out.base
            clear HE4 hov
            go_wp2
            go_ret
            exact ⟨rfl, HX.out⟩
            --]c
          | true =>
            have HE5 : Hid (Env w w8 [KN.ob (.slice ho h.length hcap) h, obP kp (some K)]) := Lib.hid (Env.pick HE4.out (fun j => j) (fun i j _ _ h => h) (fun j ob hj => by
              match j, hj with
              | 0, hj => exact hj
              | 1, hj => exact hj
              | j + 2, hj => simp at hj))
            clear HE4
            go_wp2_with fail
            go_loopw [11, 12] (fun vc vi wr => ∃ (i : Nat) (c : Int), vi = .int .i64 (i : Int) ∧ vc = .int .i64 c ∧ i ≤ h.length ∧ Hid (cntdK rs h i = c) ∧ Hid (Env w wr [KN.ob (.slice ho h.length hcap) h, obP kp (some K)])) (fun _ vi _ => h.length - (intOf vi).toNat)
            case atStart => exact ⟨0, 0, rfl, rfl, Nat.zero_le _, Lib.hid rfl, HE5⟩
            case round =>
              clear HE5
              obtain ⟨i, c, rfl, rfl, hi, HC, HE⟩ := hrel
              by_cases hlt : i < h.length
              · obtain ⟨⟨xk, xs, xc⟩, hx⟩ : ∃ x, h[i]? = some x := ⟨_, List.getElem?_eq_getElem hlt⟩
                have hbd := cntd_bd HM.out HH.out i
                have hbd2 := cntd_bd HM.out HH.out (i + 1)
                rw [HC.out, HT.out] at hbd
                rw [HT.out, cntdK, HC.out, hx] at hbd2
                dsimp only [Option.map_some] at hbd2
                have hcs := cntdK.eq_2 rs h i
                rw [HC.out, hx] at hcs
                dsimp only [Option.map_some] at hcs
                obtain ⟨bb, hbb⟩ : ∃ b, decide (0 < i ∧ some xk = (h[i - 1]?.map (·.k))) = b := ⟨_, rfl⟩
                have HBB := Lib.hid hbb
                have HCS2 := Lib.hid hcs
                have HBD2 := Lib.hid hbd2
                have HX := Lib.hid hx
                obtain ⟨g, off, rfl, hglt, x1, x2, x3⟩ := runAt (HE.out.kR 0 rfl) (Below.refl _ _) hx
                clear hcs hbd2 hbb hx x2 x3
                have hltI : (i : Int) < (h.length : Int) := by omega
                go_upto_region 33 with fail
                go_cut [144] from 127 to 145 (fun s wx => s = .bool bb ∧ Hid (Env w wx [KN.ob (.slice (some ⟨g, off, none⟩) h.length hcap) h, obP kp (some K)]))
                case first =>
                  rcases Nat.eq_zero_or_pos i with hi0 | hi0
                  · --[d
                    subst hi0
                    obtain rfl : bb = false := by rw [← HBB.out]; simp
                    go_quiet (fail)
                    go_wp2_with fail
                    go_meet
                    case rel => exact ⟨rfl, Lib.hid (HE.out.draw _)⟩
                    --]d
                  · --[e
                    obtain ⟨⟨yk, ys, yc⟩, hy⟩ : ∃ x, h[i - 1]? = some x := ⟨_, List.getElem?_eq_getElem (by omega)⟩
                    obtain ⟨g', off', he, _, y1, _, _⟩ := runAt (HE.out.kR 0 rfl) (Below.refl _ _) hy
                    injection he with he
                    injection he with he1 he2
                    subst he1
                    subst he2
                    have hbb := HBB.out
                    rw [hy] at hbb
                    have hwj : IntKind.i64.wrap ((i : Int) - 1) = (i : Int) - 1 := IntWalk.i64_in _ (by omega)
                    have hTN : ((i : Int) - 1).toNat = i - 1 := by omega
                    have hj1 : 0 ≤ (i : Int) - 1 := by omega
                    have hj2 : (i : Int) - 1 < (h.length : Int) := by omega
                    have hi0I : 0 < (i : Int) := by omega
                    by_cases hk : xk = yk
                    · obtain rfl : bb = true := by rw [← hbb]; simp [hi0, hk]
                      have u1 : (xk == yk) = true := by rw [beq_iff_eq]; exact hk
                      clear hy hbb hk
                      go_quiet (fail)
                      go_wp2_with fail
                      go_meet
                      case rel => exact ⟨rfl, Lib.hid (HE.out.draw _)⟩
                    · obtain rfl : bb = false := by rw [← hbb]; simp [hk]
                      have u1 : (xk == yk) = false := by rw [beq_eq_false_iff_ne]; exact hk
                      clear hy hbb hk
                      go_quiet (fail)
                      go_wp2_with fail
                      go_meet
                      case rel => exact ⟨rfl, Lib.hid (HE.out.draw _)⟩
                    --]e
                case rest =>
                  clear HE x1 hglt
                  obtain ⟨rfl, HE⟩ := hcut
                  cases bb with
                  | true =>
                    have HC2 : Hid (cntdK rs h (i + 1) = c) := Lib.hid (by rw [HCS2.out, if_pos (of_decide_eq_true HBB.out), Int.add_zero])
                    clear HC HCS2 HBD2 HBB
                    go_wp2
                    go_roundw
                    case rel => exact ⟨i + 1, c, by go_num, rfl, by omega, HC2, HE⟩
                    case measure => simp [intOf]; omega
                  | false =>
                    have hcs := HCS2.out
                    rw [if_neg (of_decide_eq_false HBB.out)] at hcs
                    have hbd2 := HBD2.out
                    rw [if_neg (of_decide_eq_false HBB.out)] at hbd2
                    have hsl := series_len HM.out xk
                    have hsn := series_nn HM.out xk
                    have hsH := series_H HM.out (by rw [HK.out]; exact HMK.out) xk
                    rw [HK.out] at hsH
                    obtain ⟨s, hs⟩ : ∃ s, seriesL rs xk = s := ⟨_, rfl⟩
                    rw [hs] at hcs hbd2 hsl hsn hsH
                    have HC2 := Lib.hid hcs
                    have HSN := Lib.hid hsn
                    have HSH := Lib.hid hsH
                    have HS := Lib.hid hs
                    obtain ⟨g', off', he, hglt, x1, _, _⟩ := runAt (HE.out.kR 0 rfl) (Below.refl _ _) HX.out
                    injection he with he
                    injection he with he1 he2
                    subst he1
                    subst he2
                    clear HC HCS2 HBD2 HBB hcs hs hsn hsH
                    go_wp2_with fail
                    refine (series_any _ rs xk wc (HE.out.oldK HV.out)).mono ?_
                    rintro e w9 hn
                    rw [HS.out] at hn
                    obtain ⟨sv, rfl, h5⟩ := Knd.New.env HE.out hn
                    clear hn
                    have HE3 := Lib.hid h5
                    clear h5 HE
                    obtain ⟨so, scap, hsv⟩ := (HE3.out.kO 2 rfl).any
                    subst hsv
                    obtain ⟨g', off', he, hglt2, x4, _, _⟩ := runAt (HE3.out.kR 0 rfl) (Below.refl _ _) HX.out
                    injection he with he
                    injection he with he1 he2
                    subst he1
                    subst he2
                    clear x1 hglt
                    go_wp2_with fail
                    go_loop [11, 14] (fun vc vj => ∃ (j : Nat) (c2 : Int), vj = .int .i64 (j : Int) ∧ vc = .int .i64 c2 ∧ j ≤ s.length ∧ Hid (c + (s.take j).sum = c2)) (fun _ vj => s.length - (intOf vj).toNat)
                    case atStart => exact ⟨0, c, rfl, rfl, Nat.zero_le _, Lib.hid (by simp)⟩
                    case round =>
                      obtain ⟨j, c2, rfl, rfl, hj, HJ⟩ := hrel
                      by_cases hjl : j < s.length
                      · --[f
                        obtain ⟨z, hz⟩ : ∃ x, s[j]? = some x := ⟨_, List.getElem?_eq_getElem hjl⟩
                        obtain ⟨zg, zoff, rfl, _, d1⟩ := (HE3.out.kR 2 rfl).get hz
                        have d2 : w9.cell? ⟨zg, zoff + j, none⟩ = some (.int .i64 z) := by have h := d1 0 _ rfl; simpa [KI] using h
                        have hsj := sum_take_le HSN.out j
                        have hsj1 := sum_take_le HSN.out (j + 1)
                        have hst : (s.take (j + 1)).sum = (s.take j).sum + z := by rw [List.take_add_one, hz]; simp
                        have hcc := HJ.out
                        have HJ2 : Hid (c + (s.take (j + 1)).sum = c2 + z) := Lib.hid (by rw [hst, ← hcc]; omega)
                        have hwr : IntKind.i64.wrap (c2 + z) = c2 + z := IntWalk.i64_in _ (by omega)
                        clear hz d1 hsj hsj1 hst hcc HJ
                        go_wp2
                        go_round
                        case rel => exact ⟨j + 1, c2 + z, by go_num, rfl, by omega, HJ2⟩
                        case measure => simp [intOf]; omega
                        --]f
                      · obtain rfl : j = s.length := by omega
                        have HC3 : Hid (cntdK rs h (i + 1) = c2) := Lib.hid (by rw [HC2.out, ← HJ.out, List.take_length])
                        clear HC2 HJ
                        --[g
                        go_upto_region 39 with fail
                        have F1 : ∀ w', Below w9.heap.size w9 w' → w'.cell? ⟨g, off + i * 3, none⟩ = some (.int .u8 xk) := fun w' hS => (hS.cell (p := ⟨g, off + i * 3, none⟩) hglt2).trans x4
                        refine hd_start (Below w9.heap.size w9) (by kernel_rfl) ?_
                        intro w5 hw'
                        have hS0 : Below w9.heap.size w9 w5 := by rw [hw']; exact ⟨rfl, rfl, rfl, Nat.le_refl _, fun _ _ => rfl⟩
                        have HE5 := Lib.hid (HE3.out.draw 1)
                        rw [← hw'] at HE5
                        clear hw' HE3 x4
                        refine hd_take (v := ?_) 0 rfl (by kernel_rfl) (fun _ _ d _ _ h => (by cases d <;> exact h)) (by kernel_rfl) hS0 (fun w' hS => ?_) ?_
                        rotate_left
                        focus (have q0 := F1 w' hS; clear hS; go_simp; try rfl; done)
                        simp only [List.getElem_toArray, List.getElem_cons_succ, List.getElem_cons_zero, Act.put, List.setIfInBounds_toArray, List.set_cons_zero, List.set_cons_succ]
                        refine hd_take (v := ?_) 2 rfl (by kernel_rfl) (fun _ _ d _ _ h => (by cases d <;> exact h)) (by kernel_rfl) hS0 (fun w' hS => ?_) ?_
                        rotate_left
                        focus (have q0 := F1 w' hS; clear hS; go_simp; try rfl; done)
                        simp only [List.getElem_toArray, List.getElem_cons_succ, List.getElem_cons_zero, Act.put, List.setIfInBounds_toArray, List.set_cons_zero, List.set_cons_succ]
                        refine hd_take (v := ?_) 3 rfl (by kernel_rfl) (fun _ _ d _ _ h => (by cases d <;> exact h)) (by kernel_rfl) hS0 (fun w' hS => ?_) ?_
                        rotate_left
                        focus (have q0 := F1 w' hS; clear hS; go_simp; try rfl; done)
                        simp only [List.getElem_toArray, List.getElem_cons_succ, List.getElem_cons_zero, Act.put, List.setIfInBounds_toArray, List.set_cons_zero, List.set_cons_succ]
                        refine hd_take (v := ?_) 4 rfl (by kernel_rfl) (fun _ _ d _ _ h => (by cases d <;> exact h)) (by kernel_rfl) hS0 (fun w' hS => ?_) ?_
                        rotate_left
                        focus (have q0 := F1 w' hS; clear hS; go_simp; try rfl; done)
                        simp only [List.getElem_toArray, List.getElem_cons_succ, List.getElem_cons_zero, Act.put, List.setIfInBounds_toArray, List.set_cons_zero, List.set_cons_succ]
                        refine hd_take (v := ?_) 5 rfl (by kernel_rfl) (fun _ _ d _ _ h => (by cases d <;> exact h)) (by kernel_rfl) hS0 (fun w' hS => ?_) ?_
                        rotate_left
                        focus (have q0 := F1 w' hS; clear hS; go_simp; try rfl; done)
                        simp only [List.getElem_toArray, List.getElem_cons_succ, List.getElem_cons_zero, Act.put, List.setIfInBounds_toArray, List.set_cons_zero, List.set_cons_succ]
                        refine hd_take (v := ?_) 6 rfl (by kernel_rfl) (fun _ _ d _ _ h => (by cases d <;> exact h)) (by kernel_rfl) hS0 (fun w' hS => ?_) ?_
                        rotate_left
                        focus (have q0 := F1 w' hS; clear hS; go_simp; try rfl; done)
                        simp only [List.getElem_toArray, List.getElem_cons_succ, List.getElem_cons_zero, Act.put, List.setIfInBounds_toArray, List.set_cons_zero, List.set_cons_succ]
                        refine hd_take (v := ?_) 7 rfl (by kernel_rfl) (fun _ _ d _ _ h => (by cases d <;> exact h)) (by kernel_rfl) hS0 (fun w' hS => ?_) ?_
                        rotate_left
                        focus (have q0 := F1 w' hS; clear hS; go_simp; try rfl; done)
                        simp only [List.getElem_toArray, List.getElem_cons_succ, List.getElem_cons_zero, Act.put, List.setIfInBounds_toArray, List.set_cons_zero, List.set_cons_succ]
                        refine hd_take (v := ?_) 9 rfl (by kernel_rfl) (fun _ _ d _ _ h => (by cases d <;> exact h)) (by kernel_rfl) hS0 (fun w' hS => ?_) ?_
                        rotate_left
                        focus (have q0 := F1 w' hS; clear hS; go_simp; try rfl; done)
                        simp only [List.getElem_toArray, List.getElem_cons_succ, List.getElem_cons_zero, Act.put, List.setIfInBounds_toArray, List.set_cons_zero, List.set_cons_succ]
                        refine hd_one 1 (by kernel_rfl) ?_
                        refine op_call rfl (by kernel_rfl) (by go_simp; first | exact ⟨rfl, rfl⟩ | rfl) ?_
                        refine (runsP_envB HE5.out 1 rfl (by omega)).mono ?_
                        rintro e w10 hn
                        obtain ⟨kv, rfl, ho, hb, hnw⟩ := hn
                        have h5 := HE5.out.pushE ho hb hnw
                        have hS2 := hS0.trans (hb.mono hS0.size)
                        clear ho hb hnw
                        have HE6 := Lib.hid h5
                        clear h5 HE5
                        refine ⟨_, rfl, hS2, ?_⟩
                        simp only [List.getElem_toArray, List.getElem_cons_succ, List.getElem_cons_zero, Act.put, List.setIfInBounds_toArray, List.set_cons_zero, List.set_cons_succ]
                        have hS6 := hS2
                        clear hS2
                        refine hd_one 8 (by kernel_rfl) ?_
                        refine op_call rfl (by kernel_rfl) (by go_simp; first | exact ⟨rfl, rfl⟩ | rfl) ?_
                        refine (series_any _ K xk w10 (Env.kR HE6.out 3 rfl)).mono ?_
                        rintro e w11 hn
                        rw [HSH.out] at hn
                        obtain ⟨kv2, rfl, ho, hb, hnw⟩ := hn
                        have h5 := HE6.out.pushE ho hb hnw
                        have hS2 := hS6.trans (hb.mono hS6.size)
                        clear ho hb hnw
                        have HE7 := Lib.hid h5
                        clear h5 HE6
                        refine ⟨_, rfl, hS2, ?_⟩
                        simp only [List.getElem_toArray, List.getElem_cons_succ, List.getElem_cons_zero, Act.put, List.setIfInBounds_toArray, List.set_cons_zero, List.set_cons_succ]
                        have hS7 := hS2
                        clear hS2 hS6
                        refine hd_one 10 (by kernel_rfl) ?_
                        refine op_call rfl (by kernel_rfl) (by go_simp; first | exact ⟨rfl, rfl⟩ | rfl) ?_
                        refine (sameI_any _ _ s s w11 (Env.kR HE7.out 4 rfl) (Env.kR HE7.out 2 rfl)).mono ?_
                        rintro e w12 ⟨he, m, hw⟩
                        rw [sameL_refl eqI (fun x => by simp [eqI])] at he
                        subst he
                        have h5 := HE7.out.draw m
                        rw [← hw] at h5
                        have hS2 : Below w9.heap.size w9 w12 := by rw [hw]; exact ⟨hS7.os, hS7.tape, hS7.output, hS7.size, hS7.block⟩
                        have HE8 := Lib.hid h5
                        clear h5 HE7
                        refine ⟨_, rfl, hS2, ?_⟩
                        simp only [List.getElem_toArray, List.getElem_cons_succ, List.getElem_cons_zero, Act.put, List.setIfInBounds_toArray, List.set_cons_zero, List.set_cons_succ]
                        clear hw
                        have hS8 := hS2
                        clear hS2 hS7
                        refine hd_take (v := ?_) 11 rfl (by kernel_rfl) (fun _ _ d _ _ h => (by cases d <;> exact h)) (by kernel_rfl) hS8 (fun w' hS => ?_) ?_
                        rotate_left
                        focus (have q0 := F1 w' hS; clear hS; go_simp; try rfl; done)
                        simp only [List.getElem_toArray, List.getElem_cons_succ, List.getElem_cons_zero, Act.put, List.setIfInBounds_toArray, List.set_cons_zero, List.set_cons_succ]
                        refine hd_take (v := ?_) 12 rfl (by kernel_rfl) (fun _ _ d _ _ h => (by cases d <;> exact h)) (by kernel_rfl) hS8 (fun w' hS => ?_) ?_
                        rotate_left
                        focus (have q0 := F1 w' hS; clear hS; go_simp; try rfl; done)
                        simp only [List.getElem_toArray, List.getElem_cons_succ, List.getElem_cons_zero, Act.put, List.setIfInBounds_toArray, List.set_cons_zero, List.set_cons_succ]
                        refine hd_take (v := ?_) 13 rfl (by kernel_rfl) (fun _ _ d _ _ h => (by cases d <;> exact h)) (by kernel_rfl) hS8 (fun w' hS => ?_) ?_
                        rotate_left
                        focus (have q0 := F1 w' hS; clear hS; go_simp; try rfl; done)
                        simp only [List.getElem_toArray, List.getElem_cons_succ, List.getElem_cons_zero, Act.put, List.setIfInBounds_toArray, List.set_cons_zero, List.set_cons_succ]
                        refine hd_take (v := ?_) 14 rfl (by kernel_rfl) (fun _ _ d _ _ h => (by cases d <;> exact h)) (by kernel_rfl) hS8 (fun w' hS => ?_) ?_
                        rotate_left
                        focus (have q0 := F1 w' hS; clear hS; go_simp; try rfl; done)
                        simp only [List.getElem_toArray, List.getElem_cons_succ, List.getElem_cons_zero, Act.put, List.setIfInBounds_toArray, List.set_cons_zero, List.set_cons_succ]
                        refine hd_take (v := ?_) 15 rfl (by kernel_rfl) (fun _ _ d _ _ h => (by cases d <;> exact h)) (by kernel_rfl) hS8 (fun w' hS => ?_) ?_
                        rotate_left
                        focus (have q0 := F1 w' hS; clear hS; go_simp; try rfl; done)
                        simp only [List.getElem_toArray, List.getElem_cons_succ, List.getElem_cons_zero, Act.put, List.setIfInBounds_toArray, List.set_cons_zero, List.set_cons_succ]
                        refine hd_take (v := ?_) 16 rfl (by kernel_rfl) (fun _ _ d _ _ h => (by cases d <;> exact h)) (by kernel_rfl) hS8 (fun w' hS => ?_) ?_
                        rotate_left
                        focus (have q0 := F1 w' hS; clear hS; go_simp; try rfl; done)
                        simp only [List.getElem_toArray, List.getElem_cons_succ, List.getElem_cons_zero, Act.put, List.setIfInBounds_toArray, List.set_cons_zero, List.set_cons_succ]
                        refine hd_take (v := ?_) 17 rfl (by kernel_rfl) (fun _ _ d _ _ h => (by cases d <;> exact h)) (by kernel_rfl) hS8 (fun w' hS => ?_) ?_
                        rotate_left
                        focus (have q0 := F1 w' hS; clear hS; go_simp; try rfl; done)
                        simp only [List.getElem_toArray, List.getElem_cons_succ, List.getElem_cons_zero, Act.put, List.setIfInBounds_toArray, List.set_cons_zero, List.set_cons_succ]
                        refine hd_take (v := ?_) 18 rfl (by kernel_rfl) (fun _ _ d _ _ h => (by cases d <;> exact h)) (by kernel_rfl) hS8 (fun w' hS => ?_) ?_
                        rotate_left
                        focus (have q0 := F1 w' hS; clear hS; go_simp; try rfl; done)
                        simp only [List.getElem_toArray, List.getElem_cons_succ, List.getElem_cons_zero, Act.put, List.setIfInBounds_toArray, List.set_cons_zero, List.set_cons_succ]
                        refine hd_take (v := ?_) 19 rfl (by kernel_rfl) (fun _ _ d _ _ h => (by cases d <;> exact h)) (by kernel_rfl) hS8 (fun w' hS => ?_) ?_
                        rotate_left
                        focus (have q0 := F1 w' hS; clear hS; go_simp; try rfl; done)
                        simp only [List.getElem_toArray, List.getElem_cons_succ, List.getElem_cons_zero, Act.put, List.setIfInBounds_toArray, List.set_cons_zero, List.set_cons_succ]
                        refine hd_one 20 (by kernel_rfl) ?_
                        refine op_call rfl (by kernel_rfl) (by go_simp; first | exact ⟨rfl, rfl⟩ | rfl) ?_
                        refine (sizes_any _ rs xk w12 (HE8.out.oldK HV.out) HM.out HOK.out).mono ?_
                        rintro e w13 ⟨h2, hi2, hn⟩
                        obtain rfl := hi2.unique HH.out
                        obtain ⟨zv, rfl, ho, hb, hnw⟩ := hn
                        have h5 := HE8.out.pushE ho hb hnw
                        have hS2 := hS8.trans (hb.mono hS8.size)
                        clear ho hb hnw hi2
                        have HE9 := Lib.hid h5
                        clear h5 HE8
                        refine ⟨_, rfl, hS2, ?_⟩
                        simp only [List.getElem_toArray, List.getElem_cons_succ, List.getElem_cons_zero, Act.put, List.setIfInBounds_toArray, List.set_cons_zero, List.set_cons_succ]
                        have hS9 := hS2
                        clear hS2 hS8
                        have hzl := sizes_pos HX.out
                        have hzl2 := sizes_len h2 xk
                        dsimp only at hzl
                        obtain ⟨zs, hzs⟩ : ∃ z, sizesL h2 xk = z := ⟨_, rfl⟩
                        rw [hzs] at hzl hzl2 HE9
                        have HE10 : Hid (Env w w13 [KN.ob (.slice (some ⟨g, off, none⟩) h2.length hcap) h2, obP kp (some K)]) := Lib.hid (Env.pick HE9.out (fun j => j) (fun i j _ _ h => h) (fun j ob hj => by
                          match j, hj with
                          | 0, hj => exact hj
                          | 1, hj => exact hj
                          | j + 2, hj => simp at hj))
                        obtain ⟨zo, zcap, hzv⟩ := (Env.kO HE9.out 5 rfl).any
                        subst hzv
                        clear HE9 hzs
                        have u7 : decide ((zs.length : Int) < 1) = false := by rw [decide_eq_false_iff_not]; omega
                        refine hd_take (v := ?_) 21 rfl (by kernel_rfl) (fun _ _ d _ _ h => (by cases d <;> exact h)) (by kernel_rfl) hS9 (fun w' hS => ?_) ?_
                        rotate_left
                        focus (clear hS; go_simp; try rfl; done)
                        simp only [List.getElem_toArray, List.getElem_cons_succ, List.getElem_cons_zero, Act.put, List.setIfInBounds_toArray, List.set_cons_zero, List.set_cons_succ]
                        refine hd_take (v := ?_) 22 rfl (by kernel_rfl) (fun _ _ d _ _ h => (by cases d <;> exact h)) (by kernel_rfl) hS9 (fun w' hS => ?_) ?_
                        rotate_left
                        focus (clear hS; go_simp; try rfl; done)
                        simp only [List.getElem_toArray, List.getElem_cons_succ, List.getElem_cons_zero, Act.put, List.setIfInBounds_toArray, List.set_cons_zero, List.set_cons_succ]
                        refine hd_take (v := ?_) 23 rfl (by kernel_rfl) (fun _ _ d _ _ h => (by cases d <;> exact h)) (by kernel_rfl) hS9 (fun w' hS => ?_) ?_
                        rotate_left
                        focus (clear hS; go_simp; try rfl; done)
                        simp only [List.getElem_toArray, List.getElem_cons_succ, List.getElem_cons_zero, Act.put, List.setIfInBounds_toArray, List.set_cons_zero, List.set_cons_succ]
                        refine hd_done (by kernel_rfl) ?_
                        clear F1 hS9
                        go_wp2
                        go_roundw
                        case rel => exact ⟨i + 1, c2, by go_num, rfl, by omega, HC3, HE10⟩
                        case measure => simp [intOf]; omega
                        --]g
              · obtain rfl : i = h.length := by omega
                have hcc := HC.out
                rw [cntd_all HM.out HH.out, HINS.out] at hcc
                subst hcc
                have HOKK : Hid (∀ x ∈ K, okRn x) := Lib.hid (by rw [← HK.out]; exact okRn_H HM.out HOK.out)
                clear HC HINS
                go_wp2_with fail
                refine (runsP_envB HE.out 1 rfl (by omega)).mono ?_
                rintro e w9 hn
                obtain ⟨kv, rfl, h5⟩ := Knd.New.env HE.out hn
                clear hn
                have H6 := Lib.hid h5
                clear h5 HE
                go_wp2_with fail
                refine (hist_any _ K w9 (H6.out.kR 2 rfl) HMK.out HOKK.out).mono ?_
                rintro e w10 ⟨h2, hi2, hn⟩
                have hi3 : IsHist (noteH rs) h2 := by rw [HK.out]; exact hi2
                have e2 : h2 = h := hi3.noted.unique HH.out
                rw [e2] at hn
                obtain ⟨hv2, rfl, h5⟩ := Knd.New.env H6.out hn
                clear hn hi2 hi3 e2
                have H7 := Lib.hid h5
                clear h5 H6
                go_wp2_with fail
                refine (sameN_any _ _ h h w10 (H7.out.kR 3 rfl) (H7.out.kR 0 rfl)).mono ?_
                rintro e w11 ⟨he, m, hw⟩
                rw [sameL_refl eqN (fun x => by simp [eqN])] at he
                subst he
                have h5 := H7.out.draw m
                rw [← hw] at h5
                clear hw
                have H8 := Lib.hid h5
                clear h5 H7
                by_cases hT4 : 4096 < T
                · have hfc : flatC rs 4096 = 9 := by
                    unfold flatC
                    rw [if_neg (by rw [HM.out]; simp), if_pos (by rw [HT.out]; exact hT4)]
                  have HFC := Lib.hid hfc
                  have u4 : decide (4096 < T) = true := decide_eq_true hT4
                  clear hfc
                  go_wp2_with fail
                  refine (flat_any _ rs 4096 w11 (H8.out.oldK HV.out)).mono ?_
                  rintro e w12 ⟨fv, he, hn⟩
                  rw [HFC.out] at he
                  subst he
                  obtain ⟨fv2, _, h5⟩ := Knd.New.env H8.out hn
                  clear hn
                  have H9 := Lib.hid h5
                  clear h5 H8
                  go_wp2_with fail
                  refine (total_any _ rs _ (H9.out.oldK HV.out) hlen (fun k => by have := tot_bdW HM.out k; omega)).mono ?_
                  rintro e w' ⟨he, rfl⟩
                  rw [HT.out] at he
                  subst he
                  have HX := Lib.hid H9.out.base
                  clear H9
                  go_wp2
                  go_ret
                  exact ⟨rfl, HX.out⟩
                · have hfc : flatC rs 4096 = 0 := by
                    unfold flatC
                    rw [if_neg (by rw [HM.out]; simp), if_neg (by rw [HT.out]; exact hT4)]
                  have hfv : flatV rs 4096 = flatL rs := by unfold flatV; rw [if_pos hfc]
                  have hfl := flatL_len rs (fun r hr => by have := (HCS.out r hr).1; omega)
                  rw [HT.out] at hfl
                  obtain ⟨F, hF⟩ : ∃ F, flatL rs = F := ⟨_, rfl⟩
                  rw [hF] at hfv hfl
                  have HFC := Lib.hid (And.intro hfc hfv)
                  have HFL := Lib.hid hfl
                  have hFl : F.length ≤ 4096 := by omega
                  have HF := Lib.hid hF
                  clear hfc hfv hF hfl
                  go_wp2_with fail
                  refine (flat_any _ rs 4096 w11 (H8.out.oldK HV.out)).mono ?_
                  rintro e w12 ⟨fv, he, hn⟩
                  rw [HFC.out.1] at he
                  rw [HFC.out.2] at hn
                  subst he
                  obtain ⟨fv2, hx, h5⟩ := Knd.New.env H8.out hn
                  injection hx with hx
                  subst hx
                  clear hn
                  have H9 := Lib.hid h5
                  clear h5 H8
                  have H9b : Hid (Env w w12 [obP kp (some K), KE.ob fv F]) := Lib.hid (Env.pick H9.out (fun j => j * 3 + 1) (fun i j _ _ h => by omega) (fun j ob hj => by
                    match j, hj with
                    | 0, hj => exact hj
                    | 1, hj => exact hj
                    | j + 2, hj => simp at hj))
                  clear H9
                  go_wp2_with fail
                  refine (newP_env' H9b.out).mono ?_
                  rintro e w13 ⟨mp, rfl, h5⟩
                  skip
                  have H10 := Lib.hid h5
                  clear h5 H9b
                  obtain ⟨fo, fcap, hfv2⟩ := (Env.kO H10.out 1 rfl).any
                  subst hfv2
                  go_wp2_with fail
                  go_loopw [18] (fun vi wr => ∃ j : Nat, vi = .int .i64 (j : Int) ∧ j ≤ F.length ∧ Hid (Env w wr [obP kp (some K), KE.ob (.slice fo F.length fcap) F, obP mp (some (oneH (F.take j) []))])) (fun vi _ => F.length - (intOf vi).toNat)
                  case atStart => exact ⟨0, rfl, Nat.zero_le _, by rw [List.take_zero]; exact H10⟩
                  case round =>
                    clear H10
                    obtain ⟨j, rfl, hj, HE⟩ := hrel
                    by_cases hjl : j < F.length
                    · obtain ⟨⟨ek, es⟩, hz⟩ : ∃ x, F[j]? = some x := ⟨_, List.getElem?_eq_getElem hjl⟩
                      obtain ⟨zg, zoff, rfl, _, d1⟩ := (Env.kR HE.out 1 rfl).get hz
                      have d2 : wr.cell? ⟨zg, zoff + j * 2, none⟩ = some (.int .u8 ek) := by have h := d1 0 _ rfl; simpa [KE] using h
                      have d3 : wr.cell? ⟨zg, zoff + j * 2 + 1, none⟩ = some (.int .i64 es) := by have h := d1 1 _ rfl; simpa [KE, Nat.add_assoc] using h
                      have hroom : Hid (Room (some (oneH (F.take j) [])) 1) := Lib.hid (by
                        have h1 := oneH_tot (F.take j) []
                        have h2 := oneH_len (F.take j) []
                        have h3 : (F.take j).length ≤ 4096 := by rw [List.length_take]; omega
                        have h4 : tot ([] : List Rn) = 0 := rfl
                        exact Room.some (by rw [h1, h4]; omega) (by simp at h2; omega))
                      have HZ := Lib.hid hz
                      clear d1 hz
                      go_wp2_with fail
                      refine (noteP_env HE.out 2 rfl ek es hroom.out).mono ?_
                      rintro e w14 ⟨rfl, h5⟩
                      rw [oneTo_succ HZ.out] at h5
                      have HE2 := Lib.hid h5
                      clear h5 HE
                      clear d2 d3 hroom
                      go_wp2
                      go_roundw
                      case rel => exact ⟨j + 1, by go_num, by omega, HE2⟩
                      case measure => simp [intOf]; omega
                    · obtain rfl : j = F.length := by omega
                      rw [List.take_length, ← HF.out, oneH_all HCS.out, HK.out, HF.out] at HE
                      have u5 : ((F.length : Int) == T) = true := by rw [beq_iff_eq]; exact HFL.out
                      go_wp2_with fail
                      refine (total_any _ rs _ (HE.out.oldK HV.out) hlen (fun k => by have := tot_bdW HM.out k; omega)).mono ?_
                      rintro e w' ⟨he, rfl⟩
                      rw [HT.out] at he
                      subst he
                      go_wp2_with fail
                      refine (runsP_envB HE.out 2 rfl (by omega)).mono ?_
                      rintro e w14 hn
                      obtain ⟨mv, rfl, h5⟩ := Knd.New.env HE.out hn
                      clear hn
                      have HE2 := Lib.hid h5
                      clear h5 HE
                      go_wp2_with fail
                      refine (runsP_envB HE2.out 0 rfl (by omega)).mono ?_
                      rintro e w15 hn
                      obtain ⟨kv2, rfl, h5⟩ := Knd.New.env HE2.out hn
                      clear hn
                      have HE3 := Lib.hid h5
                      clear h5 HE2
                      go_wp2_with fail
                      refine (sameN_any _ _ K K w15 (Env.kR HE3.out 3 rfl) (Env.kR HE3.out 4 rfl)).mono ?_
                      rintro e w16 ⟨he, m, hw⟩
                      rw [sameL_refl eqN (fun x => by simp [eqN])] at he
                      subst he
                      have h5 := HE3.out.draw m
                      rw [← hw] at h5
                      clear hw
                      have HE4 := Lib.hid h5
                      clear h5 HE3
                      have HX := Lib.hid HE4.out.base
                      clear HE4
                      go_wp2
                      go_ret
                      exact ⟨rfl, HX.out⟩
theorem traceWhole.walk {w : World} (v : Value) (l : List Rn) (hv : InN w v l) : Calls Try.prog 7 #[v] w fun e w' => e = .returned (.bool true) ∧ Below w.heap.size w w' := by
  cases hm : mayL l with
  | false => exact whole_no w v l hv.1 hm
  | true => exact whole_yes w v l hv.1 hm hv.2.1
end Go.Proofs.Ytfielodchoghlaa
