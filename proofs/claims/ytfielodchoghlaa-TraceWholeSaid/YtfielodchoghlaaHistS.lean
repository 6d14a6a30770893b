/- sort.Slice of a row of runs by Hist's comparison. -/
import Derived.Test.YtfielodchoghlaaRows
import Derived.Test.YtfielodchoghlaaSrtPdq
import Derived.Test.YtfielodchoghlaaHistP
import Derived.Shelf.GgSortFunc.SmallK
import Derived.Shelf.GgSortFunc.Tiny
namespace Go.Proofs.Ytfielodchoghlaa
open Go.RowKit Go.Lib Go.Sort
set_option maxRecDepth 1000000
set_option linter.unusedVariables false
set_option linter.unusedSimpArgs false
noncomputable def runT : TypeInfo := (Try.prog.info? 32).get (by kernel_rfl)
noncomputable def runE : TypeInfo := (Try.prog.info? 51).get (by kernel_rfl)
theorem runK (n : Nat) (h2 : 2 ≤ n) : Lib.swapperK n runE 25 = 9 := by
  have a : runE.hasPointers = false := by kernel_rfl
  have b : runE.bytes = 24 := by kernel_rfl
  have c : (n == 0) = false := by simp; omega
  have d : (n == 1) = false := by simp; omega
  simp [Lib.swapperK, a, b, c, d]
theorem runK1 : Lib.swapperK 1 runE 25 = 2 := by simp [Lib.swapperK]
theorem runK0 : Lib.swapperK 0 runE 25 = 1 := by simp [Lib.swapperK]
theorem hold_cells {w : World} {b : Nat} {d : Array Rn} (h : HoldR w b d) {i : Nat} (hi : i < d.size) :
    w.cell? ⟨b, i * 3, none⟩ = some (.int .u8 d[i]!.k) ∧ w.cell? ⟨b, i * 3 + 1, none⟩ = some (.int .i64 d[i]!.s) ∧ w.cell? ⟨b, i * 3 + 2, none⟩ = some (.int .i64 d[i]!.c) := by
  have h0 := (HoldsK.cell h hi (show 0 < 3 by decide)).1
  have h1 := (HoldsK.cell h hi (show 1 < 3 by decide)).1
  have h2 := (HoldsK.cell h hi (show 2 < 3 by decide)).1
  simp only [Nat.zero_add, Nat.add_zero] at h0 h1 h2
  exact ⟨h0, h1, h2⟩
/-- the two boxes of the comparison -/
structure LessW (w : World) (x y : Rn) (p q : Nat) (w' : World) : Prop where
  below : Below w.heap.size w w'
  a : Blk w' p 49 #[.int .u8 x.k, .int .i64 x.s]
  b : Blk w' q 49 #[.int .u8 y.k, .int .i64 y.s]
/-- an event is stored into a box of its own, in a region that draws -/
theorem op_store_ev {P : Program} {ops : Array Oper} {Q : Exit → Act → World → Prop} {a : Act} {w : World} {i : Nat} {K : Act → World → Prop} {ty : TypeId} {x y : Operand} {d : Option Tmp} {ot : TypeId} {pos : String} {aft : Array Edge} (g : Nat) (v0 v1 : Value) {bt : TypeId} {o0 o1 : Value}
    (ho : ops[i]? = some ⟨d, .store ty x y, ot, pos, aft, none⟩) (hw : Region.wanted ⟨d, .store ty x y, ot, pos, aft, none⟩ (yielded ops a.tmps) = true) (hx : a.eval x = .pointer (some ⟨g, 0, none⟩)) (hy : a.eval y = .agg #[v0, v1]) (hg : Blk w g bt #[o0, o1])
    (hi : (P.info? ty).map (·.size) = some 2) (h1 : (v0.oneCell' && v1.oneCell') = true) (kk : ∀ w', Blk w' g bt #[v0, v1] → Only (fun x => x = g) w w' → K (a.put d undef) w') : wpOp P ops Q i K a w := by
  have ht : w.there g 0 2 := fun j hj => by
    refine ⟨?_, hg.unfrozen _⟩
    match j, hj with
    | 0, _ => rw [hg.cellAt (0 + 0) rfl]; rfl
    | 1, _ => rw [hg.cellAt (0 + 1) rfl]; rfl
  refine op_skip (w' := (w.setCell ⟨g, 0, none⟩ v0).setCell ⟨g, 1, none⟩ v1) ho hw ?_ ?_
  · unfold execOp
    simp only [hx, hy, Instr.storeAt, Instr.sureAddr, Sem.run_bind, Sem.run_pure, Result.andThen_ok, run_storeVar_mid w g 0 ty #[v0, v1] ht hi (by simpa using h1)]
    rfl
  · refine kk _ ((hg.set 0 v0).set 1 v1) (((Only.refl (fun x => x = g) w).set (.inl rfl) _).set (.inl rfl) _)
set_option maxHeartbeats 4000000 in
theorem less_any (ob b cap : Nat) (d : Array Rn) (W : World) (h : HoldR W b d) (hb : b < W.heap.size) (ho : W.cell? ⟨ob, 0, none⟩ = some (.slice (some ⟨b, 0, none⟩) d.size cap)) (hob : ob < W.heap.size)
    (hsz : d.size < 4611686018427387904) (i j : Nat) (hi : i < d.size) (hj : j < d.size) :
    Calls Try.prog 46 #[.int .i64 i, .int .i64 j, .pointer (some ⟨ob, 0, none⟩)] W fun e W' => e = .returned (.bool (ltR d[i]! d[j]!)) ∧ Below W.heap.size W W' := by
  obtain ⟨i0, i1, i2⟩ := hold_cells h hi
  obtain ⟨j0, j1, j2⟩ := hold_cells h hj
  clear h
  generalize d[i]! = x at i0 i1 i2 ⊢
  generalize d[j]! = y at j0 j1 j2 ⊢
  generalize d.size = n at ho hi hj hsz
  obtain ⟨xk, xs, xc⟩ := x
  obtain ⟨yk, ys, yc⟩ := y
  dsimp only at i0 i1 i2 j0 j1 j2
  have F0 : ∀ w', Below W.heap.size W w' → w'.cell? ⟨ob, 0, none⟩ = some (.slice (some ⟨b, 0, none⟩) n cap) := fun w' hS => (hS.cell (p := ⟨ob, 0, none⟩) hob).trans ho
  have F1 : ∀ w', Below W.heap.size W w' → w'.cell? ⟨b, i * 3, none⟩ = some (.int .u8 xk) := fun w' hS => (hS.cell (p := ⟨b, i * 3, none⟩) hb).trans i0
  have F2 : ∀ w', Below W.heap.size W w' → w'.cell? ⟨b, i * 3 + 1, none⟩ = some (.int .i64 xs) := fun w' hS => (hS.cell (p := ⟨b, i * 3 + 1, none⟩) hb).trans i1
  have F3 : ∀ w', Below W.heap.size W w' → w'.cell? ⟨b, j * 3, none⟩ = some (.int .u8 yk) := fun w' hS => (hS.cell (p := ⟨b, j * 3, none⟩) hb).trans j0
  have F4 : ∀ w', Below W.heap.size W w' → w'.cell? ⟨b, j * 3 + 1, none⟩ = some (.int .i64 ys) := fun w' hS => (hS.cell (p := ⟨b, j * 3 + 1, none⟩) hb).trans j1
  clear i0 i1 i2 j0 j1 j2 ho
  go_enter Try.func46, Try.ntmps46
  go_upto_region 1 with fail
  go_cut [6, 7] from 6 to 18 (fun v6 v7 wx => ∃ p q : Nat, v6 = .pointer (some ⟨p, 0, none⟩) ∧ v7 = .pointer (some ⟨q, 0, none⟩) ∧ Hid (LessW W ⟨xk, xs, xc⟩ ⟨yk, ys, yc⟩ p q wx))
  case first =>
    refine hd_start (Below W.heap.size W) (by kernel_rfl) ?_
    intro w5 hw'
    have hS0 : Below W.heap.size W w5 := by rw [hw']; exact ⟨rfl, rfl, rfl, Nat.le_refl _, fun _ _ => rfl⟩
    have hz : W.heap.size ≤ w5.heap.size := hS0.size
    clear hw'
    refine hd_take (v := ?_) 0 rfl (by kernel_rfl) (fun _ _ d _ _ h => (by cases d <;> exact h)) (by kernel_rfl) hS0 (fun w' hS => ?_) ?_
    rotate_left
    focus (have q0 := F0 w' hS; have q1 := F1 w' hS; have q2 := F2 w' hS; have q3 := F3 w' hS; have q4 := F4 w' hS; clear hS; go_simp; try rfl; done)
    simp only [List.getElem_toArray, List.getElem_cons_succ, List.getElem_cons_zero, Act.put, List.setIfInBounds_toArray, List.set_cons_zero, List.set_cons_succ]
    refine hd_take (v := ?_) 1 rfl (by kernel_rfl) (fun _ _ d _ _ h => (by cases d <;> exact h)) (by kernel_rfl) hS0 (fun w' hS => ?_) ?_
    rotate_left
    focus (have q0 := F0 w' hS; have q1 := F1 w' hS; have q2 := F2 w' hS; have q3 := F3 w' hS; have q4 := F4 w' hS; clear hS; go_simp; try rfl; done)
    simp only [List.getElem_toArray, List.getElem_cons_succ, List.getElem_cons_zero, Act.put, List.setIfInBounds_toArray, List.set_cons_zero, List.set_cons_succ]
    refine hd_take (v := ?_) 2 rfl (by kernel_rfl) (fun _ _ d _ _ h => (by cases d <;> exact h)) (by kernel_rfl) hS0 (fun w' hS => ?_) ?_
    rotate_left
    focus (have q0 := F0 w' hS; have q1 := F1 w' hS; have q2 := F2 w' hS; have q3 := F3 w' hS; have q4 := F4 w' hS; clear hS; go_simp; try rfl; done)
    simp only [List.getElem_toArray, List.getElem_cons_succ, List.getElem_cons_zero, Act.put, List.setIfInBounds_toArray, List.set_cons_zero, List.set_cons_succ]
    refine hd_take (v := ?_) 3 rfl (by kernel_rfl) (fun _ _ d _ _ h => (by cases d <;> exact h)) (by kernel_rfl) hS0 (fun w' hS => ?_) ?_
    rotate_left
    focus (have q0 := F0 w' hS; have q1 := F1 w' hS; have q2 := F2 w' hS; have q3 := F3 w' hS; have q4 := F4 w' hS; clear hS; go_simp; try rfl; done)
    simp only [List.getElem_toArray, List.getElem_cons_succ, List.getElem_cons_zero, Act.put, List.setIfInBounds_toArray, List.set_cons_zero, List.set_cons_succ]
    refine hd_take (v := ?_) 4 rfl (by kernel_rfl) (fun _ _ d _ _ h => (by cases d <;> exact h)) (by kernel_rfl) hS0 (fun w' hS => ?_) ?_
    rotate_left
    focus (have q0 := F0 w' hS; have q1 := F1 w' hS; have q2 := F2 w' hS; have q3 := F3 w' hS; have q4 := F4 w' hS; clear hS; go_simp; try rfl; done)
    simp only [List.getElem_toArray, List.getElem_cons_succ, List.getElem_cons_zero, Act.put, List.setIfInBounds_toArray, List.set_cons_zero, List.set_cons_succ]
    refine hd_take (v := ?_) 5 rfl (by kernel_rfl) (fun _ _ d _ _ h => (by cases d <;> exact h)) (by kernel_rfl) hS0 (fun w' hS => ?_) ?_
    rotate_left
    focus (have q0 := F0 w' hS; have q1 := F1 w' hS; have q2 := F2 w' hS; have q3 := F3 w' hS; have q4 := F4 w' hS; clear hS; go_simp; try rfl; done)
    simp only [List.getElem_toArray, List.getElem_cons_succ, List.getElem_cons_zero, Act.put, List.setIfInBounds_toArray, List.set_cons_zero, List.set_cons_succ]
    refine hd_take (v := ?_) 6 rfl (by kernel_rfl) (fun _ _ d _ _ h => (by cases d <;> exact h)) (by kernel_rfl) hS0 (fun w' hS => ?_) ?_
    rotate_left
    focus (have q0 := F0 w' hS; have q1 := F1 w' hS; have q2 := F2 w' hS; have q3 := F3 w' hS; have q4 := F4 w' hS; clear hS; go_simp; try rfl; done)
    simp only [List.getElem_toArray, List.getElem_cons_succ, List.getElem_cons_zero, Act.put, List.setIfInBounds_toArray, List.set_cons_zero, List.set_cons_succ]
    refine hd_take (v := ?_) 7 rfl (by kernel_rfl) (fun _ _ d _ _ h => (by cases d <;> exact h)) (by kernel_rfl) hS0 (fun w' hS => ?_) ?_
    rotate_left
    focus (have q0 := F0 w' hS; have q1 := F1 w' hS; have q2 := F2 w' hS; have q3 := F3 w' hS; have q4 := F4 w' hS; clear hS; go_simp; try rfl; done)
    simp only [List.getElem_toArray, List.getElem_cons_succ, List.getElem_cons_zero, Act.put, List.setIfInBounds_toArray, List.set_cons_zero, List.set_cons_succ]
    refine hd_take (v := ?_) 8 rfl (by kernel_rfl) (fun _ _ d _ _ h => (by cases d <;> exact h)) (by kernel_rfl) hS0 (fun w' hS => ?_) ?_
    rotate_left
    focus (have q0 := F0 w' hS; have q1 := F1 w' hS; have q2 := F2 w' hS; have q3 := F3 w' hS; have q4 := F4 w' hS; clear hS; go_simp; try rfl; done)
    simp only [List.getElem_toArray, List.getElem_cons_succ, List.getElem_cons_zero, Act.put, List.setIfInBounds_toArray, List.set_cons_zero, List.set_cons_succ]
    refine hd_take (v := ?_) 9 rfl (by kernel_rfl) (fun _ _ d _ _ h => (by cases d <;> exact h)) (by kernel_rfl) hS0 (fun w' hS => ?_) ?_
    rotate_left
    focus (have q0 := F0 w' hS; have q1 := F1 w' hS; have q2 := F2 w' hS; have q3 := F3 w' hS; have q4 := F4 w' hS; clear hS; go_simp; try rfl; done)
    simp only [List.getElem_toArray, List.getElem_cons_succ, List.getElem_cons_zero, Act.put, List.setIfInBounds_toArray, List.set_cons_zero, List.set_cons_succ]
    refine hd_two 10 11 (by kernel_rfl) ?_ ?_
    · skip
      refine op_run rfl (by kernel_rfl) (by go_simp; first | done | exact ⟨rfl, rfl⟩ | rfl) ?_
      refine ⟨hS0.alloc hz _, ?_⟩
      simp only [List.getElem_toArray, List.getElem_cons_succ, List.getElem_cons_zero, Act.put, List.setIfInBounds_toArray, List.set_cons_zero, List.set_cons_succ]
      have B5 : Blk (w5.alloc (.cells #[.int .u8 0, .int .i64 0] 49)) w5.heap.size 49 #[.int .u8 0, .int .i64 0] := Blk.new w5 _ _
      have hS1 := hS0.alloc hz (.cells #[.int .u8 0, .int .i64 0] 49)
      obtain ⟨w6, hw6⟩ : ∃ y, w5.alloc (.cells #[.int .u8 0, .int .i64 0] 49) = y := ⟨_, rfl⟩
      rw [hw6] at B5 hS1
      try rw [hw6]
      clear hw6
      have hz1 : W.heap.size ≤ w6.heap.size := hS1.size
      refine hd_one 11 (by kernel_rfl) ?_
      refine op_run rfl (by kernel_rfl) (by go_simp; first | done | exact ⟨rfl, rfl⟩ | rfl) ?_
      refine ⟨hS1.alloc hz1 _, ?_⟩
      simp only [List.getElem_toArray, List.getElem_cons_succ, List.getElem_cons_zero, Act.put, List.setIfInBounds_toArray, List.set_cons_zero, List.set_cons_succ]
      have B6 : Blk (w6.alloc (.cells #[.int .u8 0, .int .i64 0] 49)) w6.heap.size 49 #[.int .u8 0, .int .i64 0] := Blk.new w6 _ _
      have hne : w5.heap.size ≠ w6.heap.size := by have := B5.lt; omega
      have B5 := B5.alloc (.cells #[.int .u8 0, .int .i64 0] 49)
      have hS2 := hS1.alloc hz1 (.cells #[.int .u8 0, .int .i64 0] 49)
      obtain ⟨w7, hw7⟩ : ∃ y, w6.alloc (.cells #[.int .u8 0, .int .i64 0] 49) = y := ⟨_, rfl⟩
      rw [hw7] at B5 B6 hS2
      try rw [hw7]
      clear hw7
      refine hd_one 12 (by kernel_rfl) ?_
      refine op_store_ev _ (.int .u8 xk) (.int .i64 xs) rfl (by kernel_rfl) rfl rfl B5 (by kernel_rfl) rfl ?_
      intro w8 C8 O8
      have hS3 : Below W.heap.size W w8 := hS2.trans (O8.below0 (fun x hx he => by omega) hS2.size)
      refine ⟨hS3, ?_⟩
      simp only [List.getElem_toArray, List.getElem_cons_succ, List.getElem_cons_zero, Act.put, List.setIfInBounds_toArray, List.set_cons_zero, List.set_cons_succ]
      refine hd_one 13 (by kernel_rfl) ?_
      refine op_store_ev _ (.int .u8 yk) (.int .i64 ys) rfl (by kernel_rfl) rfl rfl (B6.only O8 (by omega)) (by kernel_rfl) rfl ?_
      intro w9 C9 O9
      have hS4 : Below W.heap.size W w9 := hS3.trans (O9.below0 (fun x hx he => by omega) hS3.size)
      refine ⟨hS4, ?_⟩
      simp only [List.getElem_toArray, List.getElem_cons_succ, List.getElem_cons_zero, Act.put, List.setIfInBounds_toArray, List.set_cons_zero, List.set_cons_succ]
      have C8 := C8.only O9 (by omega)
      have HF : Hid (LessW W ⟨xk, xs, xc⟩ ⟨yk, ys, yc⟩ w5.heap.size w6.heap.size w9) := Lib.hid ⟨hS4, C8, C9⟩
      refine hd_done (by kernel_rfl) ?_
      go_wp2_with fail
      go_meet
      case rel => exact ⟨_, _, rfl, rfl, HF⟩
    · skip
      refine op_run rfl (by kernel_rfl) (by go_simp; first | done | exact ⟨rfl, rfl⟩ | rfl) ?_
      refine ⟨hS0.alloc hz _, ?_⟩
      simp only [List.getElem_toArray, List.getElem_cons_succ, List.getElem_cons_zero, Act.put, List.setIfInBounds_toArray, List.set_cons_zero, List.set_cons_succ]
      have B5 : Blk (w5.alloc (.cells #[.int .u8 0, .int .i64 0] 49)) w5.heap.size 49 #[.int .u8 0, .int .i64 0] := Blk.new w5 _ _
      have hS1 := hS0.alloc hz (.cells #[.int .u8 0, .int .i64 0] 49)
      obtain ⟨w6, hw6⟩ : ∃ y, w5.alloc (.cells #[.int .u8 0, .int .i64 0] 49) = y := ⟨_, rfl⟩
      rw [hw6] at B5 hS1
      try rw [hw6]
      clear hw6
      have hz1 : W.heap.size ≤ w6.heap.size := hS1.size
      refine hd_one 10 (by kernel_rfl) ?_
      refine op_run rfl (by kernel_rfl) (by go_simp; first | done | exact ⟨rfl, rfl⟩ | rfl) ?_
      refine ⟨hS1.alloc hz1 _, ?_⟩
      simp only [List.getElem_toArray, List.getElem_cons_succ, List.getElem_cons_zero, Act.put, List.setIfInBounds_toArray, List.set_cons_zero, List.set_cons_succ]
      have B6 : Blk (w6.alloc (.cells #[.int .u8 0, .int .i64 0] 49)) w6.heap.size 49 #[.int .u8 0, .int .i64 0] := Blk.new w6 _ _
      have hne : w5.heap.size ≠ w6.heap.size := by have := B5.lt; omega
      have B5 := B5.alloc (.cells #[.int .u8 0, .int .i64 0] 49)
      have hS2 := hS1.alloc hz1 (.cells #[.int .u8 0, .int .i64 0] 49)
      obtain ⟨w7, hw7⟩ : ∃ y, w6.alloc (.cells #[.int .u8 0, .int .i64 0] 49) = y := ⟨_, rfl⟩
      rw [hw7] at B5 B6 hS2
      try rw [hw7]
      clear hw7
      refine hd_one 12 (by kernel_rfl) ?_
      refine op_store_ev _ (.int .u8 xk) (.int .i64 xs) rfl (by kernel_rfl) rfl rfl B6 (by kernel_rfl) rfl ?_
      intro w8 C8 O8
      have hS3 : Below W.heap.size W w8 := hS2.trans (O8.below0 (fun x hx he => by omega) hS2.size)
      refine ⟨hS3, ?_⟩
      simp only [List.getElem_toArray, List.getElem_cons_succ, List.getElem_cons_zero, Act.put, List.setIfInBounds_toArray, List.set_cons_zero, List.set_cons_succ]
      refine hd_one 13 (by kernel_rfl) ?_
      refine op_store_ev _ (.int .u8 yk) (.int .i64 ys) rfl (by kernel_rfl) rfl rfl (B5.only O8 (by omega)) (by kernel_rfl) rfl ?_
      intro w9 C9 O9
      have hS4 : Below W.heap.size W w9 := hS3.trans (O9.below0 (fun x hx he => by omega) hS3.size)
      refine ⟨hS4, ?_⟩
      simp only [List.getElem_toArray, List.getElem_cons_succ, List.getElem_cons_zero, Act.put, List.setIfInBounds_toArray, List.set_cons_zero, List.set_cons_succ]
      have C8 := C8.only O9 (by omega)
      have HF : Hid (LessW W ⟨xk, xs, xc⟩ ⟨yk, ys, yc⟩ w6.heap.size w5.heap.size w9) := Lib.hid ⟨hS4, C8, C9⟩
      refine hd_done (by kernel_rfl) ?_
      go_wp2_with fail
      go_meet
      case rel => exact ⟨_, _, rfl, rfl, HF⟩
  case rest =>
    obtain ⟨p, q, rfl, rfl, HL⟩ := hcut
    have a0 := HL.out.a.cellAt 0 rfl
    have a1 := HL.out.a.cellAt 1 rfl
    have b0 := HL.out.b.cellAt 0 rfl
    have b1 := HL.out.b.cellAt 1 rfl
    have HB := Lib.hid HL.out.below
    clear HL F0 F1 F2 F3 F4
    by_cases hk : xk = yk
    · have e : ltR ⟨xk, xs, xc⟩ ⟨yk, ys, yc⟩ = decide (xs < ys) := by simp [ltR, hk]
      have t : (xk == yk) = true := by simpa using hk
      have t2 : (xk != yk) = false := by simp [bne, t]
      have HE := Lib.hid e
      clear hk e
      go_wp2_with fail
      go_ret
      exact ⟨by rw [HE.out]; rfl, HB.out⟩
    · have e : ltR ⟨xk, xs, xc⟩ ⟨yk, ys, yc⟩ = decide (xk < yk) := by simp [ltR, hk]
      have t : (xk == yk) = false := by simpa using hk
      have t2 : (xk != yk) = true := by simp [bne, t]
      have HE := Lib.hid e
      clear hk e
      go_wp2_with fail
      go_ret
      exact ⟨by rw [HE.out]; rfl, HB.out⟩
/-- the comparison at whatever world the sort passes through -/
theorem bitLenAux_le : ∀ (f x : Nat), Lib.bitLenAux f x ≤ f
  | 0, _ => Nat.le_refl _
  | f + 1, x => by
    unfold Lib.bitLenAux
    have := bitLenAux_le f (x / 2)
    split <;> omega
theorem lessL_any {ob b cap : Nat} {d : Array Rn} {w : World} (hb : b < w.heap.size) (hne : ob ≠ b) (ho : w.cell? ⟨ob, 0, none⟩ = some (.slice (some ⟨b, 0, none⟩) d.size cap)) (hob : ob < w.heap.size) (h : HoldR w b d)
    (hsz : d.size < 4611686018427387904) : LessL 46 #[.pointer (some ⟨ob, 0, none⟩)] b d.size w := by
  intro dk W hq hs i j hi hj
  have h1 : HoldR W b dk := hq.hold h hs hb
  have h2 : W.cell? ⟨ob, 0, none⟩ = some (.slice (some ⟨b, 0, none⟩) dk.size cap) := by rw [hs]; exact (hq.cell (a := ⟨ob, 0, none⟩) hob hne).trans ho
  exact less_any ob b cap dk W h1 (Nat.lt_of_lt_of_le hb hq.size) h2 (Nat.lt_of_lt_of_le hob hq.size) (by omega) i j (by omega) (by omega)
theorem encR_one (x : Rn) : ∀ v ∈ encR x, v.oneCell' = true := by
  intro v hv
  simp [encR] at hv
  rcases hv with rfl | rfl | rfl <;> rfl
/-- the call of sort.Slice -/
def SliceP (b : Nat) (d : Array Rn) (w : World) (e : Ending) (w' : World) : Prop := e = .returned (.tuple #[]) ∧ ∃ d' : Array Rn, PermIn 0 d.size d d' ∧ SortedIn ltR 0 d.size d' ∧ SQ w b d' w'
theorem grow_below (w : World) (os : Array Obj) : RowKit.Below w.heap.size w (grow w os) := ⟨rfl, rfl, rfl, by rw [size_grow]; exact Nat.le_add_right _ _, fun k hk => heap_grow_old w os hk⟩
set_option maxHeartbeats 4000000 in
theorem slice_any (ob b cap : Nat) (d : Array Rn) (w : World) (h : HoldR w b d) (hb : b < w.heap.size) (hne : ob ≠ b) (hob : ob < w.heap.size) (ho : w.cell? ⟨ob, 0, none⟩ = some (.slice (some ⟨b, 0, none⟩) d.size cap)) (hsz : d.size < 4611686018427387904) :
    Calls Try.prog 45 #[.iface 32 (.slice (some ⟨b, 0, none⟩) d.size cap), .func (.func 46) #[] #[.pointer (some ⟨ob, 0, none⟩)]] w (SliceP b d w) := by
  by_cases h2 : 2 ≤ d.size
  · have hS := Any.sort_Slice_of_pdq (P := Try.prog) (ρ := sliceA_ren) sliceA 32 51 runT runE (by kernel_rfl) (by kernel_rfl) (by kernel_rfl) (by kernel_rfl) 25 (fun _ => by kernel_rfl)
      (some ⟨b, 0, none⟩) d.size cap (by omega) 60 (by rw [runK _ h2]; kernel_rfl) (.func 46) #[] #[.pointer (some ⟨ob, 0, none⟩)] w
      (fun w' => ∃ d' : Array Rn, PermIn 0 d.size d d' ∧ SortedIn ltR 0 d.size d' ∧ SQ w b d' w') ?_
    · exact hS
    · have hB : sliceBound Try.prog 51 runE 25 (some ⟨b, 0, none⟩) d.size cap = #[.slice (some ⟨b, 0, none⟩) d.size cap, typeHandle Try.prog 51] := by
        unfold sliceBound; rw [if_neg (swapperK_gt _ _ _ h2)]
      rw [hB]
      have hG : RowKit.Below w.heap.size w (sliceWorld Try.prog sliceA_ren 32 (some ⟨b, 0, none⟩) d.size cap w) := by
        unfold sliceWorld
        exact ((RowKit.Below.refl _ _).alloc (Nat.le_refl _) _).alloc (by simp) _
      generalize sliceWorld Try.prog sliceA_ren 32 (some ⟨b, 0, none⟩) d.size cap w = w1 at hG ⊢
      have hq : SQ w b d w1 := (SQ.start h).below hG
      have hsw : SwapSwapsK Try.prog 60 #[.slice (some ⟨b, 0, none⟩) d.size cap, typeHandle Try.prog 51] encR 3 b 0 d.size :=
        swapSwapsK_of_literal false 60 (fun args W => run_callFunc_extern Try.func60 (by kernel_rfl) (by kernel_rfl) (by kernel_rfl) (e := Extern.ReflectliteSwapper.swap false) (by kernel_rfl) args W)
          51 runE (by kernel_rfl) encR 3 encR_len (by kernel_rfl) (fun _ => by kernel_rfl) encR_one b 0 d.size cap
      have hcs : CS 46 #[.pointer (some ⟨ob, 0, none⟩)] 60 #[.slice (some ⟨b, 0, none⟩) d.size cap, typeHandle Try.prog 51] b d w1 :=
        { eg := enters_of Try.func46 (by kernel_rfl) rfl
          less := lessL_any (Nat.lt_of_lt_of_le hb hq.size) hne ((hq.cell (a := ⟨ob, 0, none⟩) hob hne).trans ho) (Nat.lt_of_lt_of_le hob hq.size) (hq.hold h rfl hb) hsz
          swap := hsw
          hold := hq.hold h rfl hb
          blk := Nat.lt_of_lt_of_le hb hq.size
          sz := hsz }
      have hp := pdq_any (d.size + 1) 0 d.size (Lib.bitLen d.size) d w1 (by omega) hcs (Nat.zero_le _) (Nat.le_refl _) (by
        have : Lib.bitLen d.size ≤ 64 := bitLenAux_le 64 _
        omega) (.inl rfl)
      obtain ⟨p1, p2⟩ := pdq_sorts ltR swo_ltR d 0 d.size (Lib.bitLen d.size) true true (Nat.zero_le _) (Nat.le_refl _) (.inl rfl)
      exact hp.mono fun e w' ⟨he, hq2⟩ => ⟨he, _, p1, p2, hq.trans hq2 p1.1⟩
  · have h1 : d.size ≤ 1 := by omega
    have hf : Try.prog.funcs.findIdx? (·.name == "internal/reflectlite" ++ ".Swapper$" ++ toString (swapperK d.size runE 25)) = some (if d.size = 0 then 52 else 53) := by
      by_cases h0 : d.size = 0
      · rw [h0, runK0, if_pos rfl]; kernel_rfl
      · rw [show d.size = 1 by omega, runK1, if_neg (by decide)]; kernel_rfl
    have hS := Any.sort_Slice_tiny (P := Try.prog) (ρ := sliceA_ren) sliceA 32 51 runT runE (by kernel_rfl) (by kernel_rfl) (by kernel_rfl) (by kernel_rfl) 25 (fun _ => by kernel_rfl)
      (some ⟨b, 0, none⟩) d.size cap h1 _ hf (.func 46) #[] #[.pointer (some ⟨ob, 0, none⟩)] w
    refine hS.mono fun e w' ⟨he, os, hw⟩ => ⟨he, d, permIn_refl _ _ _, fun i j _ hij hj => by omega, ?_⟩
    rw [hw]
    exact (SQ.start h).below (grow_below w os)
/-- nothing to be sorted -/
theorem slice_none (ob : Nat) (w : World) :
    Calls Try.prog 45 #[.iface 32 (.slice none 0 0), .func (.func 46) #[] #[.pointer (some ⟨ob, 0, none⟩)]] w fun e w' => e = .returned (.tuple #[]) ∧ RowKit.Below w.heap.size w w' := by
  have hS := Any.sort_Slice_tiny (P := Try.prog) (ρ := sliceA_ren) sliceA 32 51 runT runE (by kernel_rfl) (by kernel_rfl) (by kernel_rfl) (by kernel_rfl) 25 (fun _ => by kernel_rfl)
    none 0 0 (by decide) 52 (by rw [runK0]; kernel_rfl) (.func 46) #[] #[.pointer (some ⟨ob, 0, none⟩)] w
  refine hS.mono fun e w' ⟨he, os, hw⟩ => ⟨he, ?_⟩
  rw [hw]
  exact grow_below w os
end Go.Proofs.Ytfielodchoghlaa
