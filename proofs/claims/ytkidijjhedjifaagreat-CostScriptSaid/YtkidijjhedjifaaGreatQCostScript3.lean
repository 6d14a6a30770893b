/- The document's counts of chapter 22: contracts. -/
import Derived.Test.YtkidijjhedjifaaGreatRows
import Derived.Deep.DeepCutAuto
import Derived.Deep.CutBlock
import Derived.Test.YtkidijjhedjifaaGreatQCostScript1
import Derived.Test.YtkidijjhedjifaaGreatQCostScript2
/- The chapter 22's counts: what the program's small functions answer. -/
namespace Go.Proofs.YtkidijjhedjifaaGreat
open Go.RowKit
set_option maxRecDepth 100000
set_option linter.unusedVariables false
set_option linter.unusedSimpArgs false
attribute [local go_sem] Oper.semAt_some
section
variable {w : World}
/-- what a function answers; the world: nothing of it turned -/
def Told (v : Value) (w : World) (e : Ending) (w' : World) : Prop := e = .returned v ∧ Below w.heap.size w w'
theorem below_draw {B : Nat} {a w : World} (h : Below B a w) (n : Nat) : Below B a (w.drewN n) := ⟨h.os, h.tape, h.output, h.size, h.block⟩
theorem load_ev {w : World} {b : Nat} {k s : Value} (h0 : w.cell? ⟨b, 0, none⟩ = some k) (h1 : w.cell? ⟨b, 1, none⟩ = some s) : (loadVar 64 ⟨b, 0, none⟩).run Tryz.prog w = .ok (.agg #[k, s]) w := by
  go_simp
theorem results_cell_tmp {fn : Func} {t u : Tmp} {T : TypeId} (h : fn.results = #[.cell t T, .tmp u]) {tmps : Array Value} {w : World} {b : Nat} {v : Value} (hp : tmps.getD t undef = .pointer (some ⟨b, 0, none⟩)) (hv : (loadVar T ⟨b, 0, none⟩).run Tryz.prog w = .ok v w) :
    (results fn tmps).run Tryz.prog w = .ok (.tuple #[v, tmps.getD u undef]) w := by
  have hp' : tmps[t]?.getD undef = .pointer (some ⟨b, 0, none⟩) := by simpa using hp
  simp [results, h, hp', asAddr, hv]
theorem results_cell {fn : Func} {t : Tmp} {T : TypeId} (h : fn.results = #[.cell t T]) {tmps : Array Value} {w : World} {b : Nat} {v : Value} (hp : tmps.getD t undef = .pointer (some ⟨b, 0, none⟩)) (hv : (loadVar T ⟨b, 0, none⟩).run Tryz.prog w = .ok v w) :
    (results fn tmps).run Tryz.prog w = .ok v w := by
  have hp' : tmps[t]?.getD undef = .pointer (some ⟨b, 0, none⟩) := by simpa using hp
  simp [results, h, hp', asAddr, hv]
theorem most_any (a : Int) (w : World) : Calls Tryz.prog 62 #[.int .u8 a] w fun e w' => e = .returned (.int .i64 (mostA a)) ∧ w = w' := by
  unfold mostA
  by_cases h1 : a = 1
  · have t1 : (a == (1 : Int)) = true := by rw [h1]; rfl
    rw [if_pos h1]
    clear h1
    go_enter Tryz.func62, Tryz.ntmps62
    go_wp2
    go_ret
    exact ⟨rfl, rfl⟩
  have t1 : (a == (1 : Int)) = false := by rw [beq_eq_false_iff_ne]; exact h1
  rw [if_neg h1]
  clear h1
  by_cases h2 : a = 3
  · have t2 : (a == (3 : Int)) = true := by rw [h2]; rfl
    rw [if_pos h2]
    clear h2
    go_enter Tryz.func62, Tryz.ntmps62
    go_wp2
    go_ret
    exact ⟨rfl, rfl⟩
  · have t2 : (a == (3 : Int)) = false := by rw [beq_eq_false_iff_ne]; exact h2
    rw [if_neg h2]
    clear h2
    go_enter Tryz.func62, Tryz.ntmps62
    go_wp2
    go_ret
    exact ⟨rfl, rfl⟩
theorem hash_any (a : Int) (w : World) : Calls Tryz.prog 71 #[.int .u8 a] w fun e w' => e = .returned (.int .i64 (hashA a)) ∧ w = w' := by
  unfold hashA
  by_cases h1 : a = 1
  · have t1 : (a == (1 : Int)) = true := by rw [h1]; rfl
    rw [if_pos h1]
    clear h1
    go_enter Tryz.func71, Tryz.ntmps71
    go_wp2
    go_ret
    exact ⟨rfl, rfl⟩
  have t1 : (a == (1 : Int)) = false := by rw [beq_eq_false_iff_ne]; exact h1
  rw [if_neg h1]
  clear h1
  by_cases h2 : a = 2
  · have t2 : (a == (2 : Int)) = true := by rw [h2]; rfl
    rw [if_pos h2]
    clear h2
    go_enter Tryz.func71, Tryz.ntmps71
    go_wp2
    go_ret
    exact ⟨rfl, rfl⟩
  · have t2 : (a == (2 : Int)) = false := by rw [beq_eq_false_iff_ne]; exact h2
    rw [if_neg h2]
    clear h2
    go_enter Tryz.func71, Tryz.ntmps71
    go_wp2
    go_ret
    exact ⟨rfl, rfl⟩
theorem rate_any (a : Int) (w : World) : Calls Tryz.prog 64 #[.int .u8 a] w fun e w' => e = .returned (.int .i64 (rateA a)) ∧ w = w' := by
  unfold rateA
  by_cases h1 : a = 4
  · have t1 : (a == (4 : Int)) = true := by rw [h1]; rfl
    rw [if_pos (.inl h1)]
    clear h1
    go_enter Tryz.func64, Tryz.ntmps64
    go_wp2
    go_ret
    exact ⟨rfl, rfl⟩
  have t1 : (a == (4 : Int)) = false := by rw [beq_eq_false_iff_ne]; exact h1
  by_cases h2 : a = 6
  · have t2 : (a == (6 : Int)) = true := by rw [h2]; rfl
    rw [if_pos (.inr h2)]
    clear h1 h2
    go_enter Tryz.func64, Tryz.ntmps64
    go_wp2
    go_ret
    exact ⟨rfl, rfl⟩
  · have t2 : (a == (6 : Int)) = false := by rw [beq_eq_false_iff_ne]; exact h2
    rw [if_neg (by omega)]
    clear h1 h2
    go_enter Tryz.func64, Tryz.ntmps64
    go_wp2
    go_ret
    exact ⟨rfl, rfl⟩
theorem event_any (a : Int) (w : World) : Calls Tryz.prog 73 #[.int .u8 a] w (Told (.tuple #[.agg #[.int .u8 (evkA a), .int .i64 (wideA a)], .int .i64 (wideA a)]) w) := by
  unfold evkA wideA
  by_cases h1 : a = 2
  · have t1 : (a == (2 : Int)) = true := by rw [h1]; rfl
    rw [if_pos h1, if_pos h1]
    clear h1
    go_enter Tryz.func73, Tryz.ntmps73
    go_wp2
    refine bodyPost_ret (results_cell_tmp rfl (b := w.heap.size) rfl (load_ev (k := .int .u8 2) (s := .int .i64 128) ?_ ?_)) rfl ⟨rfl, ?_⟩
    · go_simp
    · go_simp
    · exact (Below.refl _ _).alloc (Nat.le_refl _) _
  · have t1 : (a == (2 : Int)) = false := by rw [beq_eq_false_iff_ne]; exact h1
    rw [if_neg h1, if_neg h1]
    clear h1
    go_enter Tryz.func73, Tryz.ntmps73
    go_wp2
    refine bodyPost_ret (results_cell_tmp rfl (b := w.heap.size) rfl (load_ev (k := .int .u8 1) (s := .int .i64 64) ?_ ?_)) rfl ⟨rfl, ?_⟩
    · go_simp
    · go_simp
    · exact (Below.refl _ _).alloc (Nat.le_refl _) _
theorem wide_two (a : Int) : wideA a = 64 ∨ wideA a = 128 := by
  unfold wideA
  split
  · exact .inr rfl
  · exact .inl rfl
theorem blocks_any (a n : Int) (w : World) (h0 : 0 ≤ n) (h1 : n ≤ 1000000000) : Calls Tryz.prog 99 #[.int .u8 a, .int .i64 n] w (Told (.int .i64 (blocksA a n)) w) := by
  unfold blocksA
  rcases wide_two a with e | e <;>
  · rw [e]
    go_enter Tryz.func99, Tryz.ntmps99
    go_wp2_with fail
    refine (event_any a w).mono ?_
    rintro e' w1 ⟨rfl, hb⟩
    have HB := Lib.hid hb
    clear hb
    rw [e]
    go_wp2_with fail
    go_ret
    exact ⟨rfl, HB.out.alloc HB.out.size _⟩
theorem keyBlocks_any (a n : Int) (w : World) (h0 : 0 ≤ n) (h1 : n ≤ 1000000000) : Calls Tryz.prog 67 #[.int .u8 a, .int .i64 n] w (Told (.int .i64 (keyB a n)) w) := by
  have hr := blocksA_rng (a := a) h0
  unfold keyB
  obtain ⟨W, hW⟩ : ∃ W, wideA a = W := ⟨_, rfl⟩
  have HW := Lib.hid hW
  rw [hW]
  have hw2 : W = 64 ∨ W = 128 := by rw [← hW]; exact wide_two a
  clear hW
  by_cases hc : W < n
  · rw [if_pos hc]
    have t1 : decide (W < n) = true := decide_eq_true hc
    clear hc hw2
    go_enter Tryz.func67, Tryz.ntmps67
    go_wp2_with fail
    refine (event_any a w).mono ?_
    rintro e' w1 ⟨rfl, hb⟩
    have HB := Lib.hid hb
    clear hb
    rw [HW.out]
    go_wp2_with fail
    refine (blocks_any a n _ h0 h1).mono ?_
    rintro e' w2 ⟨rfl, hb⟩
    have HB2 := Lib.hid hb
    clear hb
    have hw1 : IntKind.i64.wrap (blocksA a n + 2) = blocksA a n + 2 := IntWalk.i64_in _ (by omega)
    go_wp2_with fail
    go_ret
    exact ⟨rfl, (HB.out.alloc HB.out.size _).trans (HB2.out.mono (by have := HB.out.size; simp; omega))⟩
  · rw [if_neg hc]
    have t1 : decide (W < n) = false := decide_eq_false hc
    clear hc hw2
    go_enter Tryz.func67, Tryz.ntmps67
    go_wp2_with fail
    refine (event_any a w).mono ?_
    rintro e' w1 ⟨rfl, hb⟩
    have HB := Lib.hid hb
    clear hb
    rw [HW.out]
    go_wp2_with fail
    go_ret
    exact ⟨rfl, HB.out.alloc HB.out.size _⟩
theorem tagBlocks_any (a n : Int) (w : World) (h0 : 0 ≤ n) (h1 : n ≤ 1000000000) : Calls Tryz.prog 74 #[.int .u8 a, .int .i64 n] w (Told (.int .i64 (tagB a n)) w) := by
  have hr := blocksA_rng (a := a) h0
  unfold tagB
  have hw1 : IntKind.i64.wrap (blocksA a n + 1) = blocksA a n + 1 := IntWalk.i64_in _ (by omega)
  go_enter Tryz.func74, Tryz.ntmps74
  go_wp2_with fail
  refine (blocks_any a n _ h0 h1).mono ?_
  rintro e' w2 ⟨rfl, hb⟩
  have HB2 := Lib.hid hb
  clear hb
  go_wp2_with fail
  go_ret
  exact ⟨rfl, HB2.out⟩
theorem padded_any (n r : Int) (w : World) (h0 : 0 ≤ n) (h1 : n ≤ 1000000000) (hr : r = 168 ∨ r = 136) : Calls Tryz.prog 65 #[.int .i64 n, .int .i64 r] w fun e w' => e = .returned (.int .i64 (paddedA n r)) ∧ w = w' := by
  unfold paddedA
  rcases hr with rfl | rfl <;>
  · go_enter Tryz.func65, Tryz.ntmps65
    go_wp2_with fail
    go_ret
    exact ⟨rfl, rfl⟩
theorem coded_any (n : Int) (w : World) (h0 : 0 ≤ n) (h1 : n ≤ 8000) : Calls Tryz.prog 66 #[.int .i64 n] w fun e w' => e = .returned (.int .i64 (codedA n)) ∧ w = w' := by
  go_enter Tryz.func66, Tryz.ntmps66
  go_wp2_with fail
  go_loopw [3, 4] (fun m x wx => wx = w ∧ ∃ q : Int, x = .int .i64 q ∧ 0 ≤ q ∧ ((m = .int .i64 1 ∧ q = 8 * n / 256) ∨ (m = .int .i64 2 ∧ q = 0 ∧ 32 ≤ n))) (fun _ x _ => (intOf x).toNat)
  case atStart => exact ⟨rfl, _, rfl, by omega, .inl ⟨rfl, rfl⟩⟩
  case round =>
    obtain ⟨rfl, q, rfl, hq0, hq⟩ := hrel
    rcases hq with ⟨rfl, hq⟩ | ⟨rfl, rfl, h32⟩
    · by_cases hp : 0 < q
      · have t1 : decide (0 < q) = true := decide_eq_true hp
        have h32 : 32 ≤ n := by omega
        have hz : q / 256 = 0 := by omega
        clear hq
        go_wp2_with fail
        refine ⟨⟨trivial, 0, by first | rfl | (rw [hz]), by omega, .inr ⟨rfl, rfl, h32⟩⟩, ?_⟩
        simp only [intOf]
        omega
      · have t1 : decide (0 < q) = false := decide_eq_false hp
        have hc : codedA n = 2 + n := by unfold codedA; rw [if_neg (by omega)]
        have hw1 : IntKind.i64.wrap (2 + n) = 2 + n := IntWalk.i64_in _ (by omega)
        have HC := Lib.hid hc
        clear hq hc
        go_wp2_with fail
        go_ret
        exact ⟨by rw [HC.out]; rfl, rfl⟩
    · have hc : codedA n = 3 + n := by unfold codedA; rw [if_pos h32]
      have hw1 : IntKind.i64.wrap (3 + n) = 3 + n := IntWalk.i64_in _ (by omega)
      have HC := Lib.hid hc
      clear hc h32
      go_wp2_with fail
      go_ret
      exact ⟨by rw [HC.out]; rfl, rfl⟩
structure SBox (b : Nat) (t : Th) (W : World) : Prop where
  c0 : W.cell? ⟨b, 0, none⟩ = some (.int .u8 t.alg)
  c1 : W.cell? ⟨b, 1, none⟩ = some (.int .i64 t.out)
  c2 : W.cell? ⟨b, 2, none⟩ = some (.int .i64 t.key)
  c3 : W.cell? ⟨b, 3, none⟩ = some (.int .i64 t.custom)
  c4 : W.cell? ⟨b, 4, none⟩ = some (.int .i64 t.msg)
theorem SBox.f0 {b : Nat} {t : Th} (W : World) (h : SBox b t W) : W.cell? ⟨b, 0, none⟩ = some (.int .u8 t.alg) := h.c0
theorem SBox.f1 {b : Nat} {t : Th} (W : World) (h : SBox b t W) : W.cell? ⟨b, 1, none⟩ = some (.int .i64 t.out) := h.c1
theorem SBox.f2 {b : Nat} {t : Th} (W : World) (h : SBox b t W) : W.cell? ⟨b, 2, none⟩ = some (.int .i64 t.key) := h.c2
theorem SBox.f3 {b : Nat} {t : Th} (W : World) (h : SBox b t W) : W.cell? ⟨b, 3, none⟩ = some (.int .i64 t.custom) := h.c3
theorem SBox.f4 {b : Nat} {t : Th} (W : World) (h : SBox b t W) : W.cell? ⟨b, 4, none⟩ = some (.int .i64 t.msg) := h.c4
theorem SBox.new (w : World) (t : Th) : SBox w.heap.size t (w.alloc (.cells #[.int .u8 t.alg, .int .i64 t.out, .int .i64 t.key, .int .i64 t.custom, .int .i64 t.msg] 97)) := by
  have h := Blk.new w 97 #[.int .u8 t.alg, .int .i64 t.out, .int .i64 t.key, .int .i64 t.custom, .int .i64 t.msg]
  exact ⟨h.cellAt 0 rfl, h.cellAt 1 rfl, h.cellAt 2 rfl, h.cellAt 3 rfl, h.cellAt 4 rfl⟩
theorem SBox.below {b : Nat} {t : Th} {w w' : World} (h : SBox b t w) (hb : Below w.heap.size w w') : SBox b t w' := by
  have hl : b < w.heap.size := World.block_lt_of_cell? w _ h.c0
  exact ⟨(hb.cell hl).trans h.c0, (hb.cell hl).trans h.c1, (hb.cell hl).trans h.c2, (hb.cell hl).trans h.c3, (hb.cell hl).trans h.c4⟩
set_option maxHeartbeats 1000000 in
theorem taken_any (t : Th) (a b : Int) (w : World) (ha : 0 ≤ a) (ha' : a ≤ 1000000000) (hb : 0 ≤ b) (hb' : b ≤ 1000000000) :
    Calls Tryz.prog 68 #[.agg #[.int .u8 t.alg, .int .i64 t.out, .int .i64 t.key, .int .i64 t.custom, .int .i64 t.msg], .int .i64 a, .int .i64 b] w (Told (.int .i64 (takenA t a b)) w) := by
  have HS := Lib.hid (SBox.new w t)
  obtain ⟨T, hT⟩ : ∃ T, t = T := ⟨_, rfl⟩
  have HT := Lib.hid hT
  clear hT
  obtain ⟨al, ou, ke, cu, ms⟩ := t
  unfold takenA
  simp only at HS ⊢
  by_cases h3 : al = 3
  · have t1 : (al == (3 : Int)) = true := by rw [h3]; rfl
    rw [if_pos h3]
    clear h3
    go_enter Tryz.func68, Tryz.ntmps68
    go_wp2_with fail
    all_goals (go_ret; refine ⟨?_, (Below.refl _ _).alloc (Nat.le_refl _) _⟩; show Ending.returned (.int .i64 _) = .returned (.int .i64 _); congr 2; unfold lastM; split <;> split <;> omega)
  · have t1 : (al == (3 : Int)) = false := by rw [beq_eq_false_iff_ne]; exact h3
    rw [if_neg h3]
    clear h3
    by_cases h4 : 4 ≤ al
    · have t2 : decide (4 ≤ al) = true := decide_eq_true h4
      rw [if_pos h4]
      clear h4
      go_enter Tryz.func68, Tryz.ntmps68
      go_upto_region 4 with fail
      obtain ⟨B, hB⟩ : ∃ B, w.heap.size = B := ⟨_, rfl⟩
      obtain ⟨w1, hw1⟩ : ∃ y, w.alloc (.cells #[.int .u8 al, .int .i64 ou, .int .i64 ke, .int .i64 cu, .int .i64 ms] 97) = y := ⟨_, rfl⟩
      have HB : Hid (Below w.heap.size w w1) := by rw [← hw1]; exact Lib.hid ((Below.refl _ _).alloc (Nat.le_refl _) _)
      have hs := HS.out
      rw [hw1, hB] at hs
      try rw [hw1]
      try rw [hB]
      clear hw1 hB HS
      obtain ⟨r, hr⟩ : ∃ r, rateA al = r := ⟨_, rfl⟩
      have hr2 : r = 168 ∨ r = 136 := by rw [← hr]; exact rateA_two al
      have HR := Lib.hid hr
      rw [hr]
      clear hr
      refine hd_start (SBox B ⟨al, ou, ke, cu, ms⟩) (by kernel_rfl) ?_
      intro w2 hw'
      have S2 : SBox B ⟨al, ou, ke, cu, ms⟩ w2 := by rw [hw']; exact hs.below (below_draw (Below.refl _ _) 1)
      have HB2 : Hid (Below w.heap.size w w2) := by rw [hw']; exact Lib.hid (below_draw HB.out 1)
      clear hw' hs HB
      refine hd_take (v := ?_) 0 rfl (by kernel_rfl) (fun _ _ d _ _ h => (by cases d <;> exact h)) (by kernel_rfl) S2 (fun w' hS => ?_) ?_
      rotate_left
      focus (have q0 := SBox.f0 w' hS; clear hS; go_simp; try rfl; done)
      simp only [List.getElem_toArray, List.getElem_cons_succ, List.getElem_cons_zero, Act.put, List.setIfInBounds_toArray, List.set_cons_zero, List.set_cons_succ]
      refine hd_take (v := ?_) 1 rfl (by kernel_rfl) (fun _ _ d _ _ h => (by cases d <;> exact h)) (by kernel_rfl) S2 (fun w' hS => ?_) ?_
      rotate_left
      focus (have q0 := SBox.f0 w' hS; clear hS; go_simp; try rfl; done)
      simp only [List.getElem_toArray, List.getElem_cons_succ, List.getElem_cons_zero, Act.put, List.setIfInBounds_toArray, List.set_cons_zero, List.set_cons_succ]
      refine hd_take (v := ?_) 2 rfl (by kernel_rfl) (fun _ _ d _ _ h => (by cases d <;> exact h)) (by kernel_rfl) S2 (fun w' hS => ?_) ?_
      rotate_left
      focus (have q0 := SBox.f0 w' hS; clear hS; go_simp; try rfl; done)
      simp only [List.getElem_toArray, List.getElem_cons_succ, List.getElem_cons_zero, Act.put, List.setIfInBounds_toArray, List.set_cons_zero, List.set_cons_succ]
      refine hd_take (v := ?_) 5 rfl (by kernel_rfl) (fun _ _ d _ _ h => (by cases d <;> exact h)) (by kernel_rfl) S2 (fun w' hS => ?_) ?_
      rotate_left
      focus (have q0 := SBox.f0 w' hS; clear hS; go_simp; try rfl; done)
      simp only [List.getElem_toArray, List.getElem_cons_succ, List.getElem_cons_zero, Act.put, List.setIfInBounds_toArray, List.set_cons_zero, List.set_cons_succ]
      refine hd_take (v := ?_) 6 rfl (by kernel_rfl) (fun _ _ d _ _ h => (by cases d <;> exact h)) (by kernel_rfl) S2 (fun w' hS => ?_) ?_
      rotate_left
      focus (have q0 := SBox.f0 w' hS; clear hS; go_simp; try rfl; done)
      simp only [List.getElem_toArray, List.getElem_cons_succ, List.getElem_cons_zero, Act.put, List.setIfInBounds_toArray, List.set_cons_zero, List.set_cons_succ]
      refine hd_take (v := ?_) 7 rfl (by kernel_rfl) (fun _ _ d _ _ h => (by cases d <;> exact h)) (by kernel_rfl) S2 (fun w' hS => ?_) ?_
      rotate_left
      focus (have q0 := SBox.f0 w' hS; clear hS; go_simp; try rfl; done)
      simp only [List.getElem_toArray, List.getElem_cons_succ, List.getElem_cons_zero, Act.put, List.setIfInBounds_toArray, List.set_cons_zero, List.set_cons_succ]
      refine hd_one 3 (by kernel_rfl) ?_
      refine op_call rfl (by kernel_rfl) (by go_simp; first | exact ⟨rfl, rfl⟩ | rfl) ?_
      refine (rate_any al w2).mono ?_
      rintro e w3 ⟨he, hw⟩
      rw [HR.out] at he
      subst he
      subst hw
      have hS2 := S2
      refine ⟨_, rfl, hS2, ?_⟩
      simp only [List.getElem_toArray, List.getElem_cons_succ, List.getElem_cons_zero, Act.put, List.setIfInBounds_toArray, List.set_cons_zero, List.set_cons_succ]
      rcases hr2 with rfl | rfl
      · skip
        refine hd_take (v := ?_) 4 rfl (by kernel_rfl) (fun _ _ d _ _ h => (by cases d <;> exact h)) (by kernel_rfl) S2 (fun w' hS => ?_) ?_
        rotate_left
        focus (clear hS; go_simp; try rfl; done)
        simp only [List.getElem_toArray, List.getElem_cons_succ, List.getElem_cons_zero, Act.put, List.setIfInBounds_toArray, List.set_cons_zero, List.set_cons_succ]
        refine hd_one 8 (by kernel_rfl) ?_
        refine op_call rfl (by kernel_rfl) (by go_simp; first | exact ⟨rfl, rfl⟩ | rfl) ?_
        refine (rate_any al w2).mono ?_
        rintro e w3 ⟨he, hw⟩
        rw [HR.out] at he
        subst he
        subst hw
        have hS2 := S2
        refine ⟨_, rfl, hS2, ?_⟩
        simp only [List.getElem_toArray, List.getElem_cons_succ, List.getElem_cons_zero, Act.put, List.setIfInBounds_toArray, List.set_cons_zero, List.set_cons_succ]
        refine hd_take (v := ?_) 9 rfl (by kernel_rfl) (fun _ _ d _ _ h => (by cases d <;> exact h)) (by kernel_rfl) S2 (fun w' hS => ?_) ?_
        rotate_left
        focus (clear hS; go_simp; try rfl; done)
        simp only [List.getElem_toArray, List.getElem_cons_succ, List.getElem_cons_zero, Act.put, List.setIfInBounds_toArray, List.set_cons_zero, List.set_cons_succ]
        refine hd_take (v := ?_) 10 rfl (by kernel_rfl) (fun _ _ d _ _ h => (by cases d <;> exact h)) (by kernel_rfl) S2 (fun w' hS => ?_) ?_
        rotate_left
        focus (clear hS; go_simp; try rfl; done)
        simp only [List.getElem_toArray, List.getElem_cons_succ, List.getElem_cons_zero, Act.put, List.setIfInBounds_toArray, List.set_cons_zero, List.set_cons_succ]
        refine hd_take (v := ?_) 11 rfl (by kernel_rfl) (fun _ _ d _ _ h => (by cases d <;> exact h)) (by kernel_rfl) S2 (fun w' hS => ?_) ?_
        rotate_left
        focus (clear hS; go_simp; try rfl; done)
        simp only [List.getElem_toArray, List.getElem_cons_succ, List.getElem_cons_zero, Act.put, List.setIfInBounds_toArray, List.set_cons_zero, List.set_cons_succ]
        refine hd_done (by kernel_rfl) ?_
        go_wp2_with fail
        go_ret
        have q1 : IntKind.i64.wrap (IntKind.i64.wrap (b.tdiv 168) - IntKind.i64.wrap (a.tdiv 168)) = b / 168 - a / 168 := by
          rw [Int.tdiv_eq_ediv_of_nonneg hb, Int.tdiv_eq_ediv_of_nonneg ha, IntWalk.i64_in (b / 168) (by omega), IntWalk.i64_in (a / 168) (by omega), IntWalk.i64_in _ (by omega)]
        exact ⟨congrArg (fun z => Ending.returned (.int .i64 z)) (q1.trans (by rw [HR.out])), HB2.out⟩
      · skip
        refine hd_take (v := ?_) 4 rfl (by kernel_rfl) (fun _ _ d _ _ h => (by cases d <;> exact h)) (by kernel_rfl) S2 (fun w' hS => ?_) ?_
        rotate_left
        focus (clear hS; go_simp; try rfl; done)
        simp only [List.getElem_toArray, List.getElem_cons_succ, List.getElem_cons_zero, Act.put, List.setIfInBounds_toArray, List.set_cons_zero, List.set_cons_succ]
        refine hd_one 8 (by kernel_rfl) ?_
        refine op_call rfl (by kernel_rfl) (by go_simp; first | exact ⟨rfl, rfl⟩ | rfl) ?_
        refine (rate_any al w2).mono ?_
        rintro e w3 ⟨he, hw⟩
        rw [HR.out] at he
        subst he
        subst hw
        have hS2 := S2
        refine ⟨_, rfl, hS2, ?_⟩
        simp only [List.getElem_toArray, List.getElem_cons_succ, List.getElem_cons_zero, Act.put, List.setIfInBounds_toArray, List.set_cons_zero, List.set_cons_succ]
        refine hd_take (v := ?_) 9 rfl (by kernel_rfl) (fun _ _ d _ _ h => (by cases d <;> exact h)) (by kernel_rfl) S2 (fun w' hS => ?_) ?_
        rotate_left
        focus (clear hS; go_simp; try rfl; done)
        simp only [List.getElem_toArray, List.getElem_cons_succ, List.getElem_cons_zero, Act.put, List.setIfInBounds_toArray, List.set_cons_zero, List.set_cons_succ]
        refine hd_take (v := ?_) 10 rfl (by kernel_rfl) (fun _ _ d _ _ h => (by cases d <;> exact h)) (by kernel_rfl) S2 (fun w' hS => ?_) ?_
        rotate_left
        focus (clear hS; go_simp; try rfl; done)
        simp only [List.getElem_toArray, List.getElem_cons_succ, List.getElem_cons_zero, Act.put, List.setIfInBounds_toArray, List.set_cons_zero, List.set_cons_succ]
        refine hd_take (v := ?_) 11 rfl (by kernel_rfl) (fun _ _ d _ _ h => (by cases d <;> exact h)) (by kernel_rfl) S2 (fun w' hS => ?_) ?_
        rotate_left
        focus (clear hS; go_simp; try rfl; done)
        simp only [List.getElem_toArray, List.getElem_cons_succ, List.getElem_cons_zero, Act.put, List.setIfInBounds_toArray, List.set_cons_zero, List.set_cons_succ]
        refine hd_done (by kernel_rfl) ?_
        go_wp2_with fail
        go_ret
        have q1 : IntKind.i64.wrap (IntKind.i64.wrap (b.tdiv 136) - IntKind.i64.wrap (a.tdiv 136)) = b / 136 - a / 136 := by
          rw [Int.tdiv_eq_ediv_of_nonneg hb, Int.tdiv_eq_ediv_of_nonneg ha, IntWalk.i64_in (b / 136) (by omega), IntWalk.i64_in (a / 136) (by omega), IntWalk.i64_in _ (by omega)]
        exact ⟨congrArg (fun z => Ending.returned (.int .i64 z)) (q1.trans (by rw [HR.out])), HB2.out⟩
    · have t2 : decide (4 ≤ al) = false := decide_eq_false h4
      rw [if_neg h4]
      clear h4
      obtain ⟨W, hW⟩ : ∃ W, wideA al = W := ⟨_, rfl⟩
      have HW := Lib.hid hW
      rw [hW]
      have hw2 : W = 64 ∨ W = 128 := by rw [← hW]; exact wide_two al
      clear hW
      rcases hw2 with rfl | rfl <;>
      · go_enter Tryz.func68, Tryz.ntmps68
        go_wp2_with fail
        refine (event_any al _).mono ?_
        rintro e' w1 ⟨rfl, hb1⟩
        have HB : Hid (Below w.heap.size w w1) := Lib.hid (((Below.refl _ _).alloc (Nat.le_refl _) _).trans (hb1.mono (by simp)))
        clear hb1
        rw [HW.out]
        go_upto_region 6 with fail
        go_region
        all_goals go_wp2_with fail
        all_goals (go_ret; exact ⟨rfl, below_draw (HB.out.alloc HB.out.size _) 1⟩)
set_option maxHeartbeats 1000000 in
theorem works_any (t : Th) (w : World) : Calls Tryz.prog 63 #[.agg #[.int .u8 t.alg, .int .i64 t.out, .int .i64 t.key, .int .i64 t.custom, .int .i64 t.msg]] w (Told (.agg #[.int .u8 (wkK t), .int .i64 (wkS t)]) w) := by
  obtain ⟨al, ou, ke, cu, ms⟩ := t
  unfold wkK wkS
  simp only
  by_cases h3 : al = 3
  · have t1 : (al == (3 : Int)) = true := by rw [h3]; rfl
    rw [if_pos h3, if_pos h3]
    clear h3
    go_enter Tryz.func63, Tryz.ntmps63
    go_wp2_with fail
    refine bodyPost_ret (results_cell rfl (b := w.heap.size + 1) rfl (load_ev (k := .int .u8 5) (s := .int .i64 ke) ?_ ?_)) rfl ⟨rfl, ?_⟩
    · go_simp
    · go_simp
    · exact ((Below.refl _ _).alloc (Nat.le_refl _) _).alloc (by simp) _
  have t1 : (al == (3 : Int)) = false := by rw [beq_eq_false_iff_ne]; exact h3
  rw [if_neg h3, if_neg h3]
  clear h3
  by_cases h4 : 4 ≤ al
  · have t2 : decide (4 ≤ al) = true := decide_eq_true h4
    rw [if_pos h4, if_pos h4]
    clear h4
    go_enter Tryz.func63, Tryz.ntmps63
    go_wp2_with fail
    refine bodyPost_ret (results_cell rfl (b := w.heap.size + 1) rfl (load_ev (k := .int .u8 3) (s := .int .i64 200) ?_ ?_)) rfl ⟨rfl, ?_⟩
    · go_simp
    · go_simp
    · exact ((Below.refl _ _).alloc (Nat.le_refl _) _).alloc (by simp) _
  · have t2 : decide (4 ≤ al) = false := decide_eq_false h4
    rw [if_neg h4, if_neg h4]
    clear h4
    obtain ⟨K, hK⟩ : ∃ K, evkA al = K := ⟨_, rfl⟩
    obtain ⟨W, hW⟩ : ∃ W, wideA al = W := ⟨_, rfl⟩
    have HW := Lib.hid (And.intro hK hW)
    rw [hK, hW]
    clear hK hW
    go_enter Tryz.func63, Tryz.ntmps63
    go_wp2_with fail
    obtain ⟨w1, hw1⟩ : ∃ y, (w.alloc (.cells #[.int .u8 al, .int .i64 ou, .int .i64 ke, .int .i64 cu, .int .i64 ms] 97)).alloc (.cells #[.int .u8 0, .int .i64 0] 64) = y := ⟨_, rfl⟩
    have HB : Hid (Below w.heap.size w w1) := by rw [← hw1]; exact Lib.hid (((Below.refl _ _).alloc (Nat.le_refl _) _).alloc (by simp) _)
    have hblk : Blk w1 (w.heap.size + 1) 64 #[.int .u8 0, .int .i64 0] := by
      rw [← hw1]
      have := Blk.new (w.alloc (.cells #[.int .u8 al, .int .i64 ou, .int .i64 ke, .int .i64 cu, .int .i64 ms] 97)) 64 #[.int .u8 0, .int .i64 0]
      rw [show (w.alloc (.cells #[.int .u8 al, .int .i64 ou, .int .i64 ke, .int .i64 cu, .int .i64 ms] 97)).heap.size = w.heap.size + 1 from by simp] at this
      exact this
    have HBLK := Lib.hid hblk
    rw [hw1]
    clear hw1 hblk
    refine (event_any al w1).mono ?_
    rintro e' w2 ⟨rfl, hb1⟩
    rw [HW.out.1, HW.out.2]
    have hlt := HBLK.out.lt
    have b2 : Blk w2 (w.heap.size + 1) 64 #[.int .u8 0, .int .i64 0] := HBLK.out.only (Only.nothing hb1) (fun h => h)
    have c0 := b2.cellAt 0 rfl
    have c1 := b2.cellAt 1 rfl
    have f0 := b2.unfrozen 0
    have f1 := b2.unfrozen 1
    have hs2 : w.heap.size + 1 < w2.heap.size := b2.lt
    have HB2 : Hid (Below w.heap.size w w2) := Lib.hid (HB.out.trans (hb1.mono HB.out.size))
    clear b2 hb1
    go_wp2_with fail
    refine bodyPost_ret (results_cell rfl (b := w.heap.size + 1) rfl (load_ev (k := .int .u8 K) (s := .int .i64 W) ?_ ?_)) rfl ⟨rfl, ?_⟩
    · go_simp
    · go_simp
    · have h1 := (HB2.out.setCell (p := ⟨w.heap.size + 1, 0, none⟩) (by simp) (.int .u8 K)).setCell (p := ⟨w.heap.size + 1, 1, none⟩) (by simp) (.int .i64 W)
      exact h1.alloc h1.size _
set_option maxHeartbeats 1000000 in
theorem summed_any {m : Int} (t : Th) (h : OKt m t) (hm : m ≤ 900000000) (w : World) : Calls Tryz.prog 69 #[.agg #[.int .u8 t.alg, .int .i64 t.out, .int .i64 t.key, .int .i64 t.custom, .int .i64 t.msg]] w (Told (.int .i64 (summedA t)) w) := by
  have hm0 := h.m0
  have hm1 := h.m1
  have hrng := takenA_rng (t := t) (a := t.msg) (b := t.msg + endA t) hm0 (by have := endA_rng t; omega)
  have hend := endA_rng t
  have hblk := blocksA_rng (a := t.alg) hm0
  have HS := Lib.hid (SBox.new w t)
  have HTK : Hid (∀ w', Calls Tryz.prog 68 #[.agg #[.int .u8 t.alg, .int .i64 t.out, .int .i64 t.key, .int .i64 t.custom, .int .i64 t.msg], .int .i64 t.msg, .int .i64 (t.msg + endA t)] w' (Told (.int .i64 (takenA t t.msg (t.msg + endA t))) w')) := Lib.hid (fun w' => taken_any t _ _ w' hm0 (by omega) (by omega) (by omega))
  unfold summedA
  obtain ⟨K, hK⟩ : ∃ K, takenA t t.msg (t.msg + endA t) = K := ⟨_, rfl⟩
  rw [hK] at hrng HTK ⊢
  obtain ⟨E, hE⟩ : ∃ E, endA t = E := ⟨_, rfl⟩
  rw [hE] at hend HTK hrng
  have hE' : (if t.alg ≤ 5 ∧ 32 ≤ t.out then (3 : Int) else 2) = E := hE
  clear hK hE
  obtain ⟨al, ou, ke, cu, ms⟩ := t
  simp only at *
  by_cases h3 : al = 3
  · have t1 : (al == (3 : Int)) = true := by rw [h3]; rfl
    rw [if_pos h3]
    clear h3
    go_enter Tryz.func69, Tryz.ntmps69
    go_wp2_with fail
    go_ret
    exact ⟨rfl, (Below.refl _ _).alloc (Nat.le_refl _) _⟩
  have t1 : (al == (3 : Int)) = false := by rw [beq_eq_false_iff_ne]; exact h3
  rw [if_neg h3]
  clear h3
  by_cases h4 : 4 ≤ al
  · have t2 : decide (4 ≤ al) = true := decide_eq_true h4
    rw [if_pos h4]
    clear h4 hblk
    have hw1 : IntKind.i64.wrap (ms + E) = ms + E := IntWalk.i64_in _ (by omega)
    have hw2 : IntKind.i64.wrap (K + 1) = K + 1 := IntWalk.i64_in _ (by omega)
    by_cases h5 : al ≤ 5
    · have t3 : decide (al ≤ 5) = true := decide_eq_true h5
      by_cases h6 : 32 ≤ ou
      · have t4 : decide (32 ≤ ou) = true := decide_eq_true h6
        rw [if_pos ⟨h5, h6⟩] at hE'
        subst hE'
        clear h5 h6
        go_enter Tryz.func69, Tryz.ntmps69
        go_wp2_with fail
        refine (HTK.out _).mono ?_
        rintro e' w2 ⟨rfl, hb1⟩
        have HB : Hid (Below w.heap.size w w2) := Lib.hid (((Below.refl _ _).alloc (Nat.le_refl _) _).trans (hb1.mono (by simp)))
        clear hb1
        go_wp2_with fail
        go_ret
        exact ⟨rfl, HB.out⟩
      · have t4 : decide (32 ≤ ou) = false := decide_eq_false h6
        rw [if_neg (by omega)] at hE'
        subst hE'
        clear h5 h6
        go_enter Tryz.func69, Tryz.ntmps69
        go_wp2_with fail
        refine (HTK.out _).mono ?_
        rintro e' w2 ⟨rfl, hb1⟩
        have HB : Hid (Below w.heap.size w w2) := Lib.hid (((Below.refl _ _).alloc (Nat.le_refl _) _).trans (hb1.mono (by simp)))
        clear hb1
        go_wp2_with fail
        go_ret
        exact ⟨rfl, HB.out⟩
    · have t3 : decide (al ≤ 5) = false := decide_eq_false h5
      rw [if_neg (by omega)] at hE'
      subst hE'
      clear h5
      go_enter Tryz.func69, Tryz.ntmps69
      go_wp2_with fail
      refine (HTK.out _).mono ?_
      rintro e' w2 ⟨rfl, hb1⟩
      have HB : Hid (Below w.heap.size w w2) := Lib.hid (((Below.refl _ _).alloc (Nat.le_refl _) _).trans (hb1.mono (by simp)))
      clear hb1
      go_wp2_with fail
      go_ret
      exact ⟨rfl, HB.out⟩
  · have t2 : decide (4 ≤ al) = false := decide_eq_false h4
    rw [if_neg h4]
    clear h4 HTK hE' hrng hend
    have hs := HS.out
    obtain ⟨W, hW⟩ : ∃ W, wideA al = W := ⟨_, rfl⟩
    have HW := Lib.hid hW
    rw [hW]
    have hw2 : W = 64 ∨ W = 128 := by rw [← hW]; exact wide_two al
    clear hW
    obtain ⟨N, hN⟩ : ∃ N, blocksA al ms = N := ⟨_, rfl⟩
    have HN := Lib.hid hN
    rw [hN] at hblk ⊢
    clear hN
    go_enter Tryz.func69, Tryz.ntmps69
    go_wp2_with fail
    obtain ⟨w1, hw1⟩ : ∃ y, w.alloc (.cells #[.int .u8 al, .int .i64 ou, .int .i64 ke, .int .i64 cu, .int .i64 ms] 97) = y := ⟨_, rfl⟩
    have HB : Hid (Below w.heap.size w w1) := by rw [← hw1]; exact Lib.hid ((Below.refl _ _).alloc (Nat.le_refl _) _)
    rw [hw1] at hs ⊢
    clear hw1 HS
    have HS := Lib.hid hs
    clear hs
    refine (event_any al _).mono ?_
    rintro e' w2 ⟨rfl, hb1⟩
    rw [HW.out]
    obtain ⟨B, hB⟩ : ∃ B, w.heap.size = B := ⟨_, rfl⟩
    rw [hB]
    have hs2 := HS.out.below hb1
    rw [hB] at hs2
    have HB2 : Hid (Below w.heap.size w w2) := Lib.hid (HB.out.trans (hb1.mono HB.out.size))
    clear hb1 HS HB hB
    go_upto_region 9 with fail
    obtain ⟨w3, hw3⟩ : ∃ y, w2.alloc (.cells #[.int .u8 (evkA al), .int .i64 W] 64) = y := ⟨_, rfl⟩
    have hs3 : SBox B ⟨al, ou, ke, cu, ms⟩ w3 := by rw [← hw3]; exact hs2.below ((Below.refl _ _).alloc (Nat.le_refl _) _)
    have HB3 : Hid (Below w.heap.size w w3) := by rw [← hw3]; exact Lib.hid (HB2.out.alloc HB2.out.size _)
    try rw [hw3]
    clear hw3 HB2 hs2
    refine hd_start (SBox B ⟨al, ou, ke, cu, ms⟩) (by kernel_rfl) ?_
    intro w4 hw'
    have S4 : SBox B ⟨al, ou, ke, cu, ms⟩ w4 := by rw [hw']; exact hs3.below (below_draw (Below.refl _ _) 1)
    have HB4 : Hid (Below w.heap.size w w4) := by rw [hw']; exact Lib.hid (below_draw HB3.out 1)
    clear hw' hs3 HB3
    refine hd_take (v := ?_) 0 rfl (by kernel_rfl) (fun _ _ d _ _ h => (by cases d <;> exact h)) (by kernel_rfl) S4 (fun w' hS => ?_) ?_
    rotate_left
    focus (have q0 := SBox.f0 w' hS; have q1 := SBox.f4 w' hS; clear hS; go_simp; try rfl; done)
    simp only [List.getElem_toArray, List.getElem_cons_succ, List.getElem_cons_zero, Act.put, List.setIfInBounds_toArray, List.set_cons_zero, List.set_cons_succ]
    refine hd_take (v := ?_) 1 rfl (by kernel_rfl) (fun _ _ d _ _ h => (by cases d <;> exact h)) (by kernel_rfl) S4 (fun w' hS => ?_) ?_
    rotate_left
    focus (have q0 := SBox.f0 w' hS; have q1 := SBox.f4 w' hS; clear hS; go_simp; try rfl; done)
    simp only [List.getElem_toArray, List.getElem_cons_succ, List.getElem_cons_zero, Act.put, List.setIfInBounds_toArray, List.set_cons_zero, List.set_cons_succ]
    refine hd_take (v := ?_) 2 rfl (by kernel_rfl) (fun _ _ d _ _ h => (by cases d <;> exact h)) (by kernel_rfl) S4 (fun w' hS => ?_) ?_
    rotate_left
    focus (have q0 := SBox.f0 w' hS; have q1 := SBox.f4 w' hS; clear hS; go_simp; try rfl; done)
    simp only [List.getElem_toArray, List.getElem_cons_succ, List.getElem_cons_zero, Act.put, List.setIfInBounds_toArray, List.set_cons_zero, List.set_cons_succ]
    refine hd_take (v := ?_) 3 rfl (by kernel_rfl) (fun _ _ d _ _ h => (by cases d <;> exact h)) (by kernel_rfl) S4 (fun w' hS => ?_) ?_
    rotate_left
    focus (have q0 := SBox.f0 w' hS; have q1 := SBox.f4 w' hS; clear hS; go_simp; try rfl; done)
    simp only [List.getElem_toArray, List.getElem_cons_succ, List.getElem_cons_zero, Act.put, List.setIfInBounds_toArray, List.set_cons_zero, List.set_cons_succ]
    refine hd_take (v := ?_) 5 rfl (by kernel_rfl) (fun _ _ d _ _ h => (by cases d <;> exact h)) (by kernel_rfl) S4 (fun w' hS => ?_) ?_
    rotate_left
    focus (have q0 := SBox.f0 w' hS; have q1 := SBox.f4 w' hS; clear hS; go_simp; try rfl; done)
    simp only [List.getElem_toArray, List.getElem_cons_succ, List.getElem_cons_zero, Act.put, List.setIfInBounds_toArray, List.set_cons_zero, List.set_cons_succ]
    refine hd_take (v := ?_) 6 rfl (by kernel_rfl) (fun _ _ d _ _ h => (by cases d <;> exact h)) (by kernel_rfl) S4 (fun w' hS => ?_) ?_
    rotate_left
    focus (have q0 := SBox.f0 w' hS; have q1 := SBox.f4 w' hS; clear hS; go_simp; try rfl; done)
    simp only [List.getElem_toArray, List.getElem_cons_succ, List.getElem_cons_zero, Act.put, List.setIfInBounds_toArray, List.set_cons_zero, List.set_cons_succ]
    refine hd_take (v := ?_) 7 rfl (by kernel_rfl) (fun _ _ d _ _ h => (by cases d <;> exact h)) (by kernel_rfl) S4 (fun w' hS => ?_) ?_
    rotate_left
    focus (have q0 := SBox.f0 w' hS; have q1 := SBox.f4 w' hS; clear hS; go_simp; try rfl; done)
    simp only [List.getElem_toArray, List.getElem_cons_succ, List.getElem_cons_zero, Act.put, List.setIfInBounds_toArray, List.set_cons_zero, List.set_cons_succ]
    rcases hw2 with rfl | rfl
    · skip
      refine hd_take (v := ?_) 8 rfl (by kernel_rfl) (fun _ _ d _ _ h => (by cases d <;> exact h)) (by kernel_rfl) S4 (fun w' hS => ?_) ?_
      rotate_left
      focus (clear hS; go_simp; try rfl; done)
      simp only [List.getElem_toArray, List.getElem_cons_succ, List.getElem_cons_zero, Act.put, List.setIfInBounds_toArray, List.set_cons_zero, List.set_cons_succ]
      refine hd_one 4 (by kernel_rfl) ?_
      refine op_call rfl (by kernel_rfl) (by go_simp; first | exact ⟨rfl, rfl⟩ | rfl) ?_
      refine (blocks_any al ms w4 (by omega) (by omega)).mono ?_
      rintro e w5 ⟨he, hb⟩
      rw [HN.out] at he
      subst he
      have hS2 := S4.below hb
      have S5 := hS2
      have HB5 : Hid (Below w.heap.size w w5) := Lib.hid (HB4.out.trans (hb.mono HB4.out.size))
      clear hb
      refine ⟨_, rfl, hS2, ?_⟩
      simp only [List.getElem_toArray, List.getElem_cons_succ, List.getElem_cons_zero, Act.put, List.setIfInBounds_toArray, List.set_cons_zero, List.set_cons_succ]
      refine hd_take (v := ?_) 9 rfl (by kernel_rfl) (fun _ _ d _ _ h => (by cases d <;> exact h)) (by kernel_rfl) S5 (fun w' hS => ?_) ?_
      rotate_left
      focus (clear hS; go_simp; try rfl; done)
      simp only [List.getElem_toArray, List.getElem_cons_succ, List.getElem_cons_zero, Act.put, List.setIfInBounds_toArray, List.set_cons_zero, List.set_cons_succ]
      refine hd_take (v := ?_) 10 rfl (by kernel_rfl) (fun _ _ d _ _ h => (by cases d <;> exact h)) (by kernel_rfl) S5 (fun w' hS => ?_) ?_
      rotate_left
      focus (clear hS; go_simp; try rfl; done)
      simp only [List.getElem_toArray, List.getElem_cons_succ, List.getElem_cons_zero, Act.put, List.setIfInBounds_toArray, List.set_cons_zero, List.set_cons_succ]
      refine hd_take (v := ?_) 11 rfl (by kernel_rfl) (fun _ _ d _ _ h => (by cases d <;> exact h)) (by kernel_rfl) S5 (fun w' hS => ?_) ?_
      rotate_left
      focus (clear hS; go_simp; try rfl; done)
      simp only [List.getElem_toArray, List.getElem_cons_succ, List.getElem_cons_zero, Act.put, List.setIfInBounds_toArray, List.set_cons_zero, List.set_cons_succ]
      refine hd_done (by kernel_rfl) ?_
      go_wp2_with fail
      go_ret
      have q1 : IntKind.i64.wrap (IntKind.i64.wrap (N - IntKind.i64.wrap (ms.tdiv 64)) + 1) = N - ms / 64 + 1 := by
        rw [Int.tdiv_eq_ediv_of_nonneg hm0, IntWalk.i64_in (ms / 64) (by omega), IntWalk.i64_in (N - ms / 64) (by omega), IntWalk.i64_in _ (by omega)]
      exact ⟨congrArg (fun z => Ending.returned (.int .i64 z)) q1, HB5.out⟩
    · skip
      refine hd_take (v := ?_) 8 rfl (by kernel_rfl) (fun _ _ d _ _ h => (by cases d <;> exact h)) (by kernel_rfl) S4 (fun w' hS => ?_) ?_
      rotate_left
      focus (clear hS; go_simp; try rfl; done)
      simp only [List.getElem_toArray, List.getElem_cons_succ, List.getElem_cons_zero, Act.put, List.setIfInBounds_toArray, List.set_cons_zero, List.set_cons_succ]
      refine hd_one 4 (by kernel_rfl) ?_
      refine op_call rfl (by kernel_rfl) (by go_simp; first | exact ⟨rfl, rfl⟩ | rfl) ?_
      refine (blocks_any al ms w4 (by omega) (by omega)).mono ?_
      rintro e w5 ⟨he, hb⟩
      rw [HN.out] at he
      subst he
      have hS2 := S4.below hb
      have S5 := hS2
      have HB5 : Hid (Below w.heap.size w w5) := Lib.hid (HB4.out.trans (hb.mono HB4.out.size))
      clear hb
      refine ⟨_, rfl, hS2, ?_⟩
      simp only [List.getElem_toArray, List.getElem_cons_succ, List.getElem_cons_zero, Act.put, List.setIfInBounds_toArray, List.set_cons_zero, List.set_cons_succ]
      refine hd_take (v := ?_) 9 rfl (by kernel_rfl) (fun _ _ d _ _ h => (by cases d <;> exact h)) (by kernel_rfl) S5 (fun w' hS => ?_) ?_
      rotate_left
      focus (clear hS; go_simp; try rfl; done)
      simp only [List.getElem_toArray, List.getElem_cons_succ, List.getElem_cons_zero, Act.put, List.setIfInBounds_toArray, List.set_cons_zero, List.set_cons_succ]
      refine hd_take (v := ?_) 10 rfl (by kernel_rfl) (fun _ _ d _ _ h => (by cases d <;> exact h)) (by kernel_rfl) S5 (fun w' hS => ?_) ?_
      rotate_left
      focus (clear hS; go_simp; try rfl; done)
      simp only [List.getElem_toArray, List.getElem_cons_succ, List.getElem_cons_zero, Act.put, List.setIfInBounds_toArray, List.set_cons_zero, List.set_cons_succ]
      refine hd_take (v := ?_) 11 rfl (by kernel_rfl) (fun _ _ d _ _ h => (by cases d <;> exact h)) (by kernel_rfl) S5 (fun w' hS => ?_) ?_
      rotate_left
      focus (clear hS; go_simp; try rfl; done)
      simp only [List.getElem_toArray, List.getElem_cons_succ, List.getElem_cons_zero, Act.put, List.setIfInBounds_toArray, List.set_cons_zero, List.set_cons_succ]
      refine hd_done (by kernel_rfl) ?_
      go_wp2_with fail
      go_ret
      have q1 : IntKind.i64.wrap (IntKind.i64.wrap (N - IntKind.i64.wrap (ms.tdiv 128)) + 1) = N - ms / 128 + 1 := by
        rw [Int.tdiv_eq_ediv_of_nonneg hm0, IntWalk.i64_in (ms / 128) (by omega), IntWalk.i64_in (N - ms / 128) (by omega), IntWalk.i64_in _ (by omega)]
      exact ⟨congrArg (fun z => Ending.returned (.int .i64 z)) q1, HB5.out⟩
end
end Go.Proofs.YtkidijjhedjifaaGreat
/- The chapter 22's plain law: what an operation records is framed and bounded; all of them joined; what comes behind, and what a kind does not use, says nothing. No program in sight. -/
namespace Go.Proofs.YtkidijjhedjifaaGreat
set_option linter.unusedVariables false
set_option linter.unusedSimpArgs false
theorem foldl_times (l a : List Rn) : l.foldl timesN a = noteAll a l := rfl
/-- the counts' sum -/
def sumE (l : List Rn) : Int := (l.map (·.c)).sum
theorem sumE_nil : sumE [] = 0 := rfl
structure OKe (r : Rn) : Prop where
  k0 : 1 ≤ r.k
  k1 : r.k ≤ 8
  s0 : 0 ≤ r.s
  s1 : r.s ≤ 1024
  c0 : 0 ≤ r.c
  c1 : r.c ≤ 40000000
theorem OKe.of {k s c : Int} (h1 : 1 ≤ k) (h2 : k ≤ 8) (h3 : 0 ≤ s) (h4 : s ≤ 1024) (h5 : 0 ≤ c) (h6 : c ≤ 40000000) : OKe ⟨k, s, c⟩ := ⟨h1, h2, h3, h4, h5, h6⟩
/-- how many at most -/
def capB (n : Int) : Int := min (max n 0) 16777216
def boundS (s : Sk) : Int := 64 + capB s.data + capB s.out + (capB s.more + 512) * (capB s.out / 32 + 1) / 16 + 4 * capB s.count * (capB s.out / 32 + 1)
theorem capB_nonneg (n : Int) : 0 ≤ capB n ∧ capB n ≤ 16777216 := by unfold capB; omega
theorem capB_is {n : Int} (h0 : 0 ≤ n) (h1 : n ≤ 16777216) : capB n = n := by unfold capB; omega
theorem wk_ok {m : Int} {t : Th} (h : OKt m t) : 1 ≤ wkK t ∧ wkK t ≤ 8 ∧ 0 ≤ wkS t ∧ wkS t ≤ 1024 := by
  have := h.k0
  have := h.k1
  unfold wkK wkS evkA wideA
  split
  · omega
  split
  · omega
  · split <;> omega
theorem evk_ok (a : Int) : 1 ≤ evkA a ∧ evkA a ≤ 2 ∧ 64 ≤ wideA a ∧ wideA a ≤ 128 := by
  unfold evkA wideA
  split <;> omega
theorem begin_ok {m : Int} {t : Th} (h : OKt m t) (ha : 1 ≤ t.alg) : (∀ r ∈ beginE t, OKe r) ∧ 1 ≤ sumE (beginE t) ∧ sumE (beginE t) ≤ 16 := by
  have h1 := h.k0
  have h2 := h.k1
  have h3 := h.c0
  have h4 := h.c1
  unfold beginE
  split
  · refine ⟨fun r hr => ?_, by simp [sumE], by simp [sumE]⟩
    simp at hr
    rcases hr with rfl | rfl
    · exact OKe.of (by decide) (by decide) h1 (by omega) (by decide) (by decide)
    · exact OKe.of (by decide) (by decide) h1 (by omega) (by decide) (by decide)
  split
  · have q1 := codedA_rng (n := 4) (by decide)
    have q2 := codedA_rng h3
    have q3 := codedA_rng h1
    have p1 := paddedA_rng (n := codedA 4 + codedA t.custom) (rateA_two t.alg) (by omega)
    have p2 := paddedA_rng (n := codedA t.key) (rateA_two t.alg) (by omega)
    refine ⟨fun r hr => ?_, by simp [sumE]; omega, by simp [sumE]; omega⟩
    simp at hr
    subst hr
    exact OKe.of (by decide) (by decide) (by decide) (by decide) (by omega) (by omega)
  · have q1 := keyB_rng (a := t.alg) h1
    have q2 := evk_ok t.alg
    refine ⟨fun r hr => ?_, by simp [sumE]; omega, by simp [sumE]; omega⟩
    simp at hr
    subst hr
    exact ⟨q2.1, by show evkA t.alg ≤ 8; omega, by show 0 ≤ wideA t.alg; omega, by show wideA t.alg ≤ 1024; omega, by show 0 ≤ keyB t.alg t.key; omega, by show keyB t.alg t.key ≤ _; omega⟩
/-- n rounds of at most (x + 65) / 64 + 3 -/
theorem round_le {n o x : Int} (h0 : 0 ≤ n) (hn : n ≤ o) (hx : 0 ≤ x) : n * ((x + 65) / 64 + 3) ≤ (x + 512) * o / 16 := by
  have h1 : n * ((x + 65) / 64 + 3) ≤ o * ((x + 65) / 64 + 3) := Int.mul_le_mul_of_nonneg_right hn (by omega)
  have h2 : o * ((x + 65) / 64 + 3) * 16 ≤ (x + 512) * o := by
    have e : o * ((x + 65) / 64 + 3) * 16 = o * (((x + 65) / 64 + 3) * 16) := by rw [Int.mul_assoc]
    rw [e, Int.mul_comm (x + 512) o]
    exact Int.mul_le_mul_of_nonneg_left (by omega) (by omega)
  omega
theorem events_ok {m : Int} {σ : Hs} (h : OKh m σ) {s : Sk} (hd : 0 ≤ s.data) (hm : 0 ≤ s.more) (hc : codeS σ s = 0) : (∀ r ∈ evS σ s, OKe r) ∧ 0 ≤ sumE (evS σ s) ∧ sumE (evS σ s) + 2 ≤ boundS s := by
  have hcap : ∀ n, 0 ≤ capB n ∧ capB n ≤ 16777216 := capB_nonneg
  have hb0 : 64 ≤ boundS s := by
    unfold boundS
    have h1 := hcap s.data
    have h2 := hcap s.out
    have h3 := hcap s.more
    have h4 := hcap s.count
    have q1 : 0 ≤ (capB s.more + 512) * (capB s.out / 32 + 1) := Int.mul_nonneg (by omega) (by omega)
    have q2 : 0 ≤ 4 * capB s.count * (capB s.out / 32 + 1) := Int.mul_nonneg (by omega) (by omega)
    omega
  have hdata : s.data ≤ 16777216 → 64 + s.data ≤ boundS s := by
    intro hle
    unfold boundS
    rw [capB_is hd hle]
    have h2 := hcap s.out
    have h3 := hcap s.more
    have h4 := hcap s.count
    have q1 : 0 ≤ (capB s.more + 512) * (capB s.out / 32 + 1) := Int.mul_nonneg (by omega) (by omega)
    have q2 : 0 ≤ 4 * capB s.count * (capB s.out / 32 + 1) := Int.mul_nonneg (by omega) (by omega)
    omega
  have wipe : OKe ⟨8, 1024, 1⟩ := ⟨by decide, by decide, by decide, by decide, by decide, by decide⟩
  unfold codeS at hc
  unfold evS
  simp only
  by_cases k1 : s.kind = 1
  · rw [if_neg (by omega), if_neg (by omega), if_neg (by omega), if_neg (by omega), if_neg (by omega), if_neg (by omega), if_neg (by omega), sumE_nil]
    exact ⟨fun r hr => by simp at hr, Int.le_refl 0, by omega⟩
  rw [if_neg k1] at hc
  by_cases k2 : s.kind = 2
  · rw [if_pos k2] at hc ⊢
    obtain ⟨t, h1, h2, h3, h4, h5, h6, h7, h8, h9, h10⟩ := beginC_zero hc
    rw [h1]
    have ht := h.ok _ _ h1
    have := mostA_le s.alg
    have hb := begin_ok (m := 0) (t := thB t s) ⟨by show 0 ≤ s.alg; omega, by show s.alg ≤ 7; omega, by show 0 ≤ s.out; omega, fun _ => h8, by show s.out ≤ 64; omega, ht.k0, ht.k1, hd, h7, Int.le_refl 0, Int.le_refl 0⟩ h3
    exact ⟨hb.1, by have := hb.2; show 0 ≤ sumE (beginE (thB t s)); omega, by have := hb.2; show sumE (beginE (thB t s)) + 2 ≤ _; omega⟩
  rw [if_neg k2] at hc ⊢
  by_cases k3 : s.kind = 3
  · rw [if_pos k3] at hc ⊢
    obtain ⟨t, h1, h2, h3⟩ := updC_zero hc
    rw [h1]
    have ht := h.ok _ _ h1
    have q := wk_ok ht
    have g := takenA_rng (t := t) (a := t.msg) (b := t.msg + s.data) ht.m0 (by omega)
    have := hdata (by omega)
    refine ⟨fun r hr => ?_, ?_, ?_⟩
    · simp at hr
      subst hr
      exact ⟨q.1, q.2.1, q.2.2.1, q.2.2.2, g.1, by show takenA t t.msg (t.msg + s.data) ≤ _; omega⟩
    · simp [sumE]; omega
    · simp [sumE]; omega
  rw [if_neg k3] at hc ⊢
  by_cases k4 : s.kind = 4
  · rw [if_pos k4] at hc ⊢
    obtain ⟨t, h1, h2⟩ := sesC_zero hc
    rw [h1]
    have ht := h.ok _ _ h1
    have q := wk_ok ht
    have g := summedA_rng ht
    refine ⟨fun r hr => ?_, ?_, ?_⟩
    · simp at hr
      rcases hr with rfl | rfl
      · exact ⟨q.1, q.2.1, q.2.2.1, q.2.2.2, by show 0 ≤ summedA t; omega, by show summedA t ≤ _; omega⟩
      · exact wipe
    · simp [sumE]; omega
    · simp [sumE]; omega
  rw [if_neg k4] at hc ⊢
  by_cases k5 : s.kind = 5
  · rw [if_pos k5] at hc ⊢
    obtain ⟨t, h1, h2, h3⟩ := verC_zero hc
    rw [h1]
    have ht := h.ok _ _ h1
    have q := wk_ok ht
    have g := summedA_rng ht
    refine ⟨fun r hr => ?_, ?_, ?_⟩
    · simp at hr
      rcases hr with rfl | rfl | rfl
      · exact ⟨q.1, q.2.1, q.2.2.1, q.2.2.2, by show 0 ≤ summedA t; omega, by show summedA t ≤ _; omega⟩
      · exact OKe.of (by decide) (by decide) ht.o0 (by have := ht.o2; omega) (by decide) (by decide)
      · exact wipe
    · simp [sumE]; omega
    · simp [sumE]; omega
  rw [if_neg k5] at hc ⊢
  by_cases k6 : s.kind = 6
  · rw [if_neg (by omega), if_neg (by omega), if_neg (by omega), sumE_nil]
    exact ⟨fun r hr => by simp at hr, Int.le_refl 0, by omega⟩
  rw [if_neg k6] at hc
  by_cases k7 : s.kind = 7
  · rw [if_pos k7] at hc ⊢
    obtain ⟨t, h1, h2, h3, h4, h5, h6, h7, h8⟩ := hkdfC_zero hc
    rw [h1]
    have ht := h.ok _ _ h1
    have q := evk_ok s.alg
    have g := hk0_rng ht h3 hd h4
    have gn := hkN_rng h3 h6 h7
    have gt := hkTo_rng h3 hm (hkN s)
    have hk := ht.k1
    have hr1 := round_le (n := (hkN s : Int)) (o := s.out / 32 + 1) (x := s.more) (by omega) gn.2.2.1 hm
    have hr2 : (hkN s : Int) * ((s.more + 65) / 64 + 3) ≤ 16 * 1100 := by
      refine Int.le_trans (Int.mul_le_mul_of_nonneg_right gn.2.2.2 (by omega)) ?_
      omega
    have hb1 : 64 + s.data + s.out + (s.more + 512) * (s.out / 32 + 1) / 16 ≤ boundS s := by
      unfold boundS
      rw [capB_is hd (by omega), capB_is (by omega : (0 : Int) ≤ s.out) (by omega), capB_is hm (by omega)]
      have h4 := hcap s.count
      have q2 : 0 ≤ 4 * capB s.count * (s.out / 32 + 1) := Int.mul_nonneg (by omega) (by omega)
      omega
    refine ⟨fun r hr => ?_, ?_, ?_⟩
    · simp at hr
      subst hr
      exact ⟨q.1, by show evkA s.alg ≤ 8; omega, by show 0 ≤ wideA s.alg; omega, by show wideA s.alg ≤ 1024; omega, by show 0 ≤ hk0 t s + hkTo s (hkN s); omega, by show hk0 t s + hkTo s (hkN s) ≤ _; omega⟩
    · simp [sumE]; omega
    · simp [sumE]; omega
  rw [if_neg k7] at hc ⊢
  by_cases k8 : s.kind = 8
  · rw [if_pos k8] at hc ⊢
    obtain ⟨t, h1, h2, h3, h4, h5, h6, h7, h8, h9⟩ := pbkC_zero hc
    rw [h1]
    have ht := h.ok _ _ h1
    have q := evk_ok s.alg
    have gk := keyB_rng (a := s.alg) ht.k0
    have hk := ht.k1
    have gt := tagB_rng (a := s.alg) (n := s.data + 4) (by omega)
    have gn := hkN_rng h3 h7 h8
    have e1 : pbA t s = keyB s.alg t.key + (hkN s : Int) * (tagB s.alg (s.data + 4) + (s.count - 1) * 2) := by
      unfold pbA
      rw [tagB_hash h3, gn.2.1]
    have hb1 : 64 + s.data + 512 / 16 + 4 * s.count * (s.out / 32 + 1) ≤ boundS s := by
      unfold boundS
      rw [capB_is hd (by omega), capB_is (by omega : (0 : Int) ≤ s.out) (by omega), capB_is (by omega : (0 : Int) ≤ s.count) (by omega)]
      have h4 := hcap s.more
      have q2 : 512 * 1 ≤ (capB s.more + 512) * (s.out / 32 + 1) := Int.le_trans (Int.mul_le_mul_of_nonneg_right (by omega : (512 : Int) ≤ capB s.more + 512) (by decide)) (Int.mul_le_mul_of_nonneg_left (by omega) (by omega))
      omega
    have hn : hkN s = 1 ∨ hkN s = 2 ∨ hkN s = 3 ∨ hkN s = 4 ∨ hkN s = 5 ∨ hkN s = 6 ∨ hkN s = 7 ∨ hkN s = 8 ∨ hkN s = 9 ∨ hkN s = 10 ∨ hkN s = 11 ∨ hkN s = 12 ∨ hkN s = 13 ∨ hkN s = 14 ∨ hkN s = 15 ∨ hkN s = 16 := by omega
    have hle : 4 * s.count * (hkN s : Int) ≤ 4 * s.count * (s.out / 32 + 1) := Int.mul_le_mul_of_nonneg_left gn.2.2.1 (by omega)
    have hsum : 0 ≤ pbA t s ∧ pbA t s ≤ 40000000 ∧ pbA t s + 2 ≤ 64 + s.data + 512 / 16 + 4 * s.count * (hkN s : Int) := by
      rw [e1]
      rcases hn with e | e | e | e | e | e | e | e | e | e | e | e | e | e | e | e <;> rw [e] <;> omega
    refine ⟨fun r hr => ?_, ?_, ?_⟩
    · simp at hr
      subst hr
      exact ⟨q.1, by show evkA s.alg ≤ 8; omega, by show 0 ≤ wideA s.alg; omega, by show wideA s.alg ≤ 1024; omega, hsum.1, hsum.2.1⟩
    · simp [sumE]; omega
    · simp [sumE]; omega
  rw [if_neg k8]
  by_cases k10 : s.kind = 10
  · rw [if_pos k10]
    refine ⟨fun r hr => ?_, by simp [sumE], by simp [sumE]; omega⟩
    simp at hr
    subst hr
    exact wipe
  rw [if_neg k10]
  simp [sumE_nil]
  omega
/-! ### the frame -/
structure Framed (kind code : Int) (rs : List Rn) : Prop where
  ex : ∃ mid, rs = ⟨11, kind, 1⟩ :: (mid ++ [⟨12, code, 1⟩])
  nrm : Nrm rs
  off : code ≠ 0 → rs.length = 2
theorem Framed.len {kind code : Int} {rs : List Rn} (h : Framed kind code rs) : 2 ≤ rs.length ∧ rs[0]? = some ⟨11, kind, 1⟩ ∧ rs[rs.length - 1]? = some ⟨12, code, 1⟩ := by
  obtain ⟨mid, rfl⟩ := h.ex
  refine ⟨by simp, rfl, ?_⟩
  have e : (⟨11, kind, 1⟩ :: (mid ++ [⟨12, code, 1⟩]) : List Rn).length - 1 = mid.length + 1 := by simp
  rw [e]
  simp
/-! ### all operations -/
/-! ### what comes behind says nothing -/
/-! ### what a kind does not use says nothing -/
end Go.Proofs.YtkidijjhedjifaaGreat
namespace Go.Proofs.YtkidijjhedjifaaGreat
open Go.RowKit
set_option maxRecDepth 100000
set_option linter.unusedVariables false
set_option linter.unusedSimpArgs false
attribute [local go_sem] Oper.semAt_some
def Same (v : Value) (w : World) (e : Ending) (w' : World) : Prop := e = .returned v ∧ w = w'
theorem rsize_any (a : Int) (w : World) : Calls Tryz.prog 77 #[.int .u8 a] w (Same (.int .i64 (hashA a)) w) := by
  unfold hashA Same
  by_cases h1 : a = 1
  · have t1 : (a == (1 : Int)) = true := by rw [h1]; rfl
    rw [if_pos h1]
    clear h1
    go_enter Tryz.func77, Tryz.ntmps77
    go_wp2
    go_ret
    exact ⟨rfl, rfl⟩
  have t1 : (a == (1 : Int)) = false := by rw [beq_eq_false_iff_ne]; exact h1
  rw [if_neg h1]
  clear h1
  by_cases h2 : a = 2
  · have t2 : (a == (2 : Int)) = true := by rw [h2]; rfl
    rw [if_pos h2]
    clear h2
    go_enter Tryz.func77, Tryz.ntmps77
    go_wp2
    go_ret
    exact ⟨rfl, rfl⟩
  have t2 : (a == (2 : Int)) = false := by rw [beq_eq_false_iff_ne]; exact h2
  rw [if_neg h2]
  clear h2
  go_enter Tryz.func77, Tryz.ntmps77
  go_wp2
  go_ret
  exact ⟨rfl, rfl⟩

theorem rrate_any (a : Int) (w : World) : Calls Tryz.prog 83 #[.int .u8 a] w (Same (.int .i64 (rateA a)) w) := by
  unfold rateA Same
  by_cases h1 : a = 4
  · have t1 : (a == (4 : Int)) = true := by rw [h1]; rfl
    rw [if_pos (.inl h1)]
    clear h1
    go_enter Tryz.func83, Tryz.ntmps83
    go_wp2
    go_ret
    exact ⟨rfl, rfl⟩
  have t1 : (a == (4 : Int)) = false := by rw [beq_eq_false_iff_ne]; exact h1
  by_cases h2 : a = 6
  · have t2 : (a == (6 : Int)) = true := by rw [h2]; rfl
    rw [if_pos (.inr h2)]
    clear h1 h2
    go_enter Tryz.func83, Tryz.ntmps83
    go_wp2
    go_ret
    exact ⟨rfl, rfl⟩
  have t2 : (a == (6 : Int)) = false := by rw [beq_eq_false_iff_ne]; exact h2
  rw [if_neg (by omega)]
  clear h1 h2
  go_enter Tryz.func83, Tryz.ntmps83
  go_wp2
  go_ret
  exact ⟨rfl, rfl⟩

def xofR (a : Int) : Bool := if a = 6 then true else if a = 7 then true else false

theorem rxof_any (a : Int) (w : World) : Calls Tryz.prog 86 #[.int .u8 a] w (Same (.bool (xofR a)) w) := by
  unfold xofR Same
  by_cases h1 : a = 6
  · have t1 : (a == (6 : Int)) = true := by rw [h1]; rfl
    rw [if_pos h1]
    clear h1
    go_enter Tryz.func86, Tryz.ntmps86
    go_wp2
    go_ret
    exact ⟨rfl, rfl⟩
  have t1 : (a == (6 : Int)) = false := by rw [beq_eq_false_iff_ne]; exact h1
  rw [if_neg h1]
  clear h1
  by_cases h2 : a = 7
  · have t2 : (a == (7 : Int)) = true := by rw [h2]; rfl
    rw [if_pos h2]
    clear h2
    go_enter Tryz.func86, Tryz.ntmps86
    go_wp2
    go_ret
    exact ⟨rfl, rfl⟩
  have t2 : (a == (7 : Int)) = false := by rw [beq_eq_false_iff_ne]; exact h2
  rw [if_neg h2]
  clear h2
  go_enter Tryz.func86, Tryz.ntmps86
  go_wp2
  go_ret
  exact ⟨rfl, rfl⟩

theorem hashA_three (a : Int) : 0 ≤ hashA a ∧ hashA a ≤ 64 := by
  unfold hashA
  split
  · omega
  split <;> omega
theorem rblock_any (a : Int) (w : World) : Calls Tryz.prog 55 #[.int .u8 a] w (Same (.int .i64 (bA a)) w) := by
  have h := hashA_three a
  unfold bA Same
  have hw : IntKind.i64.wrap (2 * hashA a) = 2 * hashA a := IntWalk.i64_in _ (by omega)
  go_enter Tryz.func55, Tryz.ntmps55
  go_wp2_with fail
  refine (rsize_any a w).mono ?_
  rintro e w1 ⟨rfl, rfl⟩
  go_wp2_with fail
  go_ret
  exact ⟨rfl, rfl⟩
theorem revent_any (a : Int) (ha : a = 1 ∨ a = 2) (w : World) : Calls Tryz.prog 54 #[.int .u8 a] w (Same (.int .u8 (evkA a)) w) := by
  unfold Same
  rcases ha with rfl | rfl
  · show Calls _ _ _ _ fun e w' => e = .returned (.int .u8 1) ∧ _
    go_enter Tryz.func54, Tryz.ntmps54
    go_wp2
    go_ret
    exact ⟨rfl, rfl⟩
  · show Calls _ _ _ _ fun e w' => e = .returned (.int .u8 2) ∧ _
    go_enter Tryz.func54, Tryz.ntmps54
    go_wp2
    go_ret
    exact ⟨rfl, rfl⟩

theorem lastR_rng (a n : Int) : 1 ≤ lastR a n ∧ lastR a n ≤ 2 := by
  unfold lastR
  split <;> omega
set_option maxHeartbeats 1000000 in
theorem rlast_any (a n : Int) (ha : a = 1 ∨ a = 2) (h0 : 0 ≤ n) (h1 : n ≤ 1000000000) (w : World) : Calls Tryz.prog 101 #[.int .u8 a, .int .i64 n] w (Same (.int .i64 (lastR a n)) w) := by
  unfold lastR Same
  rcases ha with rfl | rfl
  · rw [bA_one]
    have hm : Int.tmod n 64 = n % 64 := Int.tmod_eq_emod_of_nonneg h0
    by_cases hc : n % 64 + 1 + 64 / 8 ≤ 64
    all_goals
      first | rw [if_pos hc] | rw [if_neg hc]
      have hc2 : (n % 64 + 1 + 8 ≤ 64) = (n % 64 + 1 + 64 / 8 ≤ 64) := rfl
      rw [← hc2] at hc
      clear hc2
      go_enter Tryz.func101, Tryz.ntmps101
      go_wp2_with fail
      refine (rblock_any 1 w).mono ?_
      rintro e w1 ⟨rfl, rfl⟩
      rw [bA_one]
      go_wp2_with fail
      all_goals first | (exfalso; omega) | (go_ret; exact ⟨rfl, rfl⟩)
  · rw [bA_two]
    have hm : Int.tmod n 128 = n % 128 := Int.tmod_eq_emod_of_nonneg h0
    by_cases hc : n % 128 + 1 + 128 / 8 ≤ 128
    all_goals
      first | rw [if_pos hc] | rw [if_neg hc]
      have hc2 : (n % 128 + 1 + 16 ≤ 128) = (n % 128 + 1 + 128 / 8 ≤ 128) := rfl
      rw [← hc2] at hc
      clear hc2
      go_enter Tryz.func101, Tryz.ntmps101
      go_wp2_with fail
      refine (rblock_any 2 w).mono ?_
      rintro e w1 ⟨rfl, rfl⟩
      rw [bA_two]
      go_wp2_with fail
      all_goals first | (exfalso; omega) | (go_ret; exact ⟨rfl, rfl⟩)
theorem rfull_any (b n m : Int) (hb : b = 64 ∨ b = 128 ∨ b = 168 ∨ b = 136) (h0 : 0 ≤ n) (h1 : n ≤ 1000000000) (h2 : 0 ≤ m) (h3 : m ≤ 1000000000) (w : World) : Calls Tryz.prog 81 #[.int .i64 b, .int .i64 n, .int .i64 m] w (Told (.int .i64 (fullR b n m)) w) := by
  unfold fullR
  rcases hb with rfl | rfl | rfl | rfl <;>
  · go_enter Tryz.func81, Tryz.ntmps81
    go_wp2_with fail
    go_quiet (fail)
    go_wp2
    go_ret
    exact ⟨rfl, ⟨rfl, rfl, rfl, Nat.le_refl _, fun _ _ => rfl⟩⟩

theorem fullR_rng {b n m : Int} (hb : b = 64 ∨ b = 128 ∨ b = 168 ∨ b = 136) (h0 : 0 ≤ n) (h2 : 0 ≤ m) : 0 ≤ fullR b n m ∧ fullR b n m ≤ m + 1 := by
  unfold fullR
  rcases hb with rfl | rfl | rfl | rfl <;> omega
theorem bA_four {a : Int} (ha : a = 1 ∨ a = 2) : bA a = 64 ∨ bA a = 128 ∨ bA a = 168 ∨ bA a = 136 := by
  rcases ha with rfl | rfl
  · exact .inl rfl
  · exact .inr (.inl rfl)
set_option maxHeartbeats 1000000 in
theorem rkeyed_any (a n : Int) (ha : a = 1 ∨ a = 2) (h0 : 0 ≤ n) (h1 : n ≤ 100000000) (w : World) : Calls Tryz.prog 78 #[.int .u8 a, .int .i64 n] w (Told (.int .i64 (keyB a n)) w) := by
  rw [← keyedR_is ha h0]
  have hf := fullR_rng (b := bA a) (n := 0) (m := n) (bA_four ha) (by omega) h0
  have hl := lastR_rng a n
  have HA := Lib.hid ha
  have HB := Lib.hid (bA_four ha)
  unfold keyedR
  obtain ⟨b, hb⟩ : ∃ b, bA a = b := ⟨_, rfl⟩
  have HBA := Lib.hid hb
  rw [hb] at hf HB ⊢
  clear hb ha
  obtain ⟨f, hfe⟩ : ∃ f, fullR b 0 n = f := ⟨_, rfl⟩
  obtain ⟨l, hle⟩ : ∃ f, lastR a n = f := ⟨_, rfl⟩
  rw [hfe] at hf ⊢
  rw [hle] at hl ⊢
  have HF := Lib.hid hfe
  have HL := Lib.hid hle
  clear hfe hle
  by_cases hc : b < n
  · rw [if_pos hc]
    have t1 : decide (b < n) = true := decide_eq_true hc
    have w1 : IntKind.i64.wrap (f + l) = f + l := IntWalk.i64_in _ (by omega)
    have w2 : IntKind.i64.wrap (f + l + 2) = f + l + 2 := IntWalk.i64_in _ (by omega)
    clear hc
    go_enter Tryz.func78, Tryz.ntmps78
    go_wp2_with fail
    refine (rblock_any a w).mono ?_
    rintro e w1 ⟨rfl, rfl⟩
    rw [HBA.out]
    go_wp2_with fail
    refine (rblock_any a w).mono ?_
    rintro e w1 ⟨rfl, rfl⟩
    rw [HBA.out]
    go_wp2_with fail
    refine (rfull_any b 0 n HB.out (by omega) (by omega) h0 (by omega) w).mono ?_
    rintro e w1 ⟨rfl, hbl⟩
    have HW := Lib.hid hbl
    clear hbl
    rw [HF.out]
    go_wp2_with fail
    refine (rlast_any a n HA.out h0 (by omega) w1).mono ?_
    rintro e w2 ⟨rfl, rfl⟩
    rw [HL.out]
    go_wp2_with fail
    go_ret
    exact ⟨rfl, HW.out⟩
  · rw [if_neg hc]
    have t1 : decide (b < n) = false := decide_eq_false hc
    clear hc
    go_enter Tryz.func78, Tryz.ntmps78
    go_wp2_with fail
    refine (rblock_any a w).mono ?_
    rintro e w1 ⟨rfl, rfl⟩
    rw [HBA.out]
    go_wp2_with fail
    go_ret
    exact ⟨rfl, Below.refl _ _⟩
set_option maxHeartbeats 1000000 in
theorem rtagged_any (a n : Int) (ha : a = 1 ∨ a = 2) (h0 : 0 ≤ n) (h1 : n ≤ 100000000) (w : World) : Calls Tryz.prog 84 #[.int .u8 a, .int .i64 n] w (Same (.int .i64 (taggedR a n)) w) := by
  unfold Same taggedR
  have hl := lastR_rng a (bA a + n)
  have hl2 := lastR_rng a (bA a + hashA a)
  have hs := hashA_three a
  have hb1 : 0 ≤ bA a ∧ bA a ≤ 128 := by unfold bA; omega
  have HA := Lib.hid ha
  obtain ⟨b, hb⟩ : ∃ b, bA a = b := ⟨_, rfl⟩
  obtain ⟨z, hz⟩ : ∃ b, hashA a = b := ⟨_, rfl⟩
  have HB := Lib.hid hb
  have HZ := Lib.hid hz
  rw [hb] at hl hl2 hb1 ⊢
  rw [hz] at hl2 hs ⊢
  clear hb hz ha
  obtain ⟨f, hfe⟩ : ∃ f, lastR a (b + n) = f := ⟨_, rfl⟩
  obtain ⟨l, hle⟩ : ∃ f, lastR a (b + z) = f := ⟨_, rfl⟩
  rw [hfe] at hl ⊢
  rw [hle] at hl2 ⊢
  have HF := Lib.hid hfe
  have HL := Lib.hid hle
  clear hfe hle
  have w1 : IntKind.i64.wrap (b + n) = b + n := IntWalk.i64_in _ (by omega)
  have w2 : IntKind.i64.wrap (b + z) = b + z := IntWalk.i64_in _ (by omega)
  have w3 : IntKind.i64.wrap (f + l) = f + l := IntWalk.i64_in _ (by omega)
  go_enter Tryz.func84, Tryz.ntmps84
  go_wp2_with fail
  refine (rblock_any a w).mono ?_
  rintro e w1 ⟨rfl, rfl⟩
  rw [HB.out]
  go_wp2_with fail
  refine (rlast_any a (b + n) HA.out (by omega) (by omega) w).mono ?_
  rintro e w1 ⟨rfl, rfl⟩
  rw [HF.out]
  go_wp2_with fail
  refine (rblock_any a w).mono ?_
  rintro e w1 ⟨rfl, rfl⟩
  rw [HB.out]
  go_wp2_with fail
  refine (rsize_any a w).mono ?_
  rintro e w1 ⟨rfl, rfl⟩
  rw [HZ.out]
  go_wp2_with fail
  refine (rlast_any a (b + z) HA.out (by omega) (by omega) w).mono ?_
  rintro e w1 ⟨rfl, rfl⟩
  rw [HL.out]
  go_wp2_with fail
  go_ret
  exact ⟨rfl, rfl⟩
set_option maxHeartbeats 1000000 in
theorem rhmac_any (a n : Int) (ha : a = 1 ∨ a = 2) (h0 : 0 ≤ n) (h1 : n ≤ 100000000) (w : World) : Calls Tryz.prog 87 #[.int .u8 a, .int .i64 n] w (Told (.int .i64 (tagB a n)) w) := by
  rw [← hmacR_is ha h0]
  have hf := fullR_rng (b := bA a) (n := 0) (m := n) (bA_four ha) (by omega) h0
  have ht : 0 ≤ taggedR a n ∧ taggedR a n ≤ 4 := by
    unfold taggedR
    have := lastR_rng a (bA a + n)
    have := lastR_rng a (bA a + hashA a)
    omega
  have HA := Lib.hid ha
  have HB := Lib.hid (bA_four ha)
  unfold hmacR
  obtain ⟨b, hb⟩ : ∃ b, bA a = b := ⟨_, rfl⟩
  have HBA := Lib.hid hb
  rw [hb] at hf HB ⊢
  clear hb ha
  obtain ⟨f, hfe⟩ : ∃ f, fullR b 0 n = f := ⟨_, rfl⟩
  obtain ⟨l, hle⟩ : ∃ f, taggedR a n = f := ⟨_, rfl⟩
  rw [hfe] at hf ⊢
  rw [hle] at ht ⊢
  have HF := Lib.hid hfe
  have HL := Lib.hid hle
  clear hfe hle
  have w1 : IntKind.i64.wrap (f + l) = f + l := IntWalk.i64_in _ (by omega)
  go_enter Tryz.func87, Tryz.ntmps87
  go_wp2_with fail
  refine (rblock_any a w).mono ?_
  rintro e w1 ⟨rfl, rfl⟩
  rw [HBA.out]
  go_wp2_with fail
  refine (rfull_any b 0 n HB.out (by omega) (by omega) h0 (by omega) w).mono ?_
  rintro e w1 ⟨rfl, hbl⟩
  have HW := Lib.hid hbl
  clear hbl
  rw [HF.out]
  go_wp2_with fail
  refine (rtagged_any a n HA.out h0 h1 w1).mono ?_
  rintro e w2 ⟨rfl, rfl⟩
  rw [HL.out]
  go_wp2_with fail
  go_ret
  exact ⟨rfl, HW.out⟩

theorem rnumber_any (n : Int) (w : World) (h0 : 0 ≤ n) (h1 : n ≤ 65535) : Calls Tryz.prog 85 #[.int .i64 n] w (Same (.int .i64 (if 256 ≤ n then 3 else 2)) w) := by
  unfold Same
  obtain ⟨T, hT⟩ : ∃ T : Int, (if 256 ≤ n then 3 else 2) = T := ⟨_, rfl⟩
  rw [hT]
  have HT := Lib.hid hT
  clear hT
  go_enter Tryz.func85, Tryz.ntmps85
  go_wp2_with fail
  go_loopw [0, 3] (fun x k wx => wx = w ∧ ∃ q : Int, x = .int .i64 q ∧ 0 ≤ q ∧ q ≤ 65535 ∧ ((k = .int .i64 2 ∧ q = n) ∨ (k = .int .i64 3 ∧ q < 256 ∧ 256 ≤ n))) (fun x _ _ => (RowKit.intOf x).toNat)
  case atStart => exact ⟨rfl, _, rfl, h0, h1, .inl ⟨rfl, rfl⟩⟩
  case round =>
    obtain ⟨rfl, q, rfl, hq0, hq1, hq⟩ := hrel
    rcases hq with ⟨rfl, rfl⟩ | ⟨rfl, hq, h2⟩
    · by_cases hp : 256 ≤ q
      · have t1 : decide (256 ≤ q) = true := decide_eq_true hp
        go_wp2_with fail
        refine ⟨⟨trivial, q / 256, rfl, by omega, by omega, .inr ⟨rfl, by omega, hp⟩⟩, ?_⟩
        simp only [RowKit.intOf]
        omega
      · have t1 : decide (256 ≤ q) = false := decide_eq_false hp
        go_wp2_with fail
        go_ret
        exact ⟨by rw [← HT.out, if_neg (by omega)]; rfl, rfl⟩
    · have t1 : decide (256 ≤ q) = false := decide_eq_false (by omega)
      go_wp2_with fail
      go_ret
      exact ⟨by rw [← HT.out, if_pos h2]; rfl, rfl⟩
theorem rtext_any (n : Int) (w : World) (h0 : 0 ≤ n) (h1 : n ≤ 8000) : Calls Tryz.prog 80 #[.int .i64 n] w (Same (.int .i64 (codedA n)) w) := by
  unfold Same
  obtain ⟨c, hc⟩ : ∃ c : Int, (if 256 ≤ 8 * n then 3 else 2) = c := ⟨_, rfl⟩
  have hcn : c + n = codedA n := by
    rw [← hc]
    unfold codedA
    split <;> split <;> omega
  have hc2 : 2 ≤ c ∧ c ≤ 3 := by rw [← hc]; split <;> omega
  have HC := Lib.hid hc
  clear hc
  have w1 : IntKind.i64.wrap (8 * n) = 8 * n := IntWalk.i64_in _ (by omega)
  have w2 : IntKind.i64.wrap (c + n) = codedA n := by rw [hcn]; exact IntWalk.i64_in _ (by omega)
  clear hcn
  go_enter Tryz.func80, Tryz.ntmps80
  go_wp2_with fail
  refine (rnumber_any (8 * n) w (by omega) (by omega)).mono ?_
  rintro e w1 ⟨rfl, rfl⟩
  rw [HC.out]
  go_wp2_with fail
  go_ret
  exact ⟨rfl, rfl⟩
theorem rpadded_any (a n : Int) (w : World) (h0 : 0 ≤ n) (h1 : n ≤ 100000000) : Calls Tryz.prog 79 #[.int .u8 a, .int .i64 n] w (Same (.int .i64 (paddedA n (rateA a))) w) := by
  unfold Same
  obtain ⟨r, hr⟩ : ∃ r, rateA a = r := ⟨_, rfl⟩
  have hr2 : r = 168 ∨ r = 136 := by rw [← hr]; exact rateA_two a
  have HR := Lib.hid hr
  rw [hr]
  clear hr
  unfold paddedA
  rcases hr2 with rfl | rfl <;>
  · go_enter Tryz.func79, Tryz.ntmps79
    go_wp2_with fail
    refine (rrate_any a w).mono ?_
    rintro e w1 ⟨rfl, rfl⟩
    rw [HR.out]
    go_wp2_with fail
    refine (rnumber_any _ w (by omega) (by omega)).mono ?_
    rintro e w1 ⟨rfl, rfl⟩
    rw [if_neg (by omega)]
    go_wp2_with fail
    refine (rrate_any a w).mono ?_
    rintro e w1 ⟨rfl, rfl⟩
    rw [HR.out]
    go_wp2_with fail
    refine (rrate_any a w).mono ?_
    rintro e w1 ⟨rfl, rfl⟩
    rw [HR.out]
    go_wp2_with fail
    go_ret
    exact ⟨rfl, rfl⟩
theorem rchained_any (n : Int) (w : World) (h0 : 0 ≤ n) (h1 : n ≤ 1000000000) : Calls Tryz.prog 82 #[.int .i64 n] w (Same (.int .i64 (lastM n)) w) := by
  unfold Same lastM
  by_cases hn : n < 1
  · rw [if_pos hn]
    have : n = 0 := by omega
    subst this
    clear hn
    go_enter Tryz.func82, Tryz.ntmps82
    go_wp2_with fail
    go_ret
    exact ⟨rfl, rfl⟩
  · rw [if_neg hn]
    have hd : 0 ≤ (n - 1) / 16 := by omega
    go_enter Tryz.func82, Tryz.ntmps82
    go_wp2_with fail
    all_goals first | (exfalso; omega) | (go_ret; exact ⟨rfl, rfl⟩) | (go_ret; refine ⟨?_, rfl⟩; show Ending.returned (.int .i64 _) = Ending.returned (.int .i64 _); congr 2; omega)
theorem rkmac_any (a : Int) (w : World) : Calls Tryz.prog 100 #[.int .u8 a] w (Same (.bool (decide (4 ≤ a ∧ a ≤ 7))) w) := by
  unfold Same
  by_cases h1 : 4 ≤ a
  · have t1 : decide (4 ≤ a) = true := decide_eq_true h1
    by_cases h2 : a ≤ 7
    · have t2 : decide (a ≤ 7) = true := decide_eq_true h2
      rw [decide_eq_true (show 4 ≤ a ∧ a ≤ 7 from ⟨h1, h2⟩)]
      clear h1 h2
      go_enter Tryz.func100, Tryz.ntmps100
      go_wp2
      go_ret
      exact ⟨rfl, rfl⟩
    · have t2 : decide (a ≤ 7) = false := decide_eq_false h2
      rw [decide_eq_false (show ¬ (4 ≤ a ∧ a ≤ 7) from fun h => h2 h.2)]
      clear h1 h2
      go_enter Tryz.func100, Tryz.ntmps100
      go_wp2
      go_ret
      exact ⟨rfl, rfl⟩
  · have t1 : decide (4 ≤ a) = false := decide_eq_false h1
    rw [decide_eq_false (show ¬ (4 ≤ a ∧ a ≤ 7) from fun h => h1 h.1)]
    clear h1
    go_enter Tryz.func100, Tryz.ntmps100
    go_wp2
    go_ret
    exact ⟨rfl, rfl⟩

theorem rtakes_any (k : Int) (w : World) : Calls Tryz.prog 49 #[.int .u8 k] w (Same (.bool (takesR k)) w) := by
  unfold Same
  by_cases h1 : k = 1
  · have ht : takesR k = true := by rw [h1]; rfl
    have t1 : (k == (1 : Int)) = true := by rw [h1]; rfl
    rw [ht]
    clear ht h1
    go_enter Tryz.func49, Tryz.ntmps49
    go_wp2
    go_ret
    exact ⟨rfl, rfl⟩
  have t1 : (k == (1 : Int)) = false := by rw [beq_eq_false_iff_ne]; exact h1
  by_cases h2 : k = 2
  · have ht : takesR k = true := by rw [h2]; rfl
    have t2 : (k == (2 : Int)) = true := by rw [h2]; rfl
    rw [ht]
    clear ht h1 h2
    go_enter Tryz.func49, Tryz.ntmps49
    go_wp2
    go_ret
    exact ⟨rfl, rfl⟩
  have t2 : (k == (2 : Int)) = false := by rw [beq_eq_false_iff_ne]; exact h2
  by_cases h6 : k = 6
  · have ht : takesR k = true := by rw [h6]; rfl
    have t6 : (k == (6 : Int)) = true := by rw [h6]; rfl
    rw [ht]
    clear ht h1 h2 h6
    go_enter Tryz.func49, Tryz.ntmps49
    go_wp2
    go_ret
    exact ⟨rfl, rfl⟩
  have t6 : (k == (6 : Int)) = false := by rw [beq_eq_false_iff_ne]; exact h6
  by_cases h7 : k = 7
  · have ht : takesR k = true := by rw [h7]; rfl
    have t7 : (k == (7 : Int)) = true := by rw [h7]; rfl
    rw [ht]
    clear ht h1 h2 h6 h7
    go_enter Tryz.func49, Tryz.ntmps49
    go_wp2
    go_ret
    exact ⟨rfl, rfl⟩
  have t7 : (k == (7 : Int)) = false := by rw [beq_eq_false_iff_ne]; exact h7
  by_cases h8 : k = 8
  · have ht : takesR k = true := by rw [h8]; rfl
    have t8 : (k == (8 : Int)) = true := by rw [h8]; rfl
    rw [ht]
    clear ht h1 h2 h6 h7 h8
    go_enter Tryz.func49, Tryz.ntmps49
    go_wp2
    go_ret
    exact ⟨rfl, rfl⟩
  have t8 : (k == (8 : Int)) = false := by rw [beq_eq_false_iff_ne]; exact h8
  have ht : takesR k = false := by unfold takesR; rw [t1, t2, t6, t7, t8]; rfl
  rw [ht]
  clear ht h1 h2 h6 h7 h8
  go_enter Tryz.func49, Tryz.ntmps49
  go_wp2
  go_ret
  exact ⟨rfl, rfl⟩

def hkL (a more : Int) : Nat → Int
  | 0 => 0
  | n + 1 => hkL a more n + tagB a ((if n = 0 then 0 else hashA a) + more + 1)
theorem hkL_is (s : Sk) : ∀ n, hkL s.alg s.more n = hkTo s n
  | 0 => rfl
  | n + 1 => by
    show hkL s.alg s.more n + _ = hkTo s n + hkR s n
    rw [hkL_is s n]
    rfl
def hkC (a out : Int) : Nat := ((out + hashA a - 1) / hashA a).toNat
set_option maxHeartbeats 2000000 in
theorem rhkdf_any (a key salt info out : Int) (ha : a = 1 ∨ a = 2) (k0 : 0 ≤ key) (k1 : key ≤ 100000) (s0 : 0 ≤ salt) (s1 : salt ≤ 100000) (i0 : 0 ≤ info) (i1 : info ≤ 100000) (o0 : 1 ≤ out) (o1 : out ≤ 512) (w : World) :
    Calls Tryz.prog 56 #[.int .u8 a, .int .i64 key, .int .i64 salt, .int .i64 info, .int .i64 out] w (Told (.int .i64 (keyB a salt + tagB a key + 2 + hkL a info (hkC a out))) w) := by
  have HA := Lib.hid ha
  obtain ⟨z, hz⟩ : ∃ b, hashA a = b := ⟨_, rfl⟩
  have hz2 : z = 32 ∨ z = 64 := by rw [← hz]; exact hashA_alg ha
  have hk2 : keyB a z = 2 := by rw [← hz]; rcases ha with rfl | rfl <;> rfl
  have r1 := keyB_rng (a := a) s0
  have r2 := tagB_rng (a := a) k0
  have hlr : ∀ n : Nat, n ≤ 16 → 0 ≤ hkL a info n ∧ hkL a info n ≤ 10000 * (n : Int) := by
    intro n
    induction n with
    | zero => intro _; exact ⟨Int.le_refl 0, Int.le_refl 0⟩
    | succ n ih =>
      intro hn
      have h1 := ih (by omega)
      have h2 := hashA_three a
      show 0 ≤ hkL a info n + tagB a ((if n = 0 then 0 else hashA a) + info + 1) ∧ _ ≤ _
      have h3 := tagB_rng (a := a) (n := (if n = 0 then 0 else hashA a) + info + 1) (by split <;> omega)
      have h4 : (if n = 0 then 0 else hashA a) + info + 1 ≤ 100100 := by split <;> omega
      show _ ∧ hkL a info n + tagB a ((if n = 0 then 0 else hashA a) + info + 1) ≤ _
      omega
  have hcn : hkC a out ≤ 16 ∧ ((hkC a out : Int) - 1) * z < out ∧ out ≤ (hkC a out : Int) * z := by
    unfold hkC
    rw [hz]
    rcases hz2 with rfl | rfl <;> omega
  obtain ⟨N, hN⟩ : ∃ n, hkC a out = n := ⟨_, rfl⟩
  rw [hN] at hcn ⊢
  have HZ := Lib.hid hz
  have HK2 := Lib.hid hk2
  have HLR := Lib.hid hlr
  obtain ⟨K0, hK0⟩ : ∃ x, keyB a salt = x := ⟨_, rfl⟩
  obtain ⟨T0, hT0⟩ : ∃ x, tagB a key = x := ⟨_, rfl⟩
  rw [hK0] at r1 ⊢
  rw [hT0] at r2 ⊢
  have HK0 := Lib.hid hK0
  have HT0 := Lib.hid hT0
  have HN := Lib.hid hcn
  clear hz hk2 hlr hcn hN ha hK0 hT0
  have w1 : IntKind.i64.wrap (K0 + T0) = K0 + T0 := IntWalk.i64_in _ (by omega)
  have w2 : IntKind.i64.wrap (K0 + T0 + 2) = K0 + T0 + 2 := IntWalk.i64_in _ (by omega)
  go_enter Tryz.func56, Tryz.ntmps56
  go_wp2_with fail
  refine (rkeyed_any a salt HA.out s0 (by omega) w).mono ?_
  rintro e w1 ⟨rfl, hb⟩
  have H1 := Lib.hid hb
  clear hb
  rw [HK0.out]
  go_wp2_with fail
  refine (rhmac_any a key HA.out k0 (by omega) w1).mono ?_
  rintro e w2 ⟨rfl, hb⟩
  have H2 := Lib.hid (H1.out.trans (hb.mono H1.out.size))
  clear hb H1
  rw [HT0.out]
  go_wp2_with fail
  refine (rsize_any a w2).mono ?_
  rintro e w2' ⟨rfl, rfl⟩
  rw [HZ.out]
  go_wp2_with fail
  refine (rkeyed_any a z HA.out (by omega) (by omega) w2).mono ?_
  rintro e w3 ⟨rfl, hb⟩
  have H3 := Lib.hid (H2.out.trans (hb.mono H2.out.size))
  clear hb H2
  rw [HK2.out]
  go_wp2_with fail
  go_loopw [11, 12] (fun nv dv wx => ∃ j : Nat, j ≤ N ∧ nv = .int .i64 (K0 + T0 + 2 + hkL a info j) ∧ dv = .int .i64 ((j : Int) * z) ∧ Hid (Below w.heap.size w wx)) (fun _ dv _ => (out + 64 - RowKit.intOf dv).toNat)
  case atStart => exact ⟨0, Nat.zero_le _, by simp [hkL], by simp, H3⟩
  case round =>
    obtain ⟨j, hj, rfl, rfl, HW⟩ := hrel
    clear H3
    obtain ⟨hN1, hN2, hN3⟩ := HN.out
    have hlj := HLR.out j (by omega)
    obtain ⟨S, hS⟩ : ∃ x, hkL a info j = x := ⟨_, rfl⟩
    rw [hS] at hlj ⊢
    have HS := Lib.hid hS
    clear hS
    by_cases hlt : j < N
    · have hdj : (j : Int) * z < out := by rcases hz2 with rfl | rfl <;> omega
      have hdz : 0 ≤ (j : Int) * z := by rcases hz2 with rfl | rfl <;> omega
      have hlj1 := HLR.out (j + 1) (by omega)
      obtain ⟨d, hd⟩ : ∃ d, (j : Int) * z = d := ⟨_, rfl⟩
      have hd1 : ((j + 1 : Nat) : Int) * z = d + z := by rw [← hd]; rcases hz2 with rfl | rfl <;> omega
      have hd0 : j = 0 ∨ (j ≠ 0 ∧ 0 < d) := by
        by_cases e : j = 0
        · exact .inl e
        · exact .inr ⟨e, by rw [← hd]; rcases hz2 with rfl | rfl <;> omega⟩
      rw [hd] at hdj hdz ⊢
      have t1 : decide (d < out) = true := decide_eq_true hdj
      have wz : IntKind.i64.wrap (d + z) = d + z := IntWalk.i64_in _ (by omega)
      have HD := Lib.hid hd1
      clear hd1 hN2 hN3
      rcases hd0 with hj0 | ⟨hj0, hd0⟩
      · have hL1 : hkL a info (j + 1) = S + tagB a (info + 1) := by
          show hkL a info j + tagB a ((if j = 0 then 0 else hashA a) + info + 1) = _
          rw [HS.out, if_pos hj0, Int.zero_add]
        have hde : d = 0 := by rw [← hd, hj0]; simp
        have t2 : decide (0 < d) = false := decide_eq_false (by omega)
        have r3 := tagB_rng (a := a) (n := info + 1) (by omega)
        rw [hL1] at hlj1
        have wa : IntKind.i64.wrap (0 + info) = info := by rw [Int.zero_add]; exact IntWalk.i64_in _ (by omega)
        have wb : IntKind.i64.wrap (info + 1) = info + 1 := IntWalk.i64_in _ (by omega)
        obtain ⟨T, hT⟩ : ∃ x, tagB a (info + 1) = x := ⟨_, rfl⟩
        rw [hT] at hL1 hlj1 r3
        have HT := Lib.hid hT
        have HL1 := Lib.hid hL1
        have wc : IntKind.i64.wrap (K0 + T0 + 2 + S + T) = K0 + T0 + 2 + S + T := IntWalk.i64_in _ (by omega)
        clear hT hL1 hd hde hj0 hN1
        go_wp2_with fail
        refine (rhmac_any a (info + 1) HA.out (by omega) (by omega) wr).mono ?_
        rintro e w5 ⟨rfl, hb⟩
        have H5 := Lib.hid (HW.out.trans (hb.mono HW.out.size))
        clear hb HW
        rw [HT.out]
        go_wp2_with fail
        refine (rsize_any a w5).mono ?_
        rintro e w5' ⟨rfl, rfl⟩
        rw [HZ.out]
        go_wp2_with fail
        refine ⟨⟨j + 1, by omega, by rw [HL1.out, Int.add_assoc], by rw [HD.out], H5⟩, ?_⟩
        simp only [RowKit.intOf]
        omega
      · have hL1 : hkL a info (j + 1) = S + tagB a (z + info + 1) := by
          show hkL a info j + tagB a ((if j = 0 then 0 else hashA a) + info + 1) = _
          rw [HS.out, if_neg hj0, HZ.out]
        have t2 : decide (0 < d) = true := decide_eq_true hd0
        have r3 := tagB_rng (a := a) (n := z + info + 1) (by omega)
        rw [hL1] at hlj1
        have wa : IntKind.i64.wrap (z + info) = z + info := IntWalk.i64_in _ (by omega)
        have wb : IntKind.i64.wrap (z + info + 1) = z + info + 1 := IntWalk.i64_in _ (by omega)
        obtain ⟨T, hT⟩ : ∃ x, tagB a (z + info + 1) = x := ⟨_, rfl⟩
        rw [hT] at hL1 hlj1 r3
        have HT := Lib.hid hT
        have HL1 := Lib.hid hL1
        have wc : IntKind.i64.wrap (K0 + T0 + 2 + S + T) = K0 + T0 + 2 + S + T := IntWalk.i64_in _ (by omega)
        clear hT hL1 hd hj0 hN1
        go_wp2_with fail
        refine (rsize_any a wr).mono ?_
        rintro e w5' ⟨rfl, rfl⟩
        rw [HZ.out]
        go_wp2_with fail
        refine (rhmac_any a (z + info + 1) HA.out (by omega) (by omega) wr).mono ?_
        rintro e w5 ⟨rfl, hb⟩
        have H5 := Lib.hid (HW.out.trans (hb.mono HW.out.size))
        clear hb HW
        rw [HT.out]
        go_wp2_with fail
        refine (rsize_any a w5).mono ?_
        rintro e w5' ⟨rfl, rfl⟩
        rw [HZ.out]
        go_wp2_with fail
        refine ⟨⟨j + 1, by omega, by rw [HL1.out, Int.add_assoc], by rw [HD.out], H5⟩, ?_⟩
        simp only [RowKit.intOf]
        omega
    · have hjN : j = N := by omega
      have hdj : ¬ (j : Int) * z < out := by rw [hjN]; omega
      have t1 : decide ((j : Int) * z < out) = false := decide_eq_false hdj
      have hS2 := HS.out
      rw [hjN] at hS2
      have HS2 := Lib.hid hS2
      clear hdj hS2
      go_wp2_with fail
      go_ret
      exact ⟨by rw [HS2.out]; rfl, HW.out⟩
theorem pb_arith {B : Int} {c g E : Int} (hB0 : 0 ≤ B) (hB1 : B ≤ 16) (hc0 : 1 ≤ c) (hc1 : c ≤ 1048576) (hg0 : 0 ≤ g) (hg1 : g ≤ 1600) (hE : E = g + (c - 1) * 2) :
    0 ≤ (c - 1) * 2 ∧ (c - 1) * 2 ≤ 2097152 ∧ 0 ≤ E ∧ E ≤ 2098752 ∧ 0 ≤ B * E ∧ B * E ≤ 33580032 := by
  have h1 : 0 ≤ E ∧ E ≤ 2098752 := by omega
  have h2 : 0 ≤ B * E := Int.mul_nonneg hB0 h1.1
  have h3 : B * E ≤ 16 * 2098752 := Int.mul_le_mul hB1 h1.2 h1.1 (by omega)
  omega
set_option maxHeartbeats 2000000 in
theorem rpbkdf_any (a key salt count out : Int) (ha : a = 1 ∨ a = 2) (k0 : 0 ≤ key) (k1 : key ≤ 100000) (s0 : 0 ≤ salt) (s1 : salt ≤ 100000) (c0 : 1 ≤ count) (c1 : count ≤ 1048576) (o0 : 1 ≤ out) (o1 : out ≤ 512) (w : World) :
    Calls Tryz.prog 57 #[.int .u8 a, .int .i64 key, .int .i64 salt, .int .i64 count, .int .i64 out] w (Told (.int .i64 (keyB a key + ((out + hashA a - 1) / hashA a) * (tagB a (salt + 4) + (count - 1) * tagB a (hashA a)))) w) := by
  have HA := Lib.hid ha
  have hth := tagB_hash ha
  obtain ⟨z, hz⟩ : ∃ b, hashA a = b := ⟨_, rfl⟩
  have hz2 : z = 32 ∨ z = 64 := by rw [← hz]; exact hashA_alg ha
  rw [hz] at hth
  have HTH := Lib.hid hth
  have r1 := keyB_rng (a := a) k0
  have r2 := tagB_rng (a := a) (n := salt + 4) (by omega)
  rw [hz, hth]
  obtain ⟨B, hB⟩ : ∃ x, (out + z - 1) / z = x := ⟨_, rfl⟩
  have hB2 : 0 ≤ B ∧ B ≤ 16 := by rw [← hB]; rcases hz2 with rfl | rfl <;> omega
  have hBt : Int.tdiv (out + z - 1) z = B := by rw [← hB]; exact Int.tdiv_eq_ediv_of_nonneg (by rcases hz2 with rfl | rfl <;> omega)
  have hz0 : z ≠ 0 := by rcases hz2 with rfl | rfl <;> decide
  have hz1 : (z == (0 : Int)) = false := by rw [beq_eq_false_iff_ne]; exact hz0
  rw [hB]
  obtain ⟨K0, hK0⟩ : ∃ x, keyB a key = x := ⟨_, rfl⟩
  obtain ⟨G, hG⟩ : ∃ x, tagB a (salt + 4) = x := ⟨_, rfl⟩
  rw [hK0] at r1 ⊢
  rw [hG] at r2 ⊢
  obtain ⟨E, hE⟩ : ∃ x, G + (count - 1) * 2 = x := ⟨_, rfl⟩
  obtain ⟨a1, a2, a3, a4, a5, a6⟩ := pb_arith (B := B) (c := count) (g := G) (E := E) hB2.1 hB2.2 c0 c1 (by omega) (by omega) hE.symm
  obtain ⟨P, hP⟩ : ∃ x, B * E = x := ⟨_, rfl⟩
  rw [hP] at a5 a6
  have w0 : IntKind.i64.wrap (out + z) = out + z := IntWalk.i64_in _ (by omega)
  have w0' : IntKind.i64.wrap (out + z - 1) = out + z - 1 := IntWalk.i64_in _ (by omega)
  have wB : IntKind.i64.wrap B = B := IntWalk.i64_in _ (by omega)
  have w1 : IntKind.i64.wrap (salt + 4) = salt + 4 := IntWalk.i64_in _ (by omega)
  have w2 : IntKind.i64.wrap (count - 1) = count - 1 := IntWalk.i64_in _ (by omega)
  have w3 : IntKind.i64.wrap ((count - 1) * 2) = (count - 1) * 2 := IntWalk.i64_in _ (by omega)
  have w4 : IntKind.i64.wrap (G + (count - 1) * 2) = E := by rw [hE]; exact IntWalk.i64_in _ (by omega)
  have w5 : IntKind.i64.wrap (B * E) = P := by rw [hP]; exact IntWalk.i64_in _ (by omega)
  have w6 : IntKind.i64.wrap (K0 + P) = K0 + P := IntWalk.i64_in _ (by omega)
  rw [hE, hP]
  have HZ := Lib.hid hz
  have HK0 := Lib.hid hK0
  have HG := Lib.hid hG
  clear hz hth hB hK0 hG hE hP ha
  go_enter Tryz.func57, Tryz.ntmps57
  go_wp2_with fail
  refine (rsize_any a w).mono ?_
  rintro e w1 ⟨rfl, rfl⟩
  rw [HZ.out]
  go_wp2_with fail
  refine (rsize_any a w).mono ?_
  rintro e w1 ⟨rfl, rfl⟩
  rw [HZ.out]
  go_wp2_with fail
  refine (rkeyed_any a key HA.out k0 (by omega) w).mono ?_
  rintro e w1 ⟨rfl, hb⟩
  have H1 := Lib.hid hb
  clear hb
  rw [HK0.out]
  go_wp2_with fail
  refine (rhmac_any a (salt + 4) HA.out (by omega) (by omega) w1).mono ?_
  rintro e w2 ⟨rfl, hb⟩
  have H2 := Lib.hid (H1.out.trans (hb.mono H1.out.size))
  clear hb H1
  rw [HG.out]
  go_wp2_with fail
  refine (rsize_any a w2).mono ?_
  rintro e w2' ⟨rfl, rfl⟩
  rw [HZ.out]
  go_wp2_with fail
  refine (rhmac_any a z HA.out (by omega) (by omega) w2).mono ?_
  rintro e w3 ⟨rfl, hb⟩
  have H3 := Lib.hid (H2.out.trans (hb.mono H2.out.size))
  clear hb H2
  rw [HTH.out]
  go_wp2_with fail
  go_ret
  exact ⟨rfl, H3.out⟩
end Go.Proofs.YtkidijjhedjifaaGreat
