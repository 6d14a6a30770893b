/- The chapter 22's counts: what the program's small functions answer. -/
import Derived.Test.YtkidijjhedjifaaRows
import Derived.Deep.DeepCutAuto
import Derived.Deep.CutBlock
import Derived.Test.YtkidijjhedjifaaQCostRows1
import Derived.Test.YtkidijjhedjifaaQCostRows2
namespace Go.Proofs.Ytkidijjhedjifaa
open Go.RowKit
set_option maxRecDepth 100000
set_option linter.unusedVariables false
set_option linter.unusedSimpArgs false
attribute [local go_sem] Oper.semAt_some
section
variable {w : World}
/-- what a function answers; the world: nothing of it turned -/
def Told (v : Value) (w : World) (e : Ending) (w' : World) : Prop := e = .returned v ∧ Below w.heap.size w w'
theorem below_draw {B : Nat} {a w : World} (h : Below B a w) (n : Nat) : Below B a (w.drewN n) := ⟨h.os, h.tape, h.output, h.size, h.block⟩
theorem load_ev {w : World} {b : Nat} {k s : Value} (h0 : w.cell? ⟨b, 0, none⟩ = some k) (h1 : w.cell? ⟨b, 1, none⟩ = some s) : (loadVar 49 ⟨b, 0, none⟩).run Try.prog w = .ok (.agg #[k, s]) w := by
  go_simp
theorem results_cell_tmp {fn : Func} {t u : Tmp} {T : TypeId} (h : fn.results = #[.cell t T, .tmp u]) {tmps : Array Value} {w : World} {b : Nat} {v : Value} (hp : tmps.getD t undef = .pointer (some ⟨b, 0, none⟩)) (hv : (loadVar T ⟨b, 0, none⟩).run Try.prog w = .ok v w) :
    (results fn tmps).run Try.prog w = .ok (.tuple #[v, tmps.getD u undef]) w := by
  have hp' : tmps[t]?.getD undef = .pointer (some ⟨b, 0, none⟩) := by simpa using hp
  simp [results, h, hp', asAddr, hv]
theorem results_cell {fn : Func} {t : Tmp} {T : TypeId} (h : fn.results = #[.cell t T]) {tmps : Array Value} {w : World} {b : Nat} {v : Value} (hp : tmps.getD t undef = .pointer (some ⟨b, 0, none⟩)) (hv : (loadVar T ⟨b, 0, none⟩).run Try.prog w = .ok v w) :
    (results fn tmps).run Try.prog w = .ok v w := by
  have hp' : tmps[t]?.getD undef = .pointer (some ⟨b, 0, none⟩) := by simpa using hp
  simp [results, h, hp', asAddr, hv]
theorem most_any (a : Int) (w : World) : Calls Try.prog 99 #[.int .u8 a] w fun e w' => e = .returned (.int .i64 (mostA a)) ∧ w = w' := by
  unfold mostA
  by_cases h1 : a = 1
  · have t1 : (a == (1 : Int)) = true := by rw [h1]; rfl
    rw [if_pos h1]
    clear h1
    go_enter Try.func99, Try.ntmps99
    go_wp2
    go_ret
    exact ⟨rfl, rfl⟩
  have t1 : (a == (1 : Int)) = false := by rw [beq_eq_false_iff_ne]; exact h1
  rw [if_neg h1]
  clear h1
  by_cases h2 : a = 3
  · have t2 : (a == (3 : Int)) = true := by rw [h2]; rfl
    rw [if_pos h2]
    clear h2
    go_enter Try.func99, Try.ntmps99
    go_wp2
    go_ret
    exact ⟨rfl, rfl⟩
  · have t2 : (a == (3 : Int)) = false := by rw [beq_eq_false_iff_ne]; exact h2
    rw [if_neg h2]
    clear h2
    go_enter Try.func99, Try.ntmps99
    go_wp2
    go_ret
    exact ⟨rfl, rfl⟩
theorem hash_any (a : Int) (w : World) : Calls Try.prog 108 #[.int .u8 a] w fun e w' => e = .returned (.int .i64 (hashA a)) ∧ w = w' := by
  unfold hashA
  by_cases h1 : a = 1
  · have t1 : (a == (1 : Int)) = true := by rw [h1]; rfl
    rw [if_pos h1]
    clear h1
    go_enter Try.func108, Try.ntmps108
    go_wp2
    go_ret
    exact ⟨rfl, rfl⟩
  have t1 : (a == (1 : Int)) = false := by rw [beq_eq_false_iff_ne]; exact h1
  rw [if_neg h1]
  clear h1
  by_cases h2 : a = 2
  · have t2 : (a == (2 : Int)) = true := by rw [h2]; rfl
    rw [if_pos h2]
    clear h2
    go_enter Try.func108, Try.ntmps108
    go_wp2
    go_ret
    exact ⟨rfl, rfl⟩
  · have t2 : (a == (2 : Int)) = false := by rw [beq_eq_false_iff_ne]; exact h2
    rw [if_neg h2]
    clear h2
    go_enter Try.func108, Try.ntmps108
    go_wp2
    go_ret
    exact ⟨rfl, rfl⟩
theorem rate_any (a : Int) (w : World) : Calls Try.prog 101 #[.int .u8 a] w fun e w' => e = .returned (.int .i64 (rateA a)) ∧ w = w' := by
  unfold rateA
  by_cases h1 : a = 4
  · have t1 : (a == (4 : Int)) = true := by rw [h1]; rfl
    rw [if_pos (.inl h1)]
    clear h1
    go_enter Try.func101, Try.ntmps101
    go_wp2
    go_ret
    exact ⟨rfl, rfl⟩
  have t1 : (a == (4 : Int)) = false := by rw [beq_eq_false_iff_ne]; exact h1
  by_cases h2 : a = 6
  · have t2 : (a == (6 : Int)) = true := by rw [h2]; rfl
    rw [if_pos (.inr h2)]
    clear h1 h2
    go_enter Try.func101, Try.ntmps101
    go_wp2
    go_ret
    exact ⟨rfl, rfl⟩
  · have t2 : (a == (6 : Int)) = false := by rw [beq_eq_false_iff_ne]; exact h2
    rw [if_neg (by omega)]
    clear h1 h2
    go_enter Try.func101, Try.ntmps101
    go_wp2
    go_ret
    exact ⟨rfl, rfl⟩
theorem event_any (a : Int) (w : World) : Calls Try.prog 110 #[.int .u8 a] w (Told (.tuple #[.agg #[.int .u8 (evkA a), .int .i64 (wideA a)], .int .i64 (wideA a)]) w) := by
  unfold evkA wideA
  by_cases h1 : a = 2
  · have t1 : (a == (2 : Int)) = true := by rw [h1]; rfl
    rw [if_pos h1, if_pos h1]
    clear h1
    go_enter Try.func110, Try.ntmps110
    go_wp2
    refine bodyPost_ret (results_cell_tmp rfl (b := w.heap.size) rfl (load_ev (k := .int .u8 2) (s := .int .i64 128) ?_ ?_)) rfl ⟨rfl, ?_⟩
    · go_simp
    · go_simp
    · exact (Below.refl _ _).alloc (Nat.le_refl _) _
  · have t1 : (a == (2 : Int)) = false := by rw [beq_eq_false_iff_ne]; exact h1
    rw [if_neg h1, if_neg h1]
    clear h1
    go_enter Try.func110, Try.ntmps110
    go_wp2
    refine bodyPost_ret (results_cell_tmp rfl (b := w.heap.size) rfl (load_ev (k := .int .u8 1) (s := .int .i64 64) ?_ ?_)) rfl ⟨rfl, ?_⟩
    · go_simp
    · go_simp
    · exact (Below.refl _ _).alloc (Nat.le_refl _) _
theorem wide_two (a : Int) : wideA a = 64 ∨ wideA a = 128 := by
  unfold wideA
  split
  · exact .inr rfl
  · exact .inl rfl
theorem blocks_any (a n : Int) (w : World) (h0 : 0 ≤ n) (h1 : n ≤ 1000000000) : Calls Try.prog 131 #[.int .u8 a, .int .i64 n] w (Told (.int .i64 (blocksA a n)) w) := by
  unfold blocksA
  rcases wide_two a with e | e <;>
  · rw [e]
    go_enter Try.func131, Try.ntmps131
    go_wp2_with fail
    refine (event_any a w).mono ?_
    rintro e' w1 ⟨rfl, hb⟩
    have HB := Lib.hid hb
    clear hb
    rw [e]
    go_wp2_with fail
    go_ret
    exact ⟨rfl, HB.out.alloc HB.out.size _⟩
theorem keyBlocks_any (a n : Int) (w : World) (h0 : 0 ≤ n) (h1 : n ≤ 1000000000) : Calls Try.prog 104 #[.int .u8 a, .int .i64 n] w (Told (.int .i64 (keyB a n)) w) := by
  have hr := blocksA_rng (a := a) h0
  unfold keyB
  obtain ⟨W, hW⟩ : ∃ W, wideA a = W := ⟨_, rfl⟩
  have HW := Lib.hid hW
  rw [hW]
  have hw2 : W = 64 ∨ W = 128 := by rw [← hW]; exact wide_two a
  clear hW
  by_cases hc : W < n
  · rw [if_pos hc]
    have t1 : decide (W < n) = true := decide_eq_true hc
    clear hc hw2
    go_enter Try.func104, Try.ntmps104
    go_wp2_with fail
    refine (event_any a w).mono ?_
    rintro e' w1 ⟨rfl, hb⟩
    have HB := Lib.hid hb
    clear hb
    rw [HW.out]
    go_wp2_with fail
    refine (blocks_any a n _ h0 h1).mono ?_
    rintro e' w2 ⟨rfl, hb⟩
    have HB2 := Lib.hid hb
    clear hb
    have hw1 : IntKind.i64.wrap (blocksA a n + 2) = blocksA a n + 2 := IntWalk.i64_in _ (by omega)
    go_wp2_with fail
    go_ret
    exact ⟨rfl, (HB.out.alloc HB.out.size _).trans (HB2.out.mono (by have := HB.out.size; simp; omega))⟩
  · rw [if_neg hc]
    have t1 : decide (W < n) = false := decide_eq_false hc
    clear hc hw2
    go_enter Try.func104, Try.ntmps104
    go_wp2_with fail
    refine (event_any a w).mono ?_
    rintro e' w1 ⟨rfl, hb⟩
    have HB := Lib.hid hb
    clear hb
    rw [HW.out]
    go_wp2_with fail
    go_ret
    exact ⟨rfl, HB.out.alloc HB.out.size _⟩
theorem tagBlocks_any (a n : Int) (w : World) (h0 : 0 ≤ n) (h1 : n ≤ 1000000000) : Calls Try.prog 111 #[.int .u8 a, .int .i64 n] w (Told (.int .i64 (tagB a n)) w) := by
  have hr := blocksA_rng (a := a) h0
  unfold tagB
  have hw1 : IntKind.i64.wrap (blocksA a n + 1) = blocksA a n + 1 := IntWalk.i64_in _ (by omega)
  go_enter Try.func111, Try.ntmps111
  go_wp2_with fail
  refine (blocks_any a n _ h0 h1).mono ?_
  rintro e' w2 ⟨rfl, hb⟩
  have HB2 := Lib.hid hb
  clear hb
  go_wp2_with fail
  go_ret
  exact ⟨rfl, HB2.out⟩
theorem padded_any (n r : Int) (w : World) (h0 : 0 ≤ n) (h1 : n ≤ 1000000000) (hr : r = 168 ∨ r = 136) : Calls Try.prog 102 #[.int .i64 n, .int .i64 r] w fun e w' => e = .returned (.int .i64 (paddedA n r)) ∧ w = w' := by
  unfold paddedA
  rcases hr with rfl | rfl <;>
  · go_enter Try.func102, Try.ntmps102
    go_wp2_with fail
    go_ret
    exact ⟨rfl, rfl⟩
theorem coded_any (n : Int) (w : World) (h0 : 0 ≤ n) (h1 : n ≤ 8000) : Calls Try.prog 103 #[.int .i64 n] w fun e w' => e = .returned (.int .i64 (codedA n)) ∧ w = w' := by
  go_enter Try.func103, Try.ntmps103
  go_wp2_with fail
  go_loopw [3, 4] (fun m x wx => wx = w ∧ ∃ q : Int, x = .int .i64 q ∧ 0 ≤ q ∧ ((m = .int .i64 1 ∧ q = 8 * n / 256) ∨ (m = .int .i64 2 ∧ q = 0 ∧ 32 ≤ n))) (fun _ x _ => (intOf x).toNat)
  case atStart => exact ⟨rfl, _, rfl, by omega, .inl ⟨rfl, rfl⟩⟩
  case round =>
    obtain ⟨rfl, q, rfl, hq0, hq⟩ := hrel
    rcases hq with ⟨rfl, hq⟩ | ⟨rfl, rfl, h32⟩
    · by_cases hp : 0 < q
      · have t1 : decide (0 < q) = true := decide_eq_true hp
        have h32 : 32 ≤ n := by omega
        have hz : q / 256 = 0 := by omega
        clear hq
        go_wp2_with fail
        refine ⟨⟨trivial, 0, by first | rfl | (rw [hz]), by omega, .inr ⟨rfl, rfl, h32⟩⟩, ?_⟩
        simp only [intOf]
        omega
      · have t1 : decide (0 < q) = false := decide_eq_false hp
        have hc : codedA n = 2 + n := by unfold codedA; rw [if_neg (by omega)]
        have hw1 : IntKind.i64.wrap (2 + n) = 2 + n := IntWalk.i64_in _ (by omega)
        have HC := Lib.hid hc
        clear hq hc
        go_wp2_with fail
        go_ret
        exact ⟨by rw [HC.out]; rfl, rfl⟩
    · have hc : codedA n = 3 + n := by unfold codedA; rw [if_pos h32]
      have hw1 : IntKind.i64.wrap (3 + n) = 3 + n := IntWalk.i64_in _ (by omega)
      have HC := Lib.hid hc
      clear hc h32
      go_wp2_with fail
      go_ret
      exact ⟨by rw [HC.out]; rfl, rfl⟩
structure SBox (b : Nat) (t : Th) (W : World) : Prop where
  c0 : W.cell? ⟨b, 0, none⟩ = some (.int .u8 t.alg)
  c1 : W.cell? ⟨b, 1, none⟩ = some (.int .i64 t.out)
  c2 : W.cell? ⟨b, 2, none⟩ = some (.int .i64 t.key)
  c3 : W.cell? ⟨b, 3, none⟩ = some (.int .i64 t.custom)
  c4 : W.cell? ⟨b, 4, none⟩ = some (.int .i64 t.msg)
theorem SBox.f0 {b : Nat} {t : Th} (W : World) (h : SBox b t W) : W.cell? ⟨b, 0, none⟩ = some (.int .u8 t.alg) := h.c0
theorem SBox.f1 {b : Nat} {t : Th} (W : World) (h : SBox b t W) : W.cell? ⟨b, 1, none⟩ = some (.int .i64 t.out) := h.c1
theorem SBox.f2 {b : Nat} {t : Th} (W : World) (h : SBox b t W) : W.cell? ⟨b, 2, none⟩ = some (.int .i64 t.key) := h.c2
theorem SBox.f3 {b : Nat} {t : Th} (W : World) (h : SBox b t W) : W.cell? ⟨b, 3, none⟩ = some (.int .i64 t.custom) := h.c3
theorem SBox.f4 {b : Nat} {t : Th} (W : World) (h : SBox b t W) : W.cell? ⟨b, 4, none⟩ = some (.int .i64 t.msg) := h.c4
theorem SBox.new (w : World) (t : Th) : SBox w.heap.size t (w.alloc (.cells #[.int .u8 t.alg, .int .i64 t.out, .int .i64 t.key, .int .i64 t.custom, .int .i64 t.msg] 130)) := by
  have h := Blk.new w 130 #[.int .u8 t.alg, .int .i64 t.out, .int .i64 t.key, .int .i64 t.custom, .int .i64 t.msg]
  exact ⟨h.cellAt 0 rfl, h.cellAt 1 rfl, h.cellAt 2 rfl, h.cellAt 3 rfl, h.cellAt 4 rfl⟩
theorem SBox.below {b : Nat} {t : Th} {w w' : World} (h : SBox b t w) (hb : Below w.heap.size w w') : SBox b t w' := by
  have hl : b < w.heap.size := World.block_lt_of_cell? w _ h.c0
  exact ⟨(hb.cell hl).trans h.c0, (hb.cell hl).trans h.c1, (hb.cell hl).trans h.c2, (hb.cell hl).trans h.c3, (hb.cell hl).trans h.c4⟩
set_option maxHeartbeats 1000000 in
theorem taken_any (t : Th) (a b : Int) (w : World) (ha : 0 ≤ a) (ha' : a ≤ 1000000000) (hb : 0 ≤ b) (hb' : b ≤ 1000000000) :
    Calls Try.prog 105 #[.agg #[.int .u8 t.alg, .int .i64 t.out, .int .i64 t.key, .int .i64 t.custom, .int .i64 t.msg], .int .i64 a, .int .i64 b] w (Told (.int .i64 (takenA t a b)) w) := by
  have HS := Lib.hid (SBox.new w t)
  obtain ⟨T, hT⟩ : ∃ T, t = T := ⟨_, rfl⟩
  have HT := Lib.hid hT
  clear hT
  obtain ⟨al, ou, ke, cu, ms⟩ := t
  unfold takenA
  simp only at HS ⊢
  by_cases h3 : al = 3
  · have t1 : (al == (3 : Int)) = true := by rw [h3]; rfl
    rw [if_pos h3]
    clear h3
    go_enter Try.func105, Try.ntmps105
    go_wp2_with fail
    all_goals (go_ret; refine ⟨?_, (Below.refl _ _).alloc (Nat.le_refl _) _⟩; show Ending.returned (.int .i64 _) = .returned (.int .i64 _); congr 2; unfold lastM; split <;> split <;> omega)
  · have t1 : (al == (3 : Int)) = false := by rw [beq_eq_false_iff_ne]; exact h3
    rw [if_neg h3]
    clear h3
    by_cases h4 : 4 ≤ al
    · have t2 : decide (4 ≤ al) = true := decide_eq_true h4
      rw [if_pos h4]
      clear h4
      go_enter Try.func105, Try.ntmps105
      go_upto_region 4 with fail
      obtain ⟨B, hB⟩ : ∃ B, w.heap.size = B := ⟨_, rfl⟩
      obtain ⟨w1, hw1⟩ : ∃ y, w.alloc (.cells #[.int .u8 al, .int .i64 ou, .int .i64 ke, .int .i64 cu, .int .i64 ms] 130) = y := ⟨_, rfl⟩
      have HB : Hid (Below w.heap.size w w1) := by rw [← hw1]; exact Lib.hid ((Below.refl _ _).alloc (Nat.le_refl _) _)
      have hs := HS.out
      rw [hw1, hB] at hs
      try rw [hw1]
      try rw [hB]
      clear hw1 hB HS
      obtain ⟨r, hr⟩ : ∃ r, rateA al = r := ⟨_, rfl⟩
      have hr2 : r = 168 ∨ r = 136 := by rw [← hr]; exact rateA_two al
      have HR := Lib.hid hr
      rw [hr]
      clear hr
      refine hd_start (SBox B ⟨al, ou, ke, cu, ms⟩) (by kernel_rfl) ?_
      intro w2 hw'
      have S2 : SBox B ⟨al, ou, ke, cu, ms⟩ w2 := by rw [hw']; exact hs.below (below_draw (Below.refl _ _) 1)
      have HB2 : Hid (Below w.heap.size w w2) := by rw [hw']; exact Lib.hid (below_draw HB.out 1)
      clear hw' hs HB
      refine hd_take (v := ?_) 0 rfl (by kernel_rfl) (fun _ _ d _ _ h => (by cases d <;> exact h)) (by kernel_rfl) S2 (fun w' hS => ?_) ?_
      rotate_left
      focus (have q0 := SBox.f0 w' hS; clear hS; go_simp; try rfl; done)
      simp only [List.getElem_toArray, List.getElem_cons_succ, List.getElem_cons_zero, Act.put, List.setIfInBounds_toArray, List.set_cons_zero, List.set_cons_succ]
      refine hd_take (v := ?_) 1 rfl (by kernel_rfl) (fun _ _ d _ _ h => (by cases d <;> exact h)) (by kernel_rfl) S2 (fun w' hS => ?_) ?_
      rotate_left
      focus (have q0 := SBox.f0 w' hS; clear hS; go_simp; try rfl; done)
      simp only [List.getElem_toArray, List.getElem_cons_succ, List.getElem_cons_zero, Act.put, List.setIfInBounds_toArray, List.set_cons_zero, List.set_cons_succ]
      refine hd_take (v := ?_) 2 rfl (by kernel_rfl) (fun _ _ d _ _ h => (by cases d <;> exact h)) (by kernel_rfl) S2 (fun w' hS => ?_) ?_
      rotate_left
      focus (have q0 := SBox.f0 w' hS; clear hS; go_simp; try rfl; done)
      simp only [List.getElem_toArray, List.getElem_cons_succ, List.getElem_cons_zero, Act.put, List.setIfInBounds_toArray, List.set_cons_zero, List.set_cons_succ]
      refine hd_take (v := ?_) 5 rfl (by kernel_rfl) (fun _ _ d _ _ h => (by cases d <;> exact h)) (by kernel_rfl) S2 (fun w' hS => ?_) ?_
      rotate_left
      focus (have q0 := SBox.f0 w' hS; clear hS; go_simp; try rfl; done)
      simp only [List.getElem_toArray, List.getElem_cons_succ, List.getElem_cons_zero, Act.put, List.setIfInBounds_toArray, List.set_cons_zero, List.set_cons_succ]
      refine hd_take (v := ?_) 6 rfl (by kernel_rfl) (fun _ _ d _ _ h => (by cases d <;> exact h)) (by kernel_rfl) S2 (fun w' hS => ?_) ?_
      rotate_left
      focus (have q0 := SBox.f0 w' hS; clear hS; go_simp; try rfl; done)
      simp only [List.getElem_toArray, List.getElem_cons_succ, List.getElem_cons_zero, Act.put, List.setIfInBounds_toArray, List.set_cons_zero, List.set_cons_succ]
      refine hd_take (v := ?_) 7 rfl (by kernel_rfl) (fun _ _ d _ _ h => (by cases d <;> exact h)) (by kernel_rfl) S2 (fun w' hS => ?_) ?_
      rotate_left
      focus (have q0 := SBox.f0 w' hS; clear hS; go_simp; try rfl; done)
      simp only [List.getElem_toArray, List.getElem_cons_succ, List.getElem_cons_zero, Act.put, List.setIfInBounds_toArray, List.set_cons_zero, List.set_cons_succ]
      refine hd_one 3 (by kernel_rfl) ?_
      refine op_call rfl (by kernel_rfl) (by go_simp; first | exact ⟨rfl, rfl⟩ | rfl) ?_
      refine (rate_any al w2).mono ?_
      rintro e w3 ⟨he, hw⟩
      rw [HR.out] at he
      subst he
      subst hw
      have hS2 := S2
      refine ⟨_, rfl, hS2, ?_⟩
      simp only [List.getElem_toArray, List.getElem_cons_succ, List.getElem_cons_zero, Act.put, List.setIfInBounds_toArray, List.set_cons_zero, List.set_cons_succ]
      rcases hr2 with rfl | rfl
      · skip
        refine hd_take (v := ?_) 4 rfl (by kernel_rfl) (fun _ _ d _ _ h => (by cases d <;> exact h)) (by kernel_rfl) S2 (fun w' hS => ?_) ?_
        rotate_left
        focus (clear hS; go_simp; try rfl; done)
        simp only [List.getElem_toArray, List.getElem_cons_succ, List.getElem_cons_zero, Act.put, List.setIfInBounds_toArray, List.set_cons_zero, List.set_cons_succ]
        refine hd_one 8 (by kernel_rfl) ?_
        refine op_call rfl (by kernel_rfl) (by go_simp; first | exact ⟨rfl, rfl⟩ | rfl) ?_
        refine (rate_any al w2).mono ?_
        rintro e w3 ⟨he, hw⟩
        rw [HR.out] at he
        subst he
        subst hw
        have hS2 := S2
        refine ⟨_, rfl, hS2, ?_⟩
        simp only [List.getElem_toArray, List.getElem_cons_succ, List.getElem_cons_zero, Act.put, List.setIfInBounds_toArray, List.set_cons_zero, List.set_cons_succ]
        refine hd_take (v := ?_) 9 rfl (by kernel_rfl) (fun _ _ d _ _ h => (by cases d <;> exact h)) (by kernel_rfl) S2 (fun w' hS => ?_) ?_
        rotate_left
        focus (clear hS; go_simp; try rfl; done)
        simp only [List.getElem_toArray, List.getElem_cons_succ, List.getElem_cons_zero, Act.put, List.setIfInBounds_toArray, List.set_cons_zero, List.set_cons_succ]
        refine hd_take (v := ?_) 10 rfl (by kernel_rfl) (fun _ _ d _ _ h => (by cases d <;> exact h)) (by kernel_rfl) S2 (fun w' hS => ?_) ?_
        rotate_left
        focus (clear hS; go_simp; try rfl; done)
        simp only [List.getElem_toArray, List.getElem_cons_succ, List.getElem_cons_zero, Act.put, List.setIfInBounds_toArray, List.set_cons_zero, List.set_cons_succ]
        refine hd_take (v := ?_) 11 rfl (by kernel_rfl) (fun _ _ d _ _ h => (by cases d <;> exact h)) (by kernel_rfl) S2 (fun w' hS => ?_) ?_
        rotate_left
        focus (clear hS; go_simp; try rfl; done)
        simp only [List.getElem_toArray, List.getElem_cons_succ, List.getElem_cons_zero, Act.put, List.setIfInBounds_toArray, List.set_cons_zero, List.set_cons_succ]
        refine hd_done (by kernel_rfl) ?_
        go_wp2_with fail
        go_ret
        have q1 : IntKind.i64.wrap (IntKind.i64.wrap (b.tdiv 168) - IntKind.i64.wrap (a.tdiv 168)) = b / 168 - a / 168 := by
          rw [Int.tdiv_eq_ediv_of_nonneg hb, Int.tdiv_eq_ediv_of_nonneg ha, IntWalk.i64_in (b / 168) (by omega), IntWalk.i64_in (a / 168) (by omega), IntWalk.i64_in _ (by omega)]
        exact ⟨congrArg (fun z => Ending.returned (.int .i64 z)) (q1.trans (by rw [HR.out])), HB2.out⟩
      · skip
        refine hd_take (v := ?_) 4 rfl (by kernel_rfl) (fun _ _ d _ _ h => (by cases d <;> exact h)) (by kernel_rfl) S2 (fun w' hS => ?_) ?_
        rotate_left
        focus (clear hS; go_simp; try rfl; done)
        simp only [List.getElem_toArray, List.getElem_cons_succ, List.getElem_cons_zero, Act.put, List.setIfInBounds_toArray, List.set_cons_zero, List.set_cons_succ]
        refine hd_one 8 (by kernel_rfl) ?_
        refine op_call rfl (by kernel_rfl) (by go_simp; first | exact ⟨rfl, rfl⟩ | rfl) ?_
        refine (rate_any al w2).mono ?_
        rintro e w3 ⟨he, hw⟩
        rw [HR.out] at he
        subst he
        subst hw
        have hS2 := S2
        refine ⟨_, rfl, hS2, ?_⟩
        simp only [List.getElem_toArray, List.getElem_cons_succ, List.getElem_cons_zero, Act.put, List.setIfInBounds_toArray, List.set_cons_zero, List.set_cons_succ]
        refine hd_take (v := ?_) 9 rfl (by kernel_rfl) (fun _ _ d _ _ h => (by cases d <;> exact h)) (by kernel_rfl) S2 (fun w' hS => ?_) ?_
        rotate_left
        focus (clear hS; go_simp; try rfl; done)
        simp only [List.getElem_toArray, List.getElem_cons_succ, List.getElem_cons_zero, Act.put, List.setIfInBounds_toArray, List.set_cons_zero, List.set_cons_succ]
        refine hd_take (v := ?_) 10 rfl (by kernel_rfl) (fun _ _ d _ _ h => (by cases d <;> exact h)) (by kernel_rfl) S2 (fun w' hS => ?_) ?_
        rotate_left
        focus (clear hS; go_simp; try rfl; done)
        simp only [List.getElem_toArray, List.getElem_cons_succ, List.getElem_cons_zero, Act.put, List.setIfInBounds_toArray, List.set_cons_zero, List.set_cons_succ]
        refine hd_take (v := ?_) 11 rfl (by kernel_rfl) (fun _ _ d _ _ h => (by cases d <;> exact h)) (by kernel_rfl) S2 (fun w' hS => ?_) ?_
        rotate_left
        focus (clear hS; go_simp; try rfl; done)
        simp only [List.getElem_toArray, List.getElem_cons_succ, List.getElem_cons_zero, Act.put, List.setIfInBounds_toArray, List.set_cons_zero, List.set_cons_succ]
        refine hd_done (by kernel_rfl) ?_
        go_wp2_with fail
        go_ret
        have q1 : IntKind.i64.wrap (IntKind.i64.wrap (b.tdiv 136) - IntKind.i64.wrap (a.tdiv 136)) = b / 136 - a / 136 := by
          rw [Int.tdiv_eq_ediv_of_nonneg hb, Int.tdiv_eq_ediv_of_nonneg ha, IntWalk.i64_in (b / 136) (by omega), IntWalk.i64_in (a / 136) (by omega), IntWalk.i64_in _ (by omega)]
        exact ⟨congrArg (fun z => Ending.returned (.int .i64 z)) (q1.trans (by rw [HR.out])), HB2.out⟩
    · have t2 : decide (4 ≤ al) = false := decide_eq_false h4
      rw [if_neg h4]
      clear h4
      obtain ⟨W, hW⟩ : ∃ W, wideA al = W := ⟨_, rfl⟩
      have HW := Lib.hid hW
      rw [hW]
      have hw2 : W = 64 ∨ W = 128 := by rw [← hW]; exact wide_two al
      clear hW
      rcases hw2 with rfl | rfl <;>
      · go_enter Try.func105, Try.ntmps105
        go_wp2_with fail
        refine (event_any al _).mono ?_
        rintro e' w1 ⟨rfl, hb1⟩
        have HB : Hid (Below w.heap.size w w1) := Lib.hid (((Below.refl _ _).alloc (Nat.le_refl _) _).trans (hb1.mono (by simp)))
        clear hb1
        rw [HW.out]
        go_upto_region 6 with fail
        go_region
        all_goals go_wp2_with fail
        all_goals (go_ret; exact ⟨rfl, below_draw (HB.out.alloc HB.out.size _) 1⟩)
set_option maxHeartbeats 1000000 in
theorem works_any (t : Th) (w : World) : Calls Try.prog 100 #[.agg #[.int .u8 t.alg, .int .i64 t.out, .int .i64 t.key, .int .i64 t.custom, .int .i64 t.msg]] w (Told (.agg #[.int .u8 (wkK t), .int .i64 (wkS t)]) w) := by
  obtain ⟨al, ou, ke, cu, ms⟩ := t
  unfold wkK wkS
  simp only
  by_cases h3 : al = 3
  · have t1 : (al == (3 : Int)) = true := by rw [h3]; rfl
    rw [if_pos h3, if_pos h3]
    clear h3
    go_enter Try.func100, Try.ntmps100
    go_wp2_with fail
    refine bodyPost_ret (results_cell rfl (b := w.heap.size + 1) rfl (load_ev (k := .int .u8 5) (s := .int .i64 ke) ?_ ?_)) rfl ⟨rfl, ?_⟩
    · go_simp
    · go_simp
    · exact ((Below.refl _ _).alloc (Nat.le_refl _) _).alloc (by simp) _
  have t1 : (al == (3 : Int)) = false := by rw [beq_eq_false_iff_ne]; exact h3
  rw [if_neg h3, if_neg h3]
  clear h3
  by_cases h4 : 4 ≤ al
  · have t2 : decide (4 ≤ al) = true := decide_eq_true h4
    rw [if_pos h4, if_pos h4]
    clear h4
    go_enter Try.func100, Try.ntmps100
    go_wp2_with fail
    refine bodyPost_ret (results_cell rfl (b := w.heap.size + 1) rfl (load_ev (k := .int .u8 3) (s := .int .i64 200) ?_ ?_)) rfl ⟨rfl, ?_⟩
    · go_simp
    · go_simp
    · exact ((Below.refl _ _).alloc (Nat.le_refl _) _).alloc (by simp) _
  · have t2 : decide (4 ≤ al) = false := decide_eq_false h4
    rw [if_neg h4, if_neg h4]
    clear h4
    obtain ⟨K, hK⟩ : ∃ K, evkA al = K := ⟨_, rfl⟩
    obtain ⟨W, hW⟩ : ∃ W, wideA al = W := ⟨_, rfl⟩
    have HW := Lib.hid (And.intro hK hW)
    rw [hK, hW]
    clear hK hW
    go_enter Try.func100, Try.ntmps100
    go_wp2_with fail
    obtain ⟨w1, hw1⟩ : ∃ y, (w.alloc (.cells #[.int .u8 al, .int .i64 ou, .int .i64 ke, .int .i64 cu, .int .i64 ms] 130)).alloc (.cells #[.int .u8 0, .int .i64 0] 49) = y := ⟨_, rfl⟩
    have HB : Hid (Below w.heap.size w w1) := by rw [← hw1]; exact Lib.hid (((Below.refl _ _).alloc (Nat.le_refl _) _).alloc (by simp) _)
    have hblk : Blk w1 (w.heap.size + 1) 49 #[.int .u8 0, .int .i64 0] := by
      rw [← hw1]
      have := Blk.new (w.alloc (.cells #[.int .u8 al, .int .i64 ou, .int .i64 ke, .int .i64 cu, .int .i64 ms] 130)) 49 #[.int .u8 0, .int .i64 0]
      rw [show (w.alloc (.cells #[.int .u8 al, .int .i64 ou, .int .i64 ke, .int .i64 cu, .int .i64 ms] 130)).heap.size = w.heap.size + 1 from by simp] at this
      exact this
    have HBLK := Lib.hid hblk
    rw [hw1]
    clear hw1 hblk
    refine (event_any al w1).mono ?_
    rintro e' w2 ⟨rfl, hb1⟩
    rw [HW.out.1, HW.out.2]
    have hlt := HBLK.out.lt
    have b2 : Blk w2 (w.heap.size + 1) 49 #[.int .u8 0, .int .i64 0] := HBLK.out.only (Only.nothing hb1) (fun h => h)
    have c0 := b2.cellAt 0 rfl
    have c1 := b2.cellAt 1 rfl
    have f0 := b2.unfrozen 0
    have f1 := b2.unfrozen 1
    have hs2 : w.heap.size + 1 < w2.heap.size := b2.lt
    have HB2 : Hid (Below w.heap.size w w2) := Lib.hid (HB.out.trans (hb1.mono HB.out.size))
    clear b2 hb1
    go_wp2_with fail
    refine bodyPost_ret (results_cell rfl (b := w.heap.size + 1) rfl (load_ev (k := .int .u8 K) (s := .int .i64 W) ?_ ?_)) rfl ⟨rfl, ?_⟩
    · go_simp
    · go_simp
    · have h1 := (HB2.out.setCell (p := ⟨w.heap.size + 1, 0, none⟩) (by simp) (.int .u8 K)).setCell (p := ⟨w.heap.size + 1, 1, none⟩) (by simp) (.int .i64 W)
      exact h1.alloc h1.size _
set_option maxHeartbeats 1000000 in
theorem summed_any {m : Int} (t : Th) (h : OKt m t) (hm : m ≤ 900000000) (w : World) : Calls Try.prog 106 #[.agg #[.int .u8 t.alg, .int .i64 t.out, .int .i64 t.key, .int .i64 t.custom, .int .i64 t.msg]] w (Told (.int .i64 (summedA t)) w) := by
  have hm0 := h.m0
  have hm1 := h.m1
  have hrng := takenA_rng (t := t) (a := t.msg) (b := t.msg + endA t) hm0 (by have := endA_rng t; omega)
  have hend := endA_rng t
  have hblk := blocksA_rng (a := t.alg) hm0
  have HS := Lib.hid (SBox.new w t)
  have HTK : Hid (∀ w', Calls Try.prog 105 #[.agg #[.int .u8 t.alg, .int .i64 t.out, .int .i64 t.key, .int .i64 t.custom, .int .i64 t.msg], .int .i64 t.msg, .int .i64 (t.msg + endA t)] w' (Told (.int .i64 (takenA t t.msg (t.msg + endA t))) w')) := Lib.hid (fun w' => taken_any t _ _ w' hm0 (by omega) (by omega) (by omega))
  unfold summedA
  obtain ⟨K, hK⟩ : ∃ K, takenA t t.msg (t.msg + endA t) = K := ⟨_, rfl⟩
  rw [hK] at hrng HTK ⊢
  obtain ⟨E, hE⟩ : ∃ E, endA t = E := ⟨_, rfl⟩
  rw [hE] at hend HTK hrng
  have hE' : (if t.alg ≤ 5 ∧ 32 ≤ t.out then (3 : Int) else 2) = E := hE
  clear hK hE
  obtain ⟨al, ou, ke, cu, ms⟩ := t
  simp only at *
  by_cases h3 : al = 3
  · have t1 : (al == (3 : Int)) = true := by rw [h3]; rfl
    rw [if_pos h3]
    clear h3
    go_enter Try.func106, Try.ntmps106
    go_wp2_with fail
    go_ret
    exact ⟨rfl, (Below.refl _ _).alloc (Nat.le_refl _) _⟩
  have t1 : (al == (3 : Int)) = false := by rw [beq_eq_false_iff_ne]; exact h3
  rw [if_neg h3]
  clear h3
  by_cases h4 : 4 ≤ al
  · have t2 : decide (4 ≤ al) = true := decide_eq_true h4
    rw [if_pos h4]
    clear h4 hblk
    have hw1 : IntKind.i64.wrap (ms + E) = ms + E := IntWalk.i64_in _ (by omega)
    have hw2 : IntKind.i64.wrap (K + 1) = K + 1 := IntWalk.i64_in _ (by omega)
    by_cases h5 : al ≤ 5
    · have t3 : decide (al ≤ 5) = true := decide_eq_true h5
      by_cases h6 : 32 ≤ ou
      · have t4 : decide (32 ≤ ou) = true := decide_eq_true h6
        rw [if_pos ⟨h5, h6⟩] at hE'
        subst hE'
        clear h5 h6
        go_enter Try.func106, Try.ntmps106
        go_wp2_with fail
        refine (HTK.out _).mono ?_
        rintro e' w2 ⟨rfl, hb1⟩
        have HB : Hid (Below w.heap.size w w2) := Lib.hid (((Below.refl _ _).alloc (Nat.le_refl _) _).trans (hb1.mono (by simp)))
        clear hb1
        go_wp2_with fail
        go_ret
        exact ⟨rfl, HB.out⟩
      · have t4 : decide (32 ≤ ou) = false := decide_eq_false h6
        rw [if_neg (by omega)] at hE'
        subst hE'
        clear h5 h6
        go_enter Try.func106, Try.ntmps106
        go_wp2_with fail
        refine (HTK.out _).mono ?_
        rintro e' w2 ⟨rfl, hb1⟩
        have HB : Hid (Below w.heap.size w w2) := Lib.hid (((Below.refl _ _).alloc (Nat.le_refl _) _).trans (hb1.mono (by simp)))
        clear hb1
        go_wp2_with fail
        go_ret
        exact ⟨rfl, HB.out⟩
    · have t3 : decide (al ≤ 5) = false := decide_eq_false h5
      rw [if_neg (by omega)] at hE'
      subst hE'
      clear h5
      go_enter Try.func106, Try.ntmps106
      go_wp2_with fail
      refine (HTK.out _).mono ?_
      rintro e' w2 ⟨rfl, hb1⟩
      have HB : Hid (Below w.heap.size w w2) := Lib.hid (((Below.refl _ _).alloc (Nat.le_refl _) _).trans (hb1.mono (by simp)))
      clear hb1
      go_wp2_with fail
      go_ret
      exact ⟨rfl, HB.out⟩
  · have t2 : decide (4 ≤ al) = false := decide_eq_false h4
    rw [if_neg h4]
    clear h4 HTK hE' hrng hend
    have hs := HS.out
    obtain ⟨W, hW⟩ : ∃ W, wideA al = W := ⟨_, rfl⟩
    have HW := Lib.hid hW
    rw [hW]
    have hw2 : W = 64 ∨ W = 128 := by rw [← hW]; exact wide_two al
    clear hW
    obtain ⟨N, hN⟩ : ∃ N, blocksA al ms = N := ⟨_, rfl⟩
    have HN := Lib.hid hN
    rw [hN] at hblk ⊢
    clear hN
    go_enter Try.func106, Try.ntmps106
    go_wp2_with fail
    obtain ⟨w1, hw1⟩ : ∃ y, w.alloc (.cells #[.int .u8 al, .int .i64 ou, .int .i64 ke, .int .i64 cu, .int .i64 ms] 130) = y := ⟨_, rfl⟩
    have HB : Hid (Below w.heap.size w w1) := by rw [← hw1]; exact Lib.hid ((Below.refl _ _).alloc (Nat.le_refl _) _)
    rw [hw1] at hs ⊢
    clear hw1 HS
    have HS := Lib.hid hs
    clear hs
    refine (event_any al _).mono ?_
    rintro e' w2 ⟨rfl, hb1⟩
    rw [HW.out]
    obtain ⟨B, hB⟩ : ∃ B, w.heap.size = B := ⟨_, rfl⟩
    rw [hB]
    have hs2 := HS.out.below hb1
    rw [hB] at hs2
    have HB2 : Hid (Below w.heap.size w w2) := Lib.hid (HB.out.trans (hb1.mono HB.out.size))
    clear hb1 HS HB hB
    go_upto_region 9 with fail
    obtain ⟨w3, hw3⟩ : ∃ y, w2.alloc (.cells #[.int .u8 (evkA al), .int .i64 W] 49) = y := ⟨_, rfl⟩
    have hs3 : SBox B ⟨al, ou, ke, cu, ms⟩ w3 := by rw [← hw3]; exact hs2.below ((Below.refl _ _).alloc (Nat.le_refl _) _)
    have HB3 : Hid (Below w.heap.size w w3) := by rw [← hw3]; exact Lib.hid (HB2.out.alloc HB2.out.size _)
    try rw [hw3]
    clear hw3 HB2 hs2
    refine hd_start (SBox B ⟨al, ou, ke, cu, ms⟩) (by kernel_rfl) ?_
    intro w4 hw'
    have S4 : SBox B ⟨al, ou, ke, cu, ms⟩ w4 := by rw [hw']; exact hs3.below (below_draw (Below.refl _ _) 1)
    have HB4 : Hid (Below w.heap.size w w4) := by rw [hw']; exact Lib.hid (below_draw HB3.out 1)
    clear hw' hs3 HB3
    refine hd_take (v := ?_) 0 rfl (by kernel_rfl) (fun _ _ d _ _ h => (by cases d <;> exact h)) (by kernel_rfl) S4 (fun w' hS => ?_) ?_
    rotate_left
    focus (have q0 := SBox.f0 w' hS; have q1 := SBox.f4 w' hS; clear hS; go_simp; try rfl; done)
    simp only [List.getElem_toArray, List.getElem_cons_succ, List.getElem_cons_zero, Act.put, List.setIfInBounds_toArray, List.set_cons_zero, List.set_cons_succ]
    refine hd_take (v := ?_) 1 rfl (by kernel_rfl) (fun _ _ d _ _ h => (by cases d <;> exact h)) (by kernel_rfl) S4 (fun w' hS => ?_) ?_
    rotate_left
    focus (have q0 := SBox.f0 w' hS; have q1 := SBox.f4 w' hS; clear hS; go_simp; try rfl; done)
    simp only [List.getElem_toArray, List.getElem_cons_succ, List.getElem_cons_zero, Act.put, List.setIfInBounds_toArray, List.set_cons_zero, List.set_cons_succ]
    refine hd_take (v := ?_) 2 rfl (by kernel_rfl) (fun _ _ d _ _ h => (by cases d <;> exact h)) (by kernel_rfl) S4 (fun w' hS => ?_) ?_
    rotate_left
    focus (have q0 := SBox.f0 w' hS; have q1 := SBox.f4 w' hS; clear hS; go_simp; try rfl; done)
    simp only [List.getElem_toArray, List.getElem_cons_succ, List.getElem_cons_zero, Act.put, List.setIfInBounds_toArray, List.set_cons_zero, List.set_cons_succ]
    refine hd_take (v := ?_) 3 rfl (by kernel_rfl) (fun _ _ d _ _ h => (by cases d <;> exact h)) (by kernel_rfl) S4 (fun w' hS => ?_) ?_
    rotate_left
    focus (have q0 := SBox.f0 w' hS; have q1 := SBox.f4 w' hS; clear hS; go_simp; try rfl; done)
    simp only [List.getElem_toArray, List.getElem_cons_succ, List.getElem_cons_zero, Act.put, List.setIfInBounds_toArray, List.set_cons_zero, List.set_cons_succ]
    refine hd_take (v := ?_) 5 rfl (by kernel_rfl) (fun _ _ d _ _ h => (by cases d <;> exact h)) (by kernel_rfl) S4 (fun w' hS => ?_) ?_
    rotate_left
    focus (have q0 := SBox.f0 w' hS; have q1 := SBox.f4 w' hS; clear hS; go_simp; try rfl; done)
    simp only [List.getElem_toArray, List.getElem_cons_succ, List.getElem_cons_zero, Act.put, List.setIfInBounds_toArray, List.set_cons_zero, List.set_cons_succ]
    refine hd_take (v := ?_) 6 rfl (by kernel_rfl) (fun _ _ d _ _ h => (by cases d <;> exact h)) (by kernel_rfl) S4 (fun w' hS => ?_) ?_
    rotate_left
    focus (have q0 := SBox.f0 w' hS; have q1 := SBox.f4 w' hS; clear hS; go_simp; try rfl; done)
    simp only [List.getElem_toArray, List.getElem_cons_succ, List.getElem_cons_zero, Act.put, List.setIfInBounds_toArray, List.set_cons_zero, List.set_cons_succ]
    refine hd_take (v := ?_) 7 rfl (by kernel_rfl) (fun _ _ d _ _ h => (by cases d <;> exact h)) (by kernel_rfl) S4 (fun w' hS => ?_) ?_
    rotate_left
    focus (have q0 := SBox.f0 w' hS; have q1 := SBox.f4 w' hS; clear hS; go_simp; try rfl; done)
    simp only [List.getElem_toArray, List.getElem_cons_succ, List.getElem_cons_zero, Act.put, List.setIfInBounds_toArray, List.set_cons_zero, List.set_cons_succ]
    rcases hw2 with rfl | rfl
    · skip
      refine hd_take (v := ?_) 8 rfl (by kernel_rfl) (fun _ _ d _ _ h => (by cases d <;> exact h)) (by kernel_rfl) S4 (fun w' hS => ?_) ?_
      rotate_left
      focus (clear hS; go_simp; try rfl; done)
      simp only [List.getElem_toArray, List.getElem_cons_succ, List.getElem_cons_zero, Act.put, List.setIfInBounds_toArray, List.set_cons_zero, List.set_cons_succ]
      refine hd_one 4 (by kernel_rfl) ?_
      refine op_call rfl (by kernel_rfl) (by go_simp; first | exact ⟨rfl, rfl⟩ | rfl) ?_
      refine (blocks_any al ms w4 (by omega) (by omega)).mono ?_
      rintro e w5 ⟨he, hb⟩
      rw [HN.out] at he
      subst he
      have hS2 := S4.below hb
      have S5 := hS2
      have HB5 : Hid (Below w.heap.size w w5) := Lib.hid (HB4.out.trans (hb.mono HB4.out.size))
      clear hb
      refine ⟨_, rfl, hS2, ?_⟩
      simp only [List.getElem_toArray, List.getElem_cons_succ, List.getElem_cons_zero, Act.put, List.setIfInBounds_toArray, List.set_cons_zero, List.set_cons_succ]
      refine hd_take (v := ?_) 9 rfl (by kernel_rfl) (fun _ _ d _ _ h => (by cases d <;> exact h)) (by kernel_rfl) S5 (fun w' hS => ?_) ?_
      rotate_left
      focus (clear hS; go_simp; try rfl; done)
      simp only [List.getElem_toArray, List.getElem_cons_succ, List.getElem_cons_zero, Act.put, List.setIfInBounds_toArray, List.set_cons_zero, List.set_cons_succ]
      refine hd_take (v := ?_) 10 rfl (by kernel_rfl) (fun _ _ d _ _ h => (by cases d <;> exact h)) (by kernel_rfl) S5 (fun w' hS => ?_) ?_
      rotate_left
      focus (clear hS; go_simp; try rfl; done)
      simp only [List.getElem_toArray, List.getElem_cons_succ, List.getElem_cons_zero, Act.put, List.setIfInBounds_toArray, List.set_cons_zero, List.set_cons_succ]
      refine hd_take (v := ?_) 11 rfl (by kernel_rfl) (fun _ _ d _ _ h => (by cases d <;> exact h)) (by kernel_rfl) S5 (fun w' hS => ?_) ?_
      rotate_left
      focus (clear hS; go_simp; try rfl; done)
      simp only [List.getElem_toArray, List.getElem_cons_succ, List.getElem_cons_zero, Act.put, List.setIfInBounds_toArray, List.set_cons_zero, List.set_cons_succ]
      refine hd_done (by kernel_rfl) ?_
      go_wp2_with fail
      go_ret
      have q1 : IntKind.i64.wrap (IntKind.i64.wrap (N - IntKind.i64.wrap (ms.tdiv 64)) + 1) = N - ms / 64 + 1 := by
        rw [Int.tdiv_eq_ediv_of_nonneg hm0, IntWalk.i64_in (ms / 64) (by omega), IntWalk.i64_in (N - ms / 64) (by omega), IntWalk.i64_in _ (by omega)]
      exact ⟨congrArg (fun z => Ending.returned (.int .i64 z)) q1, HB5.out⟩
    · skip
      refine hd_take (v := ?_) 8 rfl (by kernel_rfl) (fun _ _ d _ _ h => (by cases d <;> exact h)) (by kernel_rfl) S4 (fun w' hS => ?_) ?_
      rotate_left
      focus (clear hS; go_simp; try rfl; done)
      simp only [List.getElem_toArray, List.getElem_cons_succ, List.getElem_cons_zero, Act.put, List.setIfInBounds_toArray, List.set_cons_zero, List.set_cons_succ]
      refine hd_one 4 (by kernel_rfl) ?_
      refine op_call rfl (by kernel_rfl) (by go_simp; first | exact ⟨rfl, rfl⟩ | rfl) ?_
      refine (blocks_any al ms w4 (by omega) (by omega)).mono ?_
      rintro e w5 ⟨he, hb⟩
      rw [HN.out] at he
      subst he
      have hS2 := S4.below hb
      have S5 := hS2
      have HB5 : Hid (Below w.heap.size w w5) := Lib.hid (HB4.out.trans (hb.mono HB4.out.size))
      clear hb
      refine ⟨_, rfl, hS2, ?_⟩
      simp only [List.getElem_toArray, List.getElem_cons_succ, List.getElem_cons_zero, Act.put, List.setIfInBounds_toArray, List.set_cons_zero, List.set_cons_succ]
      refine hd_take (v := ?_) 9 rfl (by kernel_rfl) (fun _ _ d _ _ h => (by cases d <;> exact h)) (by kernel_rfl) S5 (fun w' hS => ?_) ?_
      rotate_left
      focus (clear hS; go_simp; try rfl; done)
      simp only [List.getElem_toArray, List.getElem_cons_succ, List.getElem_cons_zero, Act.put, List.setIfInBounds_toArray, List.set_cons_zero, List.set_cons_succ]
      refine hd_take (v := ?_) 10 rfl (by kernel_rfl) (fun _ _ d _ _ h => (by cases d <;> exact h)) (by kernel_rfl) S5 (fun w' hS => ?_) ?_
      rotate_left
      focus (clear hS; go_simp; try rfl; done)
      simp only [List.getElem_toArray, List.getElem_cons_succ, List.getElem_cons_zero, Act.put, List.setIfInBounds_toArray, List.set_cons_zero, List.set_cons_succ]
      refine hd_take (v := ?_) 11 rfl (by kernel_rfl) (fun _ _ d _ _ h => (by cases d <;> exact h)) (by kernel_rfl) S5 (fun w' hS => ?_) ?_
      rotate_left
      focus (clear hS; go_simp; try rfl; done)
      simp only [List.getElem_toArray, List.getElem_cons_succ, List.getElem_cons_zero, Act.put, List.setIfInBounds_toArray, List.set_cons_zero, List.set_cons_succ]
      refine hd_done (by kernel_rfl) ?_
      go_wp2_with fail
      go_ret
      have q1 : IntKind.i64.wrap (IntKind.i64.wrap (N - IntKind.i64.wrap (ms.tdiv 128)) + 1) = N - ms / 128 + 1 := by
        rw [Int.tdiv_eq_ediv_of_nonneg hm0, IntWalk.i64_in (ms / 128) (by omega), IntWalk.i64_in (N - ms / 128) (by omega), IntWalk.i64_in _ (by omega)]
      exact ⟨congrArg (fun z => Ending.returned (.int .i64 z)) q1, HB5.out⟩
end
end Go.Proofs.Ytkidijjhedjifaa
