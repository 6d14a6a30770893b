/- The document's codes of chapter 22: contracts. -/
import Derived.Test.YtkidijjhedjifaaGreatRows
import Derived.Test.YtkidijjhedjifaaGreatQCostScript3
import Derived.Test.YtkidijjhedjifaaGreatQCostScript4
namespace Go.Proofs.YtkidijjhedjifaaGreat
open Go.RowKit
set_option maxRecDepth 100000
set_option linter.unusedVariables false
set_option linter.unusedSimpArgs false
attribute [local go_sem] Oper.semAt_some
def heV (t : Th) : Value := .agg #[.int .i64 t.key, .int .u8 t.alg, .int .i64 t.out, .int .i64 t.custom, .int .i64 t.msg]
set_option maxHeartbeats 4000000 in
theorem rderives_any (s : Sk) (w : World) : Calls Tryz.prog 76 #[skV s] w (Told (.int .i64 (derR s)) w) := by
  obtain ⟨T, hT⟩ : ∃ T, derR s = T := ⟨_, rfl⟩
  rw [hT]
  have HT := Lib.hid hT
  clear hT
  have hs := hashA_three s.alg
  obtain ⟨z, hz⟩ : ∃ z, hashA s.alg = z := ⟨_, rfl⟩
  have HZ := Lib.hid hz
  rw [hz] at hs
  clear hz
  unfold skV
  have w1 : IntKind.i64.wrap (255 * z) = 255 * z := IntWalk.i64_in _ (by omega)
  have w2 : IntKind.i64.wrap (4294967295 * z) = 4294967295 * z := IntWalk.i64_in _ (by omega)
  go_enter Tryz.func76, Tryz.ntmps76
  go_wp2_with fail
  refine (rsize_any s.alg _).mono ?_
  rintro e w1 ⟨rfl, rfl⟩
  rw [HZ.out]
  go_wp2_with fail
  all_goals
    go_ret
    refine ⟨?_, (Below.refl _ _).alloc (Nat.le_refl _) _⟩
    rw [← HT.out]
    show Ending.returned (.int .i64 _) = Ending.returned (.int .i64 (derR s))
    congr 2
    have HZ' := HZ.out
    clear HT HZ w1 w2
    simp only [beq_iff_eq, beq_eq_false_iff_ne, ne_eq] at *
    unfold derR
    rw [HZ']
    clear HZ'
    repeat' (first | rfl | omega | split)
theorem beq_t {a b : Int} (h : a = b) : (a == b) = true := by rw [h]; exact beq_self_eq_true _
theorem beq_f {a b : Int} (h : ¬ a = b) : (a == b) = false := by rw [beq_eq_false_iff_ne]; exact h
theorem bne_t {a b : Int} (h : ¬ a = b) : (a != b) = true := by rw [bne_iff_ne]; exact h
theorem bne_f {a b : Int} (h : a = b) : (a != b) = false := by rw [h]; simp
set_option maxHeartbeats 4000000 in
theorem rbegins_any (s : Sk) (t : Th) (w : World) : Calls Tryz.prog 75 #[skV s, heV t] w (Told (.int .i64 (fitB t.key s 0)) w) := by
  obtain ⟨T, hT⟩ : ∃ T, fitB t.key s 0 = T := ⟨_, rfl⟩
  rw [hT]
  have HT := Lib.hid hT
  clear hT
  unfold skV heV
  by_cases h3 : s.alg = 3
  · by_cases h16 : t.key = 16
    · have f1 := beq_t h3
      have f2 := bne_f h16
      have f3 : (s.alg == (1 : Int)) = false := beq_f (by omega)
      have HK : Hid (decide (4 ≤ s.alg ∧ s.alg ≤ 7) = false) := Lib.hid (decide_eq_false (by omega))
      have HQ := Lib.hid (And.intro h3 h16)
      clear h3 h16
      go_enter Tryz.func75, Tryz.ntmps75
      go_wp2_with fail
      all_goals first
        | (with_reducible refine Calls.mono (rkmac_any s.alg _) ?_
           rintro e w1 ⟨rfl, rfl⟩
           rw [HK.out]
           go_wp2_with fail
           all_goals
             go_ret
             refine ⟨?_, ((Below.refl _ _).alloc (Nat.le_refl _) _).alloc (by simp) _⟩
             rw [← HT.out]
             show Ending.returned (.int .i64 _) = Ending.returned (.int .i64 (fitB t.key s 0))
             congr 2
             have hq := HQ.out
             clear HT HQ
             unfold fitB mostA
             repeat' (first | rfl | omega | split))
        | (go_ret
           refine ⟨?_, ((Below.refl _ _).alloc (Nat.le_refl _) _).alloc (by simp) _⟩
           rw [← HT.out]
           show Ending.returned (.int .i64 _) = Ending.returned (.int .i64 (fitB t.key s 0))
           congr 2
           have hq := HQ.out
           clear HT HQ
           unfold fitB mostA
           repeat' (first | rfl | omega | split))
    by_cases h24 : t.key = 24
    · have f1 := beq_t h3
      have f2 := bne_f h24
      have f5 := bne_t h16
      have f3 : (s.alg == (1 : Int)) = false := beq_f (by omega)
      have HK : Hid (decide (4 ≤ s.alg ∧ s.alg ≤ 7) = false) := Lib.hid (decide_eq_false (by omega))
      have HQ := Lib.hid (And.intro h3 (And.intro h16 h24))
      clear h3 h16 h24
      go_enter Tryz.func75, Tryz.ntmps75
      go_wp2_with fail
      all_goals first
        | (with_reducible refine Calls.mono (rkmac_any s.alg _) ?_
           rintro e w1 ⟨rfl, rfl⟩
           rw [HK.out]
           go_wp2_with fail
           all_goals
             go_ret
             refine ⟨?_, ((Below.refl _ _).alloc (Nat.le_refl _) _).alloc (by simp) _⟩
             rw [← HT.out]
             show Ending.returned (.int .i64 _) = Ending.returned (.int .i64 (fitB t.key s 0))
             congr 2
             have hq := HQ.out
             clear HT HQ
             unfold fitB mostA
             repeat' (first | rfl | omega | split))
        | (go_ret
           refine ⟨?_, ((Below.refl _ _).alloc (Nat.le_refl _) _).alloc (by simp) _⟩
           rw [← HT.out]
           show Ending.returned (.int .i64 _) = Ending.returned (.int .i64 (fitB t.key s 0))
           congr 2
           have hq := HQ.out
           clear HT HQ
           unfold fitB mostA
           repeat' (first | rfl | omega | split))
    by_cases h32 : t.key = 32
    · have f1 := beq_t h3
      have f2 := bne_f h32
      have f5 := bne_t h16
      have f6 := bne_t h24
      have f3 : (s.alg == (1 : Int)) = false := beq_f (by omega)
      have HK : Hid (decide (4 ≤ s.alg ∧ s.alg ≤ 7) = false) := Lib.hid (decide_eq_false (by omega))
      have HQ := Lib.hid (And.intro h3 (And.intro h16 (And.intro h24 h32)))
      clear h3 h16 h24 h32
      go_enter Tryz.func75, Tryz.ntmps75
      go_wp2_with fail
      all_goals first
        | (with_reducible refine Calls.mono (rkmac_any s.alg _) ?_
           rintro e w1 ⟨rfl, rfl⟩
           rw [HK.out]
           go_wp2_with fail
           all_goals
             go_ret
             refine ⟨?_, ((Below.refl _ _).alloc (Nat.le_refl _) _).alloc (by simp) _⟩
             rw [← HT.out]
             show Ending.returned (.int .i64 _) = Ending.returned (.int .i64 (fitB t.key s 0))
             congr 2
             have hq := HQ.out
             clear HT HQ
             unfold fitB mostA
             repeat' (first | rfl | omega | split))
        | (go_ret
           refine ⟨?_, ((Below.refl _ _).alloc (Nat.le_refl _) _).alloc (by simp) _⟩
           rw [← HT.out]
           show Ending.returned (.int .i64 _) = Ending.returned (.int .i64 (fitB t.key s 0))
           congr 2
           have hq := HQ.out
           clear HT HQ
           unfold fitB mostA
           repeat' (first | rfl | omega | split))
    · have f1 := beq_t h3
      have f2 := bne_t h32
      have f5 := bne_t h16
      have f6 := bne_t h24
      have f3 : (s.alg == (1 : Int)) = false := beq_f (by omega)
      have HK : Hid (decide (4 ≤ s.alg ∧ s.alg ≤ 7) = false) := Lib.hid (decide_eq_false (by omega))
      have HQ := Lib.hid (And.intro h3 (And.intro h16 (And.intro h24 h32)))
      clear h3 h16 h24 h32
      go_enter Tryz.func75, Tryz.ntmps75
      go_wp2_with fail
      all_goals first
        | (with_reducible refine Calls.mono (rkmac_any s.alg _) ?_
           rintro e w1 ⟨rfl, rfl⟩
           rw [HK.out]
           go_wp2_with fail
           all_goals
             go_ret
             refine ⟨?_, ((Below.refl _ _).alloc (Nat.le_refl _) _).alloc (by simp) _⟩
             rw [← HT.out]
             show Ending.returned (.int .i64 _) = Ending.returned (.int .i64 (fitB t.key s 0))
             congr 2
             have hq := HQ.out
             clear HT HQ
             unfold fitB mostA
             repeat' (first | rfl | omega | split))
        | (go_ret
           refine ⟨?_, ((Below.refl _ _).alloc (Nat.le_refl _) _).alloc (by simp) _⟩
           rw [← HT.out]
           show Ending.returned (.int .i64 _) = Ending.returned (.int .i64 (fitB t.key s 0))
           congr 2
           have hq := HQ.out
           clear HT HQ
           unfold fitB mostA
           repeat' (first | rfl | omega | split))
  have f1 := beq_f h3
  by_cases h1 : s.alg = 1
  · have f3 := beq_t h1
    have HK : Hid (decide (4 ≤ s.alg ∧ s.alg ≤ 7) = false) := Lib.hid (decide_eq_false (by omega))
    have HQ := Lib.hid (And.intro h3 h1)
    clear h3 h1
    go_enter Tryz.func75, Tryz.ntmps75
    go_wp2_with fail
    all_goals first
      | (with_reducible refine Calls.mono (rkmac_any s.alg _) ?_
         rintro e w1 ⟨rfl, rfl⟩
         rw [HK.out]
         go_wp2_with fail
         all_goals
           go_ret
           refine ⟨?_, ((Below.refl _ _).alloc (Nat.le_refl _) _).alloc (by simp) _⟩
           rw [← HT.out]
           show Ending.returned (.int .i64 _) = Ending.returned (.int .i64 (fitB t.key s 0))
           congr 2
           have hq := HQ.out
           clear HT HQ
           unfold fitB mostA
           repeat' (first | rfl | omega | split))
      | (go_ret
         refine ⟨?_, ((Below.refl _ _).alloc (Nat.le_refl _) _).alloc (by simp) _⟩
         rw [← HT.out]
         show Ending.returned (.int .i64 _) = Ending.returned (.int .i64 (fitB t.key s 0))
         congr 2
         have hq := HQ.out
         clear HT HQ
         unfold fitB mostA
         repeat' (first | rfl | omega | split))
  have f3 := beq_f h1
  by_cases hk : 4 ≤ s.alg ∧ s.alg ≤ 7
  · have HK : Hid (decide (4 ≤ s.alg ∧ s.alg ≤ 7) = true) := Lib.hid (decide_eq_true hk)
    have HQ := Lib.hid (And.intro h3 (And.intro h1 hk))
    clear h3 h1 hk
    go_enter Tryz.func75, Tryz.ntmps75
    go_wp2_with fail
    all_goals first
      | (with_reducible refine Calls.mono (rkmac_any s.alg _) ?_
         rintro e w1 ⟨rfl, rfl⟩
         rw [HK.out]
         go_wp2_with fail
         all_goals
           go_ret
           refine ⟨?_, ((Below.refl _ _).alloc (Nat.le_refl _) _).alloc (by simp) _⟩
           rw [← HT.out]
           show Ending.returned (.int .i64 _) = Ending.returned (.int .i64 (fitB t.key s 0))
           congr 2
           have hq := HQ.out
           clear HT HQ
           unfold fitB mostA
           repeat' (first | rfl | omega | split))
      | (go_ret
         refine ⟨?_, ((Below.refl _ _).alloc (Nat.le_refl _) _).alloc (by simp) _⟩
         rw [← HT.out]
         show Ending.returned (.int .i64 _) = Ending.returned (.int .i64 (fitB t.key s 0))
         congr 2
         have hq := HQ.out
         clear HT HQ
         unfold fitB mostA
         repeat' (first | rfl | omega | split))
  · have HK : Hid (decide (4 ≤ s.alg ∧ s.alg ≤ 7) = false) := Lib.hid (decide_eq_false hk)
    have HQ := Lib.hid (And.intro h3 (And.intro h1 hk))
    clear h3 h1 hk
    go_enter Tryz.func75, Tryz.ntmps75
    go_wp2_with fail
    all_goals first
      | (with_reducible refine Calls.mono (rkmac_any s.alg _) ?_
         rintro e w1 ⟨rfl, rfl⟩
         rw [HK.out]
         go_wp2_with fail
         all_goals
           go_ret
           refine ⟨?_, ((Below.refl _ _).alloc (Nat.le_refl _) _).alloc (by simp) _⟩
           rw [← HT.out]
           show Ending.returned (.int .i64 _) = Ending.returned (.int .i64 (fitB t.key s 0))
           congr 2
           have hq := HQ.out
           clear HT HQ
           unfold fitB mostA
           repeat' (first | rfl | omega | split))
      | (go_ret
         refine ⟨?_, ((Below.refl _ _).alloc (Nat.le_refl _) _).alloc (by simp) _⟩
         rw [← HT.out]
         show Ending.returned (.int .i64 _) = Ending.returned (.int .i64 (fitB t.key s 0))
         congr 2
         have hq := HQ.out
         clear HT HQ
         unfold fitB mostA
         repeat' (first | rfl | omega | split))
-- fits (printed)
set_option maxHeartbeats 8000000 in
theorem rfits_any (p : Value) (s : Sk) (t : Th) (w : World) : Calls Tryz.prog 48 #[p, skV s, heV t] w (Told (.int .i64 (fitsR t s)) w) := by
  obtain ⟨T, hT⟩ : ∃ T, fitsR t s = T := ⟨_, rfl⟩
  rw [hT]
  have HT := Lib.hid hT
  clear hT
  have hbg : ∀ w, Calls Tryz.prog 75 #[skV s, heV t] w (Told (.int .i64 (fitB t.key s 0)) w) := rbegins_any s t
  have hdr : ∀ w, Calls Tryz.prog 76 #[skV s] w (Told (.int .i64 (derR s)) w) := rderives_any s
  unfold skV heV at *
  have HBG := Lib.hid hbg
  have HDR := Lib.hid hdr
  clear hbg hdr
  by_cases e2 : s.kind = 2
  · by_cases ha : t.alg = 0
    · have q0 := beq_t e2
      have q1 := bne_f ha
      have HQ := Lib.hid (And.intro e2 ha)
      clear e2 ha
      go_enter Tryz.func48, Tryz.ntmps48
      go_wp2_with fail
      refine (HBG.out _).mono ?_
      rintro e w1 ⟨rfl, hb⟩
      have HB := Lib.hid hb
      clear hb
      go_wp2_with fail
      all_goals
        go_ret
        refine ⟨?_, (((Below.refl _ _).alloc (Nat.le_refl _) _).alloc (by simp) _).trans (HB.out.mono (by first | (simp; done) | (simp; omega)))⟩
        rw [← HT.out]
        show Ending.returned (.int .i64 _) = Ending.returned (.int .i64 (fitsR t s))
        congr 2
        have hq := HQ.out
        clear HT HQ HBG HDR
        unfold fitsR
        repeat' (first | rfl | omega | split)
    · have q0 := beq_t e2
      have q1 := bne_t ha
      have HQ := Lib.hid (And.intro e2 ha)
      clear e2 ha
      go_enter Tryz.func48, Tryz.ntmps48
      go_wp2_with fail
      all_goals
        go_ret
        refine ⟨?_, ((Below.refl _ _).alloc (Nat.le_refl _) _).alloc (by simp) _⟩
        rw [← HT.out]
        show Ending.returned (.int .i64 _) = Ending.returned (.int .i64 (fitsR t s))
        congr 2
        have hq := HQ.out
        clear HT HQ HBG HDR
        unfold fitsR
        repeat' (first | rfl | omega | split)
  by_cases e3 : s.kind = 3
  · by_cases ha : t.alg = 0
    · have q0 := beq_f e2
      have q1 := beq_t e3
      have q2 := bne_f ha
      have HQ := Lib.hid (And.intro e2 (And.intro e3 ha))
      clear e2 e3 ha
      go_enter Tryz.func48, Tryz.ntmps48
      go_wp2_with fail
      all_goals
        go_ret
        refine ⟨?_, ((Below.refl _ _).alloc (Nat.le_refl _) _).alloc (by simp) _⟩
        rw [← HT.out]
        show Ending.returned (.int .i64 _) = Ending.returned (.int .i64 (fitsR t s))
        congr 2
        have hq := HQ.out
        clear HT HQ HBG HDR
        unfold fitsR
        repeat' (first | rfl | omega | split)
    · have q0 := beq_f e2
      have q1 := beq_t e3
      have q2 := bne_t ha
      have HQ := Lib.hid (And.intro e2 (And.intro e3 ha))
      clear e2 e3 ha
      go_enter Tryz.func48, Tryz.ntmps48
      go_wp2_with fail
      all_goals
        go_ret
        refine ⟨?_, ((Below.refl _ _).alloc (Nat.le_refl _) _).alloc (by simp) _⟩
        rw [← HT.out]
        show Ending.returned (.int .i64 _) = Ending.returned (.int .i64 (fitsR t s))
        congr 2
        have hq := HQ.out
        clear HT HQ HBG HDR
        unfold fitsR
        repeat' (first | rfl | omega | split)
  by_cases e4 : s.kind = 4
  · by_cases ha : t.alg = 0
    · have q0 := beq_f e2
      have q1 := beq_f e3
      have q2 := beq_t e4
      have q3 := bne_f ha
      have HQ := Lib.hid (And.intro e2 (And.intro e3 (And.intro e4 ha)))
      clear e2 e3 e4 ha
      go_enter Tryz.func48, Tryz.ntmps48
      go_wp2_with fail
      all_goals
        go_ret
        refine ⟨?_, ((Below.refl _ _).alloc (Nat.le_refl _) _).alloc (by simp) _⟩
        rw [← HT.out]
        show Ending.returned (.int .i64 _) = Ending.returned (.int .i64 (fitsR t s))
        congr 2
        have hq := HQ.out
        clear HT HQ HBG HDR
        unfold fitsR
        repeat' (first | rfl | omega | split)
    · have q0 := beq_f e2
      have q1 := beq_f e3
      have q2 := beq_t e4
      have q3 := bne_t ha
      have HQ := Lib.hid (And.intro e2 (And.intro e3 (And.intro e4 ha)))
      clear e2 e3 e4 ha
      go_enter Tryz.func48, Tryz.ntmps48
      go_wp2_with fail
      all_goals
        go_ret
        refine ⟨?_, ((Below.refl _ _).alloc (Nat.le_refl _) _).alloc (by simp) _⟩
        rw [← HT.out]
        show Ending.returned (.int .i64 _) = Ending.returned (.int .i64 (fitsR t s))
        congr 2
        have hq := HQ.out
        clear HT HQ HBG HDR
        unfold fitsR
        repeat' (first | rfl | omega | split)
  by_cases e5 : s.kind = 5
  · by_cases ha : t.alg = 0
    · have q0 := beq_f e2
      have q1 := beq_f e3
      have q2 := beq_f e4
      have q3 := beq_t e5
      have q4 := bne_f ha
      have HQ := Lib.hid (And.intro e2 (And.intro e3 (And.intro e4 (And.intro e5 ha))))
      clear e2 e3 e4 e5 ha
      go_enter Tryz.func48, Tryz.ntmps48
      go_wp2_with fail
      all_goals
        go_ret
        refine ⟨?_, ((Below.refl _ _).alloc (Nat.le_refl _) _).alloc (by simp) _⟩
        rw [← HT.out]
        show Ending.returned (.int .i64 _) = Ending.returned (.int .i64 (fitsR t s))
        congr 2
        have hq := HQ.out
        clear HT HQ HBG HDR
        unfold fitsR
        repeat' (first | rfl | omega | split)
    · by_cases hd : s.data = t.out
      · have q0 := beq_f e2
        have q1 := beq_f e3
        have q2 := beq_f e4
        have q3 := beq_t e5
        have q4 := bne_t ha
        have q5 := bne_f hd
        have HQ := Lib.hid (And.intro e2 (And.intro e3 (And.intro e4 (And.intro e5 (And.intro ha hd)))))
        clear e2 e3 e4 e5 ha hd
        go_enter Tryz.func48, Tryz.ntmps48
        go_wp2_with fail
        all_goals
          go_ret
          refine ⟨?_, ((Below.refl _ _).alloc (Nat.le_refl _) _).alloc (by simp) _⟩
          rw [← HT.out]
          show Ending.returned (.int .i64 _) = Ending.returned (.int .i64 (fitsR t s))
          congr 2
          have hq := HQ.out
          clear HT HQ HBG HDR
          unfold fitsR
          repeat' (first | rfl | omega | split)
      · have q0 := beq_f e2
        have q1 := beq_f e3
        have q2 := beq_f e4
        have q3 := beq_t e5
        have q4 := bne_t ha
        have q5 := bne_t hd
        have HQ := Lib.hid (And.intro e2 (And.intro e3 (And.intro e4 (And.intro e5 (And.intro ha hd)))))
        clear e2 e3 e4 e5 ha hd
        go_enter Tryz.func48, Tryz.ntmps48
        go_wp2_with fail
        all_goals
          go_ret
          refine ⟨?_, ((Below.refl _ _).alloc (Nat.le_refl _) _).alloc (by simp) _⟩
          rw [← HT.out]
          show Ending.returned (.int .i64 _) = Ending.returned (.int .i64 (fitsR t s))
          congr 2
          have hq := HQ.out
          clear HT HQ HBG HDR
          unfold fitsR
          repeat' (first | rfl | omega | split)
  by_cases e7 : s.kind = 7
  · by_cases ha : t.alg = 0
    · have q0 := beq_f e2
      have q1 := beq_f e3
      have q2 := beq_f e4
      have q3 := beq_f e5
      have q4 := beq_t e7
      have q5 := bne_f ha
      have HQ := Lib.hid (And.intro e2 (And.intro e3 (And.intro e4 (And.intro e5 (And.intro e7 ha)))))
      clear e2 e3 e4 e5 e7 ha
      go_enter Tryz.func48, Tryz.ntmps48
      go_wp2_with fail
      refine (HDR.out _).mono ?_
      rintro e w1 ⟨rfl, hb⟩
      have HB := Lib.hid hb
      clear hb
      go_wp2_with fail
      all_goals
        go_ret
        refine ⟨?_, (((Below.refl _ _).alloc (Nat.le_refl _) _).alloc (by simp) _).trans (HB.out.mono (by first | (simp; done) | (simp; omega)))⟩
        rw [← HT.out]
        show Ending.returned (.int .i64 _) = Ending.returned (.int .i64 (fitsR t s))
        congr 2
        have hq := HQ.out
        clear HT HQ HBG HDR
        unfold fitsR
        repeat' (first | rfl | omega | split)
    · have q0 := beq_f e2
      have q1 := beq_f e3
      have q2 := beq_f e4
      have q3 := beq_f e5
      have q4 := beq_t e7
      have q5 := bne_t ha
      have HQ := Lib.hid (And.intro e2 (And.intro e3 (And.intro e4 (And.intro e5 (And.intro e7 ha)))))
      clear e2 e3 e4 e5 e7 ha
      go_enter Tryz.func48, Tryz.ntmps48
      go_wp2_with fail
      all_goals
        go_ret
        refine ⟨?_, ((Below.refl _ _).alloc (Nat.le_refl _) _).alloc (by simp) _⟩
        rw [← HT.out]
        show Ending.returned (.int .i64 _) = Ending.returned (.int .i64 (fitsR t s))
        congr 2
        have hq := HQ.out
        clear HT HQ HBG HDR
        unfold fitsR
        repeat' (first | rfl | omega | split)
  by_cases e8 : s.kind = 8
  · by_cases ha : t.alg = 0
    · have q0 := beq_f e2
      have q1 := beq_f e3
      have q2 := beq_f e4
      have q3 := beq_f e5
      have q4 := beq_f e7
      have q5 := beq_t e8
      have q6 := bne_f ha
      have HQ := Lib.hid (And.intro e2 (And.intro e3 (And.intro e4 (And.intro e5 (And.intro e7 (And.intro e8 ha))))))
      clear e2 e3 e4 e5 e7 e8 ha
      go_enter Tryz.func48, Tryz.ntmps48
      go_wp2_with fail
      refine (HDR.out _).mono ?_
      rintro e w1 ⟨rfl, hb⟩
      have HB := Lib.hid hb
      clear hb
      go_wp2_with fail
      all_goals
        go_ret
        refine ⟨?_, (((Below.refl _ _).alloc (Nat.le_refl _) _).alloc (by simp) _).trans (HB.out.mono (by first | (simp; done) | (simp; omega)))⟩
        rw [← HT.out]
        show Ending.returned (.int .i64 _) = Ending.returned (.int .i64 (fitsR t s))
        congr 2
        have hq := HQ.out
        clear HT HQ HBG HDR
        unfold fitsR
        repeat' (first | rfl | omega | split)
    · have q0 := beq_f e2
      have q1 := beq_f e3
      have q2 := beq_f e4
      have q3 := beq_f e5
      have q4 := beq_f e7
      have q5 := beq_t e8
      have q6 := bne_t ha
      have HQ := Lib.hid (And.intro e2 (And.intro e3 (And.intro e4 (And.intro e5 (And.intro e7 (And.intro e8 ha))))))
      clear e2 e3 e4 e5 e7 e8 ha
      go_enter Tryz.func48, Tryz.ntmps48
      go_wp2_with fail
      all_goals
        go_ret
        refine ⟨?_, ((Below.refl _ _).alloc (Nat.le_refl _) _).alloc (by simp) _⟩
        rw [← HT.out]
        show Ending.returned (.int .i64 _) = Ending.returned (.int .i64 (fitsR t s))
        congr 2
        have hq := HQ.out
        clear HT HQ HBG HDR
        unfold fitsR
        repeat' (first | rfl | omega | split)
  by_cases e9 : s.kind = 9
  · by_cases ha : t.alg = 0
    · have q0 := beq_f e2
      have q1 := beq_f e3
      have q2 := beq_f e4
      have q3 := beq_f e5
      have q4 := beq_f e7
      have q5 := beq_f e8
      have q6 := beq_t e9
      have q7 := bne_f ha
      have HQ := Lib.hid (And.intro e2 (And.intro e3 (And.intro e4 (And.intro e5 (And.intro e7 (And.intro e8 (And.intro e9 ha)))))))
      clear e2 e3 e4 e5 e7 e8 e9 ha
      go_enter Tryz.func48, Tryz.ntmps48
      go_wp2_with fail
      all_goals
        go_ret
        refine ⟨?_, ((Below.refl _ _).alloc (Nat.le_refl _) _).alloc (by simp) _⟩
        rw [← HT.out]
        show Ending.returned (.int .i64 _) = Ending.returned (.int .i64 (fitsR t s))
        congr 2
        have hq := HQ.out
        clear HT HQ HBG HDR
        unfold fitsR
        repeat' (first | rfl | omega | split)
    · have q0 := beq_f e2
      have q1 := beq_f e3
      have q2 := beq_f e4
      have q3 := beq_f e5
      have q4 := beq_f e7
      have q5 := beq_f e8
      have q6 := beq_t e9
      have q7 := bne_t ha
      have HQ := Lib.hid (And.intro e2 (And.intro e3 (And.intro e4 (And.intro e5 (And.intro e7 (And.intro e8 (And.intro e9 ha)))))))
      clear e2 e3 e4 e5 e7 e8 e9 ha
      go_enter Tryz.func48, Tryz.ntmps48
      go_wp2_with fail
      all_goals
        go_ret
        refine ⟨?_, ((Below.refl _ _).alloc (Nat.le_refl _) _).alloc (by simp) _⟩
        rw [← HT.out]
        show Ending.returned (.int .i64 _) = Ending.returned (.int .i64 (fitsR t s))
        congr 2
        have hq := HQ.out
        clear HT HQ HBG HDR
        unfold fitsR
        repeat' (first | rfl | omega | split)
  have q0 := beq_f e2
  have q1 := beq_f e3
  have q2 := beq_f e4
  have q3 := beq_f e5
  have q4 := beq_f e7
  have q5 := beq_f e8
  have q6 := beq_f e9
  have HQ := Lib.hid (And.intro e2 (And.intro e3 (And.intro e4 (And.intro e5 (And.intro e7 (And.intro e8 e9))))))
  clear e2 e3 e4 e5 e7 e8 e9
  go_enter Tryz.func48, Tryz.ntmps48
  go_wp2_with fail
  all_goals
    go_ret
    refine ⟨?_, ((Below.refl _ _).alloc (Nat.le_refl _) _).alloc (by simp) _⟩
    rw [← HT.out]
    show Ending.returned (.int .i64 _) = Ending.returned (.int .i64 (fitsR t s))
    congr 2
    have hq := HQ.out
    clear HT HQ HBG HDR
    unfold fitsR
    repeat' (first | rfl | omega | split)
end Go.Proofs.YtkidijjhedjifaaGreat
