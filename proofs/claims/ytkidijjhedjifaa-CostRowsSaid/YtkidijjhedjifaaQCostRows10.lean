/- The document's Put: events behind runs. -/
import Derived.Test.YtkidijjhedjifaaRows
import Derived.Test.YtkidijjhedjifaaQCostRows2
import Derived.Test.YtkidijjhedjifaaQCostRows4
import Derived.Test.YtkidijjhedjifaaQCostRows8
import Derived.Test.YtkidijjhedjifaaQCostRows9
/- The document's codes of chapter 22: contracts. -/
namespace Go.Proofs.Ytkidijjhedjifaa
open Go.RowKit
set_option maxRecDepth 100000
set_option linter.unusedVariables false
set_option linter.unusedSimpArgs false
attribute [local go_sem] Oper.semAt_some
def heV (t : Th) : Value := .agg #[.int .i64 t.key, .int .u8 t.alg, .int .i64 t.out, .int .i64 t.custom, .int .i64 t.msg]
set_option maxHeartbeats 4000000 in
theorem rderives_any (s : Sk) (w : World) : Calls Try.prog 113 #[skV s] w (Told (.int .i64 (derR s)) w) := by
  obtain ⟨T, hT⟩ : ∃ T, derR s = T := ⟨_, rfl⟩
  rw [hT]
  have HT := Lib.hid hT
  clear hT
  have hs := hashA_three s.alg
  obtain ⟨z, hz⟩ : ∃ z, hashA s.alg = z := ⟨_, rfl⟩
  have HZ := Lib.hid hz
  rw [hz] at hs
  clear hz
  unfold skV
  have w1 : IntKind.i64.wrap (255 * z) = 255 * z := IntWalk.i64_in _ (by omega)
  have w2 : IntKind.i64.wrap (4294967295 * z) = 4294967295 * z := IntWalk.i64_in _ (by omega)
  go_enter Try.func113, Try.ntmps113
  go_wp2_with fail
  refine (rsize_any s.alg _).mono ?_
  rintro e w1 ⟨rfl, rfl⟩
  rw [HZ.out]
  go_wp2_with fail
  all_goals
    go_ret
    refine ⟨?_, (Below.refl _ _).alloc (Nat.le_refl _) _⟩
    rw [← HT.out]
    show Ending.returned (.int .i64 _) = Ending.returned (.int .i64 (derR s))
    congr 2
    have HZ' := HZ.out
    clear HT HZ w1 w2
    simp only [beq_iff_eq, beq_eq_false_iff_ne, ne_eq] at *
    unfold derR
    rw [HZ']
    clear HZ'
    repeat' (first | rfl | omega | split)
theorem beq_t {a b : Int} (h : a = b) : (a == b) = true := by rw [h]; exact beq_self_eq_true _
theorem beq_f {a b : Int} (h : ¬ a = b) : (a == b) = false := by rw [beq_eq_false_iff_ne]; exact h
theorem bne_t {a b : Int} (h : ¬ a = b) : (a != b) = true := by rw [bne_iff_ne]; exact h
theorem bne_f {a b : Int} (h : a = b) : (a != b) = false := by rw [h]; simp
set_option maxHeartbeats 4000000 in
theorem rbegins_any (s : Sk) (t : Th) (w : World) : Calls Try.prog 112 #[skV s, heV t] w (Told (.int .i64 (fitB t.key s 0)) w) := by
  obtain ⟨T, hT⟩ : ∃ T, fitB t.key s 0 = T := ⟨_, rfl⟩
  rw [hT]
  have HT := Lib.hid hT
  clear hT
  unfold skV heV
  by_cases h3 : s.alg = 3
  · by_cases h16 : t.key = 16
    · have f1 := beq_t h3
      have f2 := bne_f h16
      have f3 : (s.alg == (1 : Int)) = false := beq_f (by omega)
      have HK : Hid (decide (4 ≤ s.alg ∧ s.alg ≤ 7) = false) := Lib.hid (decide_eq_false (by omega))
      have HQ := Lib.hid (And.intro h3 h16)
      clear h3 h16
      go_enter Try.func112, Try.ntmps112
      go_wp2_with fail
      all_goals first
        | (with_reducible refine Calls.mono (rkmac_any s.alg _) ?_
           rintro e w1 ⟨rfl, rfl⟩
           rw [HK.out]
           go_wp2_with fail
           all_goals
             go_ret
             refine ⟨?_, ((Below.refl _ _).alloc (Nat.le_refl _) _).alloc (by simp) _⟩
             rw [← HT.out]
             show Ending.returned (.int .i64 _) = Ending.returned (.int .i64 (fitB t.key s 0))
             congr 2
             have hq := HQ.out
             clear HT HQ
             unfold fitB mostA
             repeat' (first | rfl | omega | split))
        | (go_ret
           refine ⟨?_, ((Below.refl _ _).alloc (Nat.le_refl _) _).alloc (by simp) _⟩
           rw [← HT.out]
           show Ending.returned (.int .i64 _) = Ending.returned (.int .i64 (fitB t.key s 0))
           congr 2
           have hq := HQ.out
           clear HT HQ
           unfold fitB mostA
           repeat' (first | rfl | omega | split))
    by_cases h24 : t.key = 24
    · have f1 := beq_t h3
      have f2 := bne_f h24
      have f5 := bne_t h16
      have f3 : (s.alg == (1 : Int)) = false := beq_f (by omega)
      have HK : Hid (decide (4 ≤ s.alg ∧ s.alg ≤ 7) = false) := Lib.hid (decide_eq_false (by omega))
      have HQ := Lib.hid (And.intro h3 (And.intro h16 h24))
      clear h3 h16 h24
      go_enter Try.func112, Try.ntmps112
      go_wp2_with fail
      all_goals first
        | (with_reducible refine Calls.mono (rkmac_any s.alg _) ?_
           rintro e w1 ⟨rfl, rfl⟩
           rw [HK.out]
           go_wp2_with fail
           all_goals
             go_ret
             refine ⟨?_, ((Below.refl _ _).alloc (Nat.le_refl _) _).alloc (by simp) _⟩
             rw [← HT.out]
             show Ending.returned (.int .i64 _) = Ending.returned (.int .i64 (fitB t.key s 0))
             congr 2
             have hq := HQ.out
             clear HT HQ
             unfold fitB mostA
             repeat' (first | rfl | omega | split))
        | (go_ret
           refine ⟨?_, ((Below.refl _ _).alloc (Nat.le_refl _) _).alloc (by simp) _⟩
           rw [← HT.out]
           show Ending.returned (.int .i64 _) = Ending.returned (.int .i64 (fitB t.key s 0))
           congr 2
           have hq := HQ.out
           clear HT HQ
           unfold fitB mostA
           repeat' (first | rfl | omega | split))
    by_cases h32 : t.key = 32
    · have f1 := beq_t h3
      have f2 := bne_f h32
      have f5 := bne_t h16
      have f6 := bne_t h24
      have f3 : (s.alg == (1 : Int)) = false := beq_f (by omega)
      have HK : Hid (decide (4 ≤ s.alg ∧ s.alg ≤ 7) = false) := Lib.hid (decide_eq_false (by omega))
      have HQ := Lib.hid (And.intro h3 (And.intro h16 (And.intro h24 h32)))
      clear h3 h16 h24 h32
      go_enter Try.func112, Try.ntmps112
      go_wp2_with fail
      all_goals first
        | (with_reducible refine Calls.mono (rkmac_any s.alg _) ?_
           rintro e w1 ⟨rfl, rfl⟩
           rw [HK.out]
           go_wp2_with fail
           all_goals
             go_ret
             refine ⟨?_, ((Below.refl _ _).alloc (Nat.le_refl _) _).alloc (by simp) _⟩
             rw [← HT.out]
             show Ending.returned (.int .i64 _) = Ending.returned (.int .i64 (fitB t.key s 0))
             congr 2
             have hq := HQ.out
             clear HT HQ
             unfold fitB mostA
             repeat' (first | rfl | omega | split))
        | (go_ret
           refine ⟨?_, ((Below.refl _ _).alloc (Nat.le_refl _) _).alloc (by simp) _⟩
           rw [← HT.out]
           show Ending.returned (.int .i64 _) = Ending.returned (.int .i64 (fitB t.key s 0))
           congr 2
           have hq := HQ.out
           clear HT HQ
           unfold fitB mostA
           repeat' (first | rfl | omega | split))
    · have f1 := beq_t h3
      have f2 := bne_t h32
      have f5 := bne_t h16
      have f6 := bne_t h24
      have f3 : (s.alg == (1 : Int)) = false := beq_f (by omega)
      have HK : Hid (decide (4 ≤ s.alg ∧ s.alg ≤ 7) = false) := Lib.hid (decide_eq_false (by omega))
      have HQ := Lib.hid (And.intro h3 (And.intro h16 (And.intro h24 h32)))
      clear h3 h16 h24 h32
      go_enter Try.func112, Try.ntmps112
      go_wp2_with fail
      all_goals first
        | (with_reducible refine Calls.mono (rkmac_any s.alg _) ?_
           rintro e w1 ⟨rfl, rfl⟩
           rw [HK.out]
           go_wp2_with fail
           all_goals
             go_ret
             refine ⟨?_, ((Below.refl _ _).alloc (Nat.le_refl _) _).alloc (by simp) _⟩
             rw [← HT.out]
             show Ending.returned (.int .i64 _) = Ending.returned (.int .i64 (fitB t.key s 0))
             congr 2
             have hq := HQ.out
             clear HT HQ
             unfold fitB mostA
             repeat' (first | rfl | omega | split))
        | (go_ret
           refine ⟨?_, ((Below.refl _ _).alloc (Nat.le_refl _) _).alloc (by simp) _⟩
           rw [← HT.out]
           show Ending.returned (.int .i64 _) = Ending.returned (.int .i64 (fitB t.key s 0))
           congr 2
           have hq := HQ.out
           clear HT HQ
           unfold fitB mostA
           repeat' (first | rfl | omega | split))
  have f1 := beq_f h3
  by_cases h1 : s.alg = 1
  · have f3 := beq_t h1
    have HK : Hid (decide (4 ≤ s.alg ∧ s.alg ≤ 7) = false) := Lib.hid (decide_eq_false (by omega))
    have HQ := Lib.hid (And.intro h3 h1)
    clear h3 h1
    go_enter Try.func112, Try.ntmps112
    go_wp2_with fail
    all_goals first
      | (with_reducible refine Calls.mono (rkmac_any s.alg _) ?_
         rintro e w1 ⟨rfl, rfl⟩
         rw [HK.out]
         go_wp2_with fail
         all_goals
           go_ret
           refine ⟨?_, ((Below.refl _ _).alloc (Nat.le_refl _) _).alloc (by simp) _⟩
           rw [← HT.out]
           show Ending.returned (.int .i64 _) = Ending.returned (.int .i64 (fitB t.key s 0))
           congr 2
           have hq := HQ.out
           clear HT HQ
           unfold fitB mostA
           repeat' (first | rfl | omega | split))
      | (go_ret
         refine ⟨?_, ((Below.refl _ _).alloc (Nat.le_refl _) _).alloc (by simp) _⟩
         rw [← HT.out]
         show Ending.returned (.int .i64 _) = Ending.returned (.int .i64 (fitB t.key s 0))
         congr 2
         have hq := HQ.out
         clear HT HQ
         unfold fitB mostA
         repeat' (first | rfl | omega | split))
  have f3 := beq_f h1
  by_cases hk : 4 ≤ s.alg ∧ s.alg ≤ 7
  · have HK : Hid (decide (4 ≤ s.alg ∧ s.alg ≤ 7) = true) := Lib.hid (decide_eq_true hk)
    have HQ := Lib.hid (And.intro h3 (And.intro h1 hk))
    clear h3 h1 hk
    go_enter Try.func112, Try.ntmps112
    go_wp2_with fail
    all_goals first
      | (with_reducible refine Calls.mono (rkmac_any s.alg _) ?_
         rintro e w1 ⟨rfl, rfl⟩
         rw [HK.out]
         go_wp2_with fail
         all_goals
           go_ret
           refine ⟨?_, ((Below.refl _ _).alloc (Nat.le_refl _) _).alloc (by simp) _⟩
           rw [← HT.out]
           show Ending.returned (.int .i64 _) = Ending.returned (.int .i64 (fitB t.key s 0))
           congr 2
           have hq := HQ.out
           clear HT HQ
           unfold fitB mostA
           repeat' (first | rfl | omega | split))
      | (go_ret
         refine ⟨?_, ((Below.refl _ _).alloc (Nat.le_refl _) _).alloc (by simp) _⟩
         rw [← HT.out]
         show Ending.returned (.int .i64 _) = Ending.returned (.int .i64 (fitB t.key s 0))
         congr 2
         have hq := HQ.out
         clear HT HQ
         unfold fitB mostA
         repeat' (first | rfl | omega | split))
  · have HK : Hid (decide (4 ≤ s.alg ∧ s.alg ≤ 7) = false) := Lib.hid (decide_eq_false hk)
    have HQ := Lib.hid (And.intro h3 (And.intro h1 hk))
    clear h3 h1 hk
    go_enter Try.func112, Try.ntmps112
    go_wp2_with fail
    all_goals first
      | (with_reducible refine Calls.mono (rkmac_any s.alg _) ?_
         rintro e w1 ⟨rfl, rfl⟩
         rw [HK.out]
         go_wp2_with fail
         all_goals
           go_ret
           refine ⟨?_, ((Below.refl _ _).alloc (Nat.le_refl _) _).alloc (by simp) _⟩
           rw [← HT.out]
           show Ending.returned (.int .i64 _) = Ending.returned (.int .i64 (fitB t.key s 0))
           congr 2
           have hq := HQ.out
           clear HT HQ
           unfold fitB mostA
           repeat' (first | rfl | omega | split))
      | (go_ret
         refine ⟨?_, ((Below.refl _ _).alloc (Nat.le_refl _) _).alloc (by simp) _⟩
         rw [← HT.out]
         show Ending.returned (.int .i64 _) = Ending.returned (.int .i64 (fitB t.key s 0))
         congr 2
         have hq := HQ.out
         clear HT HQ
         unfold fitB mostA
         repeat' (first | rfl | omega | split))
-- fits (printed)
set_option maxHeartbeats 8000000 in
theorem rfits_any (p : Value) (s : Sk) (t : Th) (w : World) : Calls Try.prog 76 #[p, skV s, heV t] w (Told (.int .i64 (fitsR t s)) w) := by
  obtain ⟨T, hT⟩ : ∃ T, fitsR t s = T := ⟨_, rfl⟩
  rw [hT]
  have HT := Lib.hid hT
  clear hT
  have hbg : ∀ w, Calls Try.prog 112 #[skV s, heV t] w (Told (.int .i64 (fitB t.key s 0)) w) := rbegins_any s t
  have hdr : ∀ w, Calls Try.prog 113 #[skV s] w (Told (.int .i64 (derR s)) w) := rderives_any s
  unfold skV heV at *
  have HBG := Lib.hid hbg
  have HDR := Lib.hid hdr
  clear hbg hdr
  by_cases e2 : s.kind = 2
  · by_cases ha : t.alg = 0
    · have q0 := beq_t e2
      have q1 := bne_f ha
      have HQ := Lib.hid (And.intro e2 ha)
      clear e2 ha
      go_enter Try.func76, Try.ntmps76
      go_wp2_with fail
      refine (HBG.out _).mono ?_
      rintro e w1 ⟨rfl, hb⟩
      have HB := Lib.hid hb
      clear hb
      go_wp2_with fail
      all_goals
        go_ret
        refine ⟨?_, (((Below.refl _ _).alloc (Nat.le_refl _) _).alloc (by simp) _).trans (HB.out.mono (by first | (simp; done) | (simp; omega)))⟩
        rw [← HT.out]
        show Ending.returned (.int .i64 _) = Ending.returned (.int .i64 (fitsR t s))
        congr 2
        have hq := HQ.out
        clear HT HQ HBG HDR
        unfold fitsR
        repeat' (first | rfl | omega | split)
    · have q0 := beq_t e2
      have q1 := bne_t ha
      have HQ := Lib.hid (And.intro e2 ha)
      clear e2 ha
      go_enter Try.func76, Try.ntmps76
      go_wp2_with fail
      all_goals
        go_ret
        refine ⟨?_, ((Below.refl _ _).alloc (Nat.le_refl _) _).alloc (by simp) _⟩
        rw [← HT.out]
        show Ending.returned (.int .i64 _) = Ending.returned (.int .i64 (fitsR t s))
        congr 2
        have hq := HQ.out
        clear HT HQ HBG HDR
        unfold fitsR
        repeat' (first | rfl | omega | split)
  by_cases e3 : s.kind = 3
  · by_cases ha : t.alg = 0
    · have q0 := beq_f e2
      have q1 := beq_t e3
      have q2 := bne_f ha
      have HQ := Lib.hid (And.intro e2 (And.intro e3 ha))
      clear e2 e3 ha
      go_enter Try.func76, Try.ntmps76
      go_wp2_with fail
      all_goals
        go_ret
        refine ⟨?_, ((Below.refl _ _).alloc (Nat.le_refl _) _).alloc (by simp) _⟩
        rw [← HT.out]
        show Ending.returned (.int .i64 _) = Ending.returned (.int .i64 (fitsR t s))
        congr 2
        have hq := HQ.out
        clear HT HQ HBG HDR
        unfold fitsR
        repeat' (first | rfl | omega | split)
    · have q0 := beq_f e2
      have q1 := beq_t e3
      have q2 := bne_t ha
      have HQ := Lib.hid (And.intro e2 (And.intro e3 ha))
      clear e2 e3 ha
      go_enter Try.func76, Try.ntmps76
      go_wp2_with fail
      all_goals
        go_ret
        refine ⟨?_, ((Below.refl _ _).alloc (Nat.le_refl _) _).alloc (by simp) _⟩
        rw [← HT.out]
        show Ending.returned (.int .i64 _) = Ending.returned (.int .i64 (fitsR t s))
        congr 2
        have hq := HQ.out
        clear HT HQ HBG HDR
        unfold fitsR
        repeat' (first | rfl | omega | split)
  by_cases e4 : s.kind = 4
  · by_cases ha : t.alg = 0
    · have q0 := beq_f e2
      have q1 := beq_f e3
      have q2 := beq_t e4
      have q3 := bne_f ha
      have HQ := Lib.hid (And.intro e2 (And.intro e3 (And.intro e4 ha)))
      clear e2 e3 e4 ha
      go_enter Try.func76, Try.ntmps76
      go_wp2_with fail
      all_goals
        go_ret
        refine ⟨?_, ((Below.refl _ _).alloc (Nat.le_refl _) _).alloc (by simp) _⟩
        rw [← HT.out]
        show Ending.returned (.int .i64 _) = Ending.returned (.int .i64 (fitsR t s))
        congr 2
        have hq := HQ.out
        clear HT HQ HBG HDR
        unfold fitsR
        repeat' (first | rfl | omega | split)
    · have q0 := beq_f e2
      have q1 := beq_f e3
      have q2 := beq_t e4
      have q3 := bne_t ha
      have HQ := Lib.hid (And.intro e2 (And.intro e3 (And.intro e4 ha)))
      clear e2 e3 e4 ha
      go_enter Try.func76, Try.ntmps76
      go_wp2_with fail
      all_goals
        go_ret
        refine ⟨?_, ((Below.refl _ _).alloc (Nat.le_refl _) _).alloc (by simp) _⟩
        rw [← HT.out]
        show Ending.returned (.int .i64 _) = Ending.returned (.int .i64 (fitsR t s))
        congr 2
        have hq := HQ.out
        clear HT HQ HBG HDR
        unfold fitsR
        repeat' (first | rfl | omega | split)
  by_cases e5 : s.kind = 5
  · by_cases ha : t.alg = 0
    · have q0 := beq_f e2
      have q1 := beq_f e3
      have q2 := beq_f e4
      have q3 := beq_t e5
      have q4 := bne_f ha
      have HQ := Lib.hid (And.intro e2 (And.intro e3 (And.intro e4 (And.intro e5 ha))))
      clear e2 e3 e4 e5 ha
      go_enter Try.func76, Try.ntmps76
      go_wp2_with fail
      all_goals
        go_ret
        refine ⟨?_, ((Below.refl _ _).alloc (Nat.le_refl _) _).alloc (by simp) _⟩
        rw [← HT.out]
        show Ending.returned (.int .i64 _) = Ending.returned (.int .i64 (fitsR t s))
        congr 2
        have hq := HQ.out
        clear HT HQ HBG HDR
        unfold fitsR
        repeat' (first | rfl | omega | split)
    · by_cases hd : s.data = t.out
      · have q0 := beq_f e2
        have q1 := beq_f e3
        have q2 := beq_f e4
        have q3 := beq_t e5
        have q4 := bne_t ha
        have q5 := bne_f hd
        have HQ := Lib.hid (And.intro e2 (And.intro e3 (And.intro e4 (And.intro e5 (And.intro ha hd)))))
        clear e2 e3 e4 e5 ha hd
        go_enter Try.func76, Try.ntmps76
        go_wp2_with fail
        all_goals
          go_ret
          refine ⟨?_, ((Below.refl _ _).alloc (Nat.le_refl _) _).alloc (by simp) _⟩
          rw [← HT.out]
          show Ending.returned (.int .i64 _) = Ending.returned (.int .i64 (fitsR t s))
          congr 2
          have hq := HQ.out
          clear HT HQ HBG HDR
          unfold fitsR
          repeat' (first | rfl | omega | split)
      · have q0 := beq_f e2
        have q1 := beq_f e3
        have q2 := beq_f e4
        have q3 := beq_t e5
        have q4 := bne_t ha
        have q5 := bne_t hd
        have HQ := Lib.hid (And.intro e2 (And.intro e3 (And.intro e4 (And.intro e5 (And.intro ha hd)))))
        clear e2 e3 e4 e5 ha hd
        go_enter Try.func76, Try.ntmps76
        go_wp2_with fail
        all_goals
          go_ret
          refine ⟨?_, ((Below.refl _ _).alloc (Nat.le_refl _) _).alloc (by simp) _⟩
          rw [← HT.out]
          show Ending.returned (.int .i64 _) = Ending.returned (.int .i64 (fitsR t s))
          congr 2
          have hq := HQ.out
          clear HT HQ HBG HDR
          unfold fitsR
          repeat' (first | rfl | omega | split)
  by_cases e7 : s.kind = 7
  · by_cases ha : t.alg = 0
    · have q0 := beq_f e2
      have q1 := beq_f e3
      have q2 := beq_f e4
      have q3 := beq_f e5
      have q4 := beq_t e7
      have q5 := bne_f ha
      have HQ := Lib.hid (And.intro e2 (And.intro e3 (And.intro e4 (And.intro e5 (And.intro e7 ha)))))
      clear e2 e3 e4 e5 e7 ha
      go_enter Try.func76, Try.ntmps76
      go_wp2_with fail
      refine (HDR.out _).mono ?_
      rintro e w1 ⟨rfl, hb⟩
      have HB := Lib.hid hb
      clear hb
      go_wp2_with fail
      all_goals
        go_ret
        refine ⟨?_, (((Below.refl _ _).alloc (Nat.le_refl _) _).alloc (by simp) _).trans (HB.out.mono (by first | (simp; done) | (simp; omega)))⟩
        rw [← HT.out]
        show Ending.returned (.int .i64 _) = Ending.returned (.int .i64 (fitsR t s))
        congr 2
        have hq := HQ.out
        clear HT HQ HBG HDR
        unfold fitsR
        repeat' (first | rfl | omega | split)
    · have q0 := beq_f e2
      have q1 := beq_f e3
      have q2 := beq_f e4
      have q3 := beq_f e5
      have q4 := beq_t e7
      have q5 := bne_t ha
      have HQ := Lib.hid (And.intro e2 (And.intro e3 (And.intro e4 (And.intro e5 (And.intro e7 ha)))))
      clear e2 e3 e4 e5 e7 ha
      go_enter Try.func76, Try.ntmps76
      go_wp2_with fail
      all_goals
        go_ret
        refine ⟨?_, ((Below.refl _ _).alloc (Nat.le_refl _) _).alloc (by simp) _⟩
        rw [← HT.out]
        show Ending.returned (.int .i64 _) = Ending.returned (.int .i64 (fitsR t s))
        congr 2
        have hq := HQ.out
        clear HT HQ HBG HDR
        unfold fitsR
        repeat' (first | rfl | omega | split)
  by_cases e8 : s.kind = 8
  · by_cases ha : t.alg = 0
    · have q0 := beq_f e2
      have q1 := beq_f e3
      have q2 := beq_f e4
      have q3 := beq_f e5
      have q4 := beq_f e7
      have q5 := beq_t e8
      have q6 := bne_f ha
      have HQ := Lib.hid (And.intro e2 (And.intro e3 (And.intro e4 (And.intro e5 (And.intro e7 (And.intro e8 ha))))))
      clear e2 e3 e4 e5 e7 e8 ha
      go_enter Try.func76, Try.ntmps76
      go_wp2_with fail
      refine (HDR.out _).mono ?_
      rintro e w1 ⟨rfl, hb⟩
      have HB := Lib.hid hb
      clear hb
      go_wp2_with fail
      all_goals
        go_ret
        refine ⟨?_, (((Below.refl _ _).alloc (Nat.le_refl _) _).alloc (by simp) _).trans (HB.out.mono (by first | (simp; done) | (simp; omega)))⟩
        rw [← HT.out]
        show Ending.returned (.int .i64 _) = Ending.returned (.int .i64 (fitsR t s))
        congr 2
        have hq := HQ.out
        clear HT HQ HBG HDR
        unfold fitsR
        repeat' (first | rfl | omega | split)
    · have q0 := beq_f e2
      have q1 := beq_f e3
      have q2 := beq_f e4
      have q3 := beq_f e5
      have q4 := beq_f e7
      have q5 := beq_t e8
      have q6 := bne_t ha
      have HQ := Lib.hid (And.intro e2 (And.intro e3 (And.intro e4 (And.intro e5 (And.intro e7 (And.intro e8 ha))))))
      clear e2 e3 e4 e5 e7 e8 ha
      go_enter Try.func76, Try.ntmps76
      go_wp2_with fail
      all_goals
        go_ret
        refine ⟨?_, ((Below.refl _ _).alloc (Nat.le_refl _) _).alloc (by simp) _⟩
        rw [← HT.out]
        show Ending.returned (.int .i64 _) = Ending.returned (.int .i64 (fitsR t s))
        congr 2
        have hq := HQ.out
        clear HT HQ HBG HDR
        unfold fitsR
        repeat' (first | rfl | omega | split)
  by_cases e9 : s.kind = 9
  · by_cases ha : t.alg = 0
    · have q0 := beq_f e2
      have q1 := beq_f e3
      have q2 := beq_f e4
      have q3 := beq_f e5
      have q4 := beq_f e7
      have q5 := beq_f e8
      have q6 := beq_t e9
      have q7 := bne_f ha
      have HQ := Lib.hid (And.intro e2 (And.intro e3 (And.intro e4 (And.intro e5 (And.intro e7 (And.intro e8 (And.intro e9 ha)))))))
      clear e2 e3 e4 e5 e7 e8 e9 ha
      go_enter Try.func76, Try.ntmps76
      go_wp2_with fail
      all_goals
        go_ret
        refine ⟨?_, ((Below.refl _ _).alloc (Nat.le_refl _) _).alloc (by simp) _⟩
        rw [← HT.out]
        show Ending.returned (.int .i64 _) = Ending.returned (.int .i64 (fitsR t s))
        congr 2
        have hq := HQ.out
        clear HT HQ HBG HDR
        unfold fitsR
        repeat' (first | rfl | omega | split)
    · have q0 := beq_f e2
      have q1 := beq_f e3
      have q2 := beq_f e4
      have q3 := beq_f e5
      have q4 := beq_f e7
      have q5 := beq_f e8
      have q6 := beq_t e9
      have q7 := bne_t ha
      have HQ := Lib.hid (And.intro e2 (And.intro e3 (And.intro e4 (And.intro e5 (And.intro e7 (And.intro e8 (And.intro e9 ha)))))))
      clear e2 e3 e4 e5 e7 e8 e9 ha
      go_enter Try.func76, Try.ntmps76
      go_wp2_with fail
      all_goals
        go_ret
        refine ⟨?_, ((Below.refl _ _).alloc (Nat.le_refl _) _).alloc (by simp) _⟩
        rw [← HT.out]
        show Ending.returned (.int .i64 _) = Ending.returned (.int .i64 (fitsR t s))
        congr 2
        have hq := HQ.out
        clear HT HQ HBG HDR
        unfold fitsR
        repeat' (first | rfl | omega | split)
  have q0 := beq_f e2
  have q1 := beq_f e3
  have q2 := beq_f e4
  have q3 := beq_f e5
  have q4 := beq_f e7
  have q5 := beq_f e8
  have q6 := beq_f e9
  have HQ := Lib.hid (And.intro e2 (And.intro e3 (And.intro e4 (And.intro e5 (And.intro e7 (And.intro e8 e9))))))
  clear e2 e3 e4 e5 e7 e8 e9
  go_enter Try.func76, Try.ntmps76
  go_wp2_with fail
  all_goals
    go_ret
    refine ⟨?_, ((Below.refl _ _).alloc (Nat.le_refl _) _).alloc (by simp) _⟩
    rw [← HT.out]
    show Ending.returned (.int .i64 _) = Ending.returned (.int .i64 (fitsR t s))
    congr 2
    have hq := HQ.out
    clear HT HQ HBG HDR
    unfold fitsR
    repeat' (first | rfl | omega | split)
end Go.Proofs.Ytkidijjhedjifaa
/- The document's Public in memory; there, free, code. -/
namespace Go.Proofs.Ytkidijjhedjifaa
open Go.RowKit
set_option maxRecDepth 100000
set_option linter.unusedVariables false
set_option linter.unusedSimpArgs false
attribute [local go_sem] Oper.semAt_some
/-- the cells of a thing under handle n -/
structure HeAt (cs : Array Value) (n : Nat) (t : Th) : Prop where
  c0 : cs[64 + n * 5]? = some (.int .i64 t.key)
  c1 : cs[64 + n * 5 + 1]? = some (.int .u8 t.alg)
  c2 : cs[64 + n * 5 + 2]? = some (.int .i64 t.out)
  c3 : cs[64 + n * 5 + 3]? = some (.int .i64 t.custom)
  c4 : cs[64 + n * 5 + 4]? = some (.int .i64 t.msg)
structure PubCs (cs : Array Value) (σ : Hs) : Prop where
  size : cs.size = 384
  has : ∀ n : Nat, n < 64 → cs[n]? = some (.bool (σ (n : Int)).isSome)
  he : ∀ (n : Nat) (t : Th), n < 64 → σ (n : Int) = some t → HeAt cs n t
theorem set_at {cs : Array Value} {i : Nat} {v : Value} (h : i < cs.size) : (cs.setIfInBounds i v)[i]? = some v := by
  rw [Array.getElem?_setIfInBounds]
  simp [h]
theorem set_ne {cs : Array Value} {i k : Nat} {v : Value} (h : i ≠ k) : (cs.setIfInBounds i v)[k]? = cs[k]? := by
  rw [Array.getElem?_setIfInBounds]
  simp [h]
theorem set_size {cs : Array Value} {i : Nat} {v : Value} {n : Nat} (h : cs.size = n) : (cs.setIfInBounds i v).size = n := by simp [h]
theorem put_same (σ : Hs) (x : Int) (o : Option Th) : σ.put x o x = o := if_pos rfl
theorem put_ne {σ : Hs} {x y : Int} (o : Option Th) (h : y ≠ x) : σ.put x o y = σ y := if_neg h
theorem HeAt.ne {cs : Array Value} {n : Nat} {t : Th} (h : HeAt cs n t) {i : Nat} (hi : i < 64 + n * 5 ∨ 64 + n * 5 + 4 < i) (v : Value) : HeAt (cs.setIfInBounds i v) n t :=
  ⟨(set_ne (by omega)).trans h.c0, (set_ne (by omega)).trans h.c1, (set_ne (by omega)).trans h.c2, (set_ne (by omega)).trans h.c3, (set_ne (by omega)).trans h.c4⟩
theorem PubCs.drop {cs : Array Value} {σ : Hs} (h : PubCs cs σ) {n : Nat} (hn : n < 64) : PubCs (cs.setIfInBounds n (.bool false)) (σ.put (n : Int) none) := by
  refine ⟨set_size h.size, fun k hk => ?_, fun k t hk e => ?_⟩
  · by_cases e : k = n
    · rw [e, put_same, set_at (by rw [h.size]; omega)]
      rfl
    · rw [put_ne _ (by omega), set_ne (Ne.symm e)]
      exact h.has k hk
  · by_cases e2 : k = n
    · rw [e2, put_same] at e
      cases e
    · rw [put_ne _ (by omega)] at e
      exact (h.he k t hk e).ne (by omega) _
/-- a thing laid under a handle -/
def heSet (cs : Array Value) (n : Nat) (t : Th) : Array Value := ((((cs.setIfInBounds (64 + n * 5) (.int .i64 t.key)).setIfInBounds (64 + n * 5 + 1) (.int .u8 t.alg)).setIfInBounds (64 + n * 5 + 2) (.int .i64 t.out)).setIfInBounds (64 + n * 5 + 3) (.int .i64 t.custom)).setIfInBounds (64 + n * 5 + 4) (.int .i64 t.msg)
theorem PubCs.take {cs : Array Value} {σ : Hs} (h : PubCs cs σ) {n : Nat} (hn : n < 64) (t : Th) : PubCs (heSet (cs.setIfInBounds n (.bool true)) n t) (σ.put (n : Int) (some t)) := by
  have hs := h.size
  unfold heSet
  refine ⟨by simp [hs], fun k hk => ?_, fun k t' hk e => ?_⟩
  · rw [set_ne (by omega), set_ne (by omega), set_ne (by omega), set_ne (by omega), set_ne (by omega)]
    by_cases e : k = n
    · rw [e, put_same, set_at (by omega)]
      rfl
    · rw [put_ne _ (by omega), set_ne (Ne.symm e)]
      exact h.has k hk
  · by_cases e2 : k = n
    · rw [e2, put_same] at e
      injection e with e
      subst e
      subst e2
      refine ⟨?_, ?_, ?_, ?_, ?_⟩
      · rw [set_ne (by omega), set_ne (by omega), set_ne (by omega), set_ne (by omega), set_at (by simp [hs]; omega)]
      · rw [set_ne (by omega), set_ne (by omega), set_ne (by omega), set_at (by simp [hs]; omega)]
      · rw [set_ne (by omega), set_ne (by omega), set_at (by simp [hs]; omega)]
      · rw [set_ne (by omega), set_at (by simp [hs]; omega)]
      · rw [set_at (by simp [hs]; omega)]
    · rw [put_ne _ (by omega)] at e
      exact (((((((h.he k t' hk e).ne (by omega) _).ne (by omega) _).ne (by omega) _).ne (by omega) _).ne (by omega) _).ne (by omega) _)
theorem PubCs.told {cs : Array Value} {σ : Hs} (h : PubCs cs σ) {n : Nat} (hn : n < 64) {t : Th} (ht : σ (n : Int) = some t) (m : Int) : PubCs (cs.setIfInBounds (64 + n * 5 + 4) (.int .i64 m)) (σ.put (n : Int) (some { t with msg := m })) := by
  have hs := h.size
  refine ⟨set_size hs, fun k hk => ?_, fun k t' hk e => ?_⟩
  · rw [set_ne (by omega), h.has k hk]
    by_cases e : k = n
    · rw [e, put_same, ht]
      rfl
    · rw [put_ne _ (by omega)]
  · by_cases e2 : k = n
    · rw [e2, put_same] at e
      injection e with e
      subst e
      subst e2
      have q := h.he k t hk ht
      exact ⟨(set_ne (by omega)).trans q.c0, (set_ne (by omega)).trans q.c1, (set_ne (by omega)).trans q.c2, (set_ne (by omega)).trans q.c3, set_at (by omega)⟩
    · rw [put_ne _ (by omega)] at e
      exact (h.he k t' hk e).ne (by omega) _
def RPub (w : World) (P : Nat) (σ : Hs) : Prop := ∃ cs, Blk w P 98 cs ∧ PubCs cs σ
def obRP (P : Nat) (σ : Hs) : Ob := ⟨fun w F => RPub w P σ ∧ F = fun x => x = P, fun {w w' F S} h ho hd => ⟨by obtain ⟨cs, h1, h2⟩ := h.1; exact ⟨cs, h1.only ho (hd P (by rw [h.2])), h2⟩, h.2⟩,
  fun {w F} h => by
    rw [h.2]
    rintro x rfl
    obtain ⟨cs, h1, _⟩ := h.1
    exact h1.lt⟩
section
variable {w w0 w' : World} {P : Nat} {σ σ' : Hs} {obs : List Ob}
theorem RPub.below (h : RPub w P σ) (hb : Below w.heap.size w w') : RPub w' P σ := by
  obtain ⟨cs, h1, h2⟩ := h
  exact ⟨cs, h1.only (Only.nothing hb) (fun h => h), h2⟩
theorem RPub.has (h : RPub w P σ) {n : Nat} (hn : n < 64) : w.cell? ⟨P, n, none⟩ = some (.bool (σ (n : Int)).isSome) := by
  obtain ⟨cs, h1, h2⟩ := h
  exact h1.cellAt n (h2.has n hn)
structure HeW (w : World) (P n : Nat) (t : Th) : Prop where
  c0 : w.cell? ⟨P, 64 + n * 5, none⟩ = some (.int .i64 t.key)
  c1 : w.cell? ⟨P, 64 + n * 5 + 1, none⟩ = some (.int .u8 t.alg)
  c2 : w.cell? ⟨P, 64 + n * 5 + 2, none⟩ = some (.int .i64 t.out)
  c3 : w.cell? ⟨P, 64 + n * 5 + 3, none⟩ = some (.int .i64 t.custom)
  c4 : w.cell? ⟨P, 64 + n * 5 + 4, none⟩ = some (.int .i64 t.msg)
theorem RPub.he (h : RPub w P σ) {n : Nat} {t : Th} (hn : n < 64) (ht : σ (n : Int) = some t) : HeW w P n t := by
  obtain ⟨cs, h1, h2⟩ := h
  have q := h2.he n t hn ht
  exact ⟨h1.cellAt _ q.c0, h1.cellAt _ q.c1, h1.cellAt _ q.c2, h1.cellAt _ q.c3, h1.cellAt _ q.c4⟩
theorem RPub.any (h : RPub w P σ) {k : Nat} (hk : k < 384) : ∃ v, w.cell? ⟨P, k, none⟩ = some v := by
  obtain ⟨cs, h1, h2⟩ := h
  exact ⟨_, h1.cellAt k (Array.getElem?_eq_getElem (by rw [h2.size]; exact hk))⟩
theorem Env.rpub (h : Env w0 w obs) (i : Nat) (hi : obs[i]? = some (obRP P σ)) : RPub w P σ := by
  obtain ⟨F, h1, _⟩ := h.get i hi
  exact h1.1
end
def Dom (σ : Hs) : Prop := ∀ h t, σ h = some t → 0 ≤ h ∧ h < 64
def rpV (P : Nat) : Value := .pointer (some ⟨P, 0, none⟩)
set_option maxHeartbeats 1000000 in
theorem rthere_any {w : World} {P : Nat} {σ : Hs} (h : RPub w P σ) (hd : Dom σ) (x : Int) : Calls Try.prog 75 #[rpV P, .int .i64 x] w (Same (.bool (σ x).isSome) w) := by
  unfold Same rpV
  by_cases h0 : 0 ≤ x
  · have t0 : decide (0 ≤ x) = true := decide_eq_true h0
    by_cases h1 : x < 64
    · have t1 : decide (x < 64) = true := decide_eq_true h1
      obtain ⟨n, hn⟩ : ∃ n : Nat, x = (n : Int) := ⟨x.toNat, by omega⟩
      subst hn
      have hc := h.has (n := n) (by omega)
      have bn : 0 ≤ (n : Int) ∧ (n : Int) < 64 := by omega
      have hn2 : n < 64 := by omega
      obtain ⟨b, hb⟩ : ∃ b, (σ (n : Int)).isSome = b := ⟨_, rfl⟩
      rw [hb] at hc ⊢
      clear h hd hb
      go_enter Try.func75, Try.ntmps75
      go_wp2_with fail
      go_ret
      exact ⟨rfl, rfl⟩
    · have t1 : decide (x < 64) = false := decide_eq_false h1
      have e : (σ x).isSome = false := by
        cases e : σ x with
        | none => rfl
        | some t => exact absurd (hd x t e).2 h1
      rw [e]
      clear h hd e
      go_enter Try.func75, Try.ntmps75
      go_wp2_with fail
      go_ret
      exact ⟨rfl, rfl⟩
  · have t0 : decide (0 ≤ x) = false := decide_eq_false h0
    have e : (σ x).isSome = false := by
      cases e : σ x with
      | none => rfl
      | some t => exact absurd (hd x t e).1 h0
    rw [e]
    clear h hd e
    go_enter Try.func75, Try.ntmps75
    go_wp2_with fail
    go_ret
    exact ⟨rfl, rfl⟩
def frR (σ : Hs) : Int := match freeH σ with
  | some n => (n : Int)
  | none => -1
set_option maxHeartbeats 1000000 in
theorem rfree_any {w : World} {P : Nat} {σ : Hs} (h : RPub w P σ) : Calls Try.prog 78 #[rpV P] w (Same (.int .i64 (frR σ)) w) := by
  unfold Same rpV
  have H := Lib.hid h
  obtain ⟨T, hT⟩ : ∃ T, frR σ = T := ⟨_, rfl⟩
  rw [hT]
  have HT := Lib.hid hT
  clear hT h
  go_enter Try.func78, Try.ntmps78
  go_wp2_with fail
  go_loopw [3] (fun iv wx => wx = w ∧ ∃ j : Nat, j ≤ 64 ∧ iv = .int .i64 (j : Int) ∧ Hid (freeTo σ (64 - j) j = freeH σ)) (fun iv _ => 64 - (RowKit.intOf iv).toNat)
  case atStart => exact ⟨rfl, 0, Nat.zero_le _, rfl, Lib.hid rfl⟩
  case round =>
    obtain ⟨rfl, j, hj, rfl, HF⟩ := hrel
    by_cases hlt : j < 64
    · have t3 : decide ((j : Int) < 64) = true := by rw [decide_eq_true_eq]; omega
      have bj : 0 ≤ (j : Int) ∧ (j : Int) < 64 := by omega
      have hc := H.out.has (n := j) hlt
      have e64 : 64 - j = (64 - (j + 1)) + 1 := by omega
      cases hb : (σ (j : Int)).isSome
      · rw [hb] at hc
        have hfr : freeH σ = some j := by
          rw [← HF.out, e64]
          exact freeTo_is σ _ j hb
        have hTj : T = (j : Int) := by
          rw [← HT.out]
          unfold frR
          rw [hfr]
        have HTJ := Lib.hid hTj
        clear hb hfr hTj e64
        go_wp2_with fail
        go_ret
        exact ⟨by rw [HTJ.out]; rfl, rfl⟩
      · rw [hb] at hc
        have HF2 : Hid (freeTo σ (64 - (j + 1)) (j + 1) = freeH σ) := by
          rw [← HF.out, e64]
          exact Lib.hid (freeTo_held σ _ j hb).symm
        have hw1 : IntKind.i64.wrap ((j : Int) + 1) = ((j + 1 : Nat) : Int) := by rw [IntWalk.i64_in _ (by omega)]; omega
        clear hb e64
        go_wp2_with fail
        refine ⟨⟨trivial, j + 1, by omega, rfl, HF2⟩, ?_⟩
        have q9 : 64 - ((j : Int) + 1).toNat < 64 - ((j : Int)).toNat := by omega
        exact q9
    · have t3 : decide ((j : Int) < 64) = false := by rw [decide_eq_false_iff_not]; omega
      have hj4 : j = 64 := by omega
      have hTj : T = -1 := by
        have hf := HF.out
        rw [hj4] at hf
        have : freeH σ = none := hf.symm
        rw [← HT.out]
        unfold frR
        rw [this]
      have HTJ := Lib.hid hTj
      clear hTj
      go_wp2_with fail
      go_ret
      exact ⟨by rw [HTJ.out]; rfl, rfl⟩
structure SCd (B P n : Nat) (s : Sk) (t : Th) (W : World) : Prop where
  b : SkAt W B 0 s
  h : HeW W P n t
section
variable {B P n : Nat} {s : Sk} {t : Th}
theorem SCd.b0 (W : World) (h : SCd B P n s t W) : W.cell? ⟨B, 0, none⟩ = some (.int .u8 s.kind) := by have q := h.b.c0; simpa using q
theorem SCd.b1 (W : World) (h : SCd B P n s t W) : W.cell? ⟨B, 1, none⟩ = some (.int .i64 s.handle) := by have q := h.b.c1; simpa using q
theorem SCd.b2 (W : World) (h : SCd B P n s t W) : W.cell? ⟨B, 2, none⟩ = some (.int .u8 s.alg) := by have q := h.b.c2; simpa using q
theorem SCd.b3 (W : World) (h : SCd B P n s t W) : W.cell? ⟨B, 3, none⟩ = some (.int .i64 s.count) := by have q := h.b.c3; simpa using q
theorem SCd.b4 (W : World) (h : SCd B P n s t W) : W.cell? ⟨B, 4, none⟩ = some (.int .i64 s.out) := by have q := h.b.c4; simpa using q
theorem SCd.b5 (W : World) (h : SCd B P n s t W) : W.cell? ⟨B, 5, none⟩ = some (.int .i64 s.data) := by have q := h.b.c5; simpa using q
theorem SCd.b6 (W : World) (h : SCd B P n s t W) : W.cell? ⟨B, 6, none⟩ = some (.int .i64 s.more) := by have q := h.b.c6; simpa using q
theorem SCd.h0 (W : World) (h : SCd B P n s t W) : W.cell? ⟨P, 64 + n * 5, none⟩ = some (.int .i64 t.key) := h.h.c0
theorem SCd.h1 (W : World) (h : SCd B P n s t W) : W.cell? ⟨P, 64 + n * 5 + 1, none⟩ = some (.int .u8 t.alg) := h.h.c1
theorem SCd.h2 (W : World) (h : SCd B P n s t W) : W.cell? ⟨P, 64 + n * 5 + 2, none⟩ = some (.int .i64 t.out) := h.h.c2
theorem SCd.h3 (W : World) (h : SCd B P n s t W) : W.cell? ⟨P, 64 + n * 5 + 3, none⟩ = some (.int .i64 t.custom) := h.h.c3
theorem SCd.h4 (W : World) (h : SCd B P n s t W) : W.cell? ⟨P, 64 + n * 5 + 4, none⟩ = some (.int .i64 t.msg) := h.h.c4
end
theorem skBox {w : World} {B : Nat} {s : Sk} (h : Blk w B 43 (skCells s)) : SkAt w B 0 s := ⟨h.cellAt 0 rfl, h.cellAt 1 rfl, h.cellAt 2 rfl, h.cellAt 3 rfl, h.cellAt 4 rfl, h.cellAt 5 rfl, h.cellAt 6 rfl⟩
set_option maxHeartbeats 8000000 in
theorem rcode_any {w : World} {P : Nat} {σ : Hs} (h : RPub w P σ) (hd : Dom σ) (s : Sk) : Calls Try.prog 51 #[rpV P, skV s] w (Told (.int .i64 (codeS σ s)) w) := by
  rw [← codeR_is]
  obtain ⟨T, hT⟩ : ∃ T, codeR σ s = T := ⟨_, rfl⟩
  rw [hT]
  have HT := Lib.hid hT
  have HP : Hid (∀ w', Below w.heap.size w w' → RPub w' P σ) := Lib.hid fun w' hb => h.below hb
  have HD := Lib.hid hd
  have hw0 : Below w.heap.size w (w.alloc (.cells (skCells s) 43)) := (Below.refl _ _).alloc (Nat.le_refl _) _
  have hk0 := Blk.new w 43 (skCells s)
  have HW0 := Lib.hid hw0
  have HK0 := Lib.hid hk0
  clear hT h hd hw0 hk0
  unfold skV rpV
  by_cases a1 : s.kind < 1
  · have t1 : decide (s.kind < 1) = true := decide_eq_true a1
    have HV : Hid (codeR σ s = 3) := Lib.hid (if_pos (.inl a1))
    clear a1
    go_enter Try.func51, Try.ntmps51
    go_wp2_with fail
    go_ret
    exact ⟨by rw [← HT.out, HV.out]; rfl, HW0.out⟩
  have t1 : decide (s.kind < 1) = false := decide_eq_false a1
  by_cases a2 : 10 < s.kind
  · have t2 : decide (10 < s.kind) = true := decide_eq_true a2
    have HV : Hid (codeR σ s = 3) := Lib.hid (if_pos (.inr a2))
    clear a1 a2
    go_enter Try.func51, Try.ntmps51
    go_wp2_with fail
    go_ret
    exact ⟨by rw [← HT.out, HV.out]; rfl, HW0.out⟩
  have t2 : decide (10 < s.kind) = false := decide_eq_false a2
  have hn12 : ¬ (s.kind < 1 ∨ 10 < s.kind) := by omega
  by_cases a3 : s.kind = 1
  · have t3 : (s.kind == (1 : Int)) = true := beq_t a3
    have t4 : (s.kind != (1 : Int)) = false := bne_f a3
    by_cases a4 : 512 < s.data
    · have t5 : decide (512 < s.data) = true := decide_eq_true a4
      have HV : Hid (codeR σ s = 7) := Lib.hid (by unfold codeR; rw [if_neg hn12, if_pos a3, if_pos a4])
      clear a1 a2 a3 a4 hn12
      go_enter Try.func51, Try.ntmps51
      go_wp2_with fail
      go_ret
      exact ⟨by rw [← HT.out, HV.out]; rfl, HW0.out⟩
    · have t5 : decide (512 < s.data) = false := decide_eq_false a4
      have HV : Hid (codeR σ s = restR σ s) := Lib.hid (by unfold codeR; rw [if_neg hn12, if_pos a3, if_neg a4])
      clear a1 a2 a3 a4 hn12
      go_enter Try.func51, Try.ntmps51
      go_wp2_with fail
      have HW := HW0
      unfold skCells at HW
      refine (rtakes_any s.kind _).mono ?_
      rintro e wt ⟨rfl, rfl⟩
      obtain ⟨b, hb⟩ : ∃ b, takesR s.kind = b := ⟨_, rfl⟩
      rw [hb]
      have HBT := Lib.hid hb
      clear hb
      cases b
      · go_wp2_with fail
        go_ret
        exact ⟨by rw [← HT.out, HV.out, rest_not σ s HBT.out]; rfl, HW.out⟩
      · go_wp2_with fail
        refine (rfree_any (HP.out _ HW.out)).mono ?_
        rintro e wf ⟨rfl, rfl⟩
        cases hf : freeH σ with
        | none =>
          have e1 : frR σ = -1 := by unfold frR; rw [hf]
          have e2 : restR σ s = 8 := by unfold restR; rw [if_pos ⟨HBT.out, hf⟩]
          rw [e1]
          have HE2 := Lib.hid e2
          clear e1 e2 hf
          go_wp2_with fail
          go_ret
          exact ⟨by rw [← HT.out, HV.out, HE2.out]; rfl, HW.out⟩
        | some q =>
          have e1 : frR σ = (q : Int) := by unfold frR; rw [hf]
          have e2 : restR σ s = 0 := by unfold restR; rw [if_neg (fun h => by rw [hf] at h; cases h.2)]
          have t9 : decide ((q : Int) < 0) = false := decide_eq_false (by omega)
          rw [e1]
          have HE2 := Lib.hid e2
          clear e1 e2 hf
          go_wp2_with fail
          go_ret
          exact ⟨by rw [← HT.out, HV.out, HE2.out]; rfl, HW.out⟩
  have t3 : (s.kind == (1 : Int)) = false := beq_f a3
  have t4 : (s.kind != (1 : Int)) = true := bne_t a3
  cases hst : σ s.handle with
  | none =>
    have HV : Hid (codeR σ s = 5) := Lib.hid (by unfold codeR; rw [if_neg hn12, if_neg a3, hst])
    have hnone : (σ s.handle).isSome = false := by rw [hst]; rfl
    have HN := Lib.hid hnone
    clear a1 a2 a3 hn12 hnone hst
    go_enter Try.func51, Try.ntmps51
    go_wp2_with fail
    refine (rthere_any (HP.out _ HW0.out) HD.out s.handle).mono ?_
    rintro e w1 ⟨rfl, rfl⟩
    rw [HN.out]
    go_wp2_with fail
    go_ret
    exact ⟨by rw [← HT.out, HV.out]; rfl, HW0.out⟩
  | some t =>
    have hsome : (σ s.handle).isSome = true := by rw [hst]; rfl
    have hdm := HD.out _ _ hst
    obtain ⟨n, hn⟩ : ∃ n : Nat, s.handle = (n : Int) := ⟨s.handle.toNat, by omega⟩
    have hn64 : n < 64 := by omega
    have bn : 0 ≤ (n : Int) ∧ (n : Int) < 64 := by omega
    have hcv : codeR σ s = if fitsR t s = 0 then restR σ s else fitsR t s := by unfold codeR; rw [if_neg hn12, if_neg a3, hst]
    have hst2 := hst
    rw [hn] at hst2
    have HV0 := Lib.hid hcv
    have HN := Lib.hid hsome
    have HST := Lib.hid hst2
    have HHN : Hid (s.handle.toNat = n) := Lib.hid (by omega)
    have HBN : Hid (0 ≤ s.handle ∧ s.handle < 64) := Lib.hid (by omega)
    clear a1 a2 a3 hn12 hsome hst hst2 hcv hdm hn
    go_enter Try.func51, Try.ntmps51
    go_wp2_with fail
    refine (rthere_any (HP.out _ HW0.out) HD.out s.handle).mono ?_
    rintro e w1 ⟨rfl, rfl⟩
    rw [HN.out]
    go_upto_region 8 with fail
    obtain ⟨W, hW⟩ : ∃ y, w.alloc (.cells (skCells s) 43) = y := ⟨_, rfl⟩
    obtain ⟨B, hB⟩ : ∃ y, w.heap.size = y := ⟨_, rfl⟩
    have hk := HK0.out
    have hw := HW0.out
    rw [hW] at hk hw
    rw [hB] at hk
    have hS : Hid (∀ W', Below W.heap.size W W' → SCd B P n s t W') := Lib.hid fun W' hb' => ⟨skBox (hk.only (Only.nothing hb') (fun h => h)), (HP.out _ (hw.trans (hb'.mono hw.size))).he hn64 HST.out⟩
    try rw [hW]
    try rw [hB]
    have HW1 := Lib.hid hw
    have hhn := HHN.out
    have hbn := HBN.out
    clear hk hw hW hB HW0 HK0
    refine hd_start (SCd B P n s t) (by kernel_rfl) ?_
    intro w3 hw'
    have h3 : Below W.heap.size W w3 := by rw [hw']; exact below_draw (Below.refl _ _) 1
    clear hw'
    have S3 := hS.out _ h3
    refine hd_take (v := ?_) 0 rfl (by kernel_rfl) (fun _ _ d _ _ h => (by cases d <;> exact h)) (by kernel_rfl) S3 (fun w' hS => ?_) ?_
    rotate_left
    focus (have q0 := SCd.b0 w' hS; have q1 := SCd.b1 w' hS; have q2 := SCd.b2 w' hS; have q3 := SCd.b3 w' hS; have q4 := SCd.b4 w' hS; have q5 := SCd.b5 w' hS; have q6 := SCd.b6 w' hS; have q7 := SCd.h0 w' hS; have q8 := SCd.h1 w' hS; have q9 := SCd.h2 w' hS; have q10 := SCd.h3 w' hS; have q11 := SCd.h4 w' hS; clear hS; go_simp; try rfl; done)
    simp only [List.getElem_toArray, List.getElem_cons_succ, List.getElem_cons_zero, Act.put, List.setIfInBounds_toArray, List.set_cons_zero, List.set_cons_succ]
    refine hd_take (v := ?_) 1 rfl (by kernel_rfl) (fun _ _ d _ _ h => (by cases d <;> exact h)) (by kernel_rfl) S3 (fun w' hS => ?_) ?_
    rotate_left
    focus (have q0 := SCd.b0 w' hS; have q1 := SCd.b1 w' hS; have q2 := SCd.b2 w' hS; have q3 := SCd.b3 w' hS; have q4 := SCd.b4 w' hS; have q5 := SCd.b5 w' hS; have q6 := SCd.b6 w' hS; have q7 := SCd.h0 w' hS; have q8 := SCd.h1 w' hS; have q9 := SCd.h2 w' hS; have q10 := SCd.h3 w' hS; have q11 := SCd.h4 w' hS; clear hS; go_simp; try rfl; done)
    simp only [List.getElem_toArray, List.getElem_cons_succ, List.getElem_cons_zero, Act.put, List.setIfInBounds_toArray, List.set_cons_zero, List.set_cons_succ]
    refine hd_take (v := ?_) 2 rfl (by kernel_rfl) (fun _ _ d _ _ h => (by cases d <;> exact h)) (by kernel_rfl) S3 (fun w' hS => ?_) ?_
    rotate_left
    focus (have q0 := SCd.b0 w' hS; have q1 := SCd.b1 w' hS; have q2 := SCd.b2 w' hS; have q3 := SCd.b3 w' hS; have q4 := SCd.b4 w' hS; have q5 := SCd.b5 w' hS; have q6 := SCd.b6 w' hS; have q7 := SCd.h0 w' hS; have q8 := SCd.h1 w' hS; have q9 := SCd.h2 w' hS; have q10 := SCd.h3 w' hS; have q11 := SCd.h4 w' hS; clear hS; go_simp; try rfl; done)
    simp only [List.getElem_toArray, List.getElem_cons_succ, List.getElem_cons_zero, Act.put, List.setIfInBounds_toArray, List.set_cons_zero, List.set_cons_succ]
    refine hd_take (v := ?_) 3 rfl (by kernel_rfl) (fun _ _ d _ _ h => (by cases d <;> exact h)) (by kernel_rfl) S3 (fun w' hS => ?_) ?_
    rotate_left
    focus (have q0 := SCd.b0 w' hS; have q1 := SCd.b1 w' hS; have q2 := SCd.b2 w' hS; have q3 := SCd.b3 w' hS; have q4 := SCd.b4 w' hS; have q5 := SCd.b5 w' hS; have q6 := SCd.b6 w' hS; have q7 := SCd.h0 w' hS; have q8 := SCd.h1 w' hS; have q9 := SCd.h2 w' hS; have q10 := SCd.h3 w' hS; have q11 := SCd.h4 w' hS; clear hS; go_simp; try rfl; done)
    simp only [List.getElem_toArray, List.getElem_cons_succ, List.getElem_cons_zero, Act.put, List.setIfInBounds_toArray, List.set_cons_zero, List.set_cons_succ]
    refine hd_take (v := ?_) 4 rfl (by kernel_rfl) (fun _ _ d _ _ h => (by cases d <;> exact h)) (by kernel_rfl) S3 (fun w' hS => ?_) ?_
    rotate_left
    focus (have q0 := SCd.b0 w' hS; have q1 := SCd.b1 w' hS; have q2 := SCd.b2 w' hS; have q3 := SCd.b3 w' hS; have q4 := SCd.b4 w' hS; have q5 := SCd.b5 w' hS; have q6 := SCd.b6 w' hS; have q7 := SCd.h0 w' hS; have q8 := SCd.h1 w' hS; have q9 := SCd.h2 w' hS; have q10 := SCd.h3 w' hS; have q11 := SCd.h4 w' hS; clear hS; go_simp; try rfl; done)
    simp only [List.getElem_toArray, List.getElem_cons_succ, List.getElem_cons_zero, Act.put, List.setIfInBounds_toArray, List.set_cons_zero, List.set_cons_succ]
    refine hd_take (v := ?_) 5 rfl (by kernel_rfl) (fun _ _ d _ _ h => (by cases d <;> exact h)) (by kernel_rfl) S3 (fun w' hS => ?_) ?_
    rotate_left
    focus (have q0 := SCd.b0 w' hS; have q1 := SCd.b1 w' hS; have q2 := SCd.b2 w' hS; have q3 := SCd.b3 w' hS; have q4 := SCd.b4 w' hS; have q5 := SCd.b5 w' hS; have q6 := SCd.b6 w' hS; have q7 := SCd.h0 w' hS; have q8 := SCd.h1 w' hS; have q9 := SCd.h2 w' hS; have q10 := SCd.h3 w' hS; have q11 := SCd.h4 w' hS; clear hS; go_simp; try rfl; done)
    simp only [List.getElem_toArray, List.getElem_cons_succ, List.getElem_cons_zero, Act.put, List.setIfInBounds_toArray, List.set_cons_zero, List.set_cons_succ]
    refine hd_take (v := ?_) 6 rfl (by kernel_rfl) (fun _ _ d _ _ h => (by cases d <;> exact h)) (by kernel_rfl) S3 (fun w' hS => ?_) ?_
    rotate_left
    focus (have q0 := SCd.b0 w' hS; have q1 := SCd.b1 w' hS; have q2 := SCd.b2 w' hS; have q3 := SCd.b3 w' hS; have q4 := SCd.b4 w' hS; have q5 := SCd.b5 w' hS; have q6 := SCd.b6 w' hS; have q7 := SCd.h0 w' hS; have q8 := SCd.h1 w' hS; have q9 := SCd.h2 w' hS; have q10 := SCd.h3 w' hS; have q11 := SCd.h4 w' hS; clear hS; go_simp; try rfl; done)
    simp only [List.getElem_toArray, List.getElem_cons_succ, List.getElem_cons_zero, Act.put, List.setIfInBounds_toArray, List.set_cons_zero, List.set_cons_succ]
    refine hd_take (v := ?_) 7 rfl (by kernel_rfl) (fun _ _ d _ _ h => (by cases d <;> exact h)) (by kernel_rfl) S3 (fun w' hS => ?_) ?_
    rotate_left
    focus (have q0 := SCd.b0 w' hS; have q1 := SCd.b1 w' hS; have q2 := SCd.b2 w' hS; have q3 := SCd.b3 w' hS; have q4 := SCd.b4 w' hS; have q5 := SCd.b5 w' hS; have q6 := SCd.b6 w' hS; have q7 := SCd.h0 w' hS; have q8 := SCd.h1 w' hS; have q9 := SCd.h2 w' hS; have q10 := SCd.h3 w' hS; have q11 := SCd.h4 w' hS; clear hS; go_simp; try rfl; done)
    simp only [List.getElem_toArray, List.getElem_cons_succ, List.getElem_cons_zero, Act.put, List.setIfInBounds_toArray, List.set_cons_zero, List.set_cons_succ]
    refine hd_take (v := ?_) 8 rfl (by kernel_rfl) (fun _ _ d _ _ h => (by cases d <;> exact h)) (by kernel_rfl) S3 (fun w' hS => ?_) ?_
    rotate_left
    focus (have q0 := SCd.b0 w' hS; have q1 := SCd.b1 w' hS; have q2 := SCd.b2 w' hS; have q3 := SCd.b3 w' hS; have q4 := SCd.b4 w' hS; have q5 := SCd.b5 w' hS; have q6 := SCd.b6 w' hS; have q7 := SCd.h0 w' hS; have q8 := SCd.h1 w' hS; have q9 := SCd.h2 w' hS; have q10 := SCd.h3 w' hS; have q11 := SCd.h4 w' hS; clear hS; go_simp; try rfl; done)
    simp only [List.getElem_toArray, List.getElem_cons_succ, List.getElem_cons_zero, Act.put, List.setIfInBounds_toArray, List.set_cons_zero, List.set_cons_succ]
    refine hd_one 9 (by kernel_rfl) ?_
    refine op_call rfl (by kernel_rfl) (by go_simp; first | exact ⟨rfl, rfl⟩ | rfl) ?_
    refine (rfits_any _ s t w3).mono ?_
    rintro e w4 ⟨rfl, h4⟩
    have h4' := h3.trans (h4.mono h3.size)
    have hS2 := hS.out _ h4'
    refine ⟨_, rfl, hS2, ?_⟩
    simp only [List.getElem_toArray, List.getElem_cons_succ, List.getElem_cons_zero, Act.put, List.setIfInBounds_toArray, List.set_cons_zero, List.set_cons_succ]
    refine hd_take (v := ?_) 10 rfl (by kernel_rfl) (fun _ _ d _ _ h => (by cases d <;> exact h)) (by kernel_rfl) hS2 (fun w' hS => ?_) ?_
    rotate_left
    focus (clear hS; go_simp; try rfl; done)
    simp only [List.getElem_toArray, List.getElem_cons_succ, List.getElem_cons_zero, Act.put, List.setIfInBounds_toArray, List.set_cons_zero, List.set_cons_succ]
    refine hd_done (by kernel_rfl) ?_
    have HW := Lib.hid (HW1.out.trans (h4'.mono HW1.out.size))
    obtain ⟨c, hc⟩ : ∃ c, fitsR t s = c := ⟨_, rfl⟩
    rw [hc]
    have hv := HV0.out
    rw [hc] at hv
    have sb := hS.out _ h4'
    have q0 := SCd.b0 _ sb
    clear hc h3 h4 h4' S3 hS2 sb HV0 HW1 hhn hbn
    by_cases c0 : c = 0
    · subst c0
      rw [if_pos rfl] at hv
      have HV := Lib.hid hv
      clear hv
      go_wp2_with fail
      refine (rtakes_any s.kind _).mono ?_
      rintro e wt ⟨rfl, rfl⟩
      obtain ⟨b, hb⟩ : ∃ b, takesR s.kind = b := ⟨_, rfl⟩
      rw [hb]
      have HBT := Lib.hid hb
      clear hb
      cases b
      · go_wp2_with fail
        go_ret
        exact ⟨by rw [← HT.out, HV.out, rest_not σ s HBT.out]; rfl, HW.out⟩
      · go_wp2_with fail
        refine (rfree_any (HP.out _ HW.out)).mono ?_
        rintro e wf ⟨rfl, rfl⟩
        cases hf : freeH σ with
        | none =>
          have e1 : frR σ = -1 := by unfold frR; rw [hf]
          have e2 : restR σ s = 8 := by unfold restR; rw [if_pos ⟨HBT.out, hf⟩]
          rw [e1]
          have HE2 := Lib.hid e2
          clear e1 e2 hf
          go_wp2_with fail
          go_ret
          exact ⟨by rw [← HT.out, HV.out, HE2.out]; rfl, HW.out⟩
        | some q =>
          have e1 : frR σ = (q : Int) := by unfold frR; rw [hf]
          have e2 : restR σ s = 0 := by unfold restR; rw [if_neg (fun h => by rw [hf] at h; cases h.2)]
          have t9 : decide ((q : Int) < 0) = false := decide_eq_false (by omega)
          rw [e1]
          have HE2 := Lib.hid e2
          clear e1 e2 hf
          go_wp2_with fail
          go_ret
          exact ⟨by rw [← HT.out, HV.out, HE2.out]; rfl, HW.out⟩
    · rw [if_neg c0] at hv
      have HV := Lib.hid hv
      have tc : (c != (0 : Int)) = true := bne_t c0
      clear hv c0
      go_wp2_with fail
      go_ret
      exact ⟨by rw [← HT.out, HV.out]; rfl, HW.out⟩
end Go.Proofs.Ytkidijjhedjifaa
namespace Go.Proofs.Ytkidijjhedjifaa
open Go.RowKit
set_option maxRecDepth 100000
set_option linter.unusedVariables false
set_option linter.unusedSimpArgs false
attribute [local go_sem] Oper.semAt_some
section
variable {w0 w : World} {obs : List Ob}
theorem timesN_off {rs : List Rn} {k s n : Int} (h : n < 1) : timesN rs ⟨k, s, n⟩ = rs := if_pos h
theorem timesN_on {rs : List Rn} {k s n : Int} (h : ¬ n < 1) : timesN rs ⟨k, s, n⟩ = noteL rs k s n := if_neg h
theorem Env.same (h : Env w0 w obs) (i : Nat) {ob : Ob} (hi : obs[i]? = some ob) : Env w0 w (obs.set i ob) := by
  rw [setIs _ _ _ hi]
  exact h
theorem infoN3 : (Try.prog.info? 51).map (fun i => (i.zero, i.size, i.bytes)) = some (some (.agg #[.int .u8 0, .int .i64 0, .int .i64 0]), 3, 24) := by kernel_rfl
theorem rnCellsP {w : World} {b off n cap : Nat} {l : List Rn} (h : KN.R w (.slice (some ⟨b, off, none⟩) n cap) l) {k : Nat} {x : Rn} (hx : l[k]? = some x) : w.cell? ⟨b, off + k * 3, none⟩ = some (.int .u8 x.k) ∧ w.cell? ⟨b, off + k * 3 + 1, none⟩ = some (.int .i64 x.s) ∧ w.cell? ⟨b, off + k * 3 + 2, none⟩ = some (.int .i64 x.c) := by
  obtain ⟨b', off', e, _, hc⟩ := Knd.R.get h hx
  injection e with e
  injection e with e1 e2
  subst e1 e2
  have c1 := hc 1 _ rfl
  have c2 := hc 2 _ rfl
  rw [← Nat.add_assoc] at c1 c2
  exact ⟨hc 0 _ rfl, c1, c2⟩
theorem KN_last {w1 : World} {g cap N : Nat} {l : List Rn} {x : Rn} (c : Int) (h1 : KN.O w1 (.slice (some ⟨g, 0, none⟩) N cap) (l ++ [x])) :
    KN.O (w1.setCell ⟨g, l.length * 3 + 2, none⟩ (.int .i64 c)) (.slice (some ⟨g, 0, none⟩) N cap) (l ++ [⟨x.k, x.s, c⟩]) := by
  have hN : N = l.length + 1 := by
    rcases h1.2 with ⟨hv, _⟩ | ⟨g', cap', cur, hv, _⟩
    · simp at hv
    · injection hv with _ e _; simpa using e
  subst hN
  unfold Knd.O at *
  rw [show (l ++ [x]).length = l.length + 1 from by simp] at h1
  rw [show (l ++ [(⟨x.k, x.s, c⟩ : Rn)]).length = l.length + 1 from by simp]
  have q := ownsRow_setCells [.int .i64 c] w1 (KN.fl (l ++ [x])) (l.length * 3 + 2) h1
  have e1 : KN.fl (l ++ [x]) = (KN.fl l ++ [.int .u8 x.k, .int .i64 x.s]) ++ [.int .i64 x.c] := by rw [KN.fl_app, KN.fl_one]; simp [KN]
  have e2 : KN.fl (l ++ [(⟨x.k, x.s, c⟩ : Rn)]) = (KN.fl l ++ [.int .u8 x.k, .int .i64 x.s]) ++ [.int .i64 c] := by rw [KN.fl_app, KN.fl_one]; simp [KN]
  have e3 : (KN.fl l ++ [Value.int .u8 x.k, .int .i64 x.s]).length = l.length * 3 + 2 := by rw [List.length_append, KN.fl_len]; rfl
  have e4 := putAt_app [.int .i64 c] (KN.fl l ++ [.int .u8 x.k, .int .i64 x.s]) [.int .i64 x.c] (by simp)
  have e5 : putAt ((KN.fl l ++ [.int .u8 x.k, .int .i64 x.s]) ++ [.int .i64 x.c]) (l.length * 3 + 2) [.int .i64 c] = (KN.fl l ++ [.int .u8 x.k, .int .i64 x.s]) ++ [.int .i64 c] := by rw [← e3, e4]; simp
  rw [e1, e5] at q
  rw [e2]
  exact q
set_option maxHeartbeats 4000000 in
theorem rput_env (h : Env w0 w obs) (i : Nat) {v : Value} {rs : List Rn} (hi : obs[i]? = some (obRuns v rs)) (k s n : Int) (hl : rs.length ≤ 100000) (hb : ∀ r ∈ rs, 0 ≤ r.c ∧ r.c ≤ 2000000000000) (hn : n ≤ 2000000000000) :
    Calls Try.prog 41 #[v, .int .u8 k, .int .i64 s, .int .i64 n] w fun e w' => ∃ v', e = .returned v' ∧ Env w0 w' (obs.set i (obRuns v' (timesN rs ⟨k, s, n⟩))) := by
  have H := Lib.hid h
  have HI := Lib.hid hi
  obtain ⟨ao, cap, rfl, c1, c2, _⟩ := (show KN.R w v rs from h.kR i hi).any
  clear h hi
  by_cases hn1 : n < 1
  · have t1 : decide (n < 1) = true := decide_eq_true hn1
    rw [timesN_off hn1]
    clear hn1
    go_enter Try.func41, Try.ntmps41
    go_wp2_with fail
    go_ret
    exact ⟨_, rfl, (H.out.below ((Below.refl _ _).alloc (Nat.le_refl _) _)).same i HI.out⟩
  have t1 : decide (n < 1) = false := decide_eq_false hn1
  rw [timesN_on hn1]
  have HW := Lib.hid (H.out.below ((Below.refl _ _).alloc (Nat.le_refl _) (.cells #[.int .u8 k, .int .i64 s] 49)))
  have HBK := Lib.hid (Blk.new w 49 #[.int .u8 k, .int .i64 s])
  rcases List.eq_nil_or_concat rs with rfl | ⟨l0, x, rfl⟩
  · rw [show noteL [] k s n = [] ++ [⟨k, s, n⟩] from rfl]
    go_enter Try.func41, Try.ntmps41
    go_wp2_with fail
    go_quiet (fail)
    go_upto_region 7 with fail
    have h5 := HW.out.draw nq
    have hk5 := HBK.out.only ((Only.refl (fun _ => False) _).draw nq) (fun h => h)
    obtain ⟨w5, hw5⟩ : ∃ y, (w.alloc (.cells #[.int .u8 k, .int .i64 s] 49)).drewN nq = y := ⟨_, rfl⟩
    obtain ⟨E, hE⟩ : ∃ y, w.heap.size = y := ⟨_, rfl⟩
    rw [hw5] at h5 hk5 ⊢
    rw [hE] at hk5
    simp only [hE]
    have f0 : w5.cell? ⟨E, 0, none⟩ = some (.int .u8 k) := hk5.cellAt 0 rfl
    have f1 : w5.cell? ⟨E, 1, none⟩ = some (.int .i64 s) := hk5.cellAt 1 rfl
    have H5 := Lib.hid h5
    have HOWN := Lib.hid (Env.row (H5.out.below ((Below.refl _ _).alloc (Nat.le_refl _) (.cells #[.int .u8 k, .int .i64 s, .int .i64 n] 51))) i HI.out)
    clear hw5 hE h5 hk5
    obtain ⟨i0, hi0, hz0, hz1, hz2⟩ := info_parts infoN3
    go_wp2_with (at_builtin; refine wpList_append_lies _ rfl _ _ 31 rfl 0 51 i0 _ 3 24 Try.underlying31 hi0 hz0 hz1 hz2 rfl (by decide) (.slice ao 0 cap) 0 (KN.fl ([] : List Rn)) rfl HOWN.out ⟨w5.heap.size, 0, none⟩ 1 1 [.int .u8 k, .int .i64 s, .int .i64 n] rfl rfl (World.news_of_block (heap_alloc_new _ _)) (KN.one ⟨k, s, n⟩) (by decide) (by unfold maxLen; omega) (by omega) (Nat.zero_le _) _ rfl ?_)
    intro g cg w7 k1 k2 k3 k4
    clear hi0 hz0 hz1 hz2
    have h8 : Env w0 w7 (obs.set i (obRuns (.slice (some ⟨g, 0, none⟩) (0 + 1) cg) (([] : List Rn) ++ [⟨k, s, n⟩]))) := by
      have hb8 := H5.out.below ((Below.refl _ _).alloc (Nat.le_refl _) (.cells #[.int .u8 k, .int .i64 s, .int .i64 n] 51))
      refine hb8.rowUp i HI.out ?_ k2 ?_
      · show w7.ownsRow 0 KN.e KN.sz _ (([] : List Rn) ++ [(⟨k, s, n⟩ : Rn)]).length (KN.fl (([] : List Rn) ++ [⟨k, s, n⟩]))
        rw [KN.fl_app, KN.fl_one, List.length_append]
        exact k1
      · rcases k3 with k3 | k3
        · exact .inl k3.symm
        · exact .inr (by rw [k3]; simp [Value.ownBlock])
    have H8 := Lib.hid h8
    clear h8 k1 k2 k3 k4
    go_wp2_with fail
    go_ret
    exact ⟨_, rfl, H8.out⟩
  · rw [List.concat_eq_append] at *
    have hlen : (l0 ++ [x]).length = l0.length + 1 := by simp
    rw [hlen] at hl c1 HI ⊢
    have hO := Env.kO (K := KN) HW.out i HI.out
    have hxc := hb x (by simp)
    rcases hO.2 with ⟨hnil, _⟩ | ⟨g, cp, cur, heq, _, hblk, _⟩
    · exact absurd hnil (by simp)
    injection heq with e1 e2 e3
    subst e1
    have hR : KN.R _ _ _ := hO.rd
    have hcs := rnCellsP hR (k := l0.length) (x := x) (by simp)
    have fz : World.frozen? _ ⟨g, l0.length * 3 + 2, none⟩ = false := Blk.unfrozen hblk (l0.length * 3 + 2)
    simp only [Nat.zero_add] at hcs
    obtain ⟨d0, d1, d2⟩ := hcs
    have hlm : IntKind.i64.wrap (((l0.length + 1 : Nat) : Int) - 1) = (l0.length : Int) := by rw [IntWalk.i64_in _ (by omega)]; omega
    have bl : 0 ≤ (l0.length : Int) ∧ (l0.length : Int) < ((l0.length + 1 : Nat) : Int) := by omega
    have t0 : decide (0 < ((l0.length + 1 : Nat) : Int)) = true := decide_eq_true (by omega)
    by_cases he : x.k = k ∧ x.s = s
    · have b1 : (x.k == k) = true := by rw [he.1]; exact beq_self_eq_true _
      have b2 : (x.s == s) = true := by rw [he.2]; exact beq_self_eq_true _
      have hnl : noteL (l0 ++ [x]) k s n = l0 ++ [⟨x.k, x.s, x.c + n⟩] := by rw [← he.1, ← he.2]; exact noteL_same _ _ _
      rw [hnl]
      have hwc : IntKind.i64.wrap (x.c + n) = x.c + n := IntWalk.i64_in _ (by omega)
      clear hnl he hR hO hblk e2 e3 hb hxc
      go_enter Try.func41, Try.ntmps41
      go_wp2_with fail
      go_quiet (fail)
      go_wp2_with fail
      go_ret
      refine ⟨_, rfl, ?_⟩
      have h5 := HW.out.draw nq
      exact Env.turnK (K := KN) h5 i HI.out (KN_last (x.c + n) (Env.kO (K := KN) h5 i HI.out)) ((Only.refl (fpv (.slice (some ⟨g, 0, none⟩) (l0.length + 1) cap)) _).set (p := ⟨g, l0.length * 3 + 2, none⟩) (.inl rfl) _)
    · have hnl : noteL (l0 ++ [x]) k s n = l0 ++ [x] ++ [⟨k, s, n⟩] := noteL_other _ _ _ _ _ he
      rw [hnl]
      have hcase : ((x.k == k) = false) ∨ ((x.k == k) = true ∧ (x.s == s) = false) := by
        by_cases e : x.k = k
        · right
          refine ⟨by rw [e]; exact beq_self_eq_true _, ?_⟩
          rw [beq_eq_false_iff_ne]
          exact fun e2 => he ⟨e, e2⟩
        · left
          rw [beq_eq_false_iff_ne]
          exact e
      clear hnl he hR hO hblk e2 e3 hb hxc fz
      rcases hcase with b1 | ⟨b1, b2⟩
      all_goals
        go_enter Try.func41, Try.ntmps41
        go_wp2_with fail
        go_quiet (fail)
        go_upto_region 7 with fail
        have h5 := HW.out.draw nq
        have hk5 := HBK.out.only ((Only.refl (fun _ => False) _).draw nq) (fun h => h)
        obtain ⟨w5, hw5⟩ : ∃ y, (w.alloc (.cells #[.int .u8 k, .int .i64 s] 49)).drewN nq = y := ⟨_, rfl⟩
        obtain ⟨E, hE⟩ : ∃ y, w.heap.size = y := ⟨_, rfl⟩
        rw [hw5] at h5 hk5 ⊢
        rw [hE] at hk5
        simp only [hE]
        have f0 : w5.cell? ⟨E, 0, none⟩ = some (.int .u8 k) := hk5.cellAt 0 rfl
        have f1 : w5.cell? ⟨E, 1, none⟩ = some (.int .i64 s) := hk5.cellAt 1 rfl
        have H5 := Lib.hid h5
        have hown0 := (Env.row (H5.out.below ((Below.refl _ _).alloc (Nat.le_refl _) (.cells #[.int .u8 k, .int .i64 s, .int .i64 n] 51))) i HI.out)
        rw [hlen] at hown0
        have HOWN := Lib.hid hown0
        clear hown0
        clear hw5 hE h5 hk5
        obtain ⟨i0, hi0, hz0, hz1, hz2⟩ := info_parts infoN3
        go_wp2_with (at_builtin; refine wpList_append_lies _ rfl _ _ 31 rfl 0 51 i0 _ 3 24 Try.underlying31 hi0 hz0 hz1 hz2 rfl (by decide) (.slice (some ⟨g, 0, none⟩) (l0.length + 1) cap) (l0.length + 1) (KN.fl (l0 ++ [x])) rfl HOWN.out ⟨w5.heap.size, 0, none⟩ 1 1 [.int .u8 k, .int .i64 s, .int .i64 n] rfl rfl (World.news_of_block (heap_alloc_new _ _)) (KN.one ⟨k, s, n⟩) (by decide) (by unfold maxLen; omega) (by omega) (Nat.zero_le _) _ rfl ?_)
        intro g2 cg w7 k1 k2 k3 k4
        clear hi0 hz0 hz1 hz2
        have h8 : Env w0 w7 (obs.set i (obRuns (.slice (some ⟨g2, 0, none⟩) (l0.length + 1 + 1) cg) (l0 ++ [x] ++ [⟨k, s, n⟩]))) := by
          have hb8 := H5.out.below ((Below.refl _ _).alloc (Nat.le_refl _) (.cells #[.int .u8 k, .int .i64 s, .int .i64 n] 51))
          refine hb8.rowUp i HI.out ?_ k2 ?_
          · show w7.ownsRow 0 KN.e KN.sz _ (l0 ++ [x] ++ [(⟨k, s, n⟩ : Rn)]).length (KN.fl (l0 ++ [x] ++ [⟨k, s, n⟩]))
            rw [KN.fl_app, KN.fl_one, List.length_append, hlen]
            exact k1
          · rcases k3 with k3 | k3
            · exact .inl k3.symm
            · exact .inr (by rw [k3]; simp [Value.ownBlock])
        have H8 := Lib.hid h8
        clear h8 k1 k2 k3 k4
        go_wp2_with fail
        go_ret
        exact ⟨_, rfl, H8.out⟩
end
end Go.Proofs.Ytkidijjhedjifaa
