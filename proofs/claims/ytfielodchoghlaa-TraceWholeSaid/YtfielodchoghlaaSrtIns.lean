/- Insertion sort of a row of runs, by a comparison that lays blocks of its own. -/
import Derived.Test.YtfielodchoghlaaRows
import Derived.Test.YtfielodchoghlaaSrt
import Derived.Test.YtfielodchoghlaaHeld
import Derived.Deep.Cut
namespace Go.Proofs.Ytfielodchoghlaa
open Go.RowKit Go.Lib
set_option maxRecDepth 100000
set_option linter.unusedVariables false
set_option linter.unusedSimpArgs false
section
variable {g : Nat} {lb : Array Value} {sf : Nat} {sb : Array Value} {b : Nat} {d : Array Rn} {w : World}
set_option maxHeartbeats 2000000 in
theorem isort_any (h : CS g lb sf sb b d w) (a e : Nat) (hab : a ≤ e) (he : e ≤ d.size) :
    Calls Try.prog 63 #[boxV g lb sf sb, .int .i64 a, .int .i64 e] w fun x w' => x = .returned (.tuple #[]) ∧ SQ w b (Sort.insertionSort ltR d a e) w' := by
  have HB := Lib.hid (Bx.new h 82)
  have eg := h.eg
  have hsz := h.sz
  unfold boxV
  clear h
  go_enter Try.func63, Try.ntmps63
  go_upto_region 1 with fail
  obtain ⟨B, hB⟩ : ∃ B, w.heap.size = B := ⟨_, rfl⟩
  obtain ⟨w1, hw1⟩ : ∃ y, w.alloc (.cells #[.func (.func g) #[] lb, .func (.func sf) #[] sb] 82) = y := ⟨_, rfl⟩
  rw [hw1, hB] at HB
  rw [hw1]
  try rw [hB]
  clear hw1 hB
  go_wp2_with fail
  go_loopw [6] (fun vi wr => ∃ (i : Nat) (dk : Array Rn), vi = .int .i64 (i : Int) ∧ a < i ∧ i ≤ e + 1 ∧ dk.size = d.size ∧ Hid (SQ w1 b dk wr) ∧ Hid (Sort.insOuter ltR a e i dk = Sort.insOuter ltR a e (a + 1) d)) (fun vi _ => e + 1 - (RowKit.intOf vi).toNat)
  case atStart => exact ⟨a + 1, d, by go_num, by omega, by omega, rfl, Lib.hid HB.out.cs.start, Lib.hid rfl⟩
  case round =>
    obtain ⟨i, dk, rfl, hai, hie, hsk, HQ, HO⟩ := hrel
    by_cases hlt : i < e
    · have t0 : decide (i < e) = true := by simpa using hlt
      go_wp2_with fail
      go_loopw [7] (fun vj wr2 => ∃ (j : Nat) (dj : Array Rn), vj = .int .i64 (j : Int) ∧ a ≤ j ∧ j ≤ i ∧ dj.size = d.size ∧ Hid (SQ w1 b dj wr2) ∧ Hid (Sort.insInner ltR a j dj = Sort.insInner ltR a i dk)) (fun vj _ => (RowKit.intOf vj).toNat)
      case atStart => exact ⟨i, dk, rfl, by omega, Nat.le_refl _, hsk, HQ, Lib.hid rfl⟩
      case round =>
        clear HQ
        obtain ⟨j, dj, rfl, haj, hji, hsj, HQ, HI⟩ := hrel
        by_cases hja : a < j
        · have t1 : decide (a < j) = true := by simpa using hja
          have hl := HB.out.cs.cmp HQ.out hsj (i := j) (j := j - 1) (by omega) (by omega)
          rw [show (((j - 1 : Nat) : Int)) = (j : Int) - 1 by omega] at hl
          have HL := Lib.hid hl
          have c0 := HB.out.cell0 HQ.out
          clear hl
          obtain ⟨lv, hlv⟩ : ∃ v, ltR dj[j]! dj[j - 1]! = v := ⟨_, rfl⟩
          rw [hlv] at HL
          have HLV := Lib.hid hlv
          clear hlv
          go_wp2_with fail
          refine HL.out.mono ?_
          rintro x w2 ⟨rfl, hq2⟩
          have HQ2 := Lib.hid hq2
          clear hq2 c0 HL
          have c1 := HB.out.cell1 HQ2.out
          cases lv with
          | true =>
            obtain ⟨w3, hs3, hq3⟩ := HB.out.cs.swp HQ2.out hsj (i := j) (j := j - 1) (by omega) (by omega)
            rw [show (((j - 1 : Nat) : Int)) = (j : Int) - 1 by omega] at hs3
            have HS3 := Lib.hid hs3
            have HQ3 := Lib.hid hq3
            clear hs3 hq3
            go_wp2_with fail
            rw [HS3.out, Oper.upon_value]
            go_wp2_with fail
            go_roundw
            case rel =>
              refine ⟨j - 1, Sort.swp dj j (j - 1), by congr 1 <;> omega, by omega, by omega, by rw [Sort.size_swp]; exact hsj, HQ3, Lib.hid ?_⟩
              rw [← HI.out, insInner_go ltR a j dj hja HLV.out]
            case measure => simp [RowKit.intOf]; omega
          | false =>
            go_wp2_with fail
            go_roundw
            case rel =>
              refine ⟨i + 1, dj, by go_num, by omega, by omega, hsj, HQ2, Lib.hid ?_⟩
              rw [← HO.out, insOuter_go ltR _ _ _ _ hlt, ← HI.out, insInner_stop ltR _ _ _ (Or.inr HLV.out)]
            case measure => simp [RowKit.intOf]; omega
        · have t1 : decide (a < j) = false := by simpa using hja
          go_wp2_with fail
          go_roundw
          case rel =>
            refine ⟨i + 1, dj, by go_num, by omega, by omega, hsj, HQ, Lib.hid ?_⟩
            rw [← HO.out, insOuter_go ltR _ _ _ _ hlt, ← HI.out, insInner_stop ltR _ _ _ (Or.inl (by omega))]
          case measure => simp [RowKit.intOf]; omega
    · have t0 : decide (i < e) = false := by simpa using hlt
      go_wp2_with fail
      go_end0
      refine ⟨rfl, HB.out.up.trans (w2 := wr) ?_ ?_⟩
      · have := HO.out
        unfold Sort.insertionSort
        rw [← this, insOuter_stop ltR _ _ _ _ hlt]
        exact HQ.out
      · unfold Sort.insertionSort
        rw [← HO.out, insOuter_stop ltR _ _ _ _ hlt, hsk]
end
end Go.Proofs.Ytfielodchoghlaa
