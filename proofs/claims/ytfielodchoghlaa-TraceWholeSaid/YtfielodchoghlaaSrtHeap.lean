/- Heap sort of a row of runs, by a comparison that lays blocks of its own. -/
import Derived.Test.YtfielodchoghlaaRows
import Derived.Test.YtfielodchoghlaaSrt
import Derived.Test.YtfielodchoghlaaHeld
import Derived.Deep.Cut
import Derived.Sort.WalkB3
namespace Go.Proofs.Ytfielodchoghlaa
open Go.RowKit Go.Lib
set_option maxRecDepth 100000
set_option linter.unusedVariables false
set_option linter.unusedSimpArgs false
section
variable {g : Nat} {lb : Array Value} {sf : Nat} {sb : Array Value} {b : Nat} {d : Array Rn} {w : World}
set_option maxHeartbeats 2000000 in
theorem sift_any (h : CS g lb sf sb b d w) (lo hi F : Nat) (hlo : lo ≤ hi) (he : F + hi ≤ d.size) :
    Calls Try.prog 71 #[boxV g lb sf sb, .int .i64 lo, .int .i64 hi, .int .i64 F] w fun x w' => x = .returned (.tuple #[]) ∧ SQ w b (Sort.siftDown ltR hi F lo d) w' := by
  have HB := Lib.hid (Bx.new h 82)
  have eg := h.eg
  have hsz := h.sz
  unfold boxV
  clear h
  go_enter Try.func71, Try.ntmps71
  go_upto_region 1 with fail
  obtain ⟨B, hB⟩ : ∃ B, w.heap.size = B := ⟨_, rfl⟩
  obtain ⟨w1, hw1⟩ : ∃ y, w.alloc (.cells #[.func (.func g) #[] lb, .func (.func sf) #[] sb] 82) = y := ⟨_, rfl⟩
  rw [hw1, hB] at HB
  rw [hw1]
  try rw [hB]
  clear hw1 hB
  go_wp2_with fail
  go_loopw [8] (fun vi wr => ∃ (r : Nat) (dk : Array Rn), vi = .int .i64 (r : Int) ∧ r ≤ hi ∧ dk.size = d.size ∧ Hid (SQ w1 b dk wr) ∧ Hid (Sort.siftDown ltR hi F r dk = Sort.siftDown ltR hi F lo d)) (fun vi _ => hi - (RowKit.intOf vi).toNat)
  case atStart => exact ⟨lo, d, rfl, hlo, rfl, Lib.hid HB.out.cs.start, Lib.hid rfl⟩
  case round =>
    obtain ⟨r, dk, rfl, hrh, hsk, HQ, HO⟩ := hrel
    by_cases h0 : hi ≤ 2 * r + 1
    · have t0 : decide ((hi : Int) ≤ 2 * (r : Int) + 1) = true := by rw [decide_eq_true_eq]; omega
      go_wp2_with fail
      go_end0
      have e := HO.out
      rw [Sort.sd_end ltR dk h0] at e
      exact ⟨rfl, HB.out.up.trans (by rw [← e]; exact HQ.out) (by rw [← e]; exact hsk)⟩
    · have t0 : decide ((hi : Int) ≤ 2 * (r : Int) + 1) = false := by rw [decide_eq_false_iff_not]; omega
      have c0 := HB.out.cell0 HQ.out
      by_cases h1 : 2 * r + 2 < hi
      · have t1 : decide (2 * (r : Int) + 1 + 1 < (hi : Int)) = true := by rw [decide_eq_true_eq]; omega
        have hl := HB.out.cs.cmp HQ.out hsk (i := F + (2 * r + 1)) (j := F + (2 * r + 2)) (by omega) (by omega)
        rw [show (((F + (2 * r + 1) : Nat)) : Int) = (F : Int) + (2 * (r : Int) + 1) by omega, show (((F + (2 * r + 2) : Nat)) : Int) = (F : Int) + (2 * (r : Int) + 1) + 1 by omega] at hl
        obtain ⟨lv, hlv⟩ : ∃ v, ltR dk[F + (2 * r + 1)]! dk[F + (2 * r + 2)]! = v := ⟨_, rfl⟩
        rw [hlv] at hl
        have HL := Lib.hid hl
        have HLV := Lib.hid hlv
        clear hl hlv
        go_wp2_with fail
        refine HL.out.mono ?_
        rintro x w2 ⟨rfl, hq2⟩
        have HQ2 := Lib.hid hq2
        clear hq2 c0 HL
        have c0 := HB.out.cell0 HQ2.out
        cases lv with
        | true =>
          have hl := HB.out.cs.cmp HQ2.out hsk (i := F + r) (j := F + (2 * r + 2)) (by omega) (by omega)
          rw [show (((F + r : Nat)) : Int) = (F : Int) + (r : Int) by omega, show (((F + (2 * r + 2) : Nat)) : Int) = (F : Int) + (2 * (r : Int) + 1 + 1) by omega] at hl
          obtain ⟨lv, hlv⟩ : ∃ v, ltR dk[F + r]! dk[F + (2 * r + 2)]! = v := ⟨_, rfl⟩
          rw [hlv] at hl
          have HL := Lib.hid hl
          have HLV2 := Lib.hid hlv
          clear hl hlv
          go_wp2_with fail
          refine HL.out.mono ?_
          rintro x w3 ⟨rfl, hq3⟩
          have HQ3 := Lib.hid hq3
          clear hq3 c0 HL
          have c1 := HB.out.cell1 HQ3.out
          cases lv with
          | true =>
            obtain ⟨w4, hs4, hq4⟩ := HB.out.cs.swp HQ3.out hsk (i := F + r) (j := F + (2 * r + 2)) (by omega) (by omega)
            rw [show (((F + r : Nat)) : Int) = (F : Int) + (r : Int) by omega, show (((F + (2 * r + 2) : Nat)) : Int) = (F : Int) + (2 * (r : Int) + 1 + 1) by omega] at hs4
            have HS := Lib.hid hs4
            have HQ4 := Lib.hid hq4
            clear hs4 hq4
            go_wp2_with fail
            rw [HS.out, Oper.upon_value]
            go_wp2_with fail
            go_roundw
            case rel =>
              refine ⟨2 * r + 2, _, by congr 1 <;> omega, by omega, by rw [Sort.size_swp]; exact hsk, HQ4, Lib.hid ?_⟩
              rw [← HO.out, Sort.sd_right_go ltR dk h1 HLV.out HLV2.out]
            case measure => simp [RowKit.intOf]; omega
          | false =>
            go_wp2_with fail
            (try simp only [Exit.inBlock, Exit.then])
            refine bodyPost_ret (results_none rfl _ _ _) rfl ?_
            have e := HO.out
            rw [Sort.sd_right_stop ltR dk h1 HLV.out HLV2.out] at e
            exact ⟨rfl, HB.out.up.trans (by rw [← e]; exact HQ3.out) (by rw [← e]; exact hsk)⟩
        | false =>
          have hl := HB.out.cs.cmp HQ2.out hsk (i := F + r) (j := F + (2 * r + 1)) (by omega) (by omega)
          rw [show (((F + r : Nat)) : Int) = (F : Int) + (r : Int) by omega, show (((F + (2 * r + 1) : Nat)) : Int) = (F : Int) + (2 * (r : Int) + 1) by omega] at hl
          obtain ⟨lv, hlv⟩ : ∃ v, ltR dk[F + r]! dk[F + (2 * r + 1)]! = v := ⟨_, rfl⟩
          rw [hlv] at hl
          have HL := Lib.hid hl
          have HLV2 := Lib.hid hlv
          clear hl hlv
          go_wp2_with fail
          refine HL.out.mono ?_
          rintro x w3 ⟨rfl, hq3⟩
          have HQ3 := Lib.hid hq3
          clear hq3 c0 HL
          have c1 := HB.out.cell1 HQ3.out
          cases lv with
          | true =>
            obtain ⟨w4, hs4, hq4⟩ := HB.out.cs.swp HQ3.out hsk (i := F + r) (j := F + (2 * r + 1)) (by omega) (by omega)
            rw [show (((F + r : Nat)) : Int) = (F : Int) + (r : Int) by omega, show (((F + (2 * r + 1) : Nat)) : Int) = (F : Int) + (2 * (r : Int) + 1) by omega] at hs4
            have HS := Lib.hid hs4
            have HQ4 := Lib.hid hq4
            clear hs4 hq4
            go_wp2_with fail
            rw [HS.out, Oper.upon_value]
            go_wp2_with fail
            go_roundw
            case rel =>
              refine ⟨2 * r + 1, _, by congr 1 <;> omega, by omega, by rw [Sort.size_swp]; exact hsk, HQ4, Lib.hid ?_⟩
              rw [← HO.out, Sort.sd_left_go ltR dk (by omega) (fun _ => HLV.out) HLV2.out]
            case measure => simp [RowKit.intOf]; omega
          | false =>
            go_wp2_with fail
            (try simp only [Exit.inBlock, Exit.then])
            refine bodyPost_ret (results_none rfl _ _ _) rfl ?_
            have e := HO.out
            rw [Sort.sd_left_stop ltR dk (by omega) (fun _ => HLV.out) HLV2.out] at e
            exact ⟨rfl, HB.out.up.trans (by rw [← e]; exact HQ3.out) (by rw [← e]; exact hsk)⟩
      · have t1 : decide (2 * (r : Int) + 1 + 1 < (hi : Int)) = false := by rw [decide_eq_false_iff_not]; omega
        have hl := HB.out.cs.cmp HQ.out hsk (i := F + r) (j := F + (2 * r + 1)) (by omega) (by omega)
        rw [show (((F + r : Nat)) : Int) = (F : Int) + (r : Int) by omega, show (((F + (2 * r + 1) : Nat)) : Int) = (F : Int) + (2 * (r : Int) + 1) by omega] at hl
        obtain ⟨lv, hlv⟩ : ∃ v, ltR dk[F + r]! dk[F + (2 * r + 1)]! = v := ⟨_, rfl⟩
        rw [hlv] at hl
        have HL := Lib.hid hl
        have HLV2 := Lib.hid hlv
        clear hl hlv
        go_wp2_with fail
        refine HL.out.mono ?_
        rintro x w3 ⟨rfl, hq3⟩
        have HQ3 := Lib.hid hq3
        clear hq3 c0 HL
        have c1 := HB.out.cell1 HQ3.out
        cases lv with
        | true =>
          obtain ⟨w4, hs4, hq4⟩ := HB.out.cs.swp HQ3.out hsk (i := F + r) (j := F + (2 * r + 1)) (by omega) (by omega)
          rw [show (((F + r : Nat)) : Int) = (F : Int) + (r : Int) by omega, show (((F + (2 * r + 1) : Nat)) : Int) = (F : Int) + (2 * (r : Int) + 1) by omega] at hs4
          have HS := Lib.hid hs4
          have HQ4 := Lib.hid hq4
          clear hs4 hq4
          go_wp2_with fail
          rw [HS.out, Oper.upon_value]
          go_wp2_with fail
          go_roundw
          case rel =>
            refine ⟨2 * r + 1, _, by congr 1 <;> omega, by omega, by rw [Sort.size_swp]; exact hsk, HQ4, Lib.hid ?_⟩
            rw [← HO.out, Sort.sd_left_go ltR dk (by omega) (fun hh => absurd hh h1) HLV2.out]
          case measure => simp [RowKit.intOf]; omega
        | false =>
          go_wp2_with fail
          (try simp only [Exit.inBlock, Exit.then])
          refine bodyPost_ret (results_none rfl _ _ _) rfl ?_
          have e := HO.out
          rw [Sort.sd_left_stop ltR dk (by omega) (fun hh => absurd hh h1) HLV2.out] at e
          exact ⟨rfl, HB.out.up.trans (by rw [← e]; exact HQ3.out) (by rw [← e]; exact hsk)⟩
end
end Go.Proofs.Ytfielodchoghlaa
