/- partition of the sort of a row of runs. -/
import Derived.Test.YtfielodchoghlaaRows
import Derived.Test.YtfielodchoghlaaSrt
import Derived.Test.YtfielodchoghlaaHeld
import Derived.Deep.Cut
import Derived.Deep.CutRange
import Derived.Sort.WalkC4
namespace Go.Proofs.Ytfielodchoghlaa
open Go.RowKit Go.Lib
set_option maxRecDepth 100000
set_option linter.unusedVariables false
set_option linter.unusedSimpArgs false
section
variable {g : Nat} {lb : Array Value} {sf : Nat} {sb : Array Value} {b : Nat} {d : Array Rn} {w : World}
set_option maxHeartbeats 2000000 in
theorem part_any (h : CS g lb sf sb b d w) (a e p : Nat) (hap : a ≤ p) (hpe : p < e) (he : e ≤ d.size) :
    Calls Try.prog 70 #[boxV g lb sf sb, .int .i64 a, .int .i64 e, .int .i64 p] w fun x w' => x = .returned (.tuple #[.int .i64 ((Sort.partition ltR d a e p).1 : Int), .bool (Sort.partition ltR d a e p).2.1]) ∧ SQ w b (Sort.partition ltR d a e p).2.2 w' := by
  have HB := Lib.hid (Bx.new h 82)
  have eg := h.eg
  have hsz := h.sz
  have hpd : p < d.size := by omega
  have had : a < d.size := by omega
  unfold boxV
  clear h
  go_enter Try.func70, Try.ntmps70
  go_upto_region 1 with fail
  obtain ⟨B, hB⟩ : ∃ B, w.heap.size = B := ⟨_, rfl⟩
  obtain ⟨w1, hw1⟩ : ∃ y, w.alloc (.cells #[.func (.func g) #[] lb, .func (.func sf) #[] sb] 82) = y := ⟨_, rfl⟩
  rw [hw1, hB] at HB
  try rw [hw1]
  try rw [hB]
  clear hw1 hB
  have c1 := HB.out.c1
  obtain ⟨w2, hs, hq⟩ := HB.out.cs.swp HB.out.cs.start rfl (i := a) (j := p) had hpd
  have HS := Lib.hid hs
  have HQ := Lib.hid hq
  clear hs hq
  go_wp2_with fail
  rw [HS.out, Oper.upon_value]
  clear c1 HS
  obtain ⟨dk, hdk⟩ : ∃ x, Sort.swp d a p = x := ⟨_, rfl⟩
  have hsk : dk.size = d.size := by rw [← hdk, Sort.size_swp]
  rw [hdk] at HQ
  have HDK := Lib.hid hdk
  clear hdk
  obtain ⟨i, hi⟩ : ∃ i : Nat, a + 1 = i := ⟨_, rfl⟩
  obtain ⟨j, hj⟩ : ∃ j : Nat, e - 1 = j := ⟨_, rfl⟩
  have hij : i ≤ j + 1 := by omega
  have hai : a < i := by omega
  have hje : j < e := by omega
  have HIJ := Lib.hid (And.intro hi hj)
  clear hi hj
  go_upto_region 2 with fail
  rename_i K1 hK1
  simp only [Act.put, List.setIfInBounds_toArray, List.set_cons_zero, List.set_cons_succ]
  go_cut [10, 11] from 17 to 20 (fun vi vj wx => vi = .int .i64 (i : Int) ∧ vj = .int .i64 (j : Int) ∧ Hid (SQ w1 b dk wx))
  case first =>
    go_wp2_with fail
    go_meet
    case rel => exact ⟨by have := HIJ.out; congr 1; omega, by have := HIJ.out; congr 1; omega, HQ⟩
  case rest =>
    clear HQ
    obtain ⟨rfl, rfl, HQ⟩ := hcut
    refine hK1 _ _ ?_
    refine wp_seq_k (fun K2 hK2 => ?_)
    go_cut [10] from 21 to 32 (fun vi wx => ∃ i2 : Nat, vi = .int .i64 (i2 : Int) ∧ i ≤ i2 ∧ i2 ≤ j + 1 ∧ Hid (i2 = Sort.scanUp (fun x => ltR x dk[a]!) dk j i) ∧ Hid (SQ w1 b dk wx))
    case first =>
      refine wp_block ?_
      go_loopw [10] (fun vi wx => ∃ i2 : Nat, vi = .int .i64 (i2 : Int) ∧ i ≤ i2 ∧ i2 ≤ j + 1 ∧ Hid (Sort.scanUp (fun x => ltR x dk[a]!) dk j i2 = Sort.scanUp (fun x => ltR x dk[a]!) dk j i) ∧ Hid (SQ w1 b dk wx)) (fun vi _ => j + 1 - (RowKit.intOf vi).toNat)
      case atStart => exact ⟨i, rfl, Nat.le_refl _, hij, Lib.hid rfl, HQ⟩
      case round =>
        clear HQ
        obtain ⟨i2, rfl, hi2, hi2j, HS, HQ⟩ := hrel
        by_cases hlt : i2 ≤ j
        · have tt : decide (i2 ≤ j) = true := by simpa using hlt
          have hl := HB.out.cs.cmp HQ.out hsk (i := i2) (j := a) (by omega) (by omega)
          obtain ⟨lv, hlv⟩ : ∃ v, ltR dk[i2]! dk[a]! = v := ⟨_, rfl⟩
          rw [hlv] at hl
          have HL := Lib.hid hl
          have HLV := Lib.hid hlv
          clear hl hlv
          have c0 := HB.out.cell0 HQ.out
          go_wp2_with fail
          refine HL.out.mono ?_
          rintro x w3 ⟨rfl, hq3⟩
          have HQ3 := Lib.hid hq3
          clear hq3 HL c0
          cases lv with
          | true =>
            go_wp2_with fail
            go_roundw
            case rel => exact ⟨i2 + 1, by go_num, by omega, by omega, Lib.hid (by rw [← HS.out, scanUp_go (fun x => ltR x dk[a]!) dk j i2 hlt (by simp [HLV.out])]), HQ3⟩
            case measure => simp [RowKit.intOf]; omega
          | false =>
            go_wp2_with fail
            go_meet
            case rel => exact ⟨i2, rfl, hi2, hi2j, Lib.hid (by rw [← HS.out, scanUp_end (fun x => ltR x dk[a]!) dk j i2 (Or.inr (by simp [HLV.out]))]), HQ3⟩
        · have tt : decide (i2 ≤ j) = false := by simpa using hlt
          go_wp2_with fail
          go_meet
          case rel => exact ⟨i2, rfl, hi2, hi2j, Lib.hid (by rw [← HS.out, scanUp_end (fun x => ltR x dk[a]!) dk j i2 (Or.inl hlt)]), HQ⟩
    case rest =>
      clear HQ
      obtain ⟨i2, rfl, hi2, hi2j, HI2, HQ⟩ := hcut
      refine hK2 _ _ ?_
      refine wp_seq_k (fun K3 hK3 => ?_)
      go_cut [11] from 33 to 45 (fun vi wx => ∃ j2 : Nat, vi = .int .i64 (j2 : Int) ∧ i2 ≤ j2 + 1 ∧ j2 ≤ j ∧ Hid (j2 = Sort.scanDown (fun x => !ltR x dk[a]!) dk i2 j) ∧ Hid (SQ w1 b dk wx))
      case first =>
        refine wp_block ?_
        go_loopw [11] (fun vi wx => ∃ j2 : Nat, vi = .int .i64 (j2 : Int) ∧ i2 ≤ j2 + 1 ∧ j2 ≤ j ∧ Hid (Sort.scanDown (fun x => !ltR x dk[a]!) dk i2 j2 = Sort.scanDown (fun x => !ltR x dk[a]!) dk i2 j) ∧ Hid (SQ w1 b dk wx)) (fun vi _ => (RowKit.intOf vi).toNat)
        case atStart => exact ⟨j, rfl, hi2j, Nat.le_refl _, Lib.hid rfl, HQ⟩
        case round =>
          clear HQ
          obtain ⟨j2, rfl, hj2, hj2j, HS, HQ⟩ := hrel
          by_cases hlt : i2 ≤ j2
          · have tt : decide (i2 ≤ j2) = true := by simpa using hlt
            have hl := HB.out.cs.cmp HQ.out hsk (i := j2) (j := a) (by omega) (by omega)
            obtain ⟨lv, hlv⟩ : ∃ v, ltR dk[j2]! dk[a]! = v := ⟨_, rfl⟩
            rw [hlv] at hl
            have HL := Lib.hid hl
            have HLV := Lib.hid hlv
            clear hl hlv
            have c0 := HB.out.cell0 HQ.out
            go_wp2_with fail
            refine HL.out.mono ?_
            rintro x w3 ⟨rfl, hq3⟩
            have HQ3 := Lib.hid hq3
            clear hq3 HL c0
            cases lv with
            | false =>
              go_wp2_with fail
              go_roundw
              case rel => exact ⟨j2 - 1, by congr 1 <;> omega, by omega, by omega, Lib.hid (by rw [← HS.out, scanDown_go (fun x => !ltR x dk[a]!) dk i2 j2 hlt (by omega) (by simp [HLV.out])]), HQ3⟩
              case measure => simp [RowKit.intOf]; omega
            | true =>
              go_wp2_with fail
              go_meet
              case rel => exact ⟨j2, rfl, hj2, hj2j, Lib.hid (by rw [← HS.out, scanDown_end (fun x => !ltR x dk[a]!) dk i2 j2 (Or.inr (by simp [HLV.out]))]), HQ3⟩
          · have tt : decide (i2 ≤ j2) = false := by simpa using hlt
            go_wp2_with fail
            go_meet
            case rel => exact ⟨j2, rfl, hj2, hj2j, Lib.hid (by rw [← HS.out, scanDown_end (fun x => !ltR x dk[a]!) dk i2 j2 (Or.inl hlt)]), HQ⟩
      case rest =>
        clear HQ
        obtain ⟨j2, rfl, hj2, hj2j, HJ2, HQ⟩ := hcut
        have hi20 : 0 < i := by omega
        by_cases hbr : j2 < i2
        · have tt : decide (j2 < i2) = true := by simpa using hbr
          have c1 := HB.out.cell1 HQ.out
          obtain ⟨w4, hs, hq⟩ := HB.out.cs.swp HQ.out hsk (i := j2) (j := a) (by omega) (by omega)
          have HS := Lib.hid hs
          have HQ4 := Lib.hid hq
          clear hs hq
          go_wp2_with fail
          rw [HS.out, Oper.upon_value]
          go_wp2_with fail
          (try simp only [Exit.inBlock, Exit.then])
          have e1 := part_first_break ltR d a e p HIJ.out.1.symm HIJ.out.2.symm HDK.out.symm HI2.out HJ2.out hbr
          exact bodyPost_ret (v := .tuple #[.int .i64 (j2 : Int), .bool true]) (by simp [results, Try.results70, go_sem]) rfl ⟨by rw [e1], HB.out.up.trans (by rw [e1]; exact HQ4.out) (by rw [e1, Sort.size_swp]; exact hsk)⟩
        · have tt : decide (j2 < i2) = false := by simpa using hbr
          have hlt2 := part_scans_lt ltR a i j dk hi20 HI2.out HJ2.out (by omega)
          have c1 := HB.out.cell1 HQ.out
          obtain ⟨w4, hs, hq⟩ := HB.out.cs.swp HQ.out hsk (i := i2) (j := j2) (by omega) (by omega)
          have HS := Lib.hid hs
          have HQ4 := Lib.hid hq
          clear hs hq
          have e1 := Lib.hid (part_first_go ltR d a e p HIJ.out.1.symm HIJ.out.2.symm HDK.out.symm HI2.out HJ2.out hbr)
          obtain ⟨dx, hdx⟩ : ∃ x, Sort.swp dk i2 j2 = x := ⟨_, rfl⟩
          have hsx : dx.size = d.size := by rw [← hdx, Sort.size_swp]; exact hsk
          rw [hdx] at e1 HQ4
          clear hdx
          obtain ⟨R, hR⟩ : ∃ x, Sort.partLoop ltR a (i2 + 1) (j2 - 1) dx = x := ⟨_, rfl⟩
          rw [hR] at e1
          have HR := Lib.hid hR
          clear hR
          go_wp2_with fail
          rw [HS.out, Oper.upon_value]
          clear HS c1
          go_wp2_with fail
          have hje2 : j2 < e := by omega
          go_loopw [10, 11] (fun vi vj wr => ∃ (i j : Nat) (dk : Array Rn), vi = .int .i64 (i : Int) ∧ vj = .int .i64 (j : Int) ∧ a < i ∧ i ≤ j + 1 ∧ j < e ∧ dk.size = d.size ∧ Hid (SQ w1 b dk wr) ∧ Hid (Sort.partLoop ltR a i j dk = R)) (fun vi vj _ => (RowKit.intOf vj + 1 - RowKit.intOf vi).toNat)
          case atStart => exact ⟨i2 + 1, j2 - 1, dx, by go_num, by congr 1; omega, by omega, by omega, by omega, hsx, HQ4, HR⟩
          case round =>
            clear HQ HQ4 HDK HIJ HI2 HJ2 hsk hsx HR hij hai hje hi2 hi2j hj2 hj2j hbr hlt2 hje2 tt hi20
            obtain ⟨i, j, dk, rfl, rfl, hai, hij, hje, hsk, HQ, HO⟩ := hrel
            refine wp_block ?_
            refine wp_seq_k (fun K1 hK1 => ?_)
            go_cut [10] from 64 to 75 (fun vi wx => ∃ i2 : Nat, vi = .int .i64 (i2 : Int) ∧ i ≤ i2 ∧ i2 ≤ j + 1 ∧ Hid (i2 = Sort.scanUp (fun x => ltR x dk[a]!) dk j i) ∧ Hid (SQ w1 b dk wx))
            case first =>
              refine wp_block ?_
              go_loopw [10] (fun vi wx => ∃ i2 : Nat, vi = .int .i64 (i2 : Int) ∧ i ≤ i2 ∧ i2 ≤ j + 1 ∧ Hid (Sort.scanUp (fun x => ltR x dk[a]!) dk j i2 = Sort.scanUp (fun x => ltR x dk[a]!) dk j i) ∧ Hid (SQ w1 b dk wx)) (fun vi _ => j + 1 - (RowKit.intOf vi).toNat)
              case atStart => exact ⟨i, rfl, Nat.le_refl _, hij, Lib.hid rfl, HQ⟩
              case round =>
                clear HQ
                obtain ⟨i2, rfl, hi2, hi2j, HS, HQ⟩ := hrel
                by_cases hlt : i2 ≤ j
                · have tt : decide (i2 ≤ j) = true := by simpa using hlt
                  have hl := HB.out.cs.cmp HQ.out hsk (i := i2) (j := a) (by omega) (by omega)
                  obtain ⟨lv, hlv⟩ : ∃ v, ltR dk[i2]! dk[a]! = v := ⟨_, rfl⟩
                  rw [hlv] at hl
                  have HL := Lib.hid hl
                  have HLV := Lib.hid hlv
                  clear hl hlv
                  have c0 := HB.out.cell0 HQ.out
                  go_wp2_with fail
                  refine HL.out.mono ?_
                  rintro x w3 ⟨rfl, hq3⟩
                  have HQ3 := Lib.hid hq3
                  clear hq3 HL c0
                  cases lv with
                  | true =>
                    go_wp2_with fail
                    go_roundw
                    case rel => exact ⟨i2 + 1, by go_num, by omega, by omega, Lib.hid (by rw [← HS.out, scanUp_go (fun x => ltR x dk[a]!) dk j i2 hlt (by simp [HLV.out])]), HQ3⟩
                    case measure => simp [RowKit.intOf]; omega
                  | false =>
                    go_wp2_with fail
                    go_meet
                    case rel => exact ⟨i2, rfl, hi2, hi2j, Lib.hid (by rw [← HS.out, scanUp_end (fun x => ltR x dk[a]!) dk j i2 (Or.inr (by simp [HLV.out]))]), HQ3⟩
                · have tt : decide (i2 ≤ j) = false := by simpa using hlt
                  go_wp2_with fail
                  go_meet
                  case rel => exact ⟨i2, rfl, hi2, hi2j, Lib.hid (by rw [← HS.out, scanUp_end (fun x => ltR x dk[a]!) dk j i2 (Or.inl hlt)]), HQ⟩
            case rest =>
              clear HQ
              obtain ⟨i2, rfl, hi2, hi2j, HI2, HQ⟩ := hcut
              refine hK1 _ _ ?_
              refine wp_seq_k (fun K2 hK2 => ?_)
              go_cut [11] from 76 to 88 (fun vi wx => ∃ j2 : Nat, vi = .int .i64 (j2 : Int) ∧ i2 ≤ j2 + 1 ∧ j2 ≤ j ∧ Hid (j2 = Sort.scanDown (fun x => !ltR x dk[a]!) dk i2 j) ∧ Hid (SQ w1 b dk wx))
              case first =>
                refine wp_block ?_
                go_loopw [11] (fun vi wx => ∃ j2 : Nat, vi = .int .i64 (j2 : Int) ∧ i2 ≤ j2 + 1 ∧ j2 ≤ j ∧ Hid (Sort.scanDown (fun x => !ltR x dk[a]!) dk i2 j2 = Sort.scanDown (fun x => !ltR x dk[a]!) dk i2 j) ∧ Hid (SQ w1 b dk wx)) (fun vi _ => (RowKit.intOf vi).toNat)
                case atStart => exact ⟨j, rfl, hi2j, Nat.le_refl _, Lib.hid rfl, HQ⟩
                case round =>
                  clear HQ
                  obtain ⟨j2, rfl, hj2, hj2j, HS, HQ⟩ := hrel
                  by_cases hlt : i2 ≤ j2
                  · have tt : decide (i2 ≤ j2) = true := by simpa using hlt
                    have hl := HB.out.cs.cmp HQ.out hsk (i := j2) (j := a) (by omega) (by omega)
                    obtain ⟨lv, hlv⟩ : ∃ v, ltR dk[j2]! dk[a]! = v := ⟨_, rfl⟩
                    rw [hlv] at hl
                    have HL := Lib.hid hl
                    have HLV := Lib.hid hlv
                    clear hl hlv
                    have c0 := HB.out.cell0 HQ.out
                    go_wp2_with fail
                    refine HL.out.mono ?_
                    rintro x w3 ⟨rfl, hq3⟩
                    have HQ3 := Lib.hid hq3
                    clear hq3 HL c0
                    cases lv with
                    | false =>
                      go_wp2_with fail
                      go_roundw
                      case rel => exact ⟨j2 - 1, by congr 1 <;> omega, by omega, by omega, Lib.hid (by rw [← HS.out, scanDown_go (fun x => !ltR x dk[a]!) dk i2 j2 hlt (by omega) (by simp [HLV.out])]), HQ3⟩
                      case measure => simp [RowKit.intOf]; omega
                    | true =>
                      go_wp2_with fail
                      go_meet
                      case rel => exact ⟨j2, rfl, hj2, hj2j, Lib.hid (by rw [← HS.out, scanDown_end (fun x => !ltR x dk[a]!) dk i2 j2 (Or.inr (by simp [HLV.out]))]), HQ3⟩
                  · have tt : decide (i2 ≤ j2) = false := by simpa using hlt
                    go_wp2_with fail
                    go_meet
                    case rel => exact ⟨j2, rfl, hj2, hj2j, Lib.hid (by rw [← HS.out, scanDown_end (fun x => !ltR x dk[a]!) dk i2 j2 (Or.inl hlt)]), HQ⟩
              case rest =>
                clear HQ
                obtain ⟨j2, rfl, hj2, hj2j, HJ2, HQ⟩ := hcut
                have hi20 : 0 < i := by omega
                by_cases hbr : j2 < i2
                · have tt : decide (j2 < i2) = true := by simpa using hbr
                  have e2 := HO.out
                  rw [part_break ltR a i j dk HI2.out HJ2.out hbr] at e2
                  have E2 := Lib.hid e2
                  clear e2
                  have c1 := HB.out.cell1 HQ.out
                  obtain ⟨w4, hs, hq⟩ := HB.out.cs.swp HQ.out hsk (i := j2) (j := a) (by omega) (by omega)
                  have HS := Lib.hid hs
                  have HQ4 := Lib.hid hq
                  clear hs hq
                  go_wp2_with fail
                  rw [HS.out, Oper.upon_value]
                  go_wp2_with fail
                  (try simp only [Exit.inBlock, Exit.then])
                  have e3 := e1.out
                  rw [← E2.out] at e3
                  dsimp only at e3
                  exact bodyPost_ret (v := .tuple #[.int .i64 (j2 : Int), .bool false]) (by simp [results, Try.results70, go_sem]) rfl ⟨by rw [e3], HB.out.up.trans (by rw [e3]; exact HQ4.out) (by rw [e3]; exact (Sort.size_swp _ _ _).trans hsk)⟩
                · have tt : decide (j2 < i2) = false := by simpa using hbr
                  have hlt2 := part_scans_lt ltR a i j dk hi20 HI2.out HJ2.out (by omega)
                  have c1 := HB.out.cell1 HQ.out
                  obtain ⟨w4, hs, hq⟩ := HB.out.cs.swp HQ.out hsk (i := i2) (j := j2) (by omega) (by omega)
                  have HS := Lib.hid hs
                  have HQ4 := Lib.hid hq
                  clear hs hq
                  go_wp2_with fail
                  rw [HS.out, Oper.upon_value]
                  go_wp2_with fail
                  go_roundw
                  case rel => exact ⟨i2 + 1, j2 - 1, _, by go_num, by congr 1 <;> omega, by omega, by omega, by omega, by rw [Sort.size_swp]; exact hsk, HQ4, Lib.hid (by rw [← HO.out, part_go ltR a i j dk HI2.out HJ2.out (by omega)])⟩
                  case measure => simp [RowKit.intOf]; omega
end
end Go.Proofs.Ytfielodchoghlaa
