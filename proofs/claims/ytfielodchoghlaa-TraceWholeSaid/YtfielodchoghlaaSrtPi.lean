/- partialInsertionSort of the sort of a row of runs. -/
import Derived.Test.YtfielodchoghlaaRows
import Derived.Test.YtfielodchoghlaaSrt
import Derived.Test.YtfielodchoghlaaHeld
import Derived.Deep.Cut
import Derived.Deep.CutRange
import Derived.Sort.WalkA6
namespace Go.Proofs.Ytfielodchoghlaa
open Go.RowKit Go.Lib
set_option maxRecDepth 100000
set_option linter.unusedVariables false
set_option linter.unusedSimpArgs false
section
variable {g : Nat} {lb : Array Value} {sf : Nat} {sb : Array Value} {b : Nat} {d : Array Rn} {w : World}
theorem size_shiftDown : ∀ (j : Nat) (d : Array Rn), (Sort.shiftDown ltR j d).size = d.size
  | 0, _ => rfl
  | j + 1, d => by
    unfold Sort.shiftDown
    split
    · rfl
    · rw [size_shiftDown, Sort.size_swp]
theorem size_shiftUp (e : Nat) : ∀ (n j : Nat) (d : Array Rn), e - j ≤ n → (Sort.shiftUp ltR e j d).size = d.size := by
  intro n
  induction n with
  | zero => intro j d h; rw [Sort.shiftUp, if_neg (by omega)]
  | succ n ih =>
    intro j d h
    rw [Sort.shiftUp]
    split
    · split
      · rfl
      · rw [ih _ _ (by omega), Sort.size_swp]
    · rfl
theorem size_fixDown (a i : Nat) (d : Array Rn) : (Sort.fixDown ltR a i d).size = d.size := by
  unfold Sort.fixDown
  split
  · exact size_shiftDown _ _
  · rfl
theorem size_fixUp (e i : Nat) (d : Array Rn) : (Sort.fixUp ltR e i d).size = d.size := by
  unfold Sort.fixUp
  split
  · exact size_shiftUp e _ _ _ (Nat.le_refl _)
  · rfl
set_option maxHeartbeats 4000000 in
theorem partIns_any (h : CS g lb sf sb b d w) (a e : Nat) (hae : a < e) (he : e ≤ d.size) :
    Calls Try.prog 68 #[boxV g lb sf sb, .int .i64 a, .int .i64 e] w fun x w' => x = .returned (.bool (Sort.partialInsertionSort ltR d a e).2) ∧ SQ w b (Sort.partialInsertionSort ltR d a e).1 w' := by
  have HB := Lib.hid (Bx.new h 82)
  have eg := h.eg
  have hsz := h.sz
  unfold boxV
  clear h
  go_enter Try.func68, Try.ntmps68
  go_upto_region 1 with fail
  obtain ⟨B, hB⟩ : ∃ B, w.heap.size = B := ⟨_, rfl⟩
  obtain ⟨w1, hw1⟩ : ∃ y, w.alloc (.cells #[.func (.func g) #[] lb, .func (.func sf) #[] sb] 82) = y := ⟨_, rfl⟩
  rw [hw1, hB] at HB
  try rw [hw1]
  try rw [hB]
  clear hw1 hB
  go_wp2_with fail
  go_loopw [7, 8] (fun vi vs wr => ∃ (i s : Nat) (dk : Array Rn), vi = .int .i64 (i : Int) ∧ vs = .int .i64 (s : Int) ∧ a < i ∧ i ≤ e ∧ s ≤ 5 ∧ dk.size = d.size ∧ Hid (SQ w1 b dk wr) ∧ Hid (Sort.partialIns ltR a e (5 - s) i dk = Sort.partialInsertionSort ltR d a e)) (fun _ vs _ => 5 - (RowKit.intOf vs).toNat)
  case atStart => exact ⟨a + 1, 0, d, by go_num, rfl, by omega, by omega, by omega, rfl, Lib.hid HB.out.cs.start, Lib.hid rfl⟩
  case round =>
    obtain ⟨i, s, dk, rfl, rfl, hai, hie, hs5, hsk, HQ, HO⟩ := hrel
    by_cases hs : s < 5
    · have ts : decide (s < 5) = true := by simpa using hs
      have ts2 : decide ((s : Int) < 5) = true := by rw [decide_eq_true_eq]; omega
      go_upto_if 14 with fail
      rename_i K0 hK0
      refine wp_cond (t := true) rfl ?_
      refine wp_skip ?_
      refine hK0 _ _ ?_
      refine wp_seq_k (fun K1 hK1 => ?_)
      refine wp_block ?_
      refine wp_seq_k (fun K2 hK2 => ?_)
      go_cut [7] from 17 to 30 (fun vi wx => ∃ i2 : Nat, vi = .int .i64 (i2 : Int) ∧ i ≤ i2 ∧ i2 ≤ e ∧ Hid (Sort.scanSorted ltR dk e i = i2) ∧ Hid (SQ w1 b dk wx))
      case first =>
        refine wp_block ?_
        go_loopw [7] (fun vi wx => ∃ i2 : Nat, vi = .int .i64 (i2 : Int) ∧ i ≤ i2 ∧ i2 ≤ e ∧ Hid (Sort.scanSorted ltR dk e i2 = Sort.scanSorted ltR dk e i) ∧ Hid (SQ w1 b dk wx)) (fun vi _ => e - (RowKit.intOf vi).toNat)
        case atStart => exact ⟨i, rfl, Nat.le_refl _, hie, Lib.hid rfl, HQ⟩
        case round =>
          clear HQ
          obtain ⟨i2, rfl, hi2, hi2e, HS, HQ⟩ := hrel
          by_cases hlt : i2 < e
          · have tt : decide (i2 < e) = true := by simpa using hlt
            have hl := HB.out.cs.cmp HQ.out hsk (i := i2) (j := i2 - 1) (by omega) (by omega)
            rw [show (((i2 - 1 : Nat)) : Int) = (i2 : Int) - 1 by omega] at hl
            obtain ⟨lv, hlv⟩ : ∃ v, ltR dk[i2]! dk[i2 - 1]! = v := ⟨_, rfl⟩
            rw [hlv] at hl
            have HL := Lib.hid hl
            have HLV := Lib.hid hlv
            clear hl hlv
            have c0 := HB.out.cell0 HQ.out
            go_wp2_with fail
            refine HL.out.mono ?_
            rintro x w3 ⟨rfl, hq3⟩
            have HQ3 := Lib.hid hq3
            clear hq3 HL c0
            cases lv with
            | false =>
              go_wp2_with fail
              go_roundw
              case rel => exact ⟨i2 + 1, by go_num, by omega, by omega, Lib.hid (by rw [← HS.out, scanSorted_go ltR dk e i2 hlt HLV.out]), HQ3⟩
              case measure => simp [RowKit.intOf]; omega
            | true =>
              go_wp2_with fail
              go_meet
              case rel => exact ⟨i2, rfl, hi2, hi2e, Lib.hid (by rw [← HS.out, scanSorted_stop ltR dk e i2 (Or.inr HLV.out)]), HQ3⟩
          · have tt : decide (i2 < e) = false := by simpa using hlt
            go_wp2_with fail
            go_meet
            case rel => exact ⟨i2, rfl, hi2, hi2e, Lib.hid (by rw [← HS.out, scanSorted_stop ltR dk e i2 (Or.inl hlt)]), HQ⟩
      case rest =>
        clear HQ ts ts2
        obtain ⟨k, rfl, hik, hke, HI2, HQ⟩ := hcut
        by_cases hkeq : k = e
        · have tt : (k == e) = true := by simpa using hkeq
          have tt2 : ((k : Int) == (e : Int)) = true := by rw [beq_iff_eq]; omega
          have HK := Lib.hid hkeq
          clear hkeq
          go_wp2_with fail
          go_ret
          have e1 := HO.out
          rw [pi_true ltR a e s i dk hs (by rw [HI2.out]; exact HK.out)] at e1
          exact ⟨by rw [← e1]; rfl, HB.out.up.trans (by rw [← e1]; exact HQ.out) (by rw [← e1]; exact hsk)⟩
        · have tt : (k == e) = false := by simpa using hkeq
          have tt2 : ((k : Int) == (e : Int)) = false := by rw [beq_eq_false_iff_ne]; omega
          by_cases h50 : e - a < 50
          · have tf : decide ((e : Int) - (a : Int) < 50) = true := by rw [decide_eq_true_eq]; omega
            go_wp2_with fail
            go_ret
            have e1 := HO.out
            rw [pi_short ltR a e s i dk hs (by rw [HI2.out]; exact hkeq) h50] at e1
            exact ⟨by rw [← e1]; rfl, HB.out.up.trans (by rw [← e1]; exact HQ.out) (by rw [← e1]; exact hsk)⟩
          · have tf : decide ((e : Int) - (a : Int) < 50) = false := by rw [decide_eq_false_iff_not]; omega
            have e1 := HO.out
            rw [pi_go ltR a e s i k dk hs HI2.out hkeq h50] at e1
            have HO1 := Lib.hid e1
            have hklt : k < e := by omega
            have hak : a < k := by omega
            have c1 := HB.out.cell1 HQ.out
            obtain ⟨w4, hsw, hq⟩ := HB.out.cs.swp HQ.out hsk (i := k) (j := k - 1) (by omega) (by omega)
            rw [show (((k - 1 : Nat)) : Int) = (k : Int) - 1 by omega] at hsw
            obtain ⟨d1, hd1⟩ : ∃ x, Sort.swp dk k (k - 1) = x := ⟨_, rfl⟩
            have hs1 : d1.size = d.size := by rw [← hd1, Sort.size_swp]; exact hsk
            rw [hd1] at hq HO1
            have HS := Lib.hid hsw
            have HQ4 := Lib.hid hq
            clear hsw hq e1 hd1 hkeq HO
            go_wp2_with fail
            rw [HS.out, Oper.upon_value]
            clear HS c1 HQ tt tt2 tf
            go_upto_if 47 with fail
            rename_i K5 hK5
            try simp only [Act.put, List.setIfInBounds_toArray, List.set_cons_zero, List.set_cons_succ]
            go_cut [] from 44 to 66 (fun wx => Hid (SQ w1 b (Sort.fixDown ltR a k d1) wx))
            case first =>
              by_cases h2 : k - a ≥ 2
              · have tt : decide (2 ≤ (k : Int) - (a : Int)) = true := by rw [decide_eq_true_eq]; omega
                rw [tt]
                go_wp2_with fail
                go_loopw [9] (fun vj wx => ∃ (j : Nat) (dj : Array Rn), vj = .int .i64 (j : Int) ∧ j ≤ k - 1 ∧ dj.size = d.size ∧ Hid (SQ w1 b dj wx) ∧ Hid (Sort.shiftDown ltR j dj = Sort.shiftDown ltR (k - 1) d1)) (fun vj _ => (RowKit.intOf vj).toNat)
                case atStart => exact ⟨k - 1, d1, by congr 1; omega, Nat.le_refl _, hs1, HQ4, Lib.hid rfl⟩
                case round =>
                  clear HQ4
                  obtain ⟨j, dj, rfl, hjk, hsj, HQ, HO⟩ := hrel
                  by_cases hj1 : 1 ≤ j
                  · have tj : decide (1 ≤ j) = true := by simpa using hj1
                    have tj2 : decide ((1 : Int) ≤ (j : Int)) = true := by rw [decide_eq_true_eq]; omega
                    have hl := HB.out.cs.cmp HQ.out hsj (i := j) (j := j - 1) (by omega) (by omega)
                    rw [show (((j - 1 : Nat)) : Int) = (j : Int) - 1 by omega] at hl
                    obtain ⟨lv, hlv⟩ : ∃ v, ltR dj[j]! dj[j - 1]! = v := ⟨_, rfl⟩
                    rw [hlv] at hl
                    have HL := Lib.hid hl
                    have HLV := Lib.hid hlv
                    clear hl hlv
                    have c0 := HB.out.cell0 HQ.out
                    go_wp2_with fail
                    refine HL.out.mono ?_
                    rintro x w5 ⟨rfl, hq3⟩
                    have HQ3 := Lib.hid hq3
                    clear hq3 HL c0
                    cases lv with
                    | false =>
                      go_wp2_with fail
                      go_meet
                      case rel =>
                        have e2 := HO.out
                        rw [shiftDown_stop ltR j dj (Or.inr HLV.out)] at e2
                        have e3 : Sort.fixDown ltR a k d1 = dj := by
                          unfold Sort.fixDown
                          rw [if_pos h2, e2]
                        rw [e3]
                        exact HQ3
                    | true =>
                      have c1 := HB.out.cell1 HQ3.out
                      obtain ⟨w6, hsw, hq⟩ := HB.out.cs.swp HQ3.out hsj (i := j) (j := j - 1) (by omega) (by omega)
                      rw [show (((j - 1 : Nat)) : Int) = (j : Int) - 1 by omega] at hsw
                      have HS := Lib.hid hsw
                      have HQ6 := Lib.hid hq
                      clear hsw hq
                      go_wp2_with fail
                      rw [HS.out, Oper.upon_value]
                      go_wp2_with fail
                      go_roundw
                      case rel => exact ⟨j - 1, _, by congr 1 <;> omega, by omega, by rw [Sort.size_swp]; exact hsj, HQ6, Lib.hid (by rw [← HO.out, shiftDown_go ltR j dj hj1 HLV.out])⟩
                      case measure => simp [RowKit.intOf]; omega
                  · have tj : decide (1 ≤ j) = false := by simpa using hj1
                    have tj2 : decide ((1 : Int) ≤ (j : Int)) = false := by rw [decide_eq_false_iff_not]; omega
                    go_wp2_with fail
                    go_meet
                    case rel =>
                      have e2 := HO.out
                      rw [shiftDown_stop ltR j dj (Or.inl (by omega))] at e2
                      have e3 : Sort.fixDown ltR a k d1 = dj := by
                        unfold Sort.fixDown
                        rw [if_pos h2, e2]
                      rw [e3]
                      exact HQ
              · have tt : decide (2 ≤ (k : Int) - (a : Int)) = false := by rw [decide_eq_false_iff_not]; omega
                go_wp2_with fail
                go_meet
                case rel =>
                  have e3 : Sort.fixDown ltR a k d1 = d1 := by
                    unfold Sort.fixDown
                    rw [if_neg h2]
                  rw [e3]
                  exact HQ4
            case rest =>
              clear HQ4
              have HQ := hcut
              clear hcut
              obtain ⟨d2, hd2⟩ : ∃ x, Sort.fixDown ltR a k d1 = x := ⟨_, rfl⟩
              have hs2 : d2.size = d.size := by rw [← hd2, size_fixDown]; exact hs1
              rw [hd2] at HO1 HQ
              clear hd2
              by_cases h2 : e - k ≥ 2
              · have tt : decide (2 ≤ (e : Int) - (k : Int)) = true := by rw [decide_eq_true_eq]; omega
                go_wp2_with fail
                go_loopw [10] (fun vj wx => ∃ (j : Nat) (dj : Array Rn), vj = .int .i64 (j : Int) ∧ k + 1 ≤ j ∧ j ≤ e ∧ dj.size = d.size ∧ Hid (SQ w1 b dj wx) ∧ Hid (Sort.shiftUp ltR e j dj = Sort.shiftUp ltR e (k + 1) d2)) (fun vj _ => e - (RowKit.intOf vj).toNat)
                case atStart => exact ⟨k + 1, d2, by go_num, Nat.le_refl _, by omega, hs2, HQ, Lib.hid rfl⟩
                case round =>
                  clear HQ
                  obtain ⟨j, dj, rfl, hjk, hje, hsj, HQ, HO⟩ := hrel
                  by_cases hj1 : j < e
                  · have tj : decide (j < e) = true := by simpa using hj1
                    have hl := HB.out.cs.cmp HQ.out hsj (i := j) (j := j - 1) (by omega) (by omega)
                    rw [show (((j - 1 : Nat)) : Int) = (j : Int) - 1 by omega] at hl
                    obtain ⟨lv, hlv⟩ : ∃ v, ltR dj[j]! dj[j - 1]! = v := ⟨_, rfl⟩
                    rw [hlv] at hl
                    have HL := Lib.hid hl
                    have HLV := Lib.hid hlv
                    clear hl hlv
                    have c0 := HB.out.cell0 HQ.out
                    go_wp2_with fail
                    refine HL.out.mono ?_
                    rintro x w5 ⟨rfl, hq3⟩
                    have HQ3 := Lib.hid hq3
                    clear hq3 HL c0
                    cases lv with
                    | false =>
                      go_wp2_with fail
                      have e3 : Sort.fixUp ltR e k d2 = dj := by
                        have e2 := HO.out
                        rw [shiftUp_stop ltR e j dj (Or.inr HLV.out)] at e2
                        unfold Sort.fixUp
                        rw [if_pos h2, e2]
                      have HE := Lib.hid e3
                      clear e3
                      go_roundw
                      case rel => exact ⟨k, s + 1, dj, rfl, by go_num, hak, hke, by omega, hsj, HQ3, Lib.hid (by rw [← HE.out]; exact HO1.out)⟩
                      case measure => simp [RowKit.intOf]; omega
                    | true =>
                      have c1 := HB.out.cell1 HQ3.out
                      obtain ⟨w6, hsw, hq⟩ := HB.out.cs.swp HQ3.out hsj (i := j) (j := j - 1) (by omega) (by omega)
                      rw [show (((j - 1 : Nat)) : Int) = (j : Int) - 1 by omega] at hsw
                      have HS := Lib.hid hsw
                      have HQ6 := Lib.hid hq
                      clear hsw hq
                      go_wp2_with fail
                      rw [HS.out, Oper.upon_value]
                      go_wp2_with fail
                      go_roundw
                      case rel => exact ⟨j + 1, _, by go_num, by omega, by omega, by rw [Sort.size_swp]; exact hsj, HQ6, Lib.hid (by rw [← HO.out, shiftUp_go ltR e j dj hj1 HLV.out])⟩
                      case measure => simp [RowKit.intOf]; omega
                  · have tj : decide (j < e) = false := by simpa using hj1
                    have e3 : Sort.fixUp ltR e k d2 = dj := by
                      have e2 := HO.out
                      rw [shiftUp_stop ltR e j dj (Or.inl hj1)] at e2
                      unfold Sort.fixUp
                      rw [if_pos h2, e2]
                    have HE := Lib.hid e3
                    clear e3
                    go_wp2_with fail
                    go_roundw
                    case rel => exact ⟨k, s + 1, dj, rfl, by go_num, hak, hke, by omega, hsj, HQ, Lib.hid (by rw [← HE.out]; exact HO1.out)⟩
                    case measure => simp [RowKit.intOf]; omega
              · have tt : decide (2 ≤ (e : Int) - (k : Int)) = false := by rw [decide_eq_false_iff_not]; omega
                have e3 : Sort.fixUp ltR e k d2 = d2 := by
                  unfold Sort.fixUp
                  rw [if_neg h2]
                have HE := Lib.hid e3
                clear e3
                go_wp2_with fail
                go_roundw
                case rel => exact ⟨k, s + 1, d2, rfl, by go_num, hak, hke, by omega, hs2, HQ, Lib.hid (by rw [← HE.out]; exact HO1.out)⟩
                case measure => simp [RowKit.intOf]; omega
    · have ts : decide (s < 5) = false := by simpa using hs
      have ts2 : decide ((s : Int) < 5) = false := by rw [decide_eq_false_iff_not]; omega
      have h5 : s = 5 := by omega
      rw [h5] at HO
      clear h5
      go_wp2_with fail
      go_ret
      have e1 := HO.out
      rw [pi_end ltR a e i dk] at e1
      exact ⟨by rw [← e1]; rfl, HB.out.up.trans (by rw [← e1]; exact HQ.out) (by rw [← e1]; exact hsk)⟩
end
end Go.Proofs.Ytfielodchoghlaa
