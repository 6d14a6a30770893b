/- The walk of TopDerived. -/
import Derived.Test.YtideobdggdmeiaaTopE
import Derived.Test.YtideobdggdmeiaaTopI
import Derived.Test.YtideobdggdmeiaaOpen
namespace Go.Proofs.Ytideobdggdmeiaa
open Go.RowKit
set_option maxRecDepth 100000
set_option linter.unusedVariables false
set_option linter.unusedSimpArgs false
theorem tmod_bd (a b : Int) (hb : 0 < b) : -b < a.tmod b ∧ a.tmod b < b := by
  rcases Int.le_total 0 a with h | h
  · rw [Int.tmod_eq_emod_of_nonneg h]
    have h1 := Int.emod_nonneg a (show b ≠ 0 by omega)
    have h2 := Int.emod_lt_of_pos a hb
    omega
  · have e : a = -(-a) := by omega
    rw [e, Int.neg_tmod, Int.tmod_eq_emod_of_nonneg (show 0 ≤ -a by omega)]
    have h1 := Int.emod_nonneg (-a) (show b ≠ 0 by omega)
    have h2 := Int.emod_lt_of_pos (-a) hb
    omega
set_option maxHeartbeats 4000000 in
theorem topDerived_walk (u0 u1 u2 : Value) (l0 l1 l2 : List UInt8) (n3 n4 : Int) (w : World) (h0 : Bs w u0 l0) (h1 : Bs w u1 l1) (h2 : Bs w u2 l2) :
    Calls Try.prog 3 #[u0, u1, u2, .int .i64 n3, .int .i64 n4] w fun e w' => e = .returned (.bool true) ∧ Below w.heap.size w w' := by
  have H0 := Lib.hid h0
  have H1 := Lib.hid h1
  have H2 := Lib.hid h2
  obtain ⟨a0, c0, rfl, k0, k0', k0'', _⟩ := h0.form
  obtain ⟨a1, c1, rfl, k1, k1', k1'', _⟩ := h1.form
  obtain ⟨a2, c2, rfl, k2, k2', k2'', _⟩ := h2.form
  have HK0 := Lib.hid (And.intro k0 k0')
  have HK1 := Lib.hid (And.intro k1 k1')
  have HK2 := Lib.hid (And.intro k2 k2')
  clear h0 h1 h2 k0 k0' k0'' k1 k1' k1'' k2 k2' k2''
  obtain ⟨N0, hN0⟩ : ∃ x, l0.length = x := ⟨_, rfl⟩
  obtain ⟨N1, hN1⟩ : ∃ x, l1.length = x := ⟨_, rfl⟩
  obtain ⟨N2, hN2⟩ : ∃ x, l2.length = x := ⟨_, rfl⟩
  rw [hN0] at H0 HK0 ⊢
  rw [hN1] at H1 HK1 ⊢
  rw [hN2] at H2 HK2 ⊢
  have HN0 := Lib.hid hN0
  have HN1 := Lib.hid hN1
  have HN2 := Lib.hid hN2
  clear hN0 hN1 hN2
  go_enter Try.func3, Try.ntmps3
  go_wp2_with fail
  refine (tagged_any w).mono ?_
  rintro e w1 ⟨rfl, hb1⟩
  have HB1 := Lib.hid hb1
  have HA0 := Lib.hid (H0.out.grow hb1)
  have HA1 := Lib.hid (H1.out.grow hb1)
  have HA2 := Lib.hid (H2.out.grow hb1)
  clear hb1
  go_upto_if 16 with fail
  obtain ⟨bb, hbb⟩ : ∃ bb, decide ((500 : Int) < (N0 : Int)) = bb := ⟨_, rfl⟩
  rw [hbb]
  have HBB := Lib.hid hbb
  clear hbb
  go_cut [0] from 14 to 19 (fun s0 wx => ∃ K : List UInt8, w1 = wx ∧ Hid (Bs w1 s0 K ∧ K.length ≤ 500))
  case first =>
    by_cases hl : 500 < N0
    · obtain rfl : bb = true := by rw [← HBB.out, decide_eq_true_eq]; omega
      have HX : Hid (Bs w1 (.slice a0 500 c0) (l0.take 500) ∧ (l0.take 500).length ≤ 500) := Lib.hid ⟨HA0.out.headB 500 (by rw [HN0.out]; omega), by rw [List.length_take]; omega⟩
      have hc : 500 ≤ c0 := by have := HK0.out; omega
      clear hl HBB
      go_wp2
      go_meet
      exact ⟨_, rfl, HX⟩
    · obtain rfl : bb = false := by rw [← HBB.out, decide_eq_false_iff_not]; omega
      have HX : Hid (Bs w1 (.slice a0 N0 c0) l0 ∧ l0.length ≤ 500) := Lib.hid ⟨HA0.out, by rw [HN0.out]; omega⟩
      clear hl HBB
      go_wp2
      go_meet
      exact ⟨_, rfl, HX⟩
  case rest =>
    obtain ⟨K0, rfl, HL0⟩ := hcut
    clear HBB
    go_upto_if 21 with fail
    obtain ⟨bb, hbb⟩ : ∃ bb, decide ((500 : Int) < (N1 : Int)) = bb := ⟨_, rfl⟩
    rw [hbb]
    have HBB := Lib.hid hbb
    clear hbb
    go_cut [1] from 19 to 24 (fun s0 wx => ∃ K : List UInt8, w1 = wx ∧ Hid (Bs w1 s0 K ∧ K.length ≤ 500))
    case first =>
      by_cases hl : 500 < N1
      · obtain rfl : bb = true := by rw [← HBB.out, decide_eq_true_eq]; omega
        have HX : Hid (Bs w1 (.slice a1 500 c1) (l1.take 500) ∧ (l1.take 500).length ≤ 500) := Lib.hid ⟨HA1.out.headB 500 (by rw [HN1.out]; omega), by rw [List.length_take]; omega⟩
        have hc : 500 ≤ c1 := by have := HK1.out; omega
        clear hl HBB
        go_wp2
        go_meet
        exact ⟨_, rfl, HX⟩
      · obtain rfl : bb = false := by rw [← HBB.out, decide_eq_false_iff_not]; omega
        have HX : Hid (Bs w1 (.slice a1 N1 c1) l1 ∧ l1.length ≤ 500) := Lib.hid ⟨HA1.out, by rw [HN1.out]; omega⟩
        clear hl HBB
        go_wp2
        go_meet
        exact ⟨_, rfl, HX⟩
    case rest =>
      obtain ⟨K1, rfl, HL1⟩ := hcut
      clear HBB
      go_upto_if 26 with fail
      obtain ⟨bb, hbb⟩ : ∃ bb, decide ((500 : Int) < (N2 : Int)) = bb := ⟨_, rfl⟩
      rw [hbb]
      have HBB := Lib.hid hbb
      clear hbb
      go_cut [2] from 24 to 29 (fun s0 wx => ∃ K : List UInt8, w1 = wx ∧ Hid (Bs w1 s0 K ∧ K.length ≤ 500))
      case first =>
        by_cases hl : 500 < N2
        · obtain rfl : bb = true := by rw [← HBB.out, decide_eq_true_eq]; omega
          have HX : Hid (Bs w1 (.slice a2 500 c2) (l2.take 500) ∧ (l2.take 500).length ≤ 500) := Lib.hid ⟨HA2.out.headB 500 (by rw [HN2.out]; omega), by rw [List.length_take]; omega⟩
          have hc : 500 ≤ c2 := by have := HK2.out; omega
          clear hl HBB
          go_wp2
          go_meet
          exact ⟨_, rfl, HX⟩
        · obtain rfl : bb = false := by rw [← HBB.out, decide_eq_false_iff_not]; omega
          have HX : Hid (Bs w1 (.slice a2 N2 c2) l2 ∧ l2.length ≤ 500) := Lib.hid ⟨HA2.out, by rw [HN2.out]; omega⟩
          clear hl HBB
          go_wp2
          go_meet
          exact ⟨_, rfl, HX⟩
      case rest =>
        obtain ⟨K2, rfl, HL2⟩ := hcut
        clear HBB
        have b3 := tmod_bd n3 200 (by omega)
        have b4 := tmod_bd n4 12 (by omega)
        obtain ⟨r3, hr3⟩ : ∃ r, n3.tmod 200 = r := ⟨_, rfl⟩
        obtain ⟨r4, hr4⟩ : ∃ r, n4.tmod 12 = r := ⟨_, rfl⟩
        rw [hr3] at b3
        rw [hr4] at b4
        have e3 : IntKind.i64.wrap (r3 + 200) = r3 + 200 := IntWalk.i64_in _ (by omega)
        have e4 : IntKind.i64.wrap (r4 + 12) = r4 + 12 := IntWalk.i64_in _ (by omega)
        obtain ⟨N, hN⟩ : ∃ N : Nat, (r3 + 200).tmod 200 = (N : Int) := ⟨((r3 + 200) % 200).toNat, by rw [Int.tmod_eq_emod_of_nonneg (by omega)]; omega⟩
        obtain ⟨C, hC⟩ : ∃ N : Nat, (r4 + 12).tmod 12 = (N : Int) := ⟨((r4 + 12) % 12).toNat, by rw [Int.tmod_eq_emod_of_nonneg (by omega)]; omega⟩
        have bN := tmod_bd (r3 + 200) 200 (by omega)
        have bC := tmod_bd (r4 + 12) 12 (by omega)
        rw [hN] at bN
        rw [hC] at bC
        have f3 : IntKind.i64.wrap (1 + (N : Int)) = ((N + 1 : Nat) : Int) := by rw [IntWalk.i64_in _ (by omega)]; omega
        have f4 : IntKind.i64.wrap (1 + (C : Int)) = (C : Int) + 1 := by rw [IntWalk.i64_in _ (by omega)]; omega
        obtain ⟨M, hM⟩ : ∃ M, N + 1 = M := ⟨_, rfl⟩
        have hM0 : 0 < M := by omega
        have hM2 : M ≤ 200 := by omega
        have hC2 : C < 12 := by omega
        rw [hM] at f3
        clear b3 b4 bN bC hM
        go_wp2_with fail
        clear hr3 hr4 e3 e4 hN hC f3 f4
        go_loopw [11] (fun av wr => ∃ i : Nat, i ≤ 2 ∧ av = .int .u8 ((i : Int) + 1) ∧ Hid (Below w.heap.size w wr) ∧ Hid (Below w1.heap.size w1 wr)) (fun av _ => 5 - (intOf av).toNat)
        case atStart => exact ⟨0, by omega, rfl, HB1, Lib.hid (Below.refl _ _)⟩
        case round =>
          obtain ⟨i, hi, rfl, HW, HV⟩ := hrel
          by_cases hlt : i < 2
          · obtain ⟨g, hg⟩ : ∃ g, algN g = (i : Int) + 1 := by
              rcases (show i = 0 ∨ i = 1 by omega) with rfl | rfl
              · exact ⟨false, rfl⟩
              · exact ⟨true, rfl⟩
            have HX := Lib.hid (expands_any g wr u0 u1 u2 K0 K1 K2 (HL0.out.1.grow HV.out) (HL1.out.1.grow HV.out) (HL2.out.1.grow HV.out) HL0.out.2 HL1.out.2 HL2.out.2 M hM0 hM2)
            rw [hg] at HX
            have HG := Lib.hid hg
            have t1 : (i : Int) + 1 ≤ 2 := by omega
            have HLT := Lib.hid hlt
            have hwr : ((i : Int) + 1 + 1) % 256 = (i : Int) + 1 + 1 := by omega
            clear hg hlt
            go_wp2_with fail
            refine HX.out.mono ?_
            rintro e w2 ⟨rfl, q1⟩
            have HY := Lib.hid (iterates_any g w2 u0 u1 K0 K1 ((HL0.out.1.grow HV.out).grow q1) ((HL1.out.1.grow HV.out).grow q1) HL0.out.2 HL1.out.2 M hM0 hM2 C hC2)
            rw [HG.out] at HY
            have HW2 : Hid (Below w.heap.size w w2) := Lib.hid (HW.out.trans (q1.mono HW.out.size))
            have HV2 : Hid (Below w1.heap.size w1 w2) := Lib.hid (HV.out.trans (q1.mono HV.out.size))
            clear q1 HX
            go_wp2_with fail
            refine HY.out.mono ?_
            rintro e w3 ⟨rfl, q1⟩
            have HW3 : Hid (Below w.heap.size w w3) := Lib.hid (HW2.out.trans (q1.mono HW2.out.size))
            have HV3 : Hid (Below w1.heap.size w1 w3) := Lib.hid (HV2.out.trans (q1.mono HV2.out.size))
            clear q1 HY HW2 HV2 HW HV
            go_wp2
            go_roundw
            case rel => exact ⟨i + 1, by have := HLT.out; omega, by go_num, HW3, HV3⟩
            case measure => simp [intOf]; have := HLT.out; omega
          · obtain rfl : i = 2 := by omega
            go_wp2
            go_ret
            exact ⟨rfl, HW.out⟩
theorem topDerived.walk {w : World} (v0 : Value) (a0 : List UInt8) (h0 : In w v0 a0) (v1 : Value) (a1 : List UInt8) (h1 : In w v1 a1) (v2 : Value) (a2 : List UInt8) (h2 : In w v2 a2) (a3 : Int) (w3 : (Lit.int .i64 a3).wf = true) (a4 : Int) (w4 : (Lit.int .i64 a4).wf = true) :
    Calls Try.prog 3 #[v0, v1, v2, .int .i64 a3, .int .i64 a4] w fun e w' => e = .returned (.bool true) ∧ Below w.heap.size w w' := topDerived_walk v0 v1 v2 a0 a1 a2 a3 a4 w h0.1 h1.1 h2.1
end Go.Proofs.Ytideobdggdmeiaa
