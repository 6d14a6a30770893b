/- pdqsort of a row of runs, by a comparison that lays blocks of its own. -/
import Derived.Test.YtfielodchoghlaaRows
import Derived.Test.YtfielodchoghlaaSrtIns
import Derived.Test.YtfielodchoghlaaSrtHeap2
import Derived.Test.YtfielodchoghlaaSrtPiv2
import Derived.Test.YtfielodchoghlaaSrtPart
import Derived.Test.YtfielodchoghlaaSrtPart2
import Derived.Test.YtfielodchoghlaaSrtPi
import Derived.Test.YtfielodchoghlaaSrtShelf
import Derived.Shelf.SlSortFuncK.PdqK
import Derived.Sort.Walk13
import Derived.Deep.Cut
namespace Go.Proofs.Ytfielodchoghlaa
open Go.RowKit Go.Lib Go.Sort
set_option maxRecDepth 1000000
set_option linter.unusedVariables false
set_option linter.unusedSimpArgs false
section
variable {g : Nat} {lb : Array Value} {sf : Nat} {sb : Array Value} {b : Nat} {d d' : Array Rn} {w w1 : World}
theorem SQ.of_sw {n : Nat} {os : Array Obj} (h : w1 = sortWorldK encR 3 w b 0 n d os) (hb : b < w.heap.size) : SQ w b d w1 := by
  subst h
  refine ⟨rfl, rfl, rfl, ?_, fun k hk => ?_⟩
  · show (putR w b d).heap.size ≤ (grow (Sort.putRowK encR 3 (Sort.ahead w n) b 0 d) os).heap.size
    rw [size_grow, Sort.size_putRowK, putR_size]
    exact Nat.le_add_right _ _
  · have e : (putRowK encR 3 (Sort.ahead w n) b 0 d).heap = (putR w b d).heap := rfl
    show (grow (Sort.putRowK encR 3 (Sort.ahead w n) b 0 d) os).heap[k]? = _
    rw [heap_grow_old _ _ (by rw [e, putR_size]; exact hk), e]
theorem brk_any (h : CS g lb sf sb b d w) (a e : Nat) (hae : a ≤ e) (he : e ≤ d.size) :
    Calls Try.prog 65 #[boxV g lb sf sb, .int .i64 a, .int .i64 e] w fun x w' => x = .returned (.tuple #[]) ∧ SQ w b (Sort.breakPatterns d a e) w' := by
  have hc := Any.breakPatterns_func_cells_w (P := Try.prog) (ρ := sliceA_ren) { sliceA with } encR 3 encR_len (.func g) #[] lb sf sb b 0 a e d w h.swap h.hold h.blk hae he h.sz
  exact hc.mono fun x w' ⟨hx, n, os, hw⟩ => ⟨hx, SQ.of_sw hw h.blk⟩
theorem rev_any (h : CS g lb sf sb b d w) (a e : Nat) (hae : a ≤ e) (he : e ≤ d.size) :
    Calls Try.prog 67 #[boxV g lb sf sb, .int .i64 a, .int .i64 e] w fun x w' => x = .returned (.tuple #[]) ∧ SQ w b (Sort.reverseRange d a e) w' := by
  have hc := Any.reverseRange_func_cells_w (P := Try.prog) (ρ := sliceA_ren) { sliceA with } encR 3 encR_len (.func g) #[] lb sf sb b 0 a e d w h.swap h.hold h.blk hae he h.sz
  exact hc.mono fun x w' ⟨hx, n, os, hw⟩ => ⟨hx, SQ.of_sw hw h.blk⟩
theorem hintN_eq (h : Hint) : hintN h = hintCode h := by cases h <;> rfl
end
section
variable {g : Nat} {lb : Array Value} {sf : Nat} {sb : Array Value} {b : Nat}
set_option maxHeartbeats 12800000 in
theorem pdq_any : ∀ (N a e limit : Nat) (d : Array Rn) (w : World), e - a < N → CS g lb sf sb b d w → a ≤ e → e ≤ d.size → limit < 4611686018427387904 → Sort.Below ltR a e d →
    Calls Try.prog 51 #[boxV g lb sf sb, .int .i64 a, .int .i64 e, .int .i64 limit] w fun x w' => x = .returned (.tuple #[]) ∧ SQ w b (Sort.pdq ltR d a e limit true true) w' := by
  intro N
  induction N with
  | zero => intro _ _ _ _ _ h; exact absurd h (Nat.not_lt_zero _)
  | succ N ih =>
    intro a e limit d w hN h hae he hlimit hBel0
    have HB := Lib.hid (Bx.new h 82)
    have IH := Lib.hid ih
    have eg := h.eg
    have hsz := h.sz
    have hO := Lib.hid swo_ltR
    clear h ih
    unfold boxV at *
    go_enter Try.func51, Try.ntmps51
    go_upto_region 1 with fail
    obtain ⟨B, hB⟩ : ∃ B, w.heap.size = B := ⟨_, rfl⟩
    obtain ⟨w1, hw1⟩ : ∃ y, w.alloc (.cells #[.func (.func g) #[] lb, .func (.func sf) #[] sb] 82) = y := ⟨_, rfl⟩
    rw [hw1, hB] at HB
    try rw [hw1]
    try rw [hB]
    clear hw1 hB
    go_wp2_with fail
    go_loopg [1, 2, 3, 8, 9] (e - a) (fun kx s1 s2 s3 s8 s9 wr => ∃ (a' b' lim : Nat) (wb wp : Bool) (dk : Array Rn), s1 = .int .i64 a' ∧ s2 = .int .i64 b' ∧ s3 = .int .i64 lim ∧ s8 = .bool wb ∧ s9 = .bool wp ∧
      a' ≤ b' ∧ b' ≤ d.size ∧ b' - a' ≤ kx ∧ kx ≤ e - a ∧ lim ≤ limit ∧ dk.size = d.size ∧ Hid (Sort.Below ltR a' b' dk) ∧ Hid (SQ w1 b dk wr) ∧ Hid (pdq ltR dk a' b' lim wb wp = pdq ltR d a e limit true true))
    case atStart => exact ⟨a, e, limit, true, true, d, rfl, rfl, rfl, rfl, rfl, hae, he, Nat.le_refl _, Nat.le_refl _, Nat.le_refl _, rfl, Lib.hid hBel0, Lib.hid HB.out.cs.start, Lib.hid rfl⟩
    case round =>
      obtain ⟨a', b', lim, wb, wp, dk, rfl, rfl, rfl, rfl, rfl, hab', hb', hkx, hkN, hlim, hds, hBel, hAt, A⟩ := hrel
      have CSk := Lib.hid (HB.out.cs.on hAt.out hds)
      by_cases h12 : b' - a' ≤ 12
      · have h12z : (b' : Int) - (a' : Int) ≤ 12 := by omega
        have hc := Lib.hid (isort_any CSk.out a' b' hab' (by omega))
        have x0 := HB.out.cell0 hAt.out
        have x1 := HB.out.cell1 hAt.out
        go_wp2_with fail
        unfold boxV at hc
        refine hc.out.mono ?_
        rintro e2 w2 ⟨rfl, hw2⟩
        have HW := Lib.hid hw2
        clear hw2
        go_wp2_with fail
        (try simp only [Exit.inBlock, Exit.then])
        refine bodyPost_ret (results_none rfl _ _ _) rfl ?_
        refine ⟨rfl, ?_⟩
        rw [← A.out, pdq_small h12]
        have hs := (insertionSort_holds swo_ltR dk a' b' hab' (by omega)).1.1
        exact HB.out.up.trans (hAt.out.trans HW.out hs) (by rw [hs, hds])
      · have h12z : ¬ ((b' : Int) - (a' : Int) ≤ 12) := by omega
        by_cases hl0 : lim = 0
        · subst hl0
          have hc := Lib.hid (heap_any CSk.out a' b' hab' (by omega))
          have x0 := HB.out.cell0 hAt.out
          have x1 := HB.out.cell1 hAt.out
          go_wp2_with fail
          unfold boxV at hc
          refine hc.out.mono ?_
          rintro e2 w2 ⟨rfl, hw2⟩
          have HW := Lib.hid hw2
          clear hw2
          go_wp2_with fail
          (try simp only [Exit.inBlock, Exit.then])
          refine bodyPost_ret (results_none rfl _ _ _) rfl ?_
          refine ⟨rfl, ?_⟩
          rw [← A.out, pdq_heap h12 rfl]
          have hs := (heapSort_holds swo_ltR dk a' b' hab' (by omega)).1.1
          exact HB.out.up.trans (hAt.out.trans HW.out hs) (by rw [hs, hds])
        · have hl0z : ¬ ((lim : Int) = 0) := by omega
          have RF := Lib.hid (rd_facts (lt := ltR) (limit := lim) (wb := wb) (wp := wp) swo_ltR partialInsertionSort_holds reverseRange_holds (show a' < b' by omega) (show b' ≤ dk.size by omega) hBel.out)
          have s1 := Lib.hid RF.out.1
          have s2 := Lib.hid RF.out.2.2.2.1
          have s3 := Lib.hid RF.out.2.2.2.2.2.2.1
          have B3 := Lib.hid RF.out.2.2.2.2.2.2.2
          have hc1 := RF.out.2.2.1
          have hpv := RF.out.2.2.2.2.2.1
          go_upto_if 35 with fail
          go_cut [3] from 19 (fun s3 wc => s3 = .int .i64 (rd ltR dk a' b' lim wb wp).lim ∧ Hid (SQ w1 b (rd ltR dk a' b' lim wb wp).d1 wc))
          case first =>
            have x0 := HB.out.cell0 hAt.out
            have x1 := HB.out.cell1 hAt.out
            cases wb
            · have hc := Lib.hid (brk_any CSk.out a' b' hab' (by omega))
              unfold boxV at hc
              go_wp2_with fail
              refine hc.out.mono ?_
              rintro e2 w2 ⟨rfl, hw2⟩
              have HW := Lib.hid hw2
              clear hw2
              go_wp2_with fail
              go_meet
              case rel =>
                refine ⟨?_, Lib.hid (hAt.out.trans HW.out s1.out)⟩
                show Value.int .i64 ((lim : Int) - 1) = Value.int .i64 ((lim - 1 : Nat) : Int)
                congr 1
                omega
            · go_wp2_with fail
              go_meet
              case rel => exact ⟨rfl, hAt⟩
          case rest =>
            obtain ⟨rfl, hAt1⟩ := hcut
            have CS1 := Lib.hid (HB.out.cs.on hAt1.out (s1.out.trans hds))
            have hz1 : (rd ltR dk a' b' lim wb wp).d1.size = d.size := s1.out.trans hds
            have hc17 : Hid (Calls Try.prog 66 #[.agg #[.func (.func g) #[] lb, .func (.func sf) #[] sb], .int .i64 a', .int .i64 b'] wc fun e w' => e = .returned (.tuple #[.int .i64 (rd ltR dk a' b' lim wb wp).c.1, .int .i64 (hintCode (rd ltR dk a' b' lim wb wp).c.2)]) ∧ SQ wc b (rd ltR dk a' b' lim wb wp).d1 w') := by
              rw [← hintN_eq]
              exact pivot_any CS1.out a' b' (by omega) (by omega)
            have HZ1 := Lib.hid hz1
            clear hz1
            have y0 := HB.out.cell0 hAt1.out
            have y1 := HB.out.cell1 hAt1.out
            go_upto_if 50 with (go_at_call 66; refine hc17.out.mono ?_; rintro e2 w2 ⟨rfl, hw2⟩)
            have hAt2 := Lib.hid (hAt1.out.trans hw2 rfl)
            clear hw2 y0 y1 hc17
            have CS2 := Lib.hid (HB.out.cs.on hAt2.out HZ1.out)
            go_cut [11, 12] from 19 (fun s11 s12 wc => s11 = .int .i64 (rd ltR dk a' b' lim wb wp).pivot ∧ s12 = .int .i64 (hintCode (rd ltR dk a' b' lim wb wp).hint) ∧ Hid (SQ w1 b (rd ltR dk a' b' lim wb wp).d2 wc))
            case first =>
              have z0 := HB.out.cell0 hAt2.out
              have z1 := HB.out.cell1 hAt2.out
              by_cases hh : (rd ltR dk a' b' lim wb wp).c.2 = .decreasing
              · have hcode : hintCode (rd ltR dk a' b' lim wb wp).c.2 = 2 := by rw [hh]; rfl
                obtain ⟨e2, epv, eht⟩ := rd_dec hh
                have HE := Lib.hid (And.intro e2 (And.intro epv eht))
                clear e2 epv eht hh
                have hz := HZ1.out
                have hc18 : Hid (Calls Try.prog 67 #[.agg #[.func (.func g) #[] lb, .func (.func sf) #[] sb], .int .i64 a', .int .i64 b'] w2 fun e w' => e = .returned (.tuple #[]) ∧ SQ w2 b (reverseRange (rd ltR dk a' b' lim wb wp).d1 a' b') w') := rev_any CS2.out a' b' hab' (by omega)
                clear hz
                go_wp2_with (go_at_call 67; refine hc18.out.mono ?_; rintro e2 w3 ⟨rfl, hw3⟩)
                go_meet
                case rel =>
                  obtain ⟨e2, epv, eht⟩ := HE.out
                  refine ⟨?_, by rw [eht]; rfl, Lib.hid (by rw [e2]; exact hAt2.out.trans hw3 (by rw [← e2, s2.out, s1.out]))⟩
                  rw [epv]
                  congr 1
                  omega
              · have hcode : ¬ (hintCode (rd ltR dk a' b' lim wb wp).c.2 = 2) := fun h => hh (hintCode_two h)
                obtain ⟨e2, epv, eht⟩ := rd_not hh
                have HE := Lib.hid (And.intro e2 (And.intro epv eht))
                clear e2 epv eht hh
                go_wp2_with fail
                go_meet
                case rel =>
                  obtain ⟨e2, epv, eht⟩ := HE.out
                  exact ⟨by rw [epv], by rw [eht], Lib.hid (by rw [e2]; exact hAt2.out)⟩
            case rest =>
              obtain ⟨rfl, rfl, hAt3⟩ := hcut
              have HZ2 : Hid ((rd ltR dk a' b' lim wb wp).d2.size = d.size) := Lib.hid (s2.out.trans hds)
              have CS3 := Lib.hid (HB.out.cs.on hAt3.out HZ2.out)
              go_upto_region 16 with fail
              go_cut [12, 68] from 19 (fun s12 s68 wx => s12 = .int .i64 (hintCode (rd ltR dk a' b' lim wb wp).hint) ∧ s68 = .bool (wb && wp && decide ((rd ltR dk a' b' lim wb wp).hint = .increasing)) ∧ wx = wc)
              case first =>
                clear RF s1 s2 s3 B3 hc1 hpv
                cases wb <;> cases wp <;> cases hh3 : (rd ltR dk a' b' lim _ _).hint <;>
                  (have hcode3 := congrArg hintCode hh3
                   simp only [hintCode] at hcode3
                   go_wp2_with fail
                   go_meet
                   exact ⟨by simp [hh3, hintCode], by simp [hh3, hintCode], rfl⟩)
              case rest =>
                obtain ⟨rfl, rfl, rfl⟩ := hcut
                go_upto_if 68 with fail
                go_cut [] from 19 (fun wx => Hid ((rd ltR dk a' b' lim wb wp).pi.2 = false) ∧ Hid (SQ w1 b (rd ltR dk a' b' lim wb wp).pi.1 wx))
                case first =>
                  have v0 := HB.out.cell0 hAt3.out
                  have v1 := HB.out.cell1 hAt3.out
                  cases h68 : (wb && wp && decide ((rd ltR dk a' b' lim wb wp).hint = .increasing))
                  · have epi := Lib.hid (rd_pi_no h68)
                    go_wp2_with fail
                    go_meet
                    case rel => exact ⟨Lib.hid (by rw [epi.out]), Lib.hid (by rw [epi.out]; exact hAt3.out)⟩
                  · have epi := Lib.hid (rd_pi_yes h68)
                    have hz := HZ2.out
                    have hc19 := partIns_any CS3.out a' b' (by omega) (by omega)
                    clear hz
                    rw [← epi.out] at hc19
                    unfold boxV at hc19
                    obtain ⟨p2, hp2⟩ : ∃ p, (rd ltR dk a' b' lim wb wp).pi.2 = p := ⟨_, rfl⟩
                    rw [hp2] at hc19
                    have HP := Lib.hid hp2
                    have HC := Lib.hid hc19
                    clear hc19 hp2
                    go_wp2_with fail
                    refine HC.out.mono ?_
                    rintro e2 w4 ⟨rfl, hw4⟩
                    have HW := Lib.hid hw4
                    clear hw4
                    have hs3 : (rd ltR dk a' b' lim wb wp).pi.1.size = (rd ltR dk a' b' lim wb wp).d2.size := by rw [s3.out, s2.out]
                    have HS3 := Lib.hid hs3
                    clear hs3
                    cases p2 with
                    | false =>
                      go_wp2_with fail
                      go_meet
                      case rel => exact ⟨HP, Lib.hid (hAt3.out.trans HW.out HS3.out)⟩
                    | true =>
                      go_wp2_with fail
                      (try simp only [Exit.inBlock, Exit.then])
                      refine bodyPost_ret (results_none rfl _ _ _) rfl ?_
                      refine ⟨rfl, ?_⟩
                      rw [← A.out, pdq_done h12 hl0 HP.out]
                      exact HB.out.up.trans (hAt3.out.trans HW.out HS3.out) (by rw [HS3.out]; exact HZ2.out)
                case rest =>
                  obtain ⟨hp2, hAt5⟩ := hcut
                  have HZ3 : Hid ((rd ltR dk a' b' lim wb wp).pi.1.size = d.size) := Lib.hid (s3.out.trans hds)
                  have CS5 := Lib.hid (HB.out.cs.on hAt5.out HZ3.out)
                  go_upto_region 18 with fail
                  go_cut [83] from 19 (fun s83 wx => s83 = .bool (decide (a' > 0) && !ltR (rd ltR dk a' b' lim wb wp).pi.1[a' - 1]! (rd ltR dk a' b' lim wb wp).pi.1[(rd ltR dk a' b' lim wb wp).pivot]!) ∧ Hid (SQ w1 b (rd ltR dk a' b' lim wb wp).pi.1 wx))
                  case first =>
                    have t0 := HB.out.cell0 hAt5.out
                    have t1 := HB.out.cell1 hAt5.out
                    rcases Nat.eq_zero_or_pos a' with ha0 | ha0
                    · have ha0z : decide ((a' : Int) > 0) = false := decide_eq_false (by omega)
                      have ha0y : decide (0 < a') = false := decide_eq_false (by omega)
                      have HA0 := Lib.hid ha0
                      clear ha0
                      go_wp2_with fail
                      go_meet
                      case rel => exact ⟨by simp [HA0.out], hAt5⟩
                    · have ha0z : (a' : Int) > 0 := by omega
                      have hz := HZ3.out
                      have hl := HB.out.cs.cmp hAt5.out HZ3.out (i := a' - 1) (j := (rd ltR dk a' b' lim wb wp).pivot) (by omega) (by omega)
                      clear hz
                      rw [show ((a' - 1 : Nat) : Int) = (a' : Int) - 1 by omega] at hl
                      obtain ⟨lv, hlv⟩ : ∃ v, ltR (rd ltR dk a' b' lim wb wp).pi.1[a' - 1]! (rd ltR dk a' b' lim wb wp).pi.1[(rd ltR dk a' b' lim wb wp).pivot]! = v := ⟨_, rfl⟩
                      rw [hlv] at hl
                      have HL := Lib.hid hl
                      have HLV := Lib.hid hlv
                      clear hl hlv
                      go_wp2_with fail
                      refine HL.out.mono ?_
                      rintro e2 w5 ⟨rfl, hw5⟩
                      have HW := Lib.hid hw5
                      clear hw5
                      cases lv <;>
                        (go_wp2_with fail
                         go_meet
                         exact ⟨by simp [ha0, HLV.out], HW⟩)
                  case rest =>
                    obtain ⟨rfl, hAt6⟩ := hcut
                    have CS6 := Lib.hid (HB.out.cs.on hAt6.out HZ3.out)
                    have q0 := HB.out.cell0 hAt6.out
                    have q1 := HB.out.cell1 hAt6.out
                    cases h87 : (decide (a' > 0) && !ltR (rd ltR dk a' b' lim wb wp).pi.1[a' - 1]! (rd ltR dk a' b' lim wb wp).pi.1[(rd ltR dk a' b' lim wb wp).pivot]!)
                    · obtain ⟨mid, ap, d4, hx⟩ : ∃ mid ap d4, partition ltR (rd ltR dk a' b' lim wb wp).pi.1 a' b' (rd ltR dk a' b' lim wb wp).pivot = (mid, ap, d4) := ⟨(partition ltR (rd ltR dk a' b' lim wb wp).pi.1 a' b' (rd ltR dk a' b' lim wb wp).pivot).1, (partition ltR (rd ltR dk a' b' lim wb wp).pi.1 a' b' (rd ltR dk a' b' lim wb wp).pivot).2.1, (partition ltR (rd ltR dk a' b' lim wb wp).pi.1 a' b' (rd ltR dk a' b' lim wb wp).pivot).2.2, rfl⟩
                      have hz := HZ3.out
                      obtain ⟨r1, r2, r3, r4, r5, r6, r7⟩ := round_part swo_ltR (partition_holds ltR) hpv.1 hpv.2 (show b' ≤ (rd ltR dk a' b' lim wb wp).pi.1.size by omega) B3.out hx
                      have hc22 := part_any CS6.out a' b' (rd ltR dk a' b' lim wb wp).pivot hpv.1 hpv.2 (by omega)
                      clear hz
                      rw [hx] at hc22
                      unfold boxV at hc22
                      have HC := Lib.hid hc22
                      have X := Lib.hid hx
                      have R3 := Lib.hid r3
                      have R4 := Lib.hid (And.intro r4 (And.intro r5 (And.intro r6 r7)))
                      have H87 := Lib.hid h87
                      clear hx hc22 r3 r4 r5 r6 r7
                      go_upto_if 109 with (go_at_call 70; refine HC.out.mono ?_; rintro e2 w7 ⟨rfl, hw7⟩)
                      have hAt7 := Lib.hid (hAt6.out.trans hw7 R3.out)
                      have hs4 : Hid (d4.size = d.size) := Lib.hid (R3.out.trans HZ3.out)
                      have CS7 := Lib.hid (HB.out.cs.on hAt7.out hs4.out)
                      clear hw7 q0 q1 HC
                      have p0 := HB.out.cell0 hAt7.out
                      have p1 := HB.out.cell1 hAt7.out
                      by_cases h4 : mid - a' < b' - mid
                      · have h4z : (mid : Int) - (a' : Int) < (b' : Int) - (mid : Int) := by omega
                        have hz := hs4.out
                        have hih := IH.out a' mid (rd ltR dk a' b' lim wb wp).lim d4 w7 (by omega) CS7.out (by omega) (by omega) (Nat.lt_of_le_of_lt (Nat.le_trans rd_lim_le hlim) hlimit) R4.out.1
                        obtain ⟨pL, sL⟩ := pdq_sorts ltR swo_ltR d4 a' mid (rd ltR dk a' b' lim wb wp).lim true true (by omega) (by omega) R4.out.1
                        clear hz
                        unfold boxV at hih
                        have HI := Lib.hid hih
                        have HP := Lib.hid (And.intro pL sL)
                        clear hih pL sL
                        go_wp2_with (go_at_call 51; refine HI.out.mono ?_; rintro e2 w8 ⟨rfl, hw8⟩)
                        go_roundg (b' - (mid + 1))
                        case measure => omega
                        case rel =>
                          obtain ⟨pL, sL⟩ := HP.out
                          refine ⟨mid + 1, b', (rd ltR dk a' b' lim wb wp).lim, decide (mid - a' ≥ (b' - a') / 8), ap, pdq ltR d4 a' mid (rd ltR dk a' b' lim wb wp).lim true true, by simp, rfl, rfl, ?_, rfl, by omega, by omega, Nat.le_refl _, by omega, Nat.le_trans rd_lim_le hlim, by rw [pL.1, hs4.out], Lib.hid (R4.out.2.2.1 _ pL sL).1, Lib.hid (hAt7.out.trans hw8 pL.1), Lib.hid ?_⟩
                          · exact congrArg Value.bool (eighth (by omega) (by omega))
                          · rw [← A.out, pdq_left h12 hl0 hp2.out H87.out (by rw [X.out]; exact ⟨r1, r2⟩) (by rw [X.out]; exact h4), X.out]
                      · have h4z : ¬ ((mid : Int) - (a' : Int) < (b' : Int) - (mid : Int)) := by omega
                        have hz := hs4.out
                        have hih := IH.out (mid + 1) b' (rd ltR dk a' b' lim wb wp).lim d4 w7 (by omega) CS7.out (by omega) (by omega) (Nat.lt_of_le_of_lt (Nat.le_trans rd_lim_le hlim) hlimit) R4.out.2.1
                        rw [show ((mid + 1 : Nat) : Int) = (mid : Int) + 1 by omega] at hih
                        obtain ⟨pL, sL⟩ := pdq_sorts ltR swo_ltR d4 (mid + 1) b' (rd ltR dk a' b' lim wb wp).lim true true (by omega) (by omega) R4.out.2.1
                        clear hz
                        have HI := Lib.hid hih
                        have HP := Lib.hid (And.intro pL sL)
                        clear hih pL sL
                        go_wp2_with (go_at_call 51; refine HI.out.mono ?_; rintro e2 w8 ⟨rfl, hw8⟩)
                        go_roundg (mid - a')
                        case measure => omega
                        case rel =>
                          obtain ⟨pL, sL⟩ := HP.out
                          refine ⟨a', mid, (rd ltR dk a' b' lim wb wp).lim, decide (b' - mid ≥ (b' - a') / 8), ap, pdq ltR d4 (mid + 1) b' (rd ltR dk a' b' lim wb wp).lim true true, rfl, rfl, rfl, ?_, rfl, by omega, by omega, Nat.le_refl _, by omega, Nat.le_trans rd_lim_le hlim, by rw [pL.1, hs4.out], Lib.hid (R4.out.2.2.2 _ pL sL).1, Lib.hid (hAt7.out.trans hw8 pL.1), Lib.hid ?_⟩
                          · exact congrArg Value.bool (eighth (by omega) (by omega))
                          · rw [← A.out, pdq_right h12 hl0 hp2.out H87.out (by rw [X.out]; exact ⟨r1, r2⟩) (by rw [X.out]; exact h4), X.out]
                    · have h87' := h87
                      simp only [Bool.and_eq_true, decide_eq_true_eq, Bool.not_eq_true'] at h87'
                      obtain ⟨mid, d4, hx⟩ : ∃ mid d4, partitionEqual ltR (rd ltR dk a' b' lim wb wp).pi.1 a' b' (rd ltR dk a' b' lim wb wp).pivot = (mid, d4) := ⟨(partitionEqual ltR (rd ltR dk a' b' lim wb wp).pi.1 a' b' (rd ltR dk a' b' lim wb wp).pivot).1, (partitionEqual ltR (rd ltR dk a' b' lim wb wp).pi.1 a' b' (rd ltR dk a' b' lim wb wp).pivot).2, rfl⟩
                      have hz := HZ3.out
                      obtain ⟨r1, r2, r3, r4, _⟩ := round_eq swo_ltR (partitionEqual_holds ltR) h87'.1 hpv.1 hpv.2 (show b' ≤ (rd ltR dk a' b' lim wb wp).pi.1.size by omega) B3.out h87'.2 hx
                      have hc21 := partEq_any CS6.out a' b' (rd ltR dk a' b' lim wb wp).pivot hpv.1 hpv.2 (by omega)
                      clear hz
                      rw [hx] at hc21
                      unfold boxV at hc21
                      have HC := Lib.hid hc21
                      have X := Lib.hid hx
                      have R3 := Lib.hid r3
                      have R4 := Lib.hid r4
                      have H87 := Lib.hid h87
                      clear hx hc21 r3 r4 h87'
                      go_wp2_with (go_at_call 69; refine HC.out.mono ?_; rintro e2 w7 ⟨rfl, hw7⟩)
                      go_roundg (b' - mid)
                      case measure => omega
                      case rel =>
                        exact ⟨mid, b', (rd ltR dk a' b' lim wb wp).lim, wb, wp, d4, rfl, rfl, rfl, rfl, rfl, r2, hb', Nat.le_refl _, by omega, Nat.le_trans rd_lim_le hlim, by rw [R3.out]; exact HZ3.out, R4, Lib.hid (hAt6.out.trans hw7 R3.out), Lib.hid (by rw [← A.out, pdq_eq h12 hl0 hp2.out H87.out (by rw [X.out]; exact ⟨r1, r2⟩), X.out])⟩
end
end Go.Proofs.Ytfielodchoghlaa
