/- Heap sort of a row of runs, by a comparison that lays blocks of its own: the whole. -/
import Derived.Test.YtfielodchoghlaaRows
import Derived.Test.YtfielodchoghlaaSrtHeap
namespace Go.Proofs.Ytfielodchoghlaa
open Go.RowKit Go.Lib
set_option maxRecDepth 100000
set_option linter.unusedVariables false
set_option linter.unusedSimpArgs false
section
variable {g : Nat} {lb : Array Value} {sf : Nat} {sb : Array Value} {b : Nat} {d : Array Rn} {w : World}
theorem size_sift (hi F r : Nat) (d : Array Rn) : (Sort.siftDown ltR hi F r d).size = d.size := Sort.size_siftDown ltR hi F (hi - r) r d (Nat.le_refl _)
set_option maxHeartbeats 2000000 in
theorem heap_any (h : CS g lb sf sb b d w) (a e : Nat) (hae : a ≤ e) (he : e ≤ d.size) :
    Calls Try.prog 64 #[boxV g lb sf sb, .int .i64 a, .int .i64 e] w fun x w' => x = .returned (.tuple #[]) ∧ SQ w b (Sort.heapSort ltR d a e) w' := by
  have HB := Lib.hid (Bx.new h 82)
  have eg := h.eg
  have hsz := h.sz
  unfold boxV
  clear h
  go_enter Try.func64, Try.ntmps64
  go_upto_region 1 with fail
  obtain ⟨B, hB⟩ : ∃ B, w.heap.size = B := ⟨_, rfl⟩
  obtain ⟨w1, hw1⟩ : ∃ y, w.alloc (.cells #[.func (.func g) #[] lb, .func (.func sf) #[] sb] 82) = y := ⟨_, rfl⟩
  rw [hw1, hB] at HB
  rw [hw1]
  try rw [hB]
  clear hw1 hB
  obtain ⟨n, hn⟩ : ∃ n : Nat, e = a + n := ⟨e - a, by omega⟩
  have HN := Lib.hid hn
  have hq : (n : Int) - 1 < 4611686018427387904 := by omega
  have hstart : ((n : Int) - 1).tdiv 2 = (((n - 1) / 2 + 1 : Nat) : Int) - 1 := by
    have := half_start (a := 0) (b := n) (by omega)
    simpa using this
  have hbig : ((n - 1) / 2 + 1 : Nat) ≤ n + 1 := by omega
  have hw2 : (e : Int) - (a : Int) = (n : Int) := by omega
  clear hn
  go_upto_region 4 with fail
  clear hw2
  go_wp2_with fail
  go_loopw [9] (fun vi wr => ∃ (k : Nat) (dk : Array Rn), vi = .int .i64 ((k : Int) - 1) ∧ k ≤ (n - 1) / 2 + 1 ∧ dk.size = d.size ∧ Hid (SQ w1 b dk wr) ∧ Hid (Sort.heapBuild ltR n a k dk = Sort.heapBuild ltR n a ((n - 1) / 2 + 1) d)) (fun vi _ => (RowKit.intOf vi + 1).toNat)
  case atStart => exact ⟨(n - 1) / 2 + 1, d, by congr 1; omega, Nat.le_refl _, rfl, Lib.hid HB.out.cs.start, Lib.hid rfl⟩
  case round =>
    clear hstart
    obtain ⟨k, dk, rfl, hk, hsk, HQ, HO⟩ := hrel
    cases k with
    | zero =>
      rw [show ((0 : Nat) : Int) - 1 = -1 from rfl]
      go_wp2_with fail
      have e1 : dk = Sort.heapBuild ltR n a ((n - 1) / 2 + 1) d := by rw [← HO.out]; rfl
      have E1 := Lib.hid e1
      clear e1 HO
      go_loopw [10] (fun vi wx => ∃ (k : Nat) (dx : Array Rn), vi = .int .i64 ((k : Int) - 1) ∧ k ≤ n ∧ dx.size = d.size ∧ Hid (SQ w1 b dx wx) ∧ Hid (Sort.heapPop ltR a k dx = Sort.heapPop ltR a n dk)) (fun vi _ => (RowKit.intOf vi + 1).toNat)
      case atStart => exact ⟨n, dk, rfl, Nat.le_refl _, hsk, HQ, Lib.hid rfl⟩
      case round =>
        clear HQ
        obtain ⟨k, dx, rfl, hk2, hsx, HQ, HO⟩ := hrel
        cases k with
        | zero =>
          rw [show ((0 : Nat) : Int) - 1 = -1 from rfl]
          go_wp2_with fail
          go_end0
          have e2 : dx = Sort.heapSort ltR d a e := by
            unfold Sort.heapSort
            rw [show e - a = n from by have := HN.out; omega, ← E1.out, ← HO.out]
            rfl
          exact ⟨rfl, HB.out.up.trans (by rw [← e2]; exact HQ.out) (by rw [← e2]; exact hsx)⟩
        | succ k =>
          rw [show ((k + 1 : Nat) : Int) - 1 = (k : Int) by omega]
          have c1 := HB.out.cell1 HQ.out
          obtain ⟨w4, hs4, hq4⟩ := HB.out.cs.swp HQ.out hsx (i := a) (j := a + k) (by have := HN.out; omega) (by have := HN.out; omega)
          rw [show (((a + k : Nat)) : Int) = (a : Int) + (k : Int) by omega] at hs4
          have HS := Lib.hid hs4
          have HQ4 := Lib.hid hq4
          clear hs4 hq4
          go_wp2_with fail
          rw [HS.out, Oper.upon_value]
          have c0 := HB.out.cell0 HQ4.out
          have c1 := HB.out.cell1 HQ4.out
          have hsw : (Sort.swp dx a (a + k)).size = d.size := by rw [Sort.size_swp]; exact hsx
          have hc := sift_any (HB.out.cs.on HQ4.out hsw) 0 k a (Nat.zero_le _) (by have := HN.out; omega)
          unfold boxV at hc
          have HC := Lib.hid hc
          clear hc
          go_wp2_with fail
          refine HC.out.mono ?_
          rintro x w5 ⟨rfl, hq5⟩
          have HQ5 := Lib.hid (HQ4.out.trans hq5 (size_sift _ _ _ _))
          clear hq5 HC c0 c1
          go_wp2_with fail
          go_roundw
          case rel =>
            refine ⟨k, _, rfl, by omega, (size_sift _ _ _ _).trans hsw, HQ5, Lib.hid ?_⟩
            rw [← HO.out]
            rfl
          case measure => simp [RowKit.intOf]
    | succ k =>
      rw [show ((k + 1 : Nat) : Int) - 1 = (k : Int) by omega]
      have c0 := HB.out.cell0 HQ.out
      have c1 := HB.out.cell1 HQ.out
      have hc := sift_any (HB.out.cs.on HQ.out hsk) k n a (by omega) (by have := HN.out; omega)
      unfold boxV at hc
      have HC := Lib.hid hc
      clear hc
      go_wp2_with fail
      refine HC.out.mono ?_
      rintro x w5 ⟨rfl, hq5⟩
      have HQ5 := Lib.hid (HQ.out.trans hq5 (size_sift _ _ _ _))
      clear hq5 HC c0 c1
      go_wp2_with fail
      go_roundw
      case rel =>
        refine ⟨k, _, rfl, by omega, (size_sift _ _ _ _).trans hsk, HQ5, Lib.hid ?_⟩
        rw [← HO.out]
        rfl
      case measure => simp [RowKit.intOf]
end
end Go.Proofs.Ytfielodchoghlaa
