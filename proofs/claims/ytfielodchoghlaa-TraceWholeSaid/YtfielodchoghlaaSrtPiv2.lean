/- The pivot that the sort of a row of runs chooses: the whole choice. -/
import Derived.Test.YtfielodchoghlaaRows
import Derived.Test.YtfielodchoghlaaSrtPiv
namespace Go.Proofs.Ytfielodchoghlaa
open Go.RowKit Go.Lib
set_option maxRecDepth 100000
set_option linter.unusedVariables false
set_option linter.unusedSimpArgs false
def hintN : Sort.Hint → Int
  | .unknown => 0
  | .increasing => 1
  | .decreasing => 2
section
variable {g : Nat} {lb : Array Value} {sf : Nat} {sb : Array Value} {b : Nat} {d : Array Rn} {W : World}
set_option maxHeartbeats 2000000 in
theorem pivot_any (h : CS g lb sf sb b d W) (a e : Nat) (hae : a < e) (he : e ≤ d.size) :
    Calls Try.prog 66 #[boxV g lb sf sb, .int .i64 a, .int .i64 e] W fun x W' =>
      x = .returned (.tuple #[.int .i64 ((Sort.choosePivot ltR d a e).1 : Int), .int .i64 (hintN (Sort.choosePivot ltR d a e).2)]) ∧ SQ W b d W' := by
  have HB := Lib.hid (Bx.new h 82)
  have hsz := h.sz
  obtain ⟨n, hn⟩ : ∃ n : Nat, e - a = n := ⟨_, rfl⟩
  have hw2 : (e : Int) - (a : Int) = (n : Int) := by omega
  have hq : (n : Int).tdiv 4 = ((n / 4 : Nat) : Int) := by rw [Int.tdiv_eq_ediv_of_nonneg (by omega)]; omega
  obtain ⟨m, hm⟩ : ∃ m : Nat, n / 4 = m := ⟨_, rfl⟩
  have hm4 : 4 * m ≤ n := by omega
  have hm5 : n < 4 * m + 4 := by omega
  have hne : a + n ≤ d.size := by omega
  have hn0 : 0 < n := by omega
  rw [hm] at hq
  unfold boxV
  unfold Sort.choosePivot
  dsimp only
  rw [hn, hm]
  have HN := Lib.hid hn
  clear hn hm
  obtain ⟨i, hi⟩ : ∃ i : Nat, a + m * 1 = i := ⟨_, rfl⟩
  obtain ⟨j, hj⟩ : ∃ i : Nat, a + m * 2 = i := ⟨_, rfl⟩
  obtain ⟨k, hk⟩ : ∃ i : Nat, a + m * 3 = i := ⟨_, rfl⟩
  rw [hi, hj, hk]
  have hi' : (a : Int) + (m : Int) = (i : Int) := by omega
  have hj' : (a : Int) + (m : Int) * 2 = (j : Int) := by omega
  have hk' : (a : Int) + (m : Int) * 3 = (k : Int) := by omega
  have HI := Lib.hid (And.intro hi (And.intro hj (And.intro hk (And.intro hm4 (And.intro hm5 (And.intro hne hae))))))
  clear hi hj hk
  by_cases h8 : 8 ≤ n
  · rw [if_pos h8]
    have t8 : decide (8 ≤ n) = true := by simpa using h8
    have t8' : decide ((8 : Int) ≤ (n : Int)) = true := by rw [decide_eq_true_eq]; omega
    by_cases h50 : 50 ≤ n
    · rw [if_pos h50]
      have t50 : decide (50 ≤ n) = true := by simpa using h50
      have t50' : decide ((50 : Int) ≤ (n : Int)) = true := by rw [decide_eq_true_eq]; omega
      obtain ⟨⟨i2, s1⟩, hr⟩ : ∃ r, Sort.medianAdjacent ltR d i 0 = r := ⟨_, rfl⟩
      rw [hr]
      dsimp only
      have HR3 := Lib.hid hr
      clear hr
      obtain ⟨⟨j2, s2⟩, hr⟩ : ∃ r, Sort.medianAdjacent ltR d j s1 = r := ⟨_, rfl⟩
      rw [hr]
      dsimp only
      have HR4 := Lib.hid hr
      clear hr
      obtain ⟨⟨k2, s3⟩, hr⟩ : ∃ r, Sort.medianAdjacent ltR d k s2 = r := ⟨_, rfl⟩
      rw [hr]
      dsimp only
      have HR5 := Lib.hid hr
      clear hr
      obtain ⟨⟨p, s⟩, hr⟩ : ∃ r, Sort.median ltR d i2 j2 k2 s3 = r := ⟨_, rfl⟩
      rw [hr]
      dsimp only
      have HR6 := Lib.hid hr
      clear hr
      have m3 := median_mem (d := d) (i - 1) i (i + 1) 0
      rw [show Sort.median ltR d (i - 1) i (i + 1) 0 = Sort.medianAdjacent ltR d i 0 from rfl, HR3.out] at m3
      dsimp only at m3
      have m4 := median_mem (d := d) (j - 1) j (j + 1) s1
      rw [show Sort.median ltR d (j - 1) j (j + 1) s1 = Sort.medianAdjacent ltR d j s1 from rfl, HR4.out] at m4
      dsimp only at m4
      have m5 := median_mem (d := d) (k - 1) k (k + 1) s2
      rw [show Sort.median ltR d (k - 1) k (k + 1) s2 = Sort.medianAdjacent ltR d k s2 from rfl, HR5.out] at m5
      dsimp only at m5
      have m6 := median_mem (d := d) i2 j2 k2 s3
      rw [HR6.out] at m6
      dsimp only at m6
      have M := Lib.hid (And.intro m3 (And.intro m4 (And.intro m5 m6)))
      clear m3 m4 m5 m6
      go_enter Try.func66, Try.ntmps66
      go_upto_region 1 with fail
      obtain ⟨B, hB⟩ : ∃ B, W.heap.size = B := ⟨_, rfl⟩
      obtain ⟨w1, hw1⟩ : ∃ y, W.alloc (.cells #[.func (.func g) #[] lb, .func (.func sf) #[] sb] 82) = y := ⟨_, rfl⟩
      rw [hw1, hB] at HB
      try rw [hw1]
      try rw [hB]
      clear hw1 hB h
      have p0 : Pv w1 b d w1.heap.size 0 (w1.alloc (.cells #[.int .i64 0] 3)) := ⟨HB.out.cs.start.below ((Below.refl _ _).alloc (Nat.le_refl _) _), by show w1.heap.size < (w1.heap.push _).size; simp, Nat.le_refl _, by simp, by simp⟩
      have k0 : Keep w1.heap.size w1 (w1.alloc (.cells #[.int .i64 0] 3)) := Keep.below ((Below.refl _ _).alloc (Nat.le_refl _) _)
      have hBC := HB.out.lt
      go_upto_region 3 with fail
      obtain ⟨C, hC⟩ : ∃ C, w1.heap.size = C := ⟨_, rfl⟩
      obtain ⟨w2, hw2'⟩ : ∃ y, w1.alloc (.cells #[.int .i64 0] 3) = y := ⟨_, rfl⟩
      rw [hw2', hC] at p0 k0
      rw [hC] at hBC
      try rw [hw2']
      try rw [hC]
      have HC := Lib.hid hC
      clear hw2' hC
      have HP := Lib.hid p0
      have HK := Lib.hid k0
      have c0 := (k0.cell ⟨B, 0, none⟩ HB.out.lt (by show B ≠ C; omega)).trans HB.out.c0
      have c1 := (k0.cell ⟨B, 1, none⟩ HB.out.lt (by show B ≠ C; omega)).trans HB.out.c1
      clear p0 k0
      have hc := medianAdj_any HB.out.cs HP.out i (by have := HI.out; have := M.out; omega) (by have := HI.out; have := M.out; omega) (by have := HI.out; have := M.out; omega)
      rw [HR3.out] at hc
      unfold boxV at hc
      dsimp only at hc
      have HM := Lib.hid hc
      clear hc
      go_wp2_with fail
      refine HM.out.mono ?_
      rintro x w3 ⟨rfl, hp, hk⟩
      have c0 := (hk.cell ⟨B, 0, none⟩ (Nat.lt_of_lt_of_le HB.out.lt HK.out.size) (by show B ≠ C; omega)).trans c0
      have c1 := (hk.cell ⟨B, 1, none⟩ (Nat.lt_of_lt_of_le HB.out.lt HK.out.size) (by show B ≠ C; omega)).trans c1
      have HP := Lib.hid hp
      have HK := Lib.hid (HK.out.trans hk)
      clear hp hk HM
      have hc := medianAdj_any HB.out.cs HP.out j (by have := HI.out; have := M.out; omega) (by have := HI.out; have := M.out; omega) (by have := HI.out; have := M.out; omega)
      rw [HR4.out] at hc
      unfold boxV at hc
      dsimp only at hc
      have HM := Lib.hid hc
      clear hc
      go_wp2_with fail
      refine HM.out.mono ?_
      rintro x w4 ⟨rfl, hp, hk⟩
      have c0 := (hk.cell ⟨B, 0, none⟩ (Nat.lt_of_lt_of_le HB.out.lt HK.out.size) (by show B ≠ C; omega)).trans c0
      have c1 := (hk.cell ⟨B, 1, none⟩ (Nat.lt_of_lt_of_le HB.out.lt HK.out.size) (by show B ≠ C; omega)).trans c1
      have HP := Lib.hid hp
      have HK := Lib.hid (HK.out.trans hk)
      clear hp hk HM
      have hc := medianAdj_any HB.out.cs HP.out k (by have := HI.out; have := M.out; omega) (by have := HI.out; have := M.out; omega) (by have := HI.out; have := M.out; omega)
      rw [HR5.out] at hc
      unfold boxV at hc
      dsimp only at hc
      have HM := Lib.hid hc
      clear hc
      go_wp2_with fail
      refine HM.out.mono ?_
      rintro x w5 ⟨rfl, hp, hk⟩
      have c0 := (hk.cell ⟨B, 0, none⟩ (Nat.lt_of_lt_of_le HB.out.lt HK.out.size) (by show B ≠ C; omega)).trans c0
      have c1 := (hk.cell ⟨B, 1, none⟩ (Nat.lt_of_lt_of_le HB.out.lt HK.out.size) (by show B ≠ C; omega)).trans c1
      have HP := Lib.hid hp
      have HK := Lib.hid (HK.out.trans hk)
      clear hp hk HM
      have hc := median_any HB.out.cs HP.out i2 j2 k2 (by have := HI.out; have := M.out; omega) (by have := HI.out; have := M.out; omega) (by have := HI.out; have := M.out; omega) (by have := HI.out; have := M.out; omega)
      rw [HR6.out] at hc
      unfold boxV at hc
      dsimp only at hc
      have HM := Lib.hid hc
      clear hc
      go_wp2_with fail
      refine HM.out.mono ?_
      rintro x w6 ⟨rfl, hp, hk⟩
      have c0 := (hk.cell ⟨B, 0, none⟩ (Nat.lt_of_lt_of_le HB.out.lt HK.out.size) (by show B ≠ C; omega)).trans c0
      have c1 := (hk.cell ⟨B, 1, none⟩ (Nat.lt_of_lt_of_le HB.out.lt HK.out.size) (by show B ≠ C; omega)).trans c1
      have HP := Lib.hid hp
      have HK := Lib.hid (HK.out.trans hk)
      clear hp hk HM
      have cc := HP.out.c
      have HX := Lib.hid (HB.out.up.trans HP.out.sq rfl)
      by_cases z0 : s = 0
      · have HZ := Lib.hid z0
        have tz : ((s : Int) == 0) = true := by rw [beq_iff_eq]; omega
        have tz2 : (s == 0) = true := by rw [beq_iff_eq]; omega
        clear z0
        go_wp2_with fail
        (try simp only [Exit.inBlock, Exit.then])
        exact bodyPost_ret (v := .tuple #[.int .i64 (p : Int), .int .i64 1]) (by simp [results, Try.results66, go_sem]) rfl ⟨rfl, HX.out⟩
      · have HZ := Lib.hid z0
        have tz : ((s : Int) == 0) = false := by rw [beq_eq_false_iff_ne]; omega
        have tz2 : (s == 0) = false := by rw [beq_eq_false_iff_ne]; omega
        clear z0
        by_cases z1 : s = 12
        · have HZ1 := Lib.hid z1
          have ty : ((s : Int) == 12) = true := by rw [beq_iff_eq]; omega
          have ty2 : (s == 12) = true := by rw [beq_iff_eq]; omega
          clear z1
          go_wp2_with fail
          (try simp only [Exit.inBlock, Exit.then])
          exact bodyPost_ret (v := .tuple #[.int .i64 (p : Int), .int .i64 2]) (by simp [results, Try.results66, go_sem]) rfl ⟨rfl, HX.out⟩
        · have HZ1 := Lib.hid z1
          have ty : ((s : Int) == 12) = false := by rw [beq_eq_false_iff_ne]; omega
          have ty2 : (s == 12) = false := by rw [beq_eq_false_iff_ne]; omega
          clear z1
          go_wp2_with fail
          (try simp only [Exit.inBlock, Exit.then])
          exact bodyPost_ret (v := .tuple #[.int .i64 (p : Int), .int .i64 0]) (by simp [results, Try.results66, go_sem]) rfl ⟨rfl, HX.out⟩
    · rw [if_neg h50]
      have t50 : decide (50 ≤ n) = false := by simpa using h50
      have t50' : decide ((50 : Int) ≤ (n : Int)) = false := by rw [decide_eq_false_iff_not]; omega
      obtain ⟨⟨p, s⟩, hr⟩ : ∃ r, Sort.median ltR d i j k 0 = r := ⟨_, rfl⟩
      rw [hr]
      dsimp only
      have HR6 := Lib.hid hr
      clear hr
      have m6 := median_mem (d := d) i j k 0
      rw [HR6.out] at m6
      dsimp only at m6
      have M := Lib.hid m6
      clear m6
      go_enter Try.func66, Try.ntmps66
      go_upto_region 1 with fail
      obtain ⟨B, hB⟩ : ∃ B, W.heap.size = B := ⟨_, rfl⟩
      obtain ⟨w1, hw1⟩ : ∃ y, W.alloc (.cells #[.func (.func g) #[] lb, .func (.func sf) #[] sb] 82) = y := ⟨_, rfl⟩
      rw [hw1, hB] at HB
      try rw [hw1]
      try rw [hB]
      clear hw1 hB h
      have p0 : Pv w1 b d w1.heap.size 0 (w1.alloc (.cells #[.int .i64 0] 3)) := ⟨HB.out.cs.start.below ((Below.refl _ _).alloc (Nat.le_refl _) _), by show w1.heap.size < (w1.heap.push _).size; simp, Nat.le_refl _, by simp, by simp⟩
      have k0 : Keep w1.heap.size w1 (w1.alloc (.cells #[.int .i64 0] 3)) := Keep.below ((Below.refl _ _).alloc (Nat.le_refl _) _)
      have hBC := HB.out.lt
      go_upto_region 3 with fail
      obtain ⟨C, hC⟩ : ∃ C, w1.heap.size = C := ⟨_, rfl⟩
      obtain ⟨w2, hw2'⟩ : ∃ y, w1.alloc (.cells #[.int .i64 0] 3) = y := ⟨_, rfl⟩
      rw [hw2', hC] at p0 k0
      rw [hC] at hBC
      try rw [hw2']
      try rw [hC]
      have HC := Lib.hid hC
      clear hw2' hC
      have HP := Lib.hid p0
      have HK := Lib.hid k0
      have c0 := (k0.cell ⟨B, 0, none⟩ HB.out.lt (by show B ≠ C; omega)).trans HB.out.c0
      have c1 := (k0.cell ⟨B, 1, none⟩ HB.out.lt (by show B ≠ C; omega)).trans HB.out.c1
      clear p0 k0
      have hc := median_any HB.out.cs HP.out i j k (by have := HI.out; have := M.out; omega) (by have := HI.out; have := M.out; omega) (by have := HI.out; have := M.out; omega) (by have := HI.out; have := M.out; omega)
      rw [HR6.out] at hc
      unfold boxV at hc
      dsimp only at hc
      have HM := Lib.hid hc
      clear hc
      go_wp2_with fail
      refine HM.out.mono ?_
      rintro x w6 ⟨rfl, hp, hk⟩
      have c0 := (hk.cell ⟨B, 0, none⟩ (Nat.lt_of_lt_of_le HB.out.lt HK.out.size) (by show B ≠ C; omega)).trans c0
      have c1 := (hk.cell ⟨B, 1, none⟩ (Nat.lt_of_lt_of_le HB.out.lt HK.out.size) (by show B ≠ C; omega)).trans c1
      have HP := Lib.hid hp
      have HK := Lib.hid (HK.out.trans hk)
      clear hp hk HM
      have cc := HP.out.c
      have HX := Lib.hid (HB.out.up.trans HP.out.sq rfl)
      by_cases z0 : s = 0
      · have HZ := Lib.hid z0
        have tz : ((s : Int) == 0) = true := by rw [beq_iff_eq]; omega
        have tz2 : (s == 0) = true := by rw [beq_iff_eq]; omega
        clear z0
        go_wp2_with fail
        (try simp only [Exit.inBlock, Exit.then])
        exact bodyPost_ret (v := .tuple #[.int .i64 (p : Int), .int .i64 1]) (by simp [results, Try.results66, go_sem]) rfl ⟨rfl, HX.out⟩
      · have HZ := Lib.hid z0
        have tz : ((s : Int) == 0) = false := by rw [beq_eq_false_iff_ne]; omega
        have tz2 : (s == 0) = false := by rw [beq_eq_false_iff_ne]; omega
        clear z0
        by_cases z1 : s = 12
        · have HZ1 := Lib.hid z1
          have ty : ((s : Int) == 12) = true := by rw [beq_iff_eq]; omega
          have ty2 : (s == 12) = true := by rw [beq_iff_eq]; omega
          clear z1
          go_wp2_with fail
          (try simp only [Exit.inBlock, Exit.then])
          exact bodyPost_ret (v := .tuple #[.int .i64 (p : Int), .int .i64 2]) (by simp [results, Try.results66, go_sem]) rfl ⟨rfl, HX.out⟩
        · have HZ1 := Lib.hid z1
          have ty : ((s : Int) == 12) = false := by rw [beq_eq_false_iff_ne]; omega
          have ty2 : (s == 12) = false := by rw [beq_eq_false_iff_ne]; omega
          clear z1
          go_wp2_with fail
          (try simp only [Exit.inBlock, Exit.then])
          exact bodyPost_ret (v := .tuple #[.int .i64 (p : Int), .int .i64 0]) (by simp [results, Try.results66, go_sem]) rfl ⟨rfl, HX.out⟩
  · rw [if_neg h8]
    have t8 : decide (8 ≤ n) = false := by simpa using h8
    have t8' : decide ((8 : Int) ≤ (n : Int)) = false := by rw [decide_eq_false_iff_not]; omega
    go_enter Try.func66, Try.ntmps66
    go_upto_region 1 with fail
    obtain ⟨B, hB⟩ : ∃ B, W.heap.size = B := ⟨_, rfl⟩
    obtain ⟨w1, hw1⟩ : ∃ y, W.alloc (.cells #[.func (.func g) #[] lb, .func (.func sf) #[] sb] 82) = y := ⟨_, rfl⟩
    rw [hw1, hB] at HB
    try rw [hw1]
    try rw [hB]
    clear hw1 hB h
    have p0 : Pv w1 b d w1.heap.size 0 (w1.alloc (.cells #[.int .i64 0] 3)) := ⟨HB.out.cs.start.below ((Below.refl _ _).alloc (Nat.le_refl _) _), by show w1.heap.size < (w1.heap.push _).size; simp, Nat.le_refl _, by simp, by simp⟩
    have k0 : Keep w1.heap.size w1 (w1.alloc (.cells #[.int .i64 0] 3)) := Keep.below ((Below.refl _ _).alloc (Nat.le_refl _) _)
    have hBC := HB.out.lt
    go_upto_region 3 with fail
    obtain ⟨C, hC⟩ : ∃ C, w1.heap.size = C := ⟨_, rfl⟩
    obtain ⟨w2, hw2'⟩ : ∃ y, w1.alloc (.cells #[.int .i64 0] 3) = y := ⟨_, rfl⟩
    rw [hw2', hC] at p0 k0
    rw [hC] at hBC
    try rw [hw2']
    try rw [hC]
    have HC := Lib.hid hC
    clear hw2' hC
    have HP := Lib.hid p0
    have HK := Lib.hid k0
    have c0 := (k0.cell ⟨B, 0, none⟩ HB.out.lt (by show B ≠ C; omega)).trans HB.out.c0
    have c1 := (k0.cell ⟨B, 1, none⟩ HB.out.lt (by show B ≠ C; omega)).trans HB.out.c1
    clear p0 k0
    have HX := Lib.hid (HB.out.up.trans HP.out.sq rfl)
    have cc := HP.out.c
    go_wp2_with fail
    (try simp only [Exit.inBlock, Exit.then])
    exact bodyPost_ret (v := .tuple #[.int .i64 (j : Int), .int .i64 1]) (by simp [results, Try.results66, go_sem]) rfl ⟨by rfl, HX.out⟩
end
end Go.Proofs.Ytfielodchoghlaa
