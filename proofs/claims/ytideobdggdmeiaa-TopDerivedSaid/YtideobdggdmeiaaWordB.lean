/- Words out of bytes, and bytes out of words; the exclusive or of two lists. -/
import Derived.Test.YtideobdggdmeiaaRows
import Derived.Test.YtideobdggdmeiaaWord
namespace Go.Proofs.Ytideobdggdmeiaa
open Go.RowKit
set_option maxRecDepth 100000
set_option linter.unusedVariables false
set_option linter.unusedSimpArgs false
theorem within_any (ao : Option Addr) (len cap at' n : Nat) (h : at' < len) (hn : 0 < n) (hn8 : n ≤ 8) (hl : len ≤ 9223372036854775807) (w : World) : Calls Try.prog 56 #[.slice ao len cap, .int .i64 at', .int .i64 n] w fun e w' => e = .returned (.bool true) ∧ w = w' := by
  have hw : wrap64 (-(n : Int)) = -(n : Int) := by unfold wrap64; omega
  have h1 : -(n : Int) < (at' : Int) := by omega
  have h2 : (at' : Int) < (len : Int) := by omega
  go_enter Try.func56, Try.ntmps56
  go_wp2_with fail
  go_ret
  exact ⟨rfl, rfl⟩
/-- the highest byte first -/
def be (k : IntKind) (m : Int) (l : List UInt8) (at' : Nat) : Nat → Int
  | 0 => 0
  | i + 1 => bits .or k (be k m l at' i * 256 % m) ((l.getD (at' + i) 0).toNat : Int)
theorem wrapU64 (x : Int) : IntKind.u64.wrap x = x % 18446744073709551616 := by simp [IntKind.wrap, IntKind.bits, IntKind.signed]
set_option maxHeartbeats 1000000 in
theorem take32_any (u : Value) (l : List UInt8) (at' : Nat) (w : World) (hu : Bs w u l) (h : at' + 4 ≤ l.length) (hl : l.length ≤ 1000000) : Calls Try.prog 49 #[u, .int .i64 at'] w fun e w' => e = .returned (.int .u32 (be .u32 4294967296 l at' 4)) ∧ w = w' := by
  obtain ⟨ao, cap, rfl, h1, h2, _, hc⟩ := hu.form
  have HC := Lib.hid hc
  clear hu hc
  go_enter Try.func49, Try.ntmps49
  go_wp2_with fail
  refine (width32_any w).mono ?_
  rintro e w1 ⟨rfl, rfl⟩
  go_wp2_with fail
  refine (within_any ao l.length cap at' 4 (by omega) (by omega) (by omega) (by omega) w).mono ?_
  rintro e w1 ⟨rfl, rfl⟩
  go_wp2_with fail
  go_loop [5, 17] (fun x vi => ∃ i : Nat, i ≤ 4 ∧ vi = .int .i64 (i : Int) ∧ x = .int .u32 (be .u32 4294967296 l at' i)) (fun _ vi => 4 - (intOf vi).toNat)
  case atStart => exact ⟨0, by omega, rfl, rfl⟩
  case round =>
    obtain ⟨i, hi, rfl, rfl⟩ := hrel
    by_cases hlt : i < 4
    · obtain ⟨b, off, rfl, d⟩ := HC.out (at' + i) (by omega)
      obtain ⟨z, hz⟩ : ∃ z, be .u32 4294967296 l at' i = z := ⟨_, rfl⟩
      have e1 : be .u32 4294967296 l at' (i + 1) = bits .or .u32 (z * 256 % 4294967296) ((l.getD (at' + i) 0).toNat : Int) := by rw [be, hz]
      have HE := Lib.hid e1
      rw [hz]
      obtain ⟨y, hy⟩ : ∃ y, l.getD (at' + i) 0 = y := ⟨_, rfl⟩
      rw [hy] at d HE
      have hy8 := u8_hi y
      clear hz hy e1
      go_wp2
      go_round
      case rel => exact ⟨i + 1, by omega, by go_num, by rw [HE.out]⟩
      case measure => simp [intOf]; omega
    · obtain rfl : i = 4 := by omega
      go_wp2
      go_ret
      exact ⟨rfl, rfl⟩
set_option maxHeartbeats 1000000 in
theorem take64_any (u : Value) (l : List UInt8) (at' : Nat) (w : World) (hu : Bs w u l) (h : at' + 8 ≤ l.length) (hl : l.length ≤ 1000000) : Calls Try.prog 52 #[u, .int .i64 at'] w fun e w' => e = .returned (.int .u64 (be .u64 18446744073709551616 l at' 8)) ∧ w = w' := by
  obtain ⟨ao, cap, rfl, h1, h2, _, hc⟩ := hu.form
  have HC := Lib.hid hc
  clear hu hc
  go_enter Try.func52, Try.ntmps52
  go_wp2_with fail
  refine (width64_any w).mono ?_
  rintro e w1 ⟨rfl, rfl⟩
  go_wp2_with fail
  refine (within_any ao l.length cap at' 8 (by omega) (by omega) (by omega) (by omega) w).mono ?_
  rintro e w1 ⟨rfl, rfl⟩
  go_wp2_with fail
  go_loop [5, 17] (fun x vi => ∃ i : Nat, i ≤ 8 ∧ vi = .int .i64 (i : Int) ∧ x = .int .u64 (be .u64 18446744073709551616 l at' i)) (fun _ vi => 8 - (intOf vi).toNat)
  case atStart => exact ⟨0, by omega, rfl, rfl⟩
  case round =>
    obtain ⟨i, hi, rfl, rfl⟩ := hrel
    by_cases hlt : i < 8
    · obtain ⟨b, off, rfl, d⟩ := HC.out (at' + i) (by omega)
      obtain ⟨z, hz⟩ : ∃ z, be .u64 18446744073709551616 l at' i = z := ⟨_, rfl⟩
      have e1 : be .u64 18446744073709551616 l at' (i + 1) = bits .or .u64 (z * 256 % 18446744073709551616) ((l.getD (at' + i) 0).toNat : Int) := by rw [be, hz]
      have HE := Lib.hid e1
      rw [hz]
      obtain ⟨y, hy⟩ : ∃ y, l.getD (at' + i) 0 = y := ⟨_, rfl⟩
      rw [hy] at d HE
      have hy8 := u8_hi y
      clear hz hy e1
      go_wp2
      go_round
      case rel => exact ⟨i + 1, by omega, by go_num, by rw [HE.out, wrapU64]⟩
      case measure => simp [intOf]; omega
    · obtain rfl : i = 8 := by omega
      go_wp2
      go_ret
      exact ⟨rfl, rfl⟩
theorem mk48 {n : Nat} (h : n ≤ 140737488355328) {b : Nat} (hb : b = 1) : b * n ≤ 281474976710656 := by subst hb; omega
theorem mkmax {n : Nat} (h : n ≤ 140737488355328) : n ≤ maxLen := by unfold maxLen; omega
theorem made_zeroW (n : Nat) : (madeCells #[.int .u8 0] n).toList = (List.replicate n (0 : UInt8)).map B := by
  apply List.ext_getElem
  · simp [madeCells]
  · intro j h1 h2
    simp [madeCells, B, Nat.mod_one]
theorem made_bsW {w : World} {g n : Nat} (h : w.ownsRow 0 5 1 (.slice (some ⟨g, 0, none⟩) n n) n (madeCells #[.int .u8 0] n).toList) : OB w (.slice (some ⟨g, 0, none⟩) n n) (List.replicate n 0) := by
  unfold OB
  rw [made_zeroW] at h
  rw [List.length_replicate]
  exact h
/-- a byte of a word -/
def layB (x : Int) (k : Nat) : UInt8 := UInt8.ofNat ((x / 2 ^ k % 256).toNat)
theorem layB_eq (x : Int) (k : Nat) : ((layB x k).toNat : Int) = x / 2 ^ k % 256 := by
  unfold layB
  have h1 : 0 ≤ x / 2 ^ k % 256 := Int.emod_nonneg _ (by decide)
  have h2 : x / 2 ^ k % 256 < 256 := Int.emod_lt_of_pos _ (by decide)
  rw [u8_of _ (by omega)]
  omega
def layL (n : Nat) (x : Int) : List UInt8 := tab n fun i => layB x (8 * (n - 1 - i))
theorem layL_len (n : Nat) (x : Int) : (layL n x).length = n := tab_length _ _
def layTo (n : Nat) (x : Int) (k : Nat) : List UInt8 := tab n fun i => if i < k then layB x (8 * (n - 1 - i)) else 0
theorem layTo_zero (n : Nat) (x : Int) : layTo n x 0 = List.replicate n 0 := tab_zero n
theorem layTo_end (n : Nat) (x : Int) : layTo n x n = layL n x := tab_ext _ _ _ fun j hj => if_pos hj
theorem layTo_len (n : Nat) (x : Int) (k : Nat) : (layTo n x k).length = n := tab_length _ _
theorem layTo_succ (n : Nat) (x : Int) (k : Nat) : (layTo n x k).set k (layB x (8 * (n - 1 - k))) = layTo n x (k + 1) := by
  unfold layTo
  rw [tab_set]
  refine tab_ext _ _ _ fun j hj => ?_
  by_cases e : j = k
  · subst e
    rw [if_pos rfl, if_pos (by omega)]
  · rw [if_neg e]
    by_cases h : j < k
    · rw [if_pos h, if_pos (by omega)]
    · rw [if_neg h, if_neg (by omega)]
set_option maxHeartbeats 4000000 in
theorem lay32_any (x : Int) (w : World) : Calls Try.prog 25 #[.int .u32 x] w (NewBytes (layL 4 x) w) := by
  obtain ⟨i0, hi, hz0, hz1, hz2⟩ := info_parts info8
  go_enter Try.func25, Try.ntmps25
  go_wp2_with fail
  refine (width32_any w).mono ?_
  rintro e w1 ⟨rfl, rfl⟩
  go_wp2_with (refine wpList_make_full _ rfl _ _ 22 rfl 0 5 i0 _ 1 Try.underlying22 hi hz0 hz1 .i64 .i64 _ _ 4 rfl rfl rfl rfl (mk48 (by omega) hz2) (mkmax (by omega)) (Nat.zero_le _) ?_)
  intro w2 hown hgrow
  have HO0 : Hid (OB w2 (.slice (some ⟨w.heap.size, 0, none⟩) 4 4) (layTo 4 x 0)) := by rw [layTo_zero]; exact Lib.hid (made_bsW hown)
  have HG := Lib.hid ((Below.refl w.heap.size w).grown hgrow (Nat.le_refl _) (fun k hk => by cases hk))
  clear hown hgrow hi hz0 hz1 hz2
  go_wp2_with fail
  go_loopw [12] (fun vi wr => ∃ i : Nat, i ≤ 4 ∧ vi = .int .i64 (i : Int) ∧ Hid (OB wr (.slice (some ⟨w.heap.size, 0, none⟩) 4 4) (layTo 4 x i)) ∧ Hid (Below w.heap.size w wr)) (fun vi _ => 4 - (intOf vi).toNat)
  case atStart => exact ⟨0, by omega, rfl, HO0, HG⟩
  case round =>
    clear HO0 HG
    obtain ⟨i, hi, rfl, HO, HB⟩ := hrel
    by_cases hlt : i < 4
    · have c1 : wr.cell? ⟨w.heap.size, i, none⟩ = some (.int .u8 (((layTo 4 x i).getD i 0).toNat : Int)) := by
        rw [World.ownsRow.cellAt HO.out i (by omega), List.getElem?_map, List.getD_eq_getElem?_getD, List.getElem?_eq_getElem (by rw [layTo_len]; omega)]
        rfl
      have f1 := World.ownsRow.frozenAt HO.out i
      generalize ((layTo 4 x i).getD i 0) = z at c1
      have hq : i = 0 ∨ i = 1 ∨ i = 2 ∨ i = 3 := by omega
      rcases hq with hq | hq | hq | hq
      · subst hq
        have hb : x / 16777216 % 256 = ((layB x 24).toNat : Int) := (layB_eq x 24).symm
        have hz : x % 256 = ((layB x 0).toNat : Int) := by have := (layB_eq x 0).symm; simpa using this
        have HO2 : Hid (OB (wr.setCell ⟨w.heap.size, 0, none⟩ (.int .u8 ((layB x 24).toNat : Int))) (.slice (some ⟨w.heap.size, 0, none⟩) 4 4) (layTo 4 x 1)) := by
          have h1 := HO.out
          have h2 := OB.set (l := layTo 4 x 0) (g := w.heap.size) (cap := 4) h1 0 (layB x 24)
          rw [show (layTo 4 x 0).set 0 (layB x 24) = layTo 4 x 1 from layTo_succ 4 x 0] at h2
          exact Lib.hid h2
        have HB2 : Hid (Below w.heap.size w (wr.setCell ⟨w.heap.size, 0, none⟩ (.int .u8 ((layB x 24).toNat : Int)))) := Lib.hid (Below.setCell HB.out (Nat.le_refl _) _)
        go_wp2
        go_roundw
        case rel => exact ⟨1, by omega, rfl, HO2, HB2⟩
        case measure => simp [intOf]
      · subst hq
        have hb : x / 65536 % 256 = ((layB x 16).toNat : Int) := (layB_eq x 16).symm
        have hz : x % 256 = ((layB x 0).toNat : Int) := by have := (layB_eq x 0).symm; simpa using this
        have HO2 : Hid (OB (wr.setCell ⟨w.heap.size, 1, none⟩ (.int .u8 ((layB x 16).toNat : Int))) (.slice (some ⟨w.heap.size, 0, none⟩) 4 4) (layTo 4 x 2)) := by
          have h1 := HO.out
          have h2 := OB.set (l := layTo 4 x 1) (g := w.heap.size) (cap := 4) h1 1 (layB x 16)
          rw [show (layTo 4 x 1).set 1 (layB x 16) = layTo 4 x 2 from layTo_succ 4 x 1] at h2
          exact Lib.hid h2
        have HB2 : Hid (Below w.heap.size w (wr.setCell ⟨w.heap.size, 1, none⟩ (.int .u8 ((layB x 16).toNat : Int)))) := Lib.hid (Below.setCell HB.out (Nat.le_refl _) _)
        go_wp2
        go_roundw
        case rel => exact ⟨2, by omega, rfl, HO2, HB2⟩
        case measure => simp [intOf]
      · subst hq
        have hb : x / 256 % 256 = ((layB x 8).toNat : Int) := (layB_eq x 8).symm
        have hz : x % 256 = ((layB x 0).toNat : Int) := by have := (layB_eq x 0).symm; simpa using this
        have HO2 : Hid (OB (wr.setCell ⟨w.heap.size, 2, none⟩ (.int .u8 ((layB x 8).toNat : Int))) (.slice (some ⟨w.heap.size, 0, none⟩) 4 4) (layTo 4 x 3)) := by
          have h1 := HO.out
          have h2 := OB.set (l := layTo 4 x 2) (g := w.heap.size) (cap := 4) h1 2 (layB x 8)
          rw [show (layTo 4 x 2).set 2 (layB x 8) = layTo 4 x 3 from layTo_succ 4 x 2] at h2
          exact Lib.hid h2
        have HB2 : Hid (Below w.heap.size w (wr.setCell ⟨w.heap.size, 2, none⟩ (.int .u8 ((layB x 8).toNat : Int)))) := Lib.hid (Below.setCell HB.out (Nat.le_refl _) _)
        go_wp2
        go_roundw
        case rel => exact ⟨3, by omega, rfl, HO2, HB2⟩
        case measure => simp [intOf]
      · subst hq
        have hb : x / 1 % 256 = ((layB x 0).toNat : Int) := (layB_eq x 0).symm
        have hz : x % 256 = ((layB x 0).toNat : Int) := by have := (layB_eq x 0).symm; simpa using this
        have HO2 : Hid (OB (wr.setCell ⟨w.heap.size, 3, none⟩ (.int .u8 ((layB x 0).toNat : Int))) (.slice (some ⟨w.heap.size, 0, none⟩) 4 4) (layTo 4 x 4)) := by
          have h1 := HO.out
          have h2 := OB.set (l := layTo 4 x 3) (g := w.heap.size) (cap := 4) h1 3 (layB x 0)
          rw [show (layTo 4 x 3).set 3 (layB x 0) = layTo 4 x 4 from layTo_succ 4 x 3] at h2
          exact Lib.hid h2
        have HB2 : Hid (Below w.heap.size w (wr.setCell ⟨w.heap.size, 3, none⟩ (.int .u8 ((layB x 0).toNat : Int)))) := Lib.hid (Below.setCell HB.out (Nat.le_refl _) _)
        go_wp2
        go_roundw
        case rel => exact ⟨4, by omega, rfl, HO2, HB2⟩
        case measure => simp [intOf]
    · obtain rfl : i = 4 := by omega
      have HN : Hid (NewBytes (layL 4 x) w (.returned (.slice (some ⟨w.heap.size, 0, none⟩) 4 4)) wr) := by
        have h1 := HO.out
        rw [layTo_end] at h1
        refine Lib.hid ⟨_, rfl, h1, HB.out, fun y hy => ?_⟩
        have : w.heap.size = y := by simpa [fpv, Value.ownBlock] using hy
        omega
      go_wp2
      go_ret
      exact HN.out
set_option maxHeartbeats 4000000 in
theorem lay64_any (x : Int) (w : World) : Calls Try.prog 43 #[.int .u64 x] w (NewBytes (layL 8 x) w) := by
  obtain ⟨i0, hi, hz0, hz1, hz2⟩ := info_parts info8
  go_enter Try.func43, Try.ntmps43
  go_wp2_with fail
  refine (width64_any w).mono ?_
  rintro e w1 ⟨rfl, rfl⟩
  go_wp2_with (refine wpList_make_full _ rfl _ _ 22 rfl 0 5 i0 _ 1 Try.underlying22 hi hz0 hz1 .i64 .i64 _ _ 8 rfl rfl rfl rfl (mk48 (by omega) hz2) (mkmax (by omega)) (Nat.zero_le _) ?_)
  intro w2 hown hgrow
  have HO0 : Hid (OB w2 (.slice (some ⟨w.heap.size, 0, none⟩) 8 8) (layTo 8 x 0)) := by rw [layTo_zero]; exact Lib.hid (made_bsW hown)
  have HG := Lib.hid ((Below.refl w.heap.size w).grown hgrow (Nat.le_refl _) (fun k hk => by cases hk))
  clear hown hgrow hi hz0 hz1 hz2
  go_wp2_with fail
  go_loopw [12] (fun vi wr => ∃ i : Nat, i ≤ 8 ∧ vi = .int .i64 (i : Int) ∧ Hid (OB wr (.slice (some ⟨w.heap.size, 0, none⟩) 8 8) (layTo 8 x i)) ∧ Hid (Below w.heap.size w wr)) (fun vi _ => 8 - (intOf vi).toNat)
  case atStart => exact ⟨0, by omega, rfl, HO0, HG⟩
  case round =>
    clear HO0 HG
    obtain ⟨i, hi, rfl, HO, HB⟩ := hrel
    by_cases hlt : i < 8
    · have c1 : wr.cell? ⟨w.heap.size, i, none⟩ = some (.int .u8 (((layTo 8 x i).getD i 0).toNat : Int)) := by
        rw [World.ownsRow.cellAt HO.out i (by omega), List.getElem?_map, List.getD_eq_getElem?_getD, List.getElem?_eq_getElem (by rw [layTo_len]; omega)]
        rfl
      have f1 := World.ownsRow.frozenAt HO.out i
      generalize ((layTo 8 x i).getD i 0) = z at c1
      have hq : i = 0 ∨ i = 1 ∨ i = 2 ∨ i = 3 ∨ i = 4 ∨ i = 5 ∨ i = 6 ∨ i = 7 := by omega
      rcases hq with hq | hq | hq | hq | hq | hq | hq | hq
      · subst hq
        have hb : x / 72057594037927936 % 256 = ((layB x 56).toNat : Int) := (layB_eq x 56).symm
        have hz : x % 256 = ((layB x 0).toNat : Int) := by have := (layB_eq x 0).symm; simpa using this
        have HO2 : Hid (OB (wr.setCell ⟨w.heap.size, 0, none⟩ (.int .u8 ((layB x 56).toNat : Int))) (.slice (some ⟨w.heap.size, 0, none⟩) 8 8) (layTo 8 x 1)) := by
          have h1 := HO.out
          have h2 := OB.set (l := layTo 8 x 0) (g := w.heap.size) (cap := 8) h1 0 (layB x 56)
          rw [show (layTo 8 x 0).set 0 (layB x 56) = layTo 8 x 1 from layTo_succ 8 x 0] at h2
          exact Lib.hid h2
        have HB2 : Hid (Below w.heap.size w (wr.setCell ⟨w.heap.size, 0, none⟩ (.int .u8 ((layB x 56).toNat : Int)))) := Lib.hid (Below.setCell HB.out (Nat.le_refl _) _)
        go_wp2
        go_roundw
        case rel => exact ⟨1, by omega, rfl, HO2, HB2⟩
        case measure => simp [intOf]
      · subst hq
        have hb : x / 281474976710656 % 256 = ((layB x 48).toNat : Int) := (layB_eq x 48).symm
        have hz : x % 256 = ((layB x 0).toNat : Int) := by have := (layB_eq x 0).symm; simpa using this
        have HO2 : Hid (OB (wr.setCell ⟨w.heap.size, 1, none⟩ (.int .u8 ((layB x 48).toNat : Int))) (.slice (some ⟨w.heap.size, 0, none⟩) 8 8) (layTo 8 x 2)) := by
          have h1 := HO.out
          have h2 := OB.set (l := layTo 8 x 1) (g := w.heap.size) (cap := 8) h1 1 (layB x 48)
          rw [show (layTo 8 x 1).set 1 (layB x 48) = layTo 8 x 2 from layTo_succ 8 x 1] at h2
          exact Lib.hid h2
        have HB2 : Hid (Below w.heap.size w (wr.setCell ⟨w.heap.size, 1, none⟩ (.int .u8 ((layB x 48).toNat : Int)))) := Lib.hid (Below.setCell HB.out (Nat.le_refl _) _)
        go_wp2
        go_roundw
        case rel => exact ⟨2, by omega, rfl, HO2, HB2⟩
        case measure => simp [intOf]
      · subst hq
        have hb : x / 1099511627776 % 256 = ((layB x 40).toNat : Int) := (layB_eq x 40).symm
        have hz : x % 256 = ((layB x 0).toNat : Int) := by have := (layB_eq x 0).symm; simpa using this
        have HO2 : Hid (OB (wr.setCell ⟨w.heap.size, 2, none⟩ (.int .u8 ((layB x 40).toNat : Int))) (.slice (some ⟨w.heap.size, 0, none⟩) 8 8) (layTo 8 x 3)) := by
          have h1 := HO.out
          have h2 := OB.set (l := layTo 8 x 2) (g := w.heap.size) (cap := 8) h1 2 (layB x 40)
          rw [show (layTo 8 x 2).set 2 (layB x 40) = layTo 8 x 3 from layTo_succ 8 x 2] at h2
          exact Lib.hid h2
        have HB2 : Hid (Below w.heap.size w (wr.setCell ⟨w.heap.size, 2, none⟩ (.int .u8 ((layB x 40).toNat : Int)))) := Lib.hid (Below.setCell HB.out (Nat.le_refl _) _)
        go_wp2
        go_roundw
        case rel => exact ⟨3, by omega, rfl, HO2, HB2⟩
        case measure => simp [intOf]
      · subst hq
        have hb : x / 4294967296 % 256 = ((layB x 32).toNat : Int) := (layB_eq x 32).symm
        have hz : x % 256 = ((layB x 0).toNat : Int) := by have := (layB_eq x 0).symm; simpa using this
        have HO2 : Hid (OB (wr.setCell ⟨w.heap.size, 3, none⟩ (.int .u8 ((layB x 32).toNat : Int))) (.slice (some ⟨w.heap.size, 0, none⟩) 8 8) (layTo 8 x 4)) := by
          have h1 := HO.out
          have h2 := OB.set (l := layTo 8 x 3) (g := w.heap.size) (cap := 8) h1 3 (layB x 32)
          rw [show (layTo 8 x 3).set 3 (layB x 32) = layTo 8 x 4 from layTo_succ 8 x 3] at h2
          exact Lib.hid h2
        have HB2 : Hid (Below w.heap.size w (wr.setCell ⟨w.heap.size, 3, none⟩ (.int .u8 ((layB x 32).toNat : Int)))) := Lib.hid (Below.setCell HB.out (Nat.le_refl _) _)
        go_wp2
        go_roundw
        case rel => exact ⟨4, by omega, rfl, HO2, HB2⟩
        case measure => simp [intOf]
      · subst hq
        have hb : x / 16777216 % 256 = ((layB x 24).toNat : Int) := (layB_eq x 24).symm
        have hz : x % 256 = ((layB x 0).toNat : Int) := by have := (layB_eq x 0).symm; simpa using this
        have HO2 : Hid (OB (wr.setCell ⟨w.heap.size, 4, none⟩ (.int .u8 ((layB x 24).toNat : Int))) (.slice (some ⟨w.heap.size, 0, none⟩) 8 8) (layTo 8 x 5)) := by
          have h1 := HO.out
          have h2 := OB.set (l := layTo 8 x 4) (g := w.heap.size) (cap := 8) h1 4 (layB x 24)
          rw [show (layTo 8 x 4).set 4 (layB x 24) = layTo 8 x 5 from layTo_succ 8 x 4] at h2
          exact Lib.hid h2
        have HB2 : Hid (Below w.heap.size w (wr.setCell ⟨w.heap.size, 4, none⟩ (.int .u8 ((layB x 24).toNat : Int)))) := Lib.hid (Below.setCell HB.out (Nat.le_refl _) _)
        go_wp2
        go_roundw
        case rel => exact ⟨5, by omega, rfl, HO2, HB2⟩
        case measure => simp [intOf]
      · subst hq
        have hb : x / 65536 % 256 = ((layB x 16).toNat : Int) := (layB_eq x 16).symm
        have hz : x % 256 = ((layB x 0).toNat : Int) := by have := (layB_eq x 0).symm; simpa using this
        have HO2 : Hid (OB (wr.setCell ⟨w.heap.size, 5, none⟩ (.int .u8 ((layB x 16).toNat : Int))) (.slice (some ⟨w.heap.size, 0, none⟩) 8 8) (layTo 8 x 6)) := by
          have h1 := HO.out
          have h2 := OB.set (l := layTo 8 x 5) (g := w.heap.size) (cap := 8) h1 5 (layB x 16)
          rw [show (layTo 8 x 5).set 5 (layB x 16) = layTo 8 x 6 from layTo_succ 8 x 5] at h2
          exact Lib.hid h2
        have HB2 : Hid (Below w.heap.size w (wr.setCell ⟨w.heap.size, 5, none⟩ (.int .u8 ((layB x 16).toNat : Int)))) := Lib.hid (Below.setCell HB.out (Nat.le_refl _) _)
        go_wp2
        go_roundw
        case rel => exact ⟨6, by omega, rfl, HO2, HB2⟩
        case measure => simp [intOf]
      · subst hq
        have hb : x / 256 % 256 = ((layB x 8).toNat : Int) := (layB_eq x 8).symm
        have hz : x % 256 = ((layB x 0).toNat : Int) := by have := (layB_eq x 0).symm; simpa using this
        have HO2 : Hid (OB (wr.setCell ⟨w.heap.size, 6, none⟩ (.int .u8 ((layB x 8).toNat : Int))) (.slice (some ⟨w.heap.size, 0, none⟩) 8 8) (layTo 8 x 7)) := by
          have h1 := HO.out
          have h2 := OB.set (l := layTo 8 x 6) (g := w.heap.size) (cap := 8) h1 6 (layB x 8)
          rw [show (layTo 8 x 6).set 6 (layB x 8) = layTo 8 x 7 from layTo_succ 8 x 6] at h2
          exact Lib.hid h2
        have HB2 : Hid (Below w.heap.size w (wr.setCell ⟨w.heap.size, 6, none⟩ (.int .u8 ((layB x 8).toNat : Int)))) := Lib.hid (Below.setCell HB.out (Nat.le_refl _) _)
        go_wp2
        go_roundw
        case rel => exact ⟨7, by omega, rfl, HO2, HB2⟩
        case measure => simp [intOf]
      · subst hq
        have hb : x / 1 % 256 = ((layB x 0).toNat : Int) := (layB_eq x 0).symm
        have hz : x % 256 = ((layB x 0).toNat : Int) := by have := (layB_eq x 0).symm; simpa using this
        have HO2 : Hid (OB (wr.setCell ⟨w.heap.size, 7, none⟩ (.int .u8 ((layB x 0).toNat : Int))) (.slice (some ⟨w.heap.size, 0, none⟩) 8 8) (layTo 8 x 8)) := by
          have h1 := HO.out
          have h2 := OB.set (l := layTo 8 x 7) (g := w.heap.size) (cap := 8) h1 7 (layB x 0)
          rw [show (layTo 8 x 7).set 7 (layB x 0) = layTo 8 x 8 from layTo_succ 8 x 7] at h2
          exact Lib.hid h2
        have HB2 : Hid (Below w.heap.size w (wr.setCell ⟨w.heap.size, 7, none⟩ (.int .u8 ((layB x 0).toNat : Int)))) := Lib.hid (Below.setCell HB.out (Nat.le_refl _) _)
        go_wp2
        go_roundw
        case rel => exact ⟨8, by omega, rfl, HO2, HB2⟩
        case measure => simp [intOf]
    · obtain rfl : i = 8 := by omega
      have HN : Hid (NewBytes (layL 8 x) w (.returned (.slice (some ⟨w.heap.size, 0, none⟩) 8 8)) wr) := by
        have h1 := HO.out
        rw [layTo_end] at h1
        refine Lib.hid ⟨_, rfl, h1, HB.out, fun y hy => ?_⟩
        have : w.heap.size = y := by simpa [fpv, Value.ownBlock] using hy
        omega
      go_wp2
      go_ret
      exact HN.out
end Go.Proofs.Ytideobdggdmeiaa
