/- The contracts of package aes: small ones. A cipher is a block: the key's length, then the round keys' 240 bytes. -/
import Derived.Test.YtihmgkjmebdioaaRows
import Derived.Test.YtihmgkjmebdioaaAesPlain
import Derived.Test.YtihmgkjmebdioaaGf
import Derived.Test.YtihmgkjmebdioaaTame
import Derived.Test.YtihmgkjmebdioaaLenv
import Derived.Test.YtihmgkjmebdioaaEqArr
import Derived.Test.YtihmgkjmebdioaaCopy
namespace Go.Proofs.Ytihmgkjmebdioaa
open Go.RowKit
set_option maxRecDepth 100000
set_option linter.unusedVariables false
set_option linter.unusedSimpArgs false

theorem mulU_any (x y : UInt8) (w : World) : Calls Try.prog 52 #[.int .u8 (x.toNat : Int), .int .u8 (y.toNat : Int)] w fun e w' => e = .returned (.int .u8 ((gmU x y).toNat : Int)) ∧ w = w' := by
  refine (mul_any _ _ w (by omega) (u8_hi x) (by omega) (u8_hi y)).mono ?_
  rintro e w' ⟨rfl, h⟩
  refine ⟨?_, h⟩
  rw [gmU_nat]
  rfl
theorem boxU_any (x : UInt8) (w : World) : Calls Try.prog 35 #[.int .u8 (x.toNat : Int)] w fun e w' => e = .returned (.int .u8 ((boxU x).toNat : Int)) ∧ ∃ m, w' = w.drewN m := by
  refine (box_any _ w (by omega) (u8_hi x)).mono ?_
  rintro e w' ⟨rfl, h⟩
  refine ⟨?_, h⟩
  rw [boxU_nat]
  rfl
theorem backU_any (x : UInt8) (w : World) : Calls Try.prog 37 #[.int .u8 (x.toNat : Int)] w fun e w' => e = .returned (.int .u8 ((backU x).toNat : Int)) ∧ ∃ m, w' = w.drewN m := by
  refine (back_any _ w (by omega) (u8_hi x)).mono ?_
  rintro e w' ⟨rfl, h⟩
  refine ⟨?_, h⟩
  rw [backU_nat]
  rfl

theorem drew_below (w : World) (n : Nat) : Below w.heap.size w (w.drewN n) := ⟨rfl, rfl, rfl, Nat.le_refl _, fun _ _ => rfl⟩
/-! ### a cipher -/
def cipC (k : Nat) (K : List UInt8) : Array Value := (Value.int .i64 (k : Int) :: K.map B).toArray
theorem cipC_size (k : Nat) (K : List UInt8) : (cipC k K).size = K.length + 1 := by simp [cipC]
theorem cipC_one (k : Nat) (K : List UInt8) : ∀ v ∈ (cipC k K).toList, v.oneCell' = true := by
  intro v hv
  have hv' : v ∈ Value.int .i64 (k : Int) :: K.map B := by simpa [cipC] using hv
  rcases List.mem_cons.1 hv' with rfl | hv'
  · rfl
  · obtain ⟨x, _, rfl⟩ := List.mem_map.1 hv'
    rfl
/-- a cipher in memory; of a key of no bytes: none -/
def CipAt (w : World) (b : Nat) (k : Nat) (K : List UInt8) : Prop := Blk w b 68 (cipC k K) ∧ K.length = 240
theorem CipAt.key {w : World} {b k : Nat} {K : List UInt8} (h : CipAt w b k K) : w.cell? ⟨b, 0, none⟩ = some (.int .i64 (k : Int)) := h.1.cellAt 0 (by simp [cipC])
theorem CipAt.lt {w : World} {b k : Nat} {K : List UInt8} (h : CipAt w b k K) : b < w.heap.size := h.1.lt
theorem CipAt.round {w : World} {b k : Nat} {K : List UInt8} (h : CipAt w b k K) (r : Nat) (hr : r < 15) : w.rangeAt b (1 + r * 16) (((K.drop (16 * r)).take 16).map B) := by
  intro j v hv
  refine h.1.cellAt _ ?_
  have hj : j < 16 := by
    have := (List.getElem?_eq_some_iff.1 hv).1
    rw [List.length_map, List.length_take] at this
    omega
  rw [List.getElem?_map, List.getElem?_take_of_lt hj, List.getElem?_drop] at hv
  simp only [cipC, List.getElem?_toArray]
  rw [show 1 + r * 16 + j = (16 * r + j) + 1 from by omega, List.getElem?_cons_succ, List.getElem?_map]
  exact hv
theorem CipAt.only {w w' : World} {b k : Nat} {K : List UInt8} (h : CipAt w b k K) {S : Nat → Prop} (ho : Only S w w') (hb : ¬ S b) : CipAt w' b k K := ⟨h.1.only ho hb, h.2⟩
theorem CipAt.below {w w' : World} {b k : Nat} {K : List UInt8} (h : CipAt w b k K) (hb : Below w.heap.size w w') : CipAt w' b k K := ⟨h.1.below hb h.lt, h.2⟩

/-! ### blocks of sixteen bytes, made place by place -/
theorem tab_self (l : List UInt8) {n : Nat} (h : l.length = n) : tab n (fun j => l.getD j 0) = l := by
  apply List.ext_getElem?
  intro j
  by_cases hj : j < n
  · simp only [tab, List.getElem?_map, List.getElem?_range hj, Option.map_some, List.getD_eq_getElem?_getD]
    rw [List.getElem?_eq_getElem (by omega)]
    rfl
  · rw [List.getElem?_eq_none (by simp [tab]; omega), List.getElem?_eq_none (by omega)]
/-- the first k places are g's, the others f's -/
def mixT (n : Nat) (g f : Nat → UInt8) (k : Nat) : List UInt8 := tab n fun j => if j < k then g j else f j
theorem mixT_len (n : Nat) (g f : Nat → UInt8) (k : Nat) : (mixT n g f k).length = n := tab_length _ _
theorem mixT_zero (n : Nat) (g f : Nat → UInt8) : mixT n g f 0 = tab n f := tab_ext _ _ _ fun j _ => by simp
theorem mixT_end (n : Nat) (g f : Nat → UInt8) : mixT n g f n = tab n g := tab_ext _ _ _ fun j hj => by simp [hj]
theorem mixT_succ (n : Nat) (g f : Nat → UInt8) (k : Nat) : (mixT n g f k).set k (g k) = mixT n g f (k + 1) := by
  unfold mixT
  rw [tab_set]
  refine tab_ext _ _ _ fun j _ => ?_
  by_cases e : j = k
  · subst e; simp
  · rw [if_neg e]
    by_cases h : j < k
    · rw [if_pos h, if_pos (by omega)]
    · rw [if_neg h, if_neg (by omega)]
theorem mixT_at (n : Nat) (g f : Nat → UInt8) (k : Nat) (hk : k < n) : (mixT n g f k).getD k 0 = f k := by
  unfold mixT
  rw [tab_getD _ _ _ hk, if_neg (by omega)]
theorem withK_tab (K b : List UInt8) (r : Nat) : withK K b r = tab 16 (fun i => b.getD i 0 ^^^ K.getD (16 * r + i) 0) := rfl
theorem size16 : (Try.prog.info? 31).map (·.size) = some 16 := by kernel_rfl
theorem size4 : (Try.prog.info? 79).map (·.size) = some 4 := by kernel_rfl
theorem xorU (x y : UInt8) : bits .xor .u8 (x.toNat : Int) (y.toNat : Int) = ((x ^^^ y).toNat : Int) := by
  rw [u8_xor_nat _ _ x.toNat_lt y.toNat_lt, UInt8.toNat_xor]

set_option maxHeartbeats 1000000 in
theorem with_any (b k : Nat) (K l : List UInt8) (r : Nat) (w : World) (h : CipAt w b k K) (hl : l.length = 16) (hr : r < 15) :
    Calls Try.prog 34 #[.pointer (some ⟨b, 0, none⟩), .agg (barr l), .int .i64 (r : Int)] w fun e w' => e = .returned (.agg (barr (withK K l r))) ∧ Below w.heap.size w w' := by
  have hb := h.lt
  have HC : Hid (CipAt ((w.alloc (.cells (barr l) 31)).alloc (.cells (barr (List.replicate 16 0)) 31)) b k K) := Lib.hid (h.below (((Below.refl _ _).alloc (Nat.le_refl _) _).alloc (by simp) _))
  have hKl := h.2
  obtain ⟨R, hR⟩ : ∃ R, R = (K.drop (16 * r)).take 16 := ⟨_, rfl⟩
  have hRl : R.length = 16 := by rw [hR]; simp; omega
  have hRg : ∀ j, j < 16 → R.getD j 0 = K.getD (16 * r + j) 0 := by
    intro j hj
    rw [hR, List.getD_eq_getElem?_getD, List.getD_eq_getElem?_getD, List.getElem?_take_of_lt hj, List.getElem?_drop]
  have HRG := Lib.hid hRg
  have rng := HC.out.round r hr
  rw [← hR] at rng
  have RNG := Lib.hid rng
  have hrm : (R.map B).length = 16 := by rw [List.length_map]; exact hRl
  have HL := Lib.hid hl
  clear h hR rng hRg
  go_enter Try.func34, Try.ntmps34
  go_wp2_with (first | ((with_reducible change wpList _ _ _ (Oper.mk _ (Op.load 31 _) _ _ _ _ :: _) _ _); refine wpList_load_mid rfl 31 _ rfl b (1 + r * 16) rfl (R.map B) _ RNG.out Try.underlying31 rfl (size16.trans (by rw [hrm])) ?_))
  go_loopw [15] (fun i w1 => ∃ k : Nat, k ≤ 16 ∧ i = .int .i64 (k : Int) ∧ Blk w1 w.heap.size 31 (barr (mixT 16 (fun j => l.getD j 0 ^^^ K.getD (16 * r + j) 0) (fun j => l.getD j 0) k)) ∧ Blk w1 (w.heap.size + 1) 31 (barr (List.replicate 16 0)) ∧ Below w.heap.size w w1) (fun i _ => 16 - (intOf i).toNat)
  case atStart =>
    refine ⟨0, by omega, rfl, ?_, ?_, ?_⟩
    · rw [mixT_zero, tab_self l HL.out]
      exact (Blk.at rfl rfl).alloc _
    · exact Blk.at (by simp) rfl
    · exact ((Below.refl _ _).alloc (Nat.le_refl _) _).alloc (by simp) _
  case round =>
    obtain ⟨k, hk, rfl, h0, h1, hbl⟩ := hrel
    by_cases hlt : k < 16
    · have c0 := h0.cellAt k (barr_getD _ k (by rw [mixT_len]; exact hlt))
      rw [mixT_at _ _ _ _ hlt] at c0
      have f0 := h0.unfrozen k
      have ck : ∀ w, (Instr.index 31 (.agg (R.map B).toArray) (.int .i64 (k : Int))).run Try.prog w = .ok (.int .u8 ((R.getD k 0).toNat : Int)) w := fun w => run_index_bytes Try.underlying31 (by kernel_rfl) (by kernel_rfl) R k (by rw [hRl]; exact hlt) hlt w
      have hg := HRG.out k hlt
      generalize hx : l.getD k 0 = x at c0
      generalize hy : R.getD k 0 = y at ck hg
      have HX := Lib.hid hx
      have HG := Lib.hid hg
      clear hx hy hg
      go_wp2_with fail
      go_roundw
      case rel =>
        refine ⟨k + 1, by omega, by go_num, ?_, h1.set_ne (by simp) _, hbl.setCell (by simp) _⟩
        have h := h0.set k (.int .u8 ((x ^^^ y).toNat : Int))
        have e : mixT 16 (fun j => l.getD j 0 ^^^ K.getD (16 * r + j) 0) (fun j => l.getD j 0) (k + 1) = (mixT 16 (fun j => l.getD j 0 ^^^ K.getD (16 * r + j) 0) (fun j => l.getD j 0) k).set k (x ^^^ y) := by
          rw [← mixT_succ]
          rw [HX.out, ← HG.out]
        rw [barr_set, ← e] at h
        rw [xorU]
        exact h
      case measure => simp [intOf]; omega
    · obtain rfl : k = 16 := by omega
      rw [mixT_end, ← withK_tab] at h0
      have hs : (barr (withK K l r)).size = 16 := by rw [barr_size, withK_len]
      go_wp2_with (first | ((with_reducible change wpList _ _ _ (Oper.mk _ (Op.load 31 _) _ _ _ _ :: _) _ _); refine wpList_load_blk (ty := 31) w.heap.size rfl h0 Try.underlying31 rfl size16 hs ?_) | ((with_reducible change wpList _ _ _ (Oper.mk _ (Op.store 31 _ _) _ _ _ _ :: _) _ _); refine wpList_store_blk (ty := 31) (w.heap.size + 1) (barr (withK K l r)) rfl rfl h1 size16 hs (barr_size _) (barr_one _) ?_))
      refine bodyPost_ret (results_cell_blk rfl _ _ (w.heap.size + 1) rfl (h1.row _) Try.underlying31 rfl size16 hs) rfl ⟨rfl, below_row hbl (by simp) _⟩
end Go.Proofs.Ytihmgkjmebdioaa
