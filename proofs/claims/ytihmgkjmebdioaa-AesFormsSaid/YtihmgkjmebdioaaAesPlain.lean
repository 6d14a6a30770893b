/- AES as plain functions on lists of bytes; deciphering undoes enciphering, and the other way round. No program in sight. -/
import Derived.Test.YtihmgkjmebdioaaGfBox
import GoSem.ClaimData
namespace Go.Proofs.Ytihmgkjmebdioaa
open Go
set_option maxRecDepth 100000
set_option linter.unusedVariables false

def gmU (a b : UInt8) : UInt8 := UInt8.ofNat (gm a.toNat b.toNat)
def boxU (a : UInt8) : UInt8 := UInt8.ofNat (gbox a.toNat)
def backU (a : UInt8) : UInt8 := UInt8.ofNat (gback a.toNat)
theorem tU (n : Nat) (h : n < 256) : (UInt8.ofNat n).toNat = n := by
  rw [UInt8.toNat_ofNat']
  exact Nat.mod_eq_of_lt h
theorem gmU_nat (a b : UInt8) : (gmU a b).toNat = gm a.toNat b.toNat := tU _ (gm_lt _ _ a.toNat_lt)
theorem boxU_nat (a : UInt8) : (boxU a).toNat = gbox a.toNat := tU _ (gbox_lt _)
theorem backU_nat (a : UInt8) : (backU a).toNat = gback a.toNat := tU _ (gback_lt _)
theorem back_boxU (a : UInt8) : backU (boxU a) = a := by
  apply UInt8.toNat_inj.1
  rw [backU_nat, boxU_nat, gback_box _ a.toNat_lt]
theorem box_backU (a : UInt8) : boxU (backU a) = a := by
  apply UInt8.toNat_inj.1
  rw [boxU_nat, backU_nat, gbox_back _ a.toNat_lt]
theorem gmU_right (a x y : UInt8) : gmU a (x ^^^ y) = gmU a x ^^^ gmU a y := by
  apply UInt8.toNat_inj.1
  rw [UInt8.toNat_xor, gmU_nat, gmU_nat, gmU_nat, UInt8.toNat_xor, gm_right]
theorem gmU_left (x y b : UInt8) : gmU (x ^^^ y) b = gmU x b ^^^ gmU y b := by
  apply UInt8.toNat_inj.1
  rw [UInt8.toNat_xor, gmU_nat, gmU_nat, gmU_nat, UInt8.toNat_xor, gm_left _ _ _ x.toNat_lt y.toNat_lt]
theorem gmU_assoc (a b c : UInt8) : gmU a (gmU b c) = gmU (gmU a b) c := by
  apply UInt8.toNat_inj.1
  rw [gmU_nat, gmU_nat, gmU_nat, gmU_nat, gm_assoc _ _ _ a.toNat_lt b.toNat_lt c.toNat_lt]
theorem gmU_one (a : UInt8) : gmU 1 a = a := by
  apply UInt8.toNat_inj.1
  rw [gmU_nat, gm_comm _ _ (by decide) a.toNat_lt]
  exact gm_one _ a.toNat_lt
theorem gmU_none (a : UInt8) : gmU 0 a = 0 := by
  apply UInt8.toNat_inj.1
  rw [gmU_nat]
  exact zero_gm _ a.toNat_lt
theorem gmU_zero (a : UInt8) : gmU a 0 = 0 := by
  apply UInt8.toNat_inj.1
  rw [gmU_nat]
  exact gm_zero _ a.toNat_lt

/-- four products' sum -/
def dot4 (p0 p1 p2 p3 c0 c1 c2 c3 : UInt8) : UInt8 := (((0 ^^^ gmU p0 c0) ^^^ gmU p1 c1) ^^^ gmU p2 c2) ^^^ gmU p3 c3
theorem dot4_eq (p0 p1 p2 p3 c0 c1 c2 c3 : UInt8) : dot4 p0 p1 p2 p3 c0 c1 c2 c3 = gmU p0 c0 ^^^ gmU p1 c1 ^^^ gmU p2 c2 ^^^ gmU p3 c3 := by
  unfold dot4
  rw [UInt8.zero_xor]
theorem dot4_dot (q0 q1 q2 q3 a0 a1 a2 a3 b0 b1 b2 b3 d0 d1 d2 d3 e0 e1 e2 e3 c0 c1 c2 c3 : UInt8) :
    dot4 q0 q1 q2 q3 (dot4 a0 a1 a2 a3 c0 c1 c2 c3) (dot4 b0 b1 b2 b3 c0 c1 c2 c3) (dot4 d0 d1 d2 d3 c0 c1 c2 c3) (dot4 e0 e1 e2 e3 c0 c1 c2 c3) =
    dot4 (gmU q0 a0 ^^^ gmU q1 b0 ^^^ gmU q2 d0 ^^^ gmU q3 e0) (gmU q0 a1 ^^^ gmU q1 b1 ^^^ gmU q2 d1 ^^^ gmU q3 e1)
      (gmU q0 a2 ^^^ gmU q1 b2 ^^^ gmU q2 d2 ^^^ gmU q3 e2) (gmU q0 a3 ^^^ gmU q1 b3 ^^^ gmU q2 d3 ^^^ gmU q3 e3) c0 c1 c2 c3 := by
  simp only [dot4_eq, gmU_right, gmU_left, gmU_assoc]
  ac_rfl
theorem dot4_1 (c0 c1 c2 c3 : UInt8) : dot4 1 0 0 0 c0 c1 c2 c3 = c0 := by simp [dot4_eq, gmU_one, gmU_none]
theorem dot4_2 (c0 c1 c2 c3 : UInt8) : dot4 0 1 0 0 c0 c1 c2 c3 = c1 := by simp [dot4_eq, gmU_one, gmU_none]
theorem dot4_3 (c0 c1 c2 c3 : UInt8) : dot4 0 0 1 0 c0 c1 c2 c3 = c2 := by simp [dot4_eq, gmU_one, gmU_none]
theorem dot4_4 (c0 c1 c2 c3 : UInt8) : dot4 0 0 0 1 c0 c1 c2 c3 = c3 := by simp [dot4_eq, gmU_one, gmU_none]

/-- a block with round key r xored to it -/
def withK (K b : List UInt8) (r : Nat) : List UInt8 := (List.range 16).map fun i => b.getD i 0 ^^^ K.getD (16 * r + i) 0
/-- the S-box, and the rows turned -/
def shiftB (b : List UInt8) : List UInt8 := (List.range 16).map fun i => boxU (b.getD ((i + 4 * (i % 4)) % 16) 0)
def mixAt (m b : List UInt8) (i : Nat) : UInt8 :=
  dot4 (m.getD ((0 + 4 - i % 4) % 4) 0) (m.getD ((1 + 4 - i % 4) % 4) 0) (m.getD ((2 + 4 - i % 4) % 4) 0) (m.getD ((3 + 4 - i % 4) % 4) 0)
    (b.getD (i - i % 4 + 0) 0) (b.getD (i - i % 4 + 1) 0) (b.getD (i - i % 4 + 2) 0) (b.getD (i - i % 4 + 3) 0)
def mixB (m b : List UInt8) : List UInt8 := (List.range 16).map (mixAt m b)
/-- the S-box backwards, and the rows turned back -/
def unTo (s b : List UInt8) : Nat → List UInt8
  | 0 => b
  | k + 1 => (unTo s b k).set ((k + 4 * (k % 4)) % 16) (backU (s.getD k 0))
def m2 : List UInt8 := [2, 3, 1, 1]
def m14 : List UInt8 := [14, 11, 13, 9]
def mid (R r : Nat) (s : List UInt8) : List UInt8 := if r < R then mixB m2 s else s
def dim (R r : Nat) (s : List UInt8) : List UInt8 := if r < R then mixB m14 s else s
def encN (K : List UInt8) (R : Nat) : Nat → Nat → List UInt8 → List UInt8
  | 0, _, b => b
  | n + 1, r, b => encN K R n (r + 1) (withK K (mid R r (shiftB b)) r)
def enc (K : List UInt8) (R : Nat) (b : List UInt8) : List UInt8 := encN K R R 1 (withK K b 0)
def decN (K : List UInt8) (R : Nat) : Nat → List UInt8 → List UInt8
  | 0, b => withK K b 0
  | r + 1, b => decN K R r (unTo (dim R (r + 1) (withK K b (r + 1))) b 16)
def dec (K : List UInt8) (R : Nat) (b : List UInt8) : List UInt8 := decN K R R b

theorem range16 : List.range 16 = [0, 1, 2, 3, 4, 5, 6, 7, 8, 9, 10, 11, 12, 13, 14, 15] := by decide
theorem list16 (b : List UInt8) (h : b.length = 16) : ∃ b0 b1 b2 b3 b4 b5 b6 b7 b8 b9 b10 b11 b12 b13 b14 b15, b = [b0, b1, b2, b3, b4, b5, b6, b7, b8, b9, b10, b11, b12, b13, b14, b15] := by
  match b, h with
  | [b0, b1, b2, b3, b4, b5, b6, b7, b8, b9, b10, b11, b12, b13, b14, b15], _ => exact ⟨b0, b1, b2, b3, b4, b5, b6, b7, b8, b9, b10, b11, b12, b13, b14, b15, rfl⟩
theorem withK_len (K b : List UInt8) (r : Nat) : (withK K b r).length = 16 := by simp [withK]
theorem shiftB_len (b : List UInt8) : (shiftB b).length = 16 := by simp [shiftB]
theorem mixB_len (m b : List UInt8) : (mixB m b).length = 16 := by simp [mixB]
theorem unTo_len (s b : List UInt8) : ∀ k, (unTo s b k).length = b.length
  | 0 => rfl
  | k + 1 => by rw [unTo, List.length_set, unTo_len s b k]
theorem mid_len (R r : Nat) (s : List UInt8) (h : s.length = 16) : (mid R r s).length = 16 := by
  unfold mid; split
  · exact mixB_len _ _
  · exact h
theorem dim_len (R r : Nat) (s : List UInt8) (h : s.length = 16) : (dim R r s).length = 16 := by
  unfold dim; split
  · exact mixB_len _ _
  · exact h
theorem withK_twice (K b : List UInt8) (r : Nat) (h : b.length = 16) : withK K (withK K b r) r = b := by
  apply List.ext_getElem?
  intro i
  by_cases hi : i < 16
  · simp only [withK, List.getElem?_map, List.getElem?_range hi, Option.map_some, List.getD_eq_getElem?_getD, Option.getD_some]
    rw [List.getElem?_eq_getElem (by omega), UInt8.xor_assoc, UInt8.xor_self, UInt8.xor_zero]
    rfl
  · rw [List.getElem?_eq_none (by rw [withK_len]; omega), List.getElem?_eq_none (by omega)]
theorem un_shift (b c : List UInt8) (hb : b.length = 16) (hc : c.length = 16) : unTo (shiftB b) c 16 = b := by
  obtain ⟨b0, b1, b2, b3, b4, b5, b6, b7, b8, b9, b10, b11, b12, b13, b14, b15, rfl⟩ := list16 b hb
  obtain ⟨c0, c1, c2, c3, c4, c5, c6, c7, c8, c9, c10, c11, c12, c13, c14, c15, rfl⟩ := list16 c hc
  have e : shiftB [b0, b1, b2, b3, b4, b5, b6, b7, b8, b9, b10, b11, b12, b13, b14, b15] = [boxU b0, boxU b5, boxU b10, boxU b15, boxU b4, boxU b9, boxU b14, boxU b3, boxU b8, boxU b13, boxU b2, boxU b7, boxU b12, boxU b1, boxU b6, boxU b11] := by
    unfold shiftB; rw [range16]; rfl
  rw [e]
  show [backU (boxU b0), backU (boxU b1), backU (boxU b2), backU (boxU b3), backU (boxU b4), backU (boxU b5), backU (boxU b6), backU (boxU b7), backU (boxU b8), backU (boxU b9), backU (boxU b10), backU (boxU b11), backU (boxU b12), backU (boxU b13), backU (boxU b14), backU (boxU b15)] = _
  simp only [back_boxU]
theorem shift_un (s c : List UInt8) (hs : s.length = 16) (hc : c.length = 16) : shiftB (unTo s c 16) = s := by
  obtain ⟨b0, b1, b2, b3, b4, b5, b6, b7, b8, b9, b10, b11, b12, b13, b14, b15, rfl⟩ := list16 s hs
  obtain ⟨c0, c1, c2, c3, c4, c5, c6, c7, c8, c9, c10, c11, c12, c13, c14, c15, rfl⟩ := list16 c hc
  have e : unTo [b0, b1, b2, b3, b4, b5, b6, b7, b8, b9, b10, b11, b12, b13, b14, b15] [c0, c1, c2, c3, c4, c5, c6, c7, c8, c9, c10, c11, c12, c13, c14, c15] 16 = [backU b0, backU b13, backU b10, backU b7, backU b4, backU b1, backU b14, backU b11, backU b8, backU b5, backU b2, backU b15, backU b12, backU b9, backU b6, backU b3] := rfl
  rw [e]
  unfold shiftB
  rw [range16]
  show [boxU (backU b0), boxU (backU b1), boxU (backU b2), boxU (backU b3), boxU (backU b4), boxU (backU b5), boxU (backU b6), boxU (backU b7), boxU (backU b8), boxU (backU b9), boxU (backU b10), boxU (backU b11), boxU (backU b12), boxU (backU b13), boxU (backU b14), boxU (backU b15)] = _
  simp only [box_backU]
theorem mix_form (p0 p1 p2 p3 b0 b1 b2 b3 b4 b5 b6 b7 b8 b9 b10 b11 b12 b13 b14 b15 : UInt8) : mixB [p0, p1, p2, p3] [b0, b1, b2, b3, b4, b5, b6, b7, b8, b9, b10, b11, b12, b13, b14, b15] =
    [dot4 p0 p1 p2 p3 b0 b1 b2 b3, dot4 p3 p0 p1 p2 b0 b1 b2 b3, dot4 p2 p3 p0 p1 b0 b1 b2 b3, dot4 p1 p2 p3 p0 b0 b1 b2 b3,
     dot4 p0 p1 p2 p3 b4 b5 b6 b7, dot4 p3 p0 p1 p2 b4 b5 b6 b7, dot4 p2 p3 p0 p1 b4 b5 b6 b7, dot4 p1 p2 p3 p0 b4 b5 b6 b7,
     dot4 p0 p1 p2 p3 b8 b9 b10 b11, dot4 p3 p0 p1 p2 b8 b9 b10 b11, dot4 p2 p3 p0 p1 b8 b9 b10 b11, dot4 p1 p2 p3 p0 b8 b9 b10 b11,
     dot4 p0 p1 p2 p3 b12 b13 b14 b15, dot4 p3 p0 p1 p2 b12 b13 b14 b15, dot4 p2 p3 p0 p1 b12 b13 b14 b15, dot4 p1 p2 p3 p0 b12 b13 b14 b15] := by
  unfold mixB; rw [range16]; rfl
theorem mix_undo (p0 p1 p2 p3 q0 q1 q2 q3 : UInt8) (s : List UInt8) (hs : s.length = 16)
    (h0 : gmU q0 p0 ^^^ gmU q1 p3 ^^^ gmU q2 p2 ^^^ gmU q3 p1 = 1) (h1 : gmU q0 p1 ^^^ gmU q1 p0 ^^^ gmU q2 p3 ^^^ gmU q3 p2 = 0) (h2 : gmU q0 p2 ^^^ gmU q1 p1 ^^^ gmU q2 p0 ^^^ gmU q3 p3 = 0) (h3 : gmU q0 p3 ^^^ gmU q1 p2 ^^^ gmU q2 p1 ^^^ gmU q3 p0 = 0) :
    mixB [q0, q1, q2, q3] (mixB [p0, p1, p2, p3] s) = s := by
  obtain ⟨b0, b1, b2, b3, b4, b5, b6, b7, b8, b9, b10, b11, b12, b13, b14, b15, rfl⟩ := list16 s hs
  have g0 : ∀ c0 c1 c2 c3, dot4 q0 q1 q2 q3 (dot4 p0 p1 p2 p3 c0 c1 c2 c3) (dot4 p3 p0 p1 p2 c0 c1 c2 c3) (dot4 p2 p3 p0 p1 c0 c1 c2 c3) (dot4 p1 p2 p3 p0 c0 c1 c2 c3) = c0 := by
    intro c0 c1 c2 c3; rw [dot4_dot, h0, h1, h2, h3, dot4_1]
  have g1 : ∀ c0 c1 c2 c3, dot4 q3 q0 q1 q2 (dot4 p0 p1 p2 p3 c0 c1 c2 c3) (dot4 p3 p0 p1 p2 c0 c1 c2 c3) (dot4 p2 p3 p0 p1 c0 c1 c2 c3) (dot4 p1 p2 p3 p0 c0 c1 c2 c3) = c1 := by
    intro c0 c1 c2 c3
    rw [dot4_dot, show gmU q3 p0 ^^^ gmU q0 p3 ^^^ gmU q1 p2 ^^^ gmU q2 p1 = 0 from by rw [← h3]; ac_rfl, show gmU q3 p1 ^^^ gmU q0 p0 ^^^ gmU q1 p3 ^^^ gmU q2 p2 = 1 from by rw [← h0]; ac_rfl,
      show gmU q3 p2 ^^^ gmU q0 p1 ^^^ gmU q1 p0 ^^^ gmU q2 p3 = 0 from by rw [← h1]; ac_rfl, show gmU q3 p3 ^^^ gmU q0 p2 ^^^ gmU q1 p1 ^^^ gmU q2 p0 = 0 from by rw [← h2]; ac_rfl, dot4_2]
  have g2 : ∀ c0 c1 c2 c3, dot4 q2 q3 q0 q1 (dot4 p0 p1 p2 p3 c0 c1 c2 c3) (dot4 p3 p0 p1 p2 c0 c1 c2 c3) (dot4 p2 p3 p0 p1 c0 c1 c2 c3) (dot4 p1 p2 p3 p0 c0 c1 c2 c3) = c2 := by
    intro c0 c1 c2 c3
    rw [dot4_dot, show gmU q2 p0 ^^^ gmU q3 p3 ^^^ gmU q0 p2 ^^^ gmU q1 p1 = 0 from by rw [← h2]; ac_rfl, show gmU q2 p1 ^^^ gmU q3 p0 ^^^ gmU q0 p3 ^^^ gmU q1 p2 = 0 from by rw [← h3]; ac_rfl,
      show gmU q2 p2 ^^^ gmU q3 p1 ^^^ gmU q0 p0 ^^^ gmU q1 p3 = 1 from by rw [← h0]; ac_rfl, show gmU q2 p3 ^^^ gmU q3 p2 ^^^ gmU q0 p1 ^^^ gmU q1 p0 = 0 from by rw [← h1]; ac_rfl, dot4_3]
  have g3 : ∀ c0 c1 c2 c3, dot4 q1 q2 q3 q0 (dot4 p0 p1 p2 p3 c0 c1 c2 c3) (dot4 p3 p0 p1 p2 c0 c1 c2 c3) (dot4 p2 p3 p0 p1 c0 c1 c2 c3) (dot4 p1 p2 p3 p0 c0 c1 c2 c3) = c3 := by
    intro c0 c1 c2 c3
    rw [dot4_dot, show gmU q1 p0 ^^^ gmU q2 p3 ^^^ gmU q3 p2 ^^^ gmU q0 p1 = 0 from by rw [← h1]; ac_rfl, show gmU q1 p1 ^^^ gmU q2 p0 ^^^ gmU q3 p3 ^^^ gmU q0 p2 = 0 from by rw [← h2]; ac_rfl,
      show gmU q1 p2 ^^^ gmU q2 p1 ^^^ gmU q3 p0 ^^^ gmU q0 p3 = 0 from by rw [← h3]; ac_rfl, show gmU q1 p3 ^^^ gmU q2 p2 ^^^ gmU q3 p1 ^^^ gmU q0 p0 = 1 from by rw [← h0]; ac_rfl, dot4_4]
  rw [mix_form, mix_form]
  simp only [g0, g1, g2, g3]
theorem mix_back (s : List UInt8) (hs : s.length = 16) : mixB m14 (mixB m2 s) = s := mix_undo 2 3 1 1 14 11 13 9 s hs (by decide +kernel) (by decide +kernel) (by decide +kernel) (by decide +kernel)
theorem back_mix (s : List UInt8) (hs : s.length = 16) : mixB m2 (mixB m14 s) = s := mix_undo 14 11 13 9 2 3 1 1 s hs (by decide +kernel) (by decide +kernel) (by decide +kernel) (by decide +kernel)
theorem dim_mid (R r : Nat) (s : List UInt8) (hs : s.length = 16) : dim R r (mid R r s) = s := by
  unfold dim mid
  split
  · exact mix_back s hs
  · rfl
theorem mid_dim (R r : Nat) (s : List UInt8) (hs : s.length = 16) : mid R r (dim R r s) = s := by
  unfold dim mid
  split
  · exact back_mix s hs
  · rfl

/-- a round, and back -/
def rnd (K : List UInt8) (R r : Nat) (b : List UInt8) : List UInt8 := withK K (mid R r (shiftB b)) r
def unr (K : List UInt8) (R r : Nat) (b : List UInt8) : List UInt8 := unTo (dim R r (withK K b r)) b 16
theorem rnd_len (K : List UInt8) (R r : Nat) (b : List UInt8) : (rnd K R r b).length = 16 := withK_len _ _ _
theorem unr_len (K : List UInt8) (R r : Nat) (b : List UInt8) (h : b.length = 16) : (unr K R r b).length = 16 := (unTo_len _ _ _).trans h
theorem unr_rnd (K : List UInt8) (R r : Nat) (b : List UInt8) (h : b.length = 16) : unr K R r (rnd K R r b) = b := by
  unfold unr
  have e : withK K (rnd K R r b) r = mid R r (shiftB b) := withK_twice _ _ _ (mid_len _ _ _ (shiftB_len b))
  rw [e, dim_mid _ _ _ (shiftB_len b)]
  exact un_shift b _ h (rnd_len _ _ _ _)
theorem rnd_unr (K : List UInt8) (R r : Nat) (b : List UInt8) (h : b.length = 16) : rnd K R r (unr K R r b) = b := by
  unfold rnd
  have e : shiftB (unr K R r b) = dim R r (withK K b r) := shift_un _ _ (dim_len _ _ _ (withK_len _ _ _)) h
  rw [e, mid_dim _ _ _ (withK_len _ _ _), withK_twice _ _ _ h]
def encS (K : List UInt8) (R : Nat) (b : List UInt8) : Nat → List UInt8
  | 0 => withK K b 0
  | r + 1 => rnd K R (r + 1) (encS K R b r)
theorem encS_len (K : List UInt8) (R : Nat) (b : List UInt8) : ∀ r, (encS K R b r).length = 16
  | 0 => withK_len _ _ _
  | r + 1 => rnd_len _ _ _ _
theorem encN_S (K : List UInt8) (R : Nat) (b : List UInt8) : ∀ n r, encN K R n (r + 1) (encS K R b r) = encS K R b (r + n)
  | 0, r => rfl
  | n + 1, r => by
    rw [encN]
    have := encN_S K R b n (r + 1)
    rw [show r + (n + 1) = r + 1 + n from by omega, ← this]
    rfl
theorem enc_S (K : List UInt8) (R : Nat) (b : List UInt8) : enc K R b = encS K R b R := by
  have := encN_S K R b R 0
  rw [Nat.zero_add R] at this
  exact this
theorem enc_len (K : List UInt8) (R : Nat) (b : List UInt8) : (enc K R b).length = 16 := by rw [enc_S]; exact encS_len _ _ _ _
theorem decN_encS (K : List UInt8) (R : Nat) (b : List UInt8) (h : b.length = 16) : ∀ r, decN K R r (encS K R b r) = b
  | 0 => by rw [decN, encS, withK_twice _ _ _ h]
  | r + 1 => by
    have e : unTo (dim R (r + 1) (withK K (encS K R b (r + 1)) (r + 1))) (encS K R b (r + 1)) 16 = encS K R b r := unr_rnd K R (r + 1) _ (encS_len _ _ _ _)
    rw [decN, e]
    exact decN_encS K R b h r
theorem dec_enc (K : List UInt8) (R : Nat) (b : List UInt8) (h : b.length = 16) : dec K R (enc K R b) = b := by
  rw [enc_S]
  exact decN_encS K R b h R
theorem decN_len (K : List UInt8) (R : Nat) : ∀ r b, (decN K R r b).length = 16
  | 0, b => withK_len _ _ _
  | r + 1, b => by rw [decN]; exact decN_len K R r _
theorem dec_len (K : List UInt8) (R : Nat) (b : List UInt8) : (dec K R b).length = 16 := decN_len _ _ _ _
theorem encS_decN (K : List UInt8) (R : Nat) : ∀ r b, b.length = 16 → encS K R (decN K R r b) r = b
  | 0, b, h => by rw [encS, decN, withK_twice _ _ _ h]
  | r + 1, b, h => by
    rw [encS, decN]
    have e := encS_decN K R r (unr K R (r + 1) b) (unr_len _ _ _ _ h)
    unfold unr at e
    rw [e]
    exact rnd_unr K R (r + 1) b h
theorem enc_dec (K : List UInt8) (R : Nat) (b : List UInt8) (h : b.length = 16) : enc K R (dec K R b) = b := by
  rw [enc_S]
  exact encS_decN K R R b h
theorem enc_inj (K : List UInt8) (R : Nat) (a b : List UInt8) (ha : a.length = 16) (hb : b.length = 16) : enc K R a = enc K R b ↔ a = b := by
  constructor
  · intro h
    rw [← dec_enc K R a ha, h, dec_enc K R b hb]
  · rintro rfl; rfl

/-! ### the round keys -/
def wordAt (W : List UInt8) (i : Nat) : List UInt8 := [W.getD (4 * i) 0, W.getD (4 * i + 1) 0, W.getD (4 * i + 2) 0, W.getD (4 * i + 3) 0]
/-- the word that is xored at place i -/
def turned (k i : Nat) (x : UInt8) (t : List UInt8) : List UInt8 :=
  if i % k = 0 then [boxU (t.getD 1 0) ^^^ x, boxU (t.getD 2 0), boxU (t.getD 3 0), boxU (t.getD 0 0)]
  else if k = 8 ∧ i % 8 = 4 then [boxU (t.getD 0 0), boxU (t.getD 1 0), boxU (t.getD 2 0), boxU (t.getD 3 0)] else t
def putTo (W t : List UInt8) (k i : Nat) : Nat → List UInt8
  | 0 => W
  | b + 1 => (putTo W t k i b).set (4 * i + b) ((putTo W t k i b).getD (4 * (i - k) + b) 0 ^^^ t.getD b 0)
def nextX (k i : Nat) (x : UInt8) : UInt8 := if i % k = 0 then gmU x 2 else x
def expN (k : Nat) : Nat → Nat → UInt8 → List UInt8 → List UInt8
  | 0, _, _, W => W
  | n + 1, i, x, W => expN k n (i + 1) (nextX k i x) (putTo W (turned k i x (wordAt W (i - 1))) k i 4)
def sched (key : List UInt8) : List UInt8 := expN (key.length / 4) (3 * (key.length / 4) + 28) (key.length / 4) 1 (key ++ List.replicate (240 - key.length) 0)
theorem putTo_len (W t : List UInt8) (k i : Nat) : ∀ b, (putTo W t k i b).length = W.length
  | 0 => rfl
  | b + 1 => by rw [putTo, List.length_set, putTo_len W t k i b]
theorem expN_len (k : Nat) : ∀ n i x W, (expN k n i x W).length = W.length
  | 0, _, _, _ => rfl
  | n + 1, i, x, W => by rw [expN, expN_len k n, putTo_len]
theorem sched_len (key : List UInt8) (h : key.length ≤ 240) : (sched key).length = 240 := by
  unfold sched
  rw [expN_len, List.length_append, List.length_replicate]
  omega
theorem putTo_low (W t : List UInt8) (k i : Nat) : ∀ b j, j < 4 * i → (putTo W t k i b)[j]? = W[j]?
  | 0, _, _ => rfl
  | b + 1, j, h => by rw [putTo, List.getElem?_set_ne (by omega), putTo_low W t k i b j h]
theorem expN_low (k : Nat) : ∀ n i x W j, j < 4 * i → (expN k n i x W)[j]? = W[j]?
  | 0, _, _, _, _, _ => rfl
  | n + 1, i, x, W, j, h => by rw [expN, expN_low k n _ _ _ j (by omega), putTo_low _ _ _ _ _ _ h]
/-- the round keys begin with the key -/
theorem sched_take (key : List UInt8) (h : key.length % 4 = 0) (hl : key.length ≤ 240) : (sched key).take key.length = key := by
  apply List.ext_getElem?
  intro j
  by_cases hj : j < key.length
  · rw [List.getElem?_take_of_lt hj]
    unfold sched
    rw [expN_low _ _ _ _ _ _ (by omega), List.getElem?_append_left hj]
  · rw [List.getElem?_eq_none (by rw [List.length_take]; omega), List.getElem?_eq_none (by omega)]
theorem sched_inj (a b : List UInt8) (ha : a.length % 4 = 0) (hb : b.length % 4 = 0) (hla : a.length ≤ 240) (hlb : b.length ≤ 240) (hl : a.length = b.length) (n : Nat) (hn : a.length ≤ n) (h : (sched a).take n = (sched b).take n) : a = b := by
  have e : ((sched a).take n).take a.length = ((sched b).take n).take a.length := by rw [h]
  rw [List.take_take, List.take_take, Nat.min_eq_left hn] at e
  rw [sched_take a ha hla, hl, sched_take b hb hlb] at e
  exact e
end Go.Proofs.Ytihmgkjmebdioaa
