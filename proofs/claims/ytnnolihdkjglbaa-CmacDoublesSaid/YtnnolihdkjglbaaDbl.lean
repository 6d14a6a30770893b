/- The contracts of cmac.Double: the double of a block of sixteen bytes. Condition: the block has sixteen bytes. -/
import Derived.Test.YtnnolihdkjglbaaRows
import Derived.Test.YtnnolihdkjglbaaMem
namespace Go.Proofs.Ytnnolihdkjglbaa
open Go.RowKit
set_option maxRecDepth 100000

def dN (x y : UInt8) : UInt8 := UInt8.ofNat (x.toNat * 2 % 256 + y.toNat / 128)
def dL (x y : UInt8) : UInt8 := UInt8.ofNat ((x.toNat * 2 % 256) ^^^ (135 * (y.toNat / 128)))
def dAt (l : List UInt8) (j : Nat) : UInt8 := if j < 15 then dN (l.getD j 0) (l.getD (j + 1) 0) else UInt8.ofNat ((l.getD j 0).toNat * 2 % 256)
def dTo (l : List UInt8) (k : Nat) : List UInt8 := tab 16 fun j => if j < k then dAt l j else 0
/-- the double of a block -/
def dbl (l : List UInt8) : List UInt8 := tab 16 fun j => if j < 15 then dN (l.getD j 0) (l.getD (j + 1) 0) else dL (l.getD 15 0) (l.getD 0 0)
theorem dbl_length (l : List UInt8) : (dbl l).length = 16 := tab_length _ _
theorem dTo_length (l : List UInt8) (k : Nat) : (dTo l k).length = 16 := tab_length _ _
theorem dTo_zero (l : List UInt8) : dTo l 0 = List.replicate 16 0 := by
  rw [← tab_zero]
  exact tab_ext _ _ _ fun j _ => by simp
theorem dTo_succ (l : List UInt8) (k : Nat) : (dTo l k).set k (dAt l k) = dTo l (k + 1) := by
  unfold dTo
  rw [tab_set]
  refine tab_ext _ _ _ fun j _ => ?_
  by_cases e : j = k
  · subst e; simp
  · rw [if_neg e]
    by_cases h : j < k
    · rw [if_pos h, if_pos (by omega)]
    · rw [if_neg h, if_neg (by omega)]
theorem dTo_end (l : List UInt8) : (dTo l 16).set 15 (dL (l.getD 15 0) (l.getD 0 0)) = dbl l := by
  unfold dTo dbl
  rw [tab_set]
  refine tab_ext _ _ _ fun j hj => ?_
  by_cases e : j = 15
  · subst e; simp
  · rw [if_neg e, if_pos hj, if_pos (by omega), dAt, if_pos (by omega)]
theorem dTo_last (l : List UInt8) : (dTo l 16).getD 15 0 = UInt8.ofNat ((l.getD 15 0).toNat * 2 % 256) := by
  unfold dTo
  rw [tab_getD _ _ _ (by omega), if_pos (by omega), dAt, if_neg (by omega)]

theorem or_low (x : Nat) (b : Nat) (hx : x < 256) (hb : b < 2) : (x * 2 % 256) ||| b = x * 2 % 256 + b := by
  have : ∀ x, x < 256 → ∀ b, b < 2 → (x * 2 % 256) ||| b = x * 2 % 256 + b := by decide +kernel
  exact this x hx b hb
theorem dN_or (x y : UInt8) : bits .or .u8 ((x.toNat : Int) * 2 % 256) ((y.toNat : Int) / 128) = ((dN x y).toNat : Int) := by
  have hx := x.toNat_lt
  have hy := y.toNat_lt
  have e1 : (x.toNat : Int) * 2 % 256 = ((x.toNat * 2 % 256 : Nat) : Int) := by omega
  have e2 : (y.toNat : Int) / 128 = ((y.toNat / 128 : Nat) : Int) := by omega
  rw [e1, e2, u8_or_nat _ _ (by omega) (by omega), or_low _ _ (by omega) (by omega)]
  unfold dN
  rw [u8_of _ (by omega)]
theorem dN_add (x y : UInt8) : (x.toNat : Int) * 2 % 256 + (y.toNat : Int) / 128 = ((dN x y).toNat : Int) := by
  have hx := x.toNat_lt
  have hy := y.toNat_lt
  unfold dN
  rw [u8_of _ (by omega)]
  omega
theorem dS_form (x : UInt8) : (x.toNat : Int) * 2 % 256 = ((UInt8.ofNat (x.toNat * 2 % 256)).toNat : Int) := by
  rw [u8_of _ (by omega)]
  omega
end Go.Proofs.Ytnnolihdkjglbaa
