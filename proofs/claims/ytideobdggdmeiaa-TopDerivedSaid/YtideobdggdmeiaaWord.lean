/- Words: their width, turning. -/
import Derived.Test.YtideobdggdmeiaaRows
import Derived.Test.YtideobdggdmeiaaBytes
namespace Go.Proofs.Ytideobdggdmeiaa
open Go.RowKit
set_option maxRecDepth 100000
set_option linter.unusedVariables false
set_option linter.unusedSimpArgs false
theorem width32_any (w : World) : Calls Try.prog 35 #[] w fun e w' => e = .returned (.int .i64 32) ∧ w = w' := by
  go_enter Try.func35, Try.ntmps35
  go_wp2
  go_ret
  exact ⟨rfl, rfl⟩
theorem width64_any (w : World) : Calls Try.prog 51 #[] w fun e w' => e = .returned (.int .i64 64) ∧ w = w' := by
  go_enter Try.func51, Try.ntmps51
  go_wp2
  go_ret
  exact ⟨rfl, rfl⟩
/-- a word turned to the left -/
def rot32 (x : Int) (n : Nat) : Int := bits .or .u32 (x * 2 ^ n % 4294967296) (x / 2 ^ (32 - n))
def rot64 (x : Int) (n : Nat) : Int := bits .or .u64 (x * 2 ^ n % 18446744073709551616) (x / 2 ^ (64 - n))
theorem turn32_any (x : Int) (n : Nat) (hn : n < 32) (w : World) : Calls Try.prog 57 #[.int .u32 x, .int .i64 n] w fun e w' => e = .returned (.int .u32 (rot32 x n)) ∧ ∃ m, w' = w.drewN m := by
  have hm : Int.tmod (n : Int) 32 = n := by rw [Int.tmod_eq_emod_of_nonneg (by omega)]; omega
  have hm2 : (n : Int) % 32 = n := by omega
  go_enter Try.func57, Try.ntmps57
  go_wp2_with fail
  refine (width32_any w).mono ?_
  rintro e w1 ⟨rfl, rfl⟩
  go_wp2_with fail
  go_quiet (fail)
  go_wp2_with fail
  go_ret
  exact ⟨rfl, _, rfl⟩
/-- turned to the right by n: by -n to the left -/
theorem turn64_any (x : Int) (n : Nat) (h0 : 0 < n) (hn : n < 64) (w : World) : Calls Try.prog 58 #[.int .u64 x, .int .i64 (-(n : Int))] w fun e w' => e = .returned (.int .u64 (rot64 x (64 - n))) ∧ ∃ m, w' = w.drewN m := by
  have hm : Int.tmod (-(n : Int)) 64 = -(n : Int) := by rw [Int.neg_tmod, Int.tmod_eq_emod_of_nonneg (by omega)]; omega
  have hlt : -(n : Int) < 0 := by omega
  have hw : IntKind.i64.wrap (-(n : Int) + 64) = ((64 - n : Nat) : Int) := by rw [IntWalk.i64_in _ (by omega)]; omega
  have e1 : ((64 - n : Nat) : Int).toNat = 64 - n := rfl
  have e2 : (64 : Int) - ((64 - n : Nat) : Int) = ((64 - (64 - n) : Nat) : Int) := by omega
  go_enter Try.func58, Try.ntmps58
  go_wp2_with fail
  refine (width64_any w).mono ?_
  rintro e w1 ⟨rfl, rfl⟩
  go_wp2_with fail
  go_quiet (fail)
  go_wp2_with fail
  go_ret
  exact ⟨rfl, _, rfl⟩
theorem right32_any (x : Int) (n : Nat) (h0 : 0 < n) (hn : n ≤ 32) (w : World) : Calls Try.prog 50 #[.int .u32 x, .int .i64 n] w fun e w' => e = .returned (.int .u32 (rot32 x (32 - n))) ∧ ∃ m, w' = w.drewN m := by
  have e2 : (32 : Int) - (n : Int) = ((32 - n : Nat) : Int) := by omega
  have hw : IntKind.i64.wrap ((32 : Int) - (n : Int)) = ((32 - n : Nat) : Int) := by rw [IntWalk.i64_in _ (by omega)]; exact e2
  go_enter Try.func50, Try.ntmps50
  go_wp2_with fail
  refine (turn32_any x (32 - n) (by omega) w).mono ?_
  rintro e w1 ⟨rfl, m, rfl⟩
  go_wp2_with fail
  go_ret
  exact ⟨rfl, _, rfl⟩
theorem right64_any (x : Int) (n : Nat) (h0 : 0 < n) (hn : n < 64) (w : World) : Calls Try.prog 53 #[.int .u64 x, .int .i64 n] w fun e w' => e = .returned (.int .u64 (rot64 x (64 - n))) ∧ ∃ m, w' = w.drewN m := by
  go_enter Try.func53, Try.ntmps53
  go_wp2_with fail
  refine (turn64_any x n h0 hn w).mono ?_
  rintro e w1 ⟨rfl, m, rfl⟩
  go_wp2_with fail
  go_ret
  exact ⟨rfl, _, rfl⟩
end Go.Proofs.Ytideobdggdmeiaa
