/- large: are an Ask's lists longer than is gone through? -/
import Derived.Test.YtpbplcbdejoolaaRows
import Derived.Test.YtpbplcbdejoolaaNaiveLives
import Derived.Test.YtpbplcbdejoolaaOpenAsk
namespace Go.Proofs.Ytpbplcbdejoolaa
open Go.RowKit
set_option maxRecDepth 100000
set_option linter.unusedVariables false
set_option linter.unusedSimpArgs false
set_option maxHeartbeats 1000000 in
theorem large_any (va vb : Value) (A B : List UInt8) (x : UInt8) (base ex m : Nat) (w : World) (hA : Bs w va A) (hB : Bs w vb B) (b1 b2 : Bool) (hb1 : decide ((200 : Int) < (A.length : Int)) = b1) (hb2 : decide ((200 : Int) < (B.length : Int)) = b2) :
    Calls Try.prog 15 #[.agg #[va, vb, .int .u8 (x.toNat : Int), .int .u64 (base : Int), .int .u64 (ex : Int), .int .u64 (m : Int)]] w fun e w' => e = .returned (.bool (b1 || b2)) ∧ Below w.heap.size w w' := by
  obtain ⟨ao, cap, rfl, h1, h2, _, _⟩ := hA.form
  obtain ⟨bo, dap, rfl, h3, h4, _, _⟩ := hB.form
  have hla : A.length ≤ 9223372036854775807 := by omega
  have hlb : B.length ≤ 9223372036854775807 := by omega
  clear hA hB
  have hbl : Below w.heap.size w (w.alloc (.cells #[.slice ao A.length cap, .slice bo B.length dap, .int .u8 (x.toNat : Int), .int .u64 (base : Int), .int .u64 (ex : Int), .int .u64 (m : Int)] 43)) := (Below.refl _ _).alloc (Nat.le_refl _) _
  have HBL := Lib.hid hbl
  clear hbl
  cases b1 <;> cases b2
  all_goals
    go_enter Try.func15, Try.ntmps15
    go_wp2_with fail
    go_ret
    exact ⟨rfl, HBL.out⟩
end Go.Proofs.Ytpbplcbdejoolaa
