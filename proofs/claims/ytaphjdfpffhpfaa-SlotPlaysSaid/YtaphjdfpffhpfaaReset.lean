/- The contract of Ledger.Reset; runs that are written in the text. -/
import Derived.Test.YtaphjdfpffhpfaaRows
import Derived.Test.YtaphjdfpffhpfaaCtLaws
namespace Go.Proofs.Ytaphjdfpffhpfaa
open Go.RowKit
set_option maxRecDepth 100000
set_option linter.unusedVariables false

theorem Env.litRuns {w0 w : World} {obs : List Ob} (h : Env w0 w obs) (g : Nat) (hg : g = w.heap.size) (rs : List Rn) (hl : rs.length ≤ 1000) :
    Env w0 (w.alloc (.cells (flatR rs).toArray 66)) (obs ++ [obRuns (.slice (some ⟨g, 0, none⟩) rs.length rs.length) rs]) := by
  subst hg
  refine h.pushRuns ?_ ((Below.refl _ _).alloc (Nat.le_refl _) _) (fun x hx => ?_)
  · have := World.ownsRow_lit (base := 0) (e := 66) (size := 3) w (flatR rs).toArray rs.length (Nat.zero_le _) (by unfold maxLen; omega) (by simp [flatR_length])
    simpa [RunsAt] using this
  · have e : w.heap.size = x := by simpa [fp, Value.ownBlock] using hx
    omega
end Go.Proofs.Ytaphjdfpffhpfaa
