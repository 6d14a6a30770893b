/-
  No cell of these rows narrows 'for every input' (looked for: loops, veiled, ifaces, maps, wideKeys, modest, calm, conditions, laid).
  DERIVED. THE GIVEN ROWS OF THIS SEAT. 5 by the template 'for every input the law returns true; each argument reads behind the call as it read before'; 0 by the template 'total and deterministic' (their statements: YtpbplcbdejoolaaTotals.lean).
  GIVEN WITH THE SEED: the statements are not yours to turn. If you find one false, say at which input.
  Laid BY PROGRAM, IN A SANDBOX (cutbox-rows.mjs): the forced cells as the released guide's own fill.sh prints them over the translation 86b677f5ea0b066e… (all of the seat's roots in one cut). By AI agents, Wed Nov 11 2026. No macro, syntax, notation, axiom, sorry.
-/
import Derived.Test.YtpbplcbdejoolaaChecked
import GoSem.Claim
import GoSem.ClaimJoined
import GoSem.ClaimMapViews
import Derived.JoinedTies
import Derived.KernelRfl
namespace Go.Proofs.Ytpbplcbdejoolaa
/- THE CELL 'sum', in the pinned program and in every row, IS THE sha256 OF THE DUMP (.gsa) THAT YtpbplcbdejoolaaProg.lean LOADS. Nothing in Lean hashes anything: it is a label: what it is worth is what the hold of that sum in a sandbox is worth. -/
noncomputable def Try.pinned : Pinned := { name := "ytpbplcbdejoolaa", sum := "86b677f5ea0b066e4e257de2d16a5f79b9a6a9b822a3ab965ffa4afc3bc7762d", checked := Try.checked }
namespace Rows
def none {H : Type} : Left H := { results := [], args := [] }

/-- 'turnkeylaw23.NaiveBoxes': WHATEVER THE INPUT: true; the input reads as it did. -/
def naiveBoxesSpec : ChangeSpec := { name := "naiveBoxes", fn := fun _ => fun
  | [] => { results := [.lit (.bool true)], args := [] }
  | _ => none }
def naiveBoxesRow : OpenClaim := { program := "ytpbplcbdejoolaa", sum := "86b677f5ea0b066e4e257de2d16a5f79b9a6a9b822a3ab965ffa4afc3bc7762d", func := "turnkey/turnkeylaw23.NaiveBoxes", spec := "naiveBoxes", apart := false }
def NaiveBoxesSaid : Prop := naiveBoxesRow.holds Try.pinned (OpenSpec.ofChange naiveBoxesSpec)

/-- ITS FALSE NEIGHBOUR: 'it returns false'. Refute it at one input. -/
def naiveBoxesWrong : ChangeSpec := { name := "naiveBoxes", fn := fun _ => fun
  | [] => { results := [.lit (.bool false)], args := [] }
  | _ => none }
def NaiveBoxesWrongFalsely : Prop := naiveBoxesRow.holds Try.pinned (OpenSpec.ofChange naiveBoxesWrong)

/-- 'turnkeylaw23.NaivePowers': WHATEVER THE INPUT: true; the input reads as it did. -/
def naivePowersSpec : ChangeSpec := { name := "naivePowers", fn := fun _ => fun
  | [d1, d2, d3] => { results := [.lit (.bool true)], args := [d1, d2, d3] }
  | _ => none }
def naivePowersRow : OpenClaim := { program := "ytpbplcbdejoolaa", sum := "86b677f5ea0b066e4e257de2d16a5f79b9a6a9b822a3ab965ffa4afc3bc7762d", func := "turnkey/turnkeylaw23.NaivePowers", spec := "naivePowers", named := ["math/bits.divideError", "math/bits.overflowError"], apart := false }
def NaivePowersSaid : Prop := naivePowersRow.holds Try.pinned (OpenSpec.ofChange naivePowersSpec)

/-- ITS FALSE NEIGHBOUR: 'it returns false'. Refute it at one input. -/
def naivePowersWrong : ChangeSpec := { name := "naivePowers", fn := fun _ => fun
  | [d1, d2, d3] => { results := [.lit (.bool false)], args := [d1, d2, d3] }
  | _ => none }
def NaivePowersWrongFalsely : Prop := naivePowersRow.holds Try.pinned (OpenSpec.ofChange naivePowersWrong)

/-- 'turnkeylaw23.NaiveCounts': WHATEVER THE INPUT: true; the input reads as it did. -/
def naiveCountsSpec : ChangeSpec := { name := "naiveCounts", fn := fun _ => fun
  | [d] => { results := [.lit (.bool true)], args := [d] }
  | _ => none }
def naiveCountsRow : OpenClaim := { program := "ytpbplcbdejoolaa", sum := "86b677f5ea0b066e4e257de2d16a5f79b9a6a9b822a3ab965ffa4afc3bc7762d", func := "turnkey/turnkeylaw23.NaiveCounts", spec := "naiveCounts", named := ["math/bits.divideError", "math/bits.overflowError"], apart := false }
def NaiveCountsSaid : Prop := naiveCountsRow.holds Try.pinned (OpenSpec.ofChange naiveCountsSpec)

/-- ITS FALSE NEIGHBOUR: 'it returns false'. Refute it at one input. -/
def naiveCountsWrong : ChangeSpec := { name := "naiveCounts", fn := fun _ => fun
  | [d] => { results := [.lit (.bool false)], args := [d] }
  | _ => none }
def NaiveCountsWrongFalsely : Prop := naiveCountsRow.holds Try.pinned (OpenSpec.ofChange naiveCountsWrong)

/-- 'turnkeylaw23.NaiveCalls': WHATEVER THE INPUT: true; the input reads as it did. -/
def naiveCallsSpec : ChangeSpec := { name := "naiveCalls", fn := fun _ => fun
  | [d] => { results := [.lit (.bool true)], args := [d] }
  | _ => none }
def naiveCallsRow : OpenClaim := { program := "ytpbplcbdejoolaa", sum := "86b677f5ea0b066e4e257de2d16a5f79b9a6a9b822a3ab965ffa4afc3bc7762d", func := "turnkey/turnkeylaw23.NaiveCalls", spec := "naiveCalls", named := ["math/bits.divideError", "math/bits.overflowError"], apart := false }
def NaiveCallsSaid : Prop := naiveCallsRow.holds Try.pinned (OpenSpec.ofChange naiveCallsSpec)

/-- ITS FALSE NEIGHBOUR: 'it returns false'. Refute it at one input. -/
def naiveCallsWrong : ChangeSpec := { name := "naiveCalls", fn := fun _ => fun
  | [d] => { results := [.lit (.bool false)], args := [d] }
  | _ => none }
def NaiveCallsWrongFalsely : Prop := naiveCallsRow.holds Try.pinned (OpenSpec.ofChange naiveCallsWrong)

/-- 'turnkeylaw23.NaiveNames': WHATEVER THE INPUT: true; the input reads as it did. -/
def naiveNamesSpec : ChangeSpec := { name := "naiveNames", fn := fun _ => fun
  | [] => { results := [.lit (.bool true)], args := [] }
  | _ => none }
def naiveNamesRow : OpenClaim := { program := "ytpbplcbdejoolaa", sum := "86b677f5ea0b066e4e257de2d16a5f79b9a6a9b822a3ab965ffa4afc3bc7762d", func := "turnkey/turnkeylaw23.NaiveNames", spec := "naiveNames", named := ["math/bits.divideError", "math/bits.overflowError"], apart := false }
def NaiveNamesSaid : Prop := naiveNamesRow.holds Try.pinned (OpenSpec.ofChange naiveNamesSpec)

/-- ITS FALSE NEIGHBOUR: 'it returns false'. Refute it at one input. -/
def naiveNamesWrong : ChangeSpec := { name := "naiveNames", fn := fun _ => fun
  | [] => { results := [.lit (.bool false)], args := [] }
  | _ => none }
def NaiveNamesWrongFalsely : Prop := naiveNamesRow.holds Try.pinned (OpenSpec.ofChange naiveNamesWrong)

/- THE SECOND FORM. 'bulk': how many values and letters a reading holds, each counted each time it is reached (what is shared counts as often as it is met; a slice's spare places count too). A statement '..UptoSaid' is the law's where the arguments, and the package variables that the reading takes, are together of bulk at most 1048576: NARROWER than '..Said'. Prove '..Said' where nothing that the law and all that it calls make is longer than what came in: it says more and counts as full. Else prove '..UptoSaid'. A law counts once. -/
mutual
def uptoBulk {H : Type} : DataW H → Nat
  | .lit (.string bytes) => bytes.length + 1
  | .lit _ => 1
  | .nil => 1
  | .ptr d => uptoBulk d + 1
  | .slice elems spare => uptoBulkAll elems + uptoBulkAll spare + 1
  | .agg parts => uptoBulkAll parts + 1
  | .iface _ d => uptoBulk d + 1
  | .map entries => uptoBulkEntries entries + 1
  | .held _ => 1
def uptoBulkAll {H : Type} : List (DataW H) → Nat
  | [] => 0
  | d :: r => uptoBulk d + uptoBulkAll r
def uptoBulkEntries {H : Type} : List (Lit × DataW H) → Nat
  | [] => 0
  | x :: r => uptoBulkEntry x + uptoBulkEntries r
def uptoBulkEntry {H : Type} : Lit × DataW H → Nat
  | (.string bytes, d) => bytes.length + uptoBulk d + 1
  | (_, d) => uptoBulk d + 1
 end
def uptoSmall : (H : Type) → List (DataW H) → Bool := fun _ ds => decide (uptoBulkAll ds ≤ 1048576)
def OpenSpec.upto (s : _root_.Go.ChangeSpec) : _root_.Go.OpenSpec := { _root_.Go.OpenSpec.ofChange s with cond := some uptoSmall }

/-- 'turnkeylaw23.NaiveBoxes', WHERE WHAT IT READS IS OF BULK AT MOST 1048576: true; the input reads as it did. -/
def naiveBoxesUptoRow : OpenClaim := { program := "ytpbplcbdejoolaa", sum := "86b677f5ea0b066e4e257de2d16a5f79b9a6a9b822a3ab965ffa4afc3bc7762d", func := "turnkey/turnkeylaw23.NaiveBoxes", spec := "naiveBoxes", apart := false, narrowed := true }
def NaiveBoxesUptoSaid : Prop := naiveBoxesUptoRow.holds Try.pinned (OpenSpec.upto naiveBoxesSpec)

/-- 'turnkeylaw23.NaivePowers', WHERE WHAT IT READS IS OF BULK AT MOST 1048576: true; the input reads as it did. -/
def naivePowersUptoRow : OpenClaim := { program := "ytpbplcbdejoolaa", sum := "86b677f5ea0b066e4e257de2d16a5f79b9a6a9b822a3ab965ffa4afc3bc7762d", func := "turnkey/turnkeylaw23.NaivePowers", spec := "naivePowers", named := ["math/bits.divideError", "math/bits.overflowError"], apart := false, narrowed := true }
def NaivePowersUptoSaid : Prop := naivePowersUptoRow.holds Try.pinned (OpenSpec.upto naivePowersSpec)

/-- 'turnkeylaw23.NaiveCounts', WHERE WHAT IT READS IS OF BULK AT MOST 1048576: true; the input reads as it did. -/
def naiveCountsUptoRow : OpenClaim := { program := "ytpbplcbdejoolaa", sum := "86b677f5ea0b066e4e257de2d16a5f79b9a6a9b822a3ab965ffa4afc3bc7762d", func := "turnkey/turnkeylaw23.NaiveCounts", spec := "naiveCounts", named := ["math/bits.divideError", "math/bits.overflowError"], apart := false, narrowed := true }
def NaiveCountsUptoSaid : Prop := naiveCountsUptoRow.holds Try.pinned (OpenSpec.upto naiveCountsSpec)

/-- 'turnkeylaw23.NaiveCalls', WHERE WHAT IT READS IS OF BULK AT MOST 1048576: true; the input reads as it did. -/
def naiveCallsUptoRow : OpenClaim := { program := "ytpbplcbdejoolaa", sum := "86b677f5ea0b066e4e257de2d16a5f79b9a6a9b822a3ab965ffa4afc3bc7762d", func := "turnkey/turnkeylaw23.NaiveCalls", spec := "naiveCalls", named := ["math/bits.divideError", "math/bits.overflowError"], apart := false, narrowed := true }
def NaiveCallsUptoSaid : Prop := naiveCallsUptoRow.holds Try.pinned (OpenSpec.upto naiveCallsSpec)

/-- 'turnkeylaw23.NaiveNames', WHERE WHAT IT READS IS OF BULK AT MOST 1048576: true; the input reads as it did. -/
def naiveNamesUptoRow : OpenClaim := { program := "ytpbplcbdejoolaa", sum := "86b677f5ea0b066e4e257de2d16a5f79b9a6a9b822a3ab965ffa4afc3bc7762d", func := "turnkey/turnkeylaw23.NaiveNames", spec := "naiveNames", named := ["math/bits.divideError", "math/bits.overflowError"], apart := false, narrowed := true }
def NaiveNamesUptoSaid : Prop := naiveNamesUptoRow.holds Try.pinned (OpenSpec.upto naiveNamesSpec)

end Rows
end Go.Proofs.Ytpbplcbdejoolaa
