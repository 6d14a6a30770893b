/-
  No cell of these rows narrows 'for every input' (looked for: loops, veiled, ifaces, maps, wideKeys, modest, calm, conditions, laid).
  DERIVED. THE GIVEN ROWS OF THIS SEAT. 5 by the template 'for every input the law returns true; each argument reads behind the call as it read before'; 0 by the template 'total and deterministic' (their statements: YtfielodchoghlaaTotals.lean).
  GIVEN WITH THE SEED: the statements are not yours to turn. If you find one false, say at which input.
  Laid BY PROGRAM, IN A SANDBOX (cutbox-rows.mjs): the forced cells as the released guide's own fill.sh prints them over the translation d61f91eaa2c86c49… (all of the seat's roots in one cut). By AI agents, Wed Nov 11 2026. No macro, syntax, notation, axiom, sorry.
-/
import Derived.Test.YtfielodchoghlaaChecked
import GoSem.Claim
import GoSem.ClaimJoined
import GoSem.ClaimMapViews
import Derived.JoinedTies
import Derived.KernelRfl
namespace Go.Proofs.Ytfielodchoghlaa
/- THE CELL 'sum', in the pinned program and in every row, IS THE sha256 OF THE DUMP (.gsa) THAT YtfielodchoghlaaProg.lean LOADS. Nothing in Lean hashes anything: it is a label: what it is worth is what the hold of that sum in a sandbox is worth. -/
noncomputable def Try.pinned : Pinned := { name := "ytfielodchoghlaa", sum := "d61f91eaa2c86c49c5c0a2c42a9b3d3e63218bc380b9d46d0661004c08fc910b", checked := Try.checked }
namespace Rows
def none {H : Type} : Left H := { results := [], args := [] }

/-- 'turnkeylaw27.TraceHolds': WHATEVER THE INPUT: true; the input reads as it did. -/
def traceHoldsSpec : ChangeSpec := { name := "traceHolds", fn := fun _ => fun
  | [d1, d2] => { results := [.lit (.bool true)], args := [d1, d2] }
  | _ => none }
def traceHoldsRow : OpenClaim := { program := "ytfielodchoghlaa", sum := "d61f91eaa2c86c49c5c0a2c42a9b3d3e63218bc380b9d46d0661004c08fc910b", func := "turnkey/turnkeylaw27.TraceHolds", spec := "traceHolds", plainKeys := false, apart := false }
def TraceHoldsSaid : Prop := traceHoldsRow.holds Try.pinned (OpenSpec.ofChange traceHoldsSpec)

/-- ITS FALSE NEIGHBOUR: 'it returns false'. Refute it at one input. -/
def traceHoldsWrong : ChangeSpec := { name := "traceHolds", fn := fun _ => fun
  | [d1, d2] => { results := [.lit (.bool false)], args := [d1, d2] }
  | _ => none }
def TraceHoldsWrongFalsely : Prop := traceHoldsRow.holds Try.pinned (OpenSpec.ofChange traceHoldsWrong)

/-- 'turnkeylaw27.TraceFlats': WHATEVER THE INPUT: true; the input reads as it did. -/
def traceFlatsSpec : ChangeSpec := { name := "traceFlats", fn := fun _ => fun
  | [d1, d2] => { results := [.lit (.bool true)], args := [d1, d2] }
  | _ => none }
def traceFlatsRow : OpenClaim := { program := "ytfielodchoghlaa", sum := "d61f91eaa2c86c49c5c0a2c42a9b3d3e63218bc380b9d46d0661004c08fc910b", func := "turnkey/turnkeylaw27.TraceFlats", spec := "traceFlats", plainKeys := false, apart := false }
def TraceFlatsSaid : Prop := traceFlatsRow.holds Try.pinned (OpenSpec.ofChange traceFlatsSpec)

/-- ITS FALSE NEIGHBOUR: 'it returns false'. Refute it at one input. -/
def traceFlatsWrong : ChangeSpec := { name := "traceFlats", fn := fun _ => fun
  | [d1, d2] => { results := [.lit (.bool false)], args := [d1, d2] }
  | _ => none }
def TraceFlatsWrongFalsely : Prop := traceFlatsRow.holds Try.pinned (OpenSpec.ofChange traceFlatsWrong)

/-- 'turnkeylaw27.TraceFar': WHATEVER THE INPUT: true; the input reads as it did. -/
def traceFarSpec : ChangeSpec := { name := "traceFar", fn := fun _ => fun
  | [d1, d2, d3] => { results := [.lit (.bool true)], args := [d1, d2, d3] }
  | _ => none }
def traceFarRow : OpenClaim := { program := "ytfielodchoghlaa", sum := "d61f91eaa2c86c49c5c0a2c42a9b3d3e63218bc380b9d46d0661004c08fc910b", func := "turnkey/turnkeylaw27.TraceFar", spec := "traceFar", plainKeys := false, apart := false }
def TraceFarSaid : Prop := traceFarRow.holds Try.pinned (OpenSpec.ofChange traceFarSpec)

/-- ITS FALSE NEIGHBOUR: 'it returns false'. Refute it at one input. -/
def traceFarWrong : ChangeSpec := { name := "traceFar", fn := fun _ => fun
  | [d1, d2, d3] => { results := [.lit (.bool false)], args := [d1, d2, d3] }
  | _ => none }
def TraceFarWrongFalsely : Prop := traceFarRow.holds Try.pinned (OpenSpec.ofChange traceFarWrong)

/-- 'turnkeylaw27.TraceNames': WHATEVER THE INPUT: true; the input reads as it did. -/
def traceNamesSpec : ChangeSpec := { name := "traceNames", fn := fun _ => fun
  | [] => { results := [.lit (.bool true)], args := [] }
  | _ => none }
def traceNamesRow : OpenClaim := { program := "ytfielodchoghlaa", sum := "d61f91eaa2c86c49c5c0a2c42a9b3d3e63218bc380b9d46d0661004c08fc910b", func := "turnkey/turnkeylaw27.TraceNames", spec := "traceNames", inPlace := ["internal/reflectlite.ValueOf", "internal/reflectlite.Swapper", "(internal/reflectlite.Value).Len"], unfollowed := true, recurses := true, plainKeys := false, apart := false }
def TraceNamesSaid : Prop := traceNamesRow.holds Try.pinned (OpenSpec.ofChange traceNamesSpec)

/-- ITS FALSE NEIGHBOUR: 'it returns false'. Refute it at one input. -/
def traceNamesWrong : ChangeSpec := { name := "traceNames", fn := fun _ => fun
  | [] => { results := [.lit (.bool false)], args := [] }
  | _ => none }
def TraceNamesWrongFalsely : Prop := traceNamesRow.holds Try.pinned (OpenSpec.ofChange traceNamesWrong)

/-- 'turnkeylaw27.TraceWhole': WHATEVER THE INPUT: true; the input reads as it did. -/
def traceWholeSpec : ChangeSpec := { name := "traceWhole", fn := fun _ => fun
  | [d] => { results := [.lit (.bool true)], args := [d] }
  | _ => none }
def traceWholeRow : OpenClaim := { program := "ytfielodchoghlaa", sum := "d61f91eaa2c86c49c5c0a2c42a9b3d3e63218bc380b9d46d0661004c08fc910b", func := "turnkey/turnkeylaw27.TraceWhole", spec := "traceWhole", inPlace := ["internal/reflectlite.ValueOf", "internal/reflectlite.Swapper", "(internal/reflectlite.Value).Len"], unfollowed := true, recurses := true, plainKeys := false, apart := false }
def TraceWholeSaid : Prop := traceWholeRow.holds Try.pinned (OpenSpec.ofChange traceWholeSpec)

/-- ITS FALSE NEIGHBOUR: 'it returns false'. Refute it at one input. -/
def traceWholeWrong : ChangeSpec := { name := "traceWhole", fn := fun _ => fun
  | [d] => { results := [.lit (.bool false)], args := [d] }
  | _ => none }
def TraceWholeWrongFalsely : Prop := traceWholeRow.holds Try.pinned (OpenSpec.ofChange traceWholeWrong)

/- THE SECOND FORM. 'bulk': how many values and letters a reading holds, each counted each time it is reached (what is shared counts as often as it is met; a slice's spare places count too). A statement '..UptoSaid' is the law's where the arguments, and the package variables that the reading takes, are together of bulk at most 1048576: NARROWER than '..Said'. Prove '..Said' where nothing that the law and all that it calls make is longer than what came in: it says more and counts as full. Else prove '..UptoSaid'. A law counts once. -/
mutual
def uptoBulk {H : Type} : DataW H → Nat
  | .lit (.string bytes) => bytes.length + 1
  | .lit _ => 1
  | .nil => 1
  | .ptr d => uptoBulk d + 1
  | .slice elems spare => uptoBulkAll elems + uptoBulkAll spare + 1
  | .agg parts => uptoBulkAll parts + 1
  | .iface _ d => uptoBulk d + 1
  | .map entries => uptoBulkEntries entries + 1
  | .held _ => 1
def uptoBulkAll {H : Type} : List (DataW H) → Nat
  | [] => 0
  | d :: r => uptoBulk d + uptoBulkAll r
def uptoBulkEntries {H : Type} : List (Lit × DataW H) → Nat
  | [] => 0
  | x :: r => uptoBulkEntry x + uptoBulkEntries r
def uptoBulkEntry {H : Type} : Lit × DataW H → Nat
  | (.string bytes, d) => bytes.length + uptoBulk d + 1
  | (_, d) => uptoBulk d + 1
 end
def uptoSmall : (H : Type) → List (DataW H) → Bool := fun _ ds => decide (uptoBulkAll ds ≤ 1048576)
def OpenSpec.upto (s : _root_.Go.ChangeSpec) : _root_.Go.OpenSpec := { _root_.Go.OpenSpec.ofChange s with cond := some uptoSmall }

/-- 'turnkeylaw27.TraceHolds', WHERE WHAT IT READS IS OF BULK AT MOST 1048576: true; the input reads as it did. -/
def traceHoldsUptoRow : OpenClaim := { program := "ytfielodchoghlaa", sum := "d61f91eaa2c86c49c5c0a2c42a9b3d3e63218bc380b9d46d0661004c08fc910b", func := "turnkey/turnkeylaw27.TraceHolds", spec := "traceHolds", plainKeys := false, apart := false, narrowed := true }
def TraceHoldsUptoSaid : Prop := traceHoldsUptoRow.holds Try.pinned (OpenSpec.upto traceHoldsSpec)

/-- 'turnkeylaw27.TraceFlats', WHERE WHAT IT READS IS OF BULK AT MOST 1048576: true; the input reads as it did. -/
def traceFlatsUptoRow : OpenClaim := { program := "ytfielodchoghlaa", sum := "d61f91eaa2c86c49c5c0a2c42a9b3d3e63218bc380b9d46d0661004c08fc910b", func := "turnkey/turnkeylaw27.TraceFlats", spec := "traceFlats", plainKeys := false, apart := false, narrowed := true }
def TraceFlatsUptoSaid : Prop := traceFlatsUptoRow.holds Try.pinned (OpenSpec.upto traceFlatsSpec)

/-- 'turnkeylaw27.TraceFar', WHERE WHAT IT READS IS OF BULK AT MOST 1048576: true; the input reads as it did. -/
def traceFarUptoRow : OpenClaim := { program := "ytfielodchoghlaa", sum := "d61f91eaa2c86c49c5c0a2c42a9b3d3e63218bc380b9d46d0661004c08fc910b", func := "turnkey/turnkeylaw27.TraceFar", spec := "traceFar", plainKeys := false, apart := false, narrowed := true }
def TraceFarUptoSaid : Prop := traceFarUptoRow.holds Try.pinned (OpenSpec.upto traceFarSpec)

/-- 'turnkeylaw27.TraceNames', WHERE WHAT IT READS IS OF BULK AT MOST 1048576: true; the input reads as it did. -/
def traceNamesUptoRow : OpenClaim := { program := "ytfielodchoghlaa", sum := "d61f91eaa2c86c49c5c0a2c42a9b3d3e63218bc380b9d46d0661004c08fc910b", func := "turnkey/turnkeylaw27.TraceNames", spec := "traceNames", inPlace := ["internal/reflectlite.ValueOf", "internal/reflectlite.Swapper", "(internal/reflectlite.Value).Len"], unfollowed := true, recurses := true, plainKeys := false, apart := false, narrowed := true }
def TraceNamesUptoSaid : Prop := traceNamesUptoRow.holds Try.pinned (OpenSpec.upto traceNamesSpec)

/-- 'turnkeylaw27.TraceWhole', WHERE WHAT IT READS IS OF BULK AT MOST 1048576: true; the input reads as it did. -/
def traceWholeUptoRow : OpenClaim := { program := "ytfielodchoghlaa", sum := "d61f91eaa2c86c49c5c0a2c42a9b3d3e63218bc380b9d46d0661004c08fc910b", func := "turnkey/turnkeylaw27.TraceWhole", spec := "traceWhole", inPlace := ["internal/reflectlite.ValueOf", "internal/reflectlite.Swapper", "(internal/reflectlite.Value).Len"], unfollowed := true, recurses := true, plainKeys := false, apart := false, narrowed := true }
def TraceWholeUptoSaid : Prop := traceWholeUptoRow.holds Try.pinned (OpenSpec.upto traceWholeSpec)

end Rows
end Go.Proofs.Ytfielodchoghlaa
