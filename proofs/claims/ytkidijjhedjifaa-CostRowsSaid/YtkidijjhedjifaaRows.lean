/-
  No cell of these rows narrows 'for every input' (looked for: loops, veiled, ifaces, maps, wideKeys, modest, calm, conditions, laid).
  DERIVED. THE GIVEN ROWS OF THIS SEAT. 6 by the template 'for every input the law returns true; each argument reads behind the call as it read before'; 0 by the template 'total and deterministic' (their statements: YtkidijjhedjifaaTotals.lean).
  GIVEN WITH THE SEED: the statements are not yours to turn. If you find one false, say at which input.
  Laid BY PROGRAM, IN A SANDBOX (cutbox-rows.mjs): the forced cells as the released guide's own fill.sh prints them over the translation a6aad7512c862867… (all of the seat's roots in one cut). By AI agents, Wed Nov 11 2026. No macro, syntax, notation, axiom, sorry.
-/
import Derived.Test.YtkidijjhedjifaaChecked
import GoSem.Claim
import GoSem.ClaimJoined
import GoSem.ClaimMapViews
import Derived.JoinedTies
import Derived.KernelRfl
namespace Go.Proofs.Ytkidijjhedjifaa
/- THE CELL 'sum', in the pinned program and in every row, IS THE sha256 OF THE DUMP (.gsa) THAT YtkidijjhedjifaaProg.lean LOADS. Nothing in Lean hashes anything: it is a label: what it is worth is what the hold of that sum in a sandbox is worth. -/
noncomputable def Try.pinned : Pinned := { name := "ytkidijjhedjifaa", sum := "a6aad7512c862867a098a7cdcec9c9bda6d5135d4eeebf663ea48e18744a77f2", checked := Try.checked }
namespace Rows
def none {H : Type} : Left H := { results := [], args := [] }

/-- 'turnkeylaw22.CostBegins': WHATEVER THE INPUT: true; the input reads as it did. -/
def costBeginsSpec : ChangeSpec := { name := "costBegins", fn := fun _ => fun
  | [d1, d2] => { results := [.lit (.bool true)], args := [d1, d2] }
  | _ => none }
def costBeginsRow : OpenClaim := { program := "ytkidijjhedjifaa", sum := "a6aad7512c862867a098a7cdcec9c9bda6d5135d4eeebf663ea48e18744a77f2", func := "turnkey/turnkeylaw22.CostBegins", spec := "costBegins", unfollowed := true, recurses := true, apart := false }
def CostBeginsSaid : Prop := costBeginsRow.holds Try.pinned (OpenSpec.ofChange costBeginsSpec)

/-- ITS FALSE NEIGHBOUR: 'it returns false'. Refute it at one input. -/
def costBeginsWrong : ChangeSpec := { name := "costBegins", fn := fun _ => fun
  | [d1, d2] => { results := [.lit (.bool false)], args := [d1, d2] }
  | _ => none }
def CostBeginsWrongFalsely : Prop := costBeginsRow.holds Try.pinned (OpenSpec.ofChange costBeginsWrong)

/-- 'turnkeylaw22.CostRows': WHATEVER THE INPUT: true; the input reads as it did. -/
def costRowsSpec : ChangeSpec := { name := "costRows", fn := fun _ => fun
  | [d] => { results := [.lit (.bool true)], args := [d] }
  | _ => none }
def costRowsRow : OpenClaim := { program := "ytkidijjhedjifaa", sum := "a6aad7512c862867a098a7cdcec9c9bda6d5135d4eeebf663ea48e18744a77f2", func := "turnkey/turnkeylaw22.CostRows", spec := "costRows", unfollowed := true, recurses := true, apart := false }
def CostRowsSaid : Prop := costRowsRow.holds Try.pinned (OpenSpec.ofChange costRowsSpec)

/-- ITS FALSE NEIGHBOUR: 'it returns false'. Refute it at one input. -/
def costRowsWrong : ChangeSpec := { name := "costRows", fn := fun _ => fun
  | [d] => { results := [.lit (.bool false)], args := [d] }
  | _ => none }
def CostRowsWrongFalsely : Prop := costRowsRow.holds Try.pinned (OpenSpec.ofChange costRowsWrong)

/-- 'turnkeylaw22.CostUses': WHATEVER THE INPUT: true; the input reads as it did. -/
def costUsesSpec : ChangeSpec := { name := "costUses", fn := fun _ => fun
  | [d1, d2] => { results := [.lit (.bool true)], args := [d1, d2] }
  | _ => none }
def costUsesRow : OpenClaim := { program := "ytkidijjhedjifaa", sum := "a6aad7512c862867a098a7cdcec9c9bda6d5135d4eeebf663ea48e18744a77f2", func := "turnkey/turnkeylaw22.CostUses", spec := "costUses", unfollowed := true, recurses := true, apart := false }
def CostUsesSaid : Prop := costUsesRow.holds Try.pinned (OpenSpec.ofChange costUsesSpec)

/-- ITS FALSE NEIGHBOUR: 'it returns false'. Refute it at one input. -/
def costUsesWrong : ChangeSpec := { name := "costUses", fn := fun _ => fun
  | [d1, d2] => { results := [.lit (.bool false)], args := [d1, d2] }
  | _ => none }
def CostUsesWrongFalsely : Prop := costUsesRow.holds Try.pinned (OpenSpec.ofChange costUsesWrong)

/-- 'turnkeylaw22.CostBounds': WHATEVER THE INPUT: true; the input reads as it did. -/
def costBoundsSpec : ChangeSpec := { name := "costBounds", fn := fun _ => fun
  | [d] => { results := [.lit (.bool true)], args := [d] }
  | _ => none }
def costBoundsRow : OpenClaim := { program := "ytkidijjhedjifaa", sum := "a6aad7512c862867a098a7cdcec9c9bda6d5135d4eeebf663ea48e18744a77f2", func := "turnkey/turnkeylaw22.CostBounds", spec := "costBounds", unfollowed := true, recurses := true, apart := false }
def CostBoundsSaid : Prop := costBoundsRow.holds Try.pinned (OpenSpec.ofChange costBoundsSpec)

/-- ITS FALSE NEIGHBOUR: 'it returns false'. Refute it at one input. -/
def costBoundsWrong : ChangeSpec := { name := "costBounds", fn := fun _ => fun
  | [d] => { results := [.lit (.bool false)], args := [d] }
  | _ => none }
def CostBoundsWrongFalsely : Prop := costBoundsRow.holds Try.pinned (OpenSpec.ofChange costBoundsWrong)

/-- 'turnkeylaw22.CostNone': WHATEVER THE INPUT: true; the input reads as it did. -/
def costNoneSpec : ChangeSpec := { name := "costNone", fn := fun _ => fun
  | [d] => { results := [.lit (.bool true)], args := [d] }
  | _ => none }
def costNoneRow : OpenClaim := { program := "ytkidijjhedjifaa", sum := "a6aad7512c862867a098a7cdcec9c9bda6d5135d4eeebf663ea48e18744a77f2", func := "turnkey/turnkeylaw22.CostNone", spec := "costNone", unfollowed := true, recurses := true, apart := false }
def CostNoneSaid : Prop := costNoneRow.holds Try.pinned (OpenSpec.ofChange costNoneSpec)

/-- ITS FALSE NEIGHBOUR: 'it returns false'. Refute it at one input. -/
def costNoneWrong : ChangeSpec := { name := "costNone", fn := fun _ => fun
  | [d] => { results := [.lit (.bool false)], args := [d] }
  | _ => none }
def CostNoneWrongFalsely : Prop := costNoneRow.holds Try.pinned (OpenSpec.ofChange costNoneWrong)

/-- 'turnkeylaw22.CostKnown': WHATEVER THE INPUT: true; the input reads as it did. -/
def costKnownSpec : ChangeSpec := { name := "costKnown", fn := fun _ => fun
  | [] => { results := [.lit (.bool true)], args := [] }
  | _ => none }
def costKnownRow : OpenClaim := { program := "ytkidijjhedjifaa", sum := "a6aad7512c862867a098a7cdcec9c9bda6d5135d4eeebf663ea48e18744a77f2", func := "turnkey/turnkeylaw22.CostKnown", spec := "costKnown", unfollowed := true, recurses := true, apart := false }
def CostKnownSaid : Prop := costKnownRow.holds Try.pinned (OpenSpec.ofChange costKnownSpec)

/-- ITS FALSE NEIGHBOUR: 'it returns false'. Refute it at one input. -/
def costKnownWrong : ChangeSpec := { name := "costKnown", fn := fun _ => fun
  | [] => { results := [.lit (.bool false)], args := [] }
  | _ => none }
def CostKnownWrongFalsely : Prop := costKnownRow.holds Try.pinned (OpenSpec.ofChange costKnownWrong)

/- THE SECOND FORM. 'bulk': how many values and letters a reading holds, each counted each time it is reached (what is shared counts as often as it is met; a slice's spare places count too). A statement '..UptoSaid' is the law's where the arguments, and the package variables that the reading takes, are together of bulk at most 1048576: NARROWER than '..Said'. Prove '..Said' where nothing that the law and all that it calls make is longer than what came in: it says more and counts as full. Else prove '..UptoSaid'. A law counts once. -/
mutual
def uptoBulk {H : Type} : DataW H → Nat
  | .lit (.string bytes) => bytes.length + 1
  | .lit _ => 1
  | .nil => 1
  | .ptr d => uptoBulk d + 1
  | .slice elems spare => uptoBulkAll elems + uptoBulkAll spare + 1
  | .agg parts => uptoBulkAll parts + 1
  | .iface _ d => uptoBulk d + 1
  | .map entries => uptoBulkEntries entries + 1
  | .held _ => 1
def uptoBulkAll {H : Type} : List (DataW H) → Nat
  | [] => 0
  | d :: r => uptoBulk d + uptoBulkAll r
def uptoBulkEntries {H : Type} : List (Lit × DataW H) → Nat
  | [] => 0
  | x :: r => uptoBulkEntry x + uptoBulkEntries r
def uptoBulkEntry {H : Type} : Lit × DataW H → Nat
  | (.string bytes, d) => bytes.length + uptoBulk d + 1
  | (_, d) => uptoBulk d + 1
 end
def uptoSmall : (H : Type) → List (DataW H) → Bool := fun _ ds => decide (uptoBulkAll ds ≤ 1048576)
def OpenSpec.upto (s : _root_.Go.ChangeSpec) : _root_.Go.OpenSpec := { _root_.Go.OpenSpec.ofChange s with cond := some uptoSmall }

/-- 'turnkeylaw22.CostBegins', WHERE WHAT IT READS IS OF BULK AT MOST 1048576: true; the input reads as it did. -/
def costBeginsUptoRow : OpenClaim := { program := "ytkidijjhedjifaa", sum := "a6aad7512c862867a098a7cdcec9c9bda6d5135d4eeebf663ea48e18744a77f2", func := "turnkey/turnkeylaw22.CostBegins", spec := "costBegins", unfollowed := true, recurses := true, apart := false, narrowed := true }
def CostBeginsUptoSaid : Prop := costBeginsUptoRow.holds Try.pinned (OpenSpec.upto costBeginsSpec)

/-- 'turnkeylaw22.CostRows', WHERE WHAT IT READS IS OF BULK AT MOST 1048576: true; the input reads as it did. -/
def costRowsUptoRow : OpenClaim := { program := "ytkidijjhedjifaa", sum := "a6aad7512c862867a098a7cdcec9c9bda6d5135d4eeebf663ea48e18744a77f2", func := "turnkey/turnkeylaw22.CostRows", spec := "costRows", unfollowed := true, recurses := true, apart := false, narrowed := true }
def CostRowsUptoSaid : Prop := costRowsUptoRow.holds Try.pinned (OpenSpec.upto costRowsSpec)

/-- 'turnkeylaw22.CostUses', WHERE WHAT IT READS IS OF BULK AT MOST 1048576: true; the input reads as it did. -/
def costUsesUptoRow : OpenClaim := { program := "ytkidijjhedjifaa", sum := "a6aad7512c862867a098a7cdcec9c9bda6d5135d4eeebf663ea48e18744a77f2", func := "turnkey/turnkeylaw22.CostUses", spec := "costUses", unfollowed := true, recurses := true, apart := false, narrowed := true }
def CostUsesUptoSaid : Prop := costUsesUptoRow.holds Try.pinned (OpenSpec.upto costUsesSpec)

/-- 'turnkeylaw22.CostBounds', WHERE WHAT IT READS IS OF BULK AT MOST 1048576: true; the input reads as it did. -/
def costBoundsUptoRow : OpenClaim := { program := "ytkidijjhedjifaa", sum := "a6aad7512c862867a098a7cdcec9c9bda6d5135d4eeebf663ea48e18744a77f2", func := "turnkey/turnkeylaw22.CostBounds", spec := "costBounds", unfollowed := true, recurses := true, apart := false, narrowed := true }
def CostBoundsUptoSaid : Prop := costBoundsUptoRow.holds Try.pinned (OpenSpec.upto costBoundsSpec)

/-- 'turnkeylaw22.CostNone', WHERE WHAT IT READS IS OF BULK AT MOST 1048576: true; the input reads as it did. -/
def costNoneUptoRow : OpenClaim := { program := "ytkidijjhedjifaa", sum := "a6aad7512c862867a098a7cdcec9c9bda6d5135d4eeebf663ea48e18744a77f2", func := "turnkey/turnkeylaw22.CostNone", spec := "costNone", unfollowed := true, recurses := true, apart := false, narrowed := true }
def CostNoneUptoSaid : Prop := costNoneUptoRow.holds Try.pinned (OpenSpec.upto costNoneSpec)

/-- 'turnkeylaw22.CostKnown', WHERE WHAT IT READS IS OF BULK AT MOST 1048576: true; the input reads as it did. -/
def costKnownUptoRow : OpenClaim := { program := "ytkidijjhedjifaa", sum := "a6aad7512c862867a098a7cdcec9c9bda6d5135d4eeebf663ea48e18744a77f2", func := "turnkey/turnkeylaw22.CostKnown", spec := "costKnown", unfollowed := true, recurses := true, apart := false, narrowed := true }
def CostKnownUptoSaid : Prop := costKnownUptoRow.holds Try.pinned (OpenSpec.upto costKnownSpec)

end Rows
end Go.Proofs.Ytkidijjhedjifaa
