/-
  No cell of these rows narrows 'for every input' (looked for: loops, veiled, ifaces, maps, wideKeys, modest, calm, conditions, laid).
  DERIVED. THE GIVEN ROWS OF THIS SEAT. 5 by the template 'for every input the law returns true; each argument reads behind the call as it read before'; 0 by the template 'total and deterministic' (their statements: YtjebjkpklgphlaaTotals.lean).
  GIVEN WITH THE SEED: the statements are not yours to turn. If you find one false, say at which input.
  Laid BY PROGRAM, IN A SANDBOX (cutbox-rows.mjs): the forced cells as the released guide's own fill.sh prints them over the translation 9476808e07d9b059… (all of the seat's roots in one cut). By AI agents, Wed Nov 11 2026. No macro, syntax, notation, axiom, sorry.
-/
import Derived.Test.YtjebjkpklgphlaaChecked
import GoSem.Claim
import GoSem.ClaimJoined
import GoSem.ClaimMapViews
import Derived.JoinedTies
import Derived.KernelRfl
namespace Go.Proofs.Ytjebjkpklgphlaa
/- THE CELL 'sum', in the pinned program and in every row, IS THE sha256 OF THE DUMP (.gsa) THAT YtjebjkpklgphlaaProg.lean LOADS. Nothing in Lean hashes anything: it is a label: what it is worth is what the hold of that sum in a sandbox is worth. -/
noncomputable def Try.pinned : Pinned := { name := "ytjebjkpklgphlaa", sum := "9476808e07d9b0593e302243945b2bafb2f020dec96cb0e1dd43e369e4f5c93a", checked := Try.checked }
namespace Rows
def none {H : Type} : Left H := { results := [], args := [] }

/-- 'turnkeylaw04.Gf8Products': WHATEVER THE INPUT: true; the input reads as it did. -/
def gf8ProductsSpec : ChangeSpec := { name := "gf8Products", fn := fun _ => fun
  | [d1, d2] => { results := [.lit (.bool true)], args := [d1, d2] }
  | _ => none }
def gf8ProductsRow : OpenClaim := { program := "ytjebjkpklgphlaa", sum := "9476808e07d9b0593e302243945b2bafb2f020dec96cb0e1dd43e369e4f5c93a", func := "turnkey/turnkeylaw04.Gf8Products", spec := "gf8Products", apart := false }
def Gf8ProductsSaid : Prop := gf8ProductsRow.holds Try.pinned (OpenSpec.ofChange gf8ProductsSpec)

/-- ITS FALSE NEIGHBOUR: 'it returns false'. Refute it at one input. -/
def gf8ProductsWrong : ChangeSpec := { name := "gf8Products", fn := fun _ => fun
  | [d1, d2] => { results := [.lit (.bool false)], args := [d1, d2] }
  | _ => none }
def Gf8ProductsWrongFalsely : Prop := gf8ProductsRow.holds Try.pinned (OpenSpec.ofChange gf8ProductsWrong)

/-- 'turnkeylaw04.Gf8Boxes': WHATEVER THE INPUT: true; the input reads as it did. -/
def gf8BoxesSpec : ChangeSpec := { name := "gf8Boxes", fn := fun _ => fun
  | [d] => { results := [.lit (.bool true)], args := [d] }
  | _ => none }
def gf8BoxesRow : OpenClaim := { program := "ytjebjkpklgphlaa", sum := "9476808e07d9b0593e302243945b2bafb2f020dec96cb0e1dd43e369e4f5c93a", func := "turnkey/turnkeylaw04.Gf8Boxes", spec := "gf8Boxes", apart := false }
def Gf8BoxesSaid : Prop := gf8BoxesRow.holds Try.pinned (OpenSpec.ofChange gf8BoxesSpec)

/-- ITS FALSE NEIGHBOUR: 'it returns false'. Refute it at one input. -/
def gf8BoxesWrong : ChangeSpec := { name := "gf8Boxes", fn := fun _ => fun
  | [d] => { results := [.lit (.bool false)], args := [d] }
  | _ => none }
def Gf8BoxesWrongFalsely : Prop := gf8BoxesRow.holds Try.pinned (OpenSpec.ofChange gf8BoxesWrong)

/-- 'turnkeylaw04.Gf8Field': WHATEVER THE INPUT: true; the input reads as it did. -/
def gf8FieldSpec : ChangeSpec := { name := "gf8Field", fn := fun _ => fun
  | [d1, d2, d3] => { results := [.lit (.bool true)], args := [d1, d2, d3] }
  | _ => none }
def gf8FieldRow : OpenClaim := { program := "ytjebjkpklgphlaa", sum := "9476808e07d9b0593e302243945b2bafb2f020dec96cb0e1dd43e369e4f5c93a", func := "turnkey/turnkeylaw04.Gf8Field", spec := "gf8Field", apart := false }
def Gf8FieldSaid : Prop := gf8FieldRow.holds Try.pinned (OpenSpec.ofChange gf8FieldSpec)

/-- ITS FALSE NEIGHBOUR: 'it returns false'. Refute it at one input. -/
def gf8FieldWrong : ChangeSpec := { name := "gf8Field", fn := fun _ => fun
  | [d1, d2, d3] => { results := [.lit (.bool false)], args := [d1, d2, d3] }
  | _ => none }
def Gf8FieldWrongFalsely : Prop := gf8FieldRow.holds Try.pinned (OpenSpec.ofChange gf8FieldWrong)

/-- 'turnkeylaw04.Gf8Takes': WHATEVER THE INPUT: true; the input reads as it did. -/
def gf8TakesSpec : ChangeSpec := { name := "gf8Takes", fn := fun _ => fun
  | [d1, d2] => { results := [.lit (.bool true)], args := [d1, d2] }
  | _ => none }
def gf8TakesRow : OpenClaim := { program := "ytjebjkpklgphlaa", sum := "9476808e07d9b0593e302243945b2bafb2f020dec96cb0e1dd43e369e4f5c93a", func := "turnkey/turnkeylaw04.Gf8Takes", spec := "gf8Takes", apart := false }
def Gf8TakesSaid : Prop := gf8TakesRow.holds Try.pinned (OpenSpec.ofChange gf8TakesSpec)

/-- ITS FALSE NEIGHBOUR: 'it returns false'. Refute it at one input. -/
def gf8TakesWrong : ChangeSpec := { name := "gf8Takes", fn := fun _ => fun
  | [d1, d2] => { results := [.lit (.bool false)], args := [d1, d2] }
  | _ => none }
def Gf8TakesWrongFalsely : Prop := gf8TakesRow.holds Try.pinned (OpenSpec.ofChange gf8TakesWrong)

/-- 'turnkeylaw04.Gf8Known': WHATEVER THE INPUT: true; the input reads as it did. -/
def gf8KnownSpec : ChangeSpec := { name := "gf8Known", fn := fun _ => fun
  | [] => { results := [.lit (.bool true)], args := [] }
  | _ => none }
def gf8KnownRow : OpenClaim := { program := "ytjebjkpklgphlaa", sum := "9476808e07d9b0593e302243945b2bafb2f020dec96cb0e1dd43e369e4f5c93a", func := "turnkey/turnkeylaw04.Gf8Known", spec := "gf8Known", apart := false }
def Gf8KnownSaid : Prop := gf8KnownRow.holds Try.pinned (OpenSpec.ofChange gf8KnownSpec)

/-- ITS FALSE NEIGHBOUR: 'it returns false'. Refute it at one input. -/
def gf8KnownWrong : ChangeSpec := { name := "gf8Known", fn := fun _ => fun
  | [] => { results := [.lit (.bool false)], args := [] }
  | _ => none }
def Gf8KnownWrongFalsely : Prop := gf8KnownRow.holds Try.pinned (OpenSpec.ofChange gf8KnownWrong)

/- THE SECOND FORM. 'bulk': how many values and letters a reading holds, each counted each time it is reached (what is shared counts as often as it is met; a slice's spare places count too). A statement '..UptoSaid' is the law's where the arguments, and the package variables that the reading takes, are together of bulk at most 1048576: NARROWER than '..Said'. Prove '..Said' where nothing that the law and all that it calls make is longer than what came in: it says more and counts as full. Else prove '..UptoSaid'. A law counts once. -/
mutual
def uptoBulk {H : Type} : DataW H → Nat
  | .lit (.string bytes) => bytes.length + 1
  | .lit _ => 1
  | .nil => 1
  | .ptr d => uptoBulk d + 1
  | .slice elems spare => uptoBulkAll elems + uptoBulkAll spare + 1
  | .agg parts => uptoBulkAll parts + 1
  | .iface _ d => uptoBulk d + 1
  | .map entries => uptoBulkEntries entries + 1
  | .held _ => 1
def uptoBulkAll {H : Type} : List (DataW H) → Nat
  | [] => 0
  | d :: r => uptoBulk d + uptoBulkAll r
def uptoBulkEntries {H : Type} : List (Lit × DataW H) → Nat
  | [] => 0
  | x :: r => uptoBulkEntry x + uptoBulkEntries r
def uptoBulkEntry {H : Type} : Lit × DataW H → Nat
  | (.string bytes, d) => bytes.length + uptoBulk d + 1
  | (_, d) => uptoBulk d + 1
 end
def uptoSmall : (H : Type) → List (DataW H) → Bool := fun _ ds => decide (uptoBulkAll ds ≤ 1048576)
def OpenSpec.upto (s : _root_.Go.ChangeSpec) : _root_.Go.OpenSpec := { _root_.Go.OpenSpec.ofChange s with cond := some uptoSmall }

/-- 'turnkeylaw04.Gf8Products', WHERE WHAT IT READS IS OF BULK AT MOST 1048576: true; the input reads as it did. -/
def gf8ProductsUptoRow : OpenClaim := { program := "ytjebjkpklgphlaa", sum := "9476808e07d9b0593e302243945b2bafb2f020dec96cb0e1dd43e369e4f5c93a", func := "turnkey/turnkeylaw04.Gf8Products", spec := "gf8Products", apart := false, narrowed := true }
def Gf8ProductsUptoSaid : Prop := gf8ProductsUptoRow.holds Try.pinned (OpenSpec.upto gf8ProductsSpec)

/-- 'turnkeylaw04.Gf8Boxes', WHERE WHAT IT READS IS OF BULK AT MOST 1048576: true; the input reads as it did. -/
def gf8BoxesUptoRow : OpenClaim := { program := "ytjebjkpklgphlaa", sum := "9476808e07d9b0593e302243945b2bafb2f020dec96cb0e1dd43e369e4f5c93a", func := "turnkey/turnkeylaw04.Gf8Boxes", spec := "gf8Boxes", apart := false, narrowed := true }
def Gf8BoxesUptoSaid : Prop := gf8BoxesUptoRow.holds Try.pinned (OpenSpec.upto gf8BoxesSpec)

/-- 'turnkeylaw04.Gf8Field', WHERE WHAT IT READS IS OF BULK AT MOST 1048576: true; the input reads as it did. -/
def gf8FieldUptoRow : OpenClaim := { program := "ytjebjkpklgphlaa", sum := "9476808e07d9b0593e302243945b2bafb2f020dec96cb0e1dd43e369e4f5c93a", func := "turnkey/turnkeylaw04.Gf8Field", spec := "gf8Field", apart := false, narrowed := true }
def Gf8FieldUptoSaid : Prop := gf8FieldUptoRow.holds Try.pinned (OpenSpec.upto gf8FieldSpec)

/-- 'turnkeylaw04.Gf8Takes', WHERE WHAT IT READS IS OF BULK AT MOST 1048576: true; the input reads as it did. -/
def gf8TakesUptoRow : OpenClaim := { program := "ytjebjkpklgphlaa", sum := "9476808e07d9b0593e302243945b2bafb2f020dec96cb0e1dd43e369e4f5c93a", func := "turnkey/turnkeylaw04.Gf8Takes", spec := "gf8Takes", apart := false, narrowed := true }
def Gf8TakesUptoSaid : Prop := gf8TakesUptoRow.holds Try.pinned (OpenSpec.upto gf8TakesSpec)

/-- 'turnkeylaw04.Gf8Known', WHERE WHAT IT READS IS OF BULK AT MOST 1048576: true; the input reads as it did. -/
def gf8KnownUptoRow : OpenClaim := { program := "ytjebjkpklgphlaa", sum := "9476808e07d9b0593e302243945b2bafb2f020dec96cb0e1dd43e369e4f5c93a", func := "turnkey/turnkeylaw04.Gf8Known", spec := "gf8Known", apart := false, narrowed := true }
def Gf8KnownUptoSaid : Prop := gf8KnownUptoRow.holds Try.pinned (OpenSpec.upto gf8KnownSpec)

end Rows
end Go.Proofs.Ytjebjkpklgphlaa
