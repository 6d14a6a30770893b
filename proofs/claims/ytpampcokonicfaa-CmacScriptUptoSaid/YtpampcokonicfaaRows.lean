/-
  No cell of these rows narrows 'for every input' (looked for: loops, veiled, ifaces, maps, wideKeys, modest, calm, conditions, laid).
  DERIVED. THE GIVEN ROWS OF THIS SEAT. 6 by the template 'for every input the law returns true; each argument reads behind the call as it read before'; 0 by the template 'total and deterministic' (their statements: YtpampcokonicfaaTotals.lean).
  GIVEN WITH THE SEED: the statements are not yours to turn. If you find one false, say at which input.
  Laid BY PROGRAM, IN A SANDBOX (cutbox-rows.mjs): the forced cells as the released guide's own fill.sh prints them over the translation f533ab161266df39… (all of the seat's roots in one cut). By AI agents, Wed Nov 11 2026. No macro, syntax, notation, axiom, sorry.
-/
import Derived.Test.YtpampcokonicfaaChecked
import GoSem.Claim
import GoSem.ClaimJoined
import GoSem.ClaimMapViews
import Derived.JoinedTies
import Derived.KernelRfl
namespace Go.Proofs.Ytpampcokonicfaa
/- THE CELL 'sum', in the pinned program and in every row, IS THE sha256 OF THE DUMP (.gsa) THAT YtpampcokonicfaaProg.lean LOADS. Nothing in Lean hashes anything: it is a label: what it is worth is what the hold of that sum in a sandbox is worth. -/
noncomputable def Try.pinned : Pinned := { name := "ytpampcokonicfaa", sum := "f533ab161266df393ffc4f6500802b9633b6f5541984f57249159e2a39f68e85", checked := Try.checked }
namespace Rows
def none {H : Type} : Left H := { results := [], args := [] }

/-- 'turnkeylaw13.CmacForms': WHATEVER THE INPUT: true; the input reads as it did. -/
def cmacFormsSpec : ChangeSpec := { name := "cmacForms", fn := fun _ => fun
  | [d] => { results := [.lit (.bool true)], args := [d] }
  | _ => none }
def cmacFormsRow : OpenClaim := { program := "ytpampcokonicfaa", sum := "f533ab161266df393ffc4f6500802b9633b6f5541984f57249159e2a39f68e85", func := "turnkey/turnkeylaw13.CmacForms", spec := "cmacForms", apart := false }
def CmacFormsSaid : Prop := cmacFormsRow.holds Try.pinned (OpenSpec.ofChange cmacFormsSpec)

/-- ITS FALSE NEIGHBOUR: 'it returns false'. Refute it at one input. -/
def cmacFormsWrong : ChangeSpec := { name := "cmacForms", fn := fun _ => fun
  | [d] => { results := [.lit (.bool false)], args := [d] }
  | _ => none }
def CmacFormsWrongFalsely : Prop := cmacFormsRow.holds Try.pinned (OpenSpec.ofChange cmacFormsWrong)

/-- 'turnkeylaw13.CmacPieces': WHATEVER THE INPUT: true; the input reads as it did. -/
def cmacPiecesSpec : ChangeSpec := { name := "cmacPieces", fn := fun _ => fun
  | [d1, d2, d3] => { results := [.lit (.bool true)], args := [d1, d2, d3] }
  | _ => none }
def cmacPiecesRow : OpenClaim := { program := "ytpampcokonicfaa", sum := "f533ab161266df393ffc4f6500802b9633b6f5541984f57249159e2a39f68e85", func := "turnkey/turnkeylaw13.CmacPieces", spec := "cmacPieces", apart := false }
def CmacPiecesSaid : Prop := cmacPiecesRow.holds Try.pinned (OpenSpec.ofChange cmacPiecesSpec)

/-- ITS FALSE NEIGHBOUR: 'it returns false'. Refute it at one input. -/
def cmacPiecesWrong : ChangeSpec := { name := "cmacPieces", fn := fun _ => fun
  | [d1, d2, d3] => { results := [.lit (.bool false)], args := [d1, d2, d3] }
  | _ => none }
def CmacPiecesWrongFalsely : Prop := cmacPiecesRow.holds Try.pinned (OpenSpec.ofChange cmacPiecesWrong)

/-- 'turnkeylaw13.CmacKnown': WHATEVER THE INPUT: true; the input reads as it did. -/
def cmacKnownSpec : ChangeSpec := { name := "cmacKnown", fn := fun _ => fun
  | [] => { results := [.lit (.bool true)], args := [] }
  | _ => none }
def cmacKnownRow : OpenClaim := { program := "ytpampcokonicfaa", sum := "f533ab161266df393ffc4f6500802b9633b6f5541984f57249159e2a39f68e85", func := "turnkey/turnkeylaw13.CmacKnown", spec := "cmacKnown", apart := false }
def CmacKnownSaid : Prop := cmacKnownRow.holds Try.pinned (OpenSpec.ofChange cmacKnownSpec)

/-- ITS FALSE NEIGHBOUR: 'it returns false'. Refute it at one input. -/
def cmacKnownWrong : ChangeSpec := { name := "cmacKnown", fn := fun _ => fun
  | [] => { results := [.lit (.bool false)], args := [] }
  | _ => none }
def CmacKnownWrongFalsely : Prop := cmacKnownRow.holds Try.pinned (OpenSpec.ofChange cmacKnownWrong)

/-- 'turnkeylaw13.CmacClones': WHATEVER THE INPUT: true; the input reads as it did. -/
def cmacClonesSpec : ChangeSpec := { name := "cmacClones", fn := fun _ => fun
  | [d1, d2, d3, d4] => { results := [.lit (.bool true)], args := [d1, d2, d3, d4] }
  | _ => none }
def cmacClonesRow : OpenClaim := { program := "ytpampcokonicfaa", sum := "f533ab161266df393ffc4f6500802b9633b6f5541984f57249159e2a39f68e85", func := "turnkey/turnkeylaw13.CmacClones", spec := "cmacClones", apart := false }
def CmacClonesSaid : Prop := cmacClonesRow.holds Try.pinned (OpenSpec.ofChange cmacClonesSpec)

/-- ITS FALSE NEIGHBOUR: 'it returns false'. Refute it at one input. -/
def cmacClonesWrong : ChangeSpec := { name := "cmacClones", fn := fun _ => fun
  | [d1, d2, d3, d4] => { results := [.lit (.bool false)], args := [d1, d2, d3, d4] }
  | _ => none }
def CmacClonesWrongFalsely : Prop := cmacClonesRow.holds Try.pinned (OpenSpec.ofChange cmacClonesWrong)

/-- 'turnkeylaw13.CmacScript': WHATEVER THE INPUT: true; the input reads as it did. -/
def cmacScriptSpec : ChangeSpec := { name := "cmacScript", fn := fun _ => fun
  | [d1, d2, d3] => { results := [.lit (.bool true)], args := [d1, d2, d3] }
  | _ => none }
def cmacScriptRow : OpenClaim := { program := "ytpampcokonicfaa", sum := "f533ab161266df393ffc4f6500802b9633b6f5541984f57249159e2a39f68e85", func := "turnkey/turnkeylaw13.CmacScript", spec := "cmacScript", apart := false }
def CmacScriptSaid : Prop := cmacScriptRow.holds Try.pinned (OpenSpec.ofChange cmacScriptSpec)

/-- ITS FALSE NEIGHBOUR: 'it returns false'. Refute it at one input. -/
def cmacScriptWrong : ChangeSpec := { name := "cmacScript", fn := fun _ => fun
  | [d1, d2, d3] => { results := [.lit (.bool false)], args := [d1, d2, d3] }
  | _ => none }
def CmacScriptWrongFalsely : Prop := cmacScriptRow.holds Try.pinned (OpenSpec.ofChange cmacScriptWrong)

/-- 'turnkeylaw13.CmacNone': WHATEVER THE INPUT: true; the input reads as it did. -/
def cmacNoneSpec : ChangeSpec := { name := "cmacNone", fn := fun _ => fun
  | [d] => { results := [.lit (.bool true)], args := [d] }
  | _ => none }
def cmacNoneRow : OpenClaim := { program := "ytpampcokonicfaa", sum := "f533ab161266df393ffc4f6500802b9633b6f5541984f57249159e2a39f68e85", func := "turnkey/turnkeylaw13.CmacNone", spec := "cmacNone", apart := false }
def CmacNoneSaid : Prop := cmacNoneRow.holds Try.pinned (OpenSpec.ofChange cmacNoneSpec)

/-- ITS FALSE NEIGHBOUR: 'it returns false'. Refute it at one input. -/
def cmacNoneWrong : ChangeSpec := { name := "cmacNone", fn := fun _ => fun
  | [d] => { results := [.lit (.bool false)], args := [d] }
  | _ => none }
def CmacNoneWrongFalsely : Prop := cmacNoneRow.holds Try.pinned (OpenSpec.ofChange cmacNoneWrong)

/- THE SECOND FORM. 'bulk': how many values and letters a reading holds, each counted each time it is reached (what is shared counts as often as it is met; a slice's spare places count too). A statement '..UptoSaid' is the law's where the arguments, and the package variables that the reading takes, are together of bulk at most 1048576: NARROWER than '..Said'. Prove '..Said' where nothing that the law and all that it calls make is longer than what came in: it says more and counts as full. Else prove '..UptoSaid'. A law counts once. -/
mutual
def uptoBulk {H : Type} : DataW H → Nat
  | .lit (.string bytes) => bytes.length + 1
  | .lit _ => 1
  | .nil => 1
  | .ptr d => uptoBulk d + 1
  | .slice elems spare => uptoBulkAll elems + uptoBulkAll spare + 1
  | .agg parts => uptoBulkAll parts + 1
  | .iface _ d => uptoBulk d + 1
  | .map entries => uptoBulkEntries entries + 1
  | .held _ => 1
def uptoBulkAll {H : Type} : List (DataW H) → Nat
  | [] => 0
  | d :: r => uptoBulk d + uptoBulkAll r
def uptoBulkEntries {H : Type} : List (Lit × DataW H) → Nat
  | [] => 0
  | x :: r => uptoBulkEntry x + uptoBulkEntries r
def uptoBulkEntry {H : Type} : Lit × DataW H → Nat
  | (.string bytes, d) => bytes.length + uptoBulk d + 1
  | (_, d) => uptoBulk d + 1
 end
def uptoSmall : (H : Type) → List (DataW H) → Bool := fun _ ds => decide (uptoBulkAll ds ≤ 1048576)
def OpenSpec.upto (s : _root_.Go.ChangeSpec) : _root_.Go.OpenSpec := { _root_.Go.OpenSpec.ofChange s with cond := some uptoSmall }

/-- 'turnkeylaw13.CmacForms', WHERE WHAT IT READS IS OF BULK AT MOST 1048576: true; the input reads as it did. -/
def cmacFormsUptoRow : OpenClaim := { program := "ytpampcokonicfaa", sum := "f533ab161266df393ffc4f6500802b9633b6f5541984f57249159e2a39f68e85", func := "turnkey/turnkeylaw13.CmacForms", spec := "cmacForms", apart := false, narrowed := true }
def CmacFormsUptoSaid : Prop := cmacFormsUptoRow.holds Try.pinned (OpenSpec.upto cmacFormsSpec)

/-- 'turnkeylaw13.CmacPieces', WHERE WHAT IT READS IS OF BULK AT MOST 1048576: true; the input reads as it did. -/
def cmacPiecesUptoRow : OpenClaim := { program := "ytpampcokonicfaa", sum := "f533ab161266df393ffc4f6500802b9633b6f5541984f57249159e2a39f68e85", func := "turnkey/turnkeylaw13.CmacPieces", spec := "cmacPieces", apart := false, narrowed := true }
def CmacPiecesUptoSaid : Prop := cmacPiecesUptoRow.holds Try.pinned (OpenSpec.upto cmacPiecesSpec)

/-- 'turnkeylaw13.CmacKnown', WHERE WHAT IT READS IS OF BULK AT MOST 1048576: true; the input reads as it did. -/
def cmacKnownUptoRow : OpenClaim := { program := "ytpampcokonicfaa", sum := "f533ab161266df393ffc4f6500802b9633b6f5541984f57249159e2a39f68e85", func := "turnkey/turnkeylaw13.CmacKnown", spec := "cmacKnown", apart := false, narrowed := true }
def CmacKnownUptoSaid : Prop := cmacKnownUptoRow.holds Try.pinned (OpenSpec.upto cmacKnownSpec)

/-- 'turnkeylaw13.CmacClones', WHERE WHAT IT READS IS OF BULK AT MOST 1048576: true; the input reads as it did. -/
def cmacClonesUptoRow : OpenClaim := { program := "ytpampcokonicfaa", sum := "f533ab161266df393ffc4f6500802b9633b6f5541984f57249159e2a39f68e85", func := "turnkey/turnkeylaw13.CmacClones", spec := "cmacClones", apart := false, narrowed := true }
def CmacClonesUptoSaid : Prop := cmacClonesUptoRow.holds Try.pinned (OpenSpec.upto cmacClonesSpec)

/-- 'turnkeylaw13.CmacScript', WHERE WHAT IT READS IS OF BULK AT MOST 1048576: true; the input reads as it did. -/
def cmacScriptUptoRow : OpenClaim := { program := "ytpampcokonicfaa", sum := "f533ab161266df393ffc4f6500802b9633b6f5541984f57249159e2a39f68e85", func := "turnkey/turnkeylaw13.CmacScript", spec := "cmacScript", apart := false, narrowed := true }
def CmacScriptUptoSaid : Prop := cmacScriptUptoRow.holds Try.pinned (OpenSpec.upto cmacScriptSpec)

/-- 'turnkeylaw13.CmacNone', WHERE WHAT IT READS IS OF BULK AT MOST 1048576: true; the input reads as it did. -/
def cmacNoneUptoRow : OpenClaim := { program := "ytpampcokonicfaa", sum := "f533ab161266df393ffc4f6500802b9633b6f5541984f57249159e2a39f68e85", func := "turnkey/turnkeylaw13.CmacNone", spec := "cmacNone", apart := false, narrowed := true }
def CmacNoneUptoSaid : Prop := cmacNoneUptoRow.holds Try.pinned (OpenSpec.upto cmacNoneSpec)

end Rows
end Go.Proofs.Ytpampcokonicfaa
