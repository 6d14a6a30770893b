/-
  No cell of these rows narrows 'for every input' (looked for: loops, veiled, ifaces, maps, wideKeys, modest, calm, conditions, laid).
  DERIVED. THE GIVEN ROWS OF THIS SEAT. 5 by the template 'for every input the law returns true; each argument reads behind the call as it read before'; 0 by the template 'total and deterministic' (their statements: YtmdfmkdhfhbkjaaTotals.lean).
  GIVEN WITH THE SEED: the statements are not yours to turn. If you find one false, say at which input.
  Laid BY PROGRAM, IN A SANDBOX (cutbox-rows.mjs): the forced cells as the released guide's own fill.sh prints them over the translation cdd15c49176da974… (all of the seat's roots in one cut). By AI agents, Wed Nov 11 2026. No macro, syntax, notation, axiom, sorry.
-/
import Derived.Test.YtmdfmkdhfhbkjaaChecked
import GoSem.Claim
import GoSem.ClaimJoined
import GoSem.ClaimMapViews
import Derived.JoinedTies
import Derived.KernelRfl
namespace Go.Proofs.Ytmdfmkdhfhbkjaa
/- THE CELL 'sum', in the pinned program and in every row, IS THE sha256 OF THE DUMP (.gsa) THAT YtmdfmkdhfhbkjaaProg.lean LOADS. Nothing in Lean hashes anything: it is a label: what it is worth is what the hold of that sum in a sandbox is worth. -/
noncomputable def Try.pinned : Pinned := { name := "ytmdfmkdhfhbkjaa", sum := "cdd15c49176da974adbffe5ff7ab628a561ec53385680984ebcadb979edcf191", checked := Try.checked }
namespace Rows
def none {H : Type} : Left H := { results := [], args := [] }

/-- 'turnkeylaw02.LedgerCalls': WHATEVER THE INPUT: true; the input reads as it did. -/
def ledgerCallsSpec : ChangeSpec := { name := "ledgerCalls", fn := fun _ => fun
  | [d] => { results := [.lit (.bool true)], args := [d] }
  | _ => none }
def ledgerCallsRow : OpenClaim := { program := "ytmdfmkdhfhbkjaa", sum := "cdd15c49176da974adbffe5ff7ab628a561ec53385680984ebcadb979edcf191", func := "turnkey/turnkeylaw02.LedgerCalls", spec := "ledgerCalls", unfollowed := true, recurses := true, apart := false }
def LedgerCallsSaid : Prop := ledgerCallsRow.holds Try.pinned (OpenSpec.ofChange ledgerCallsSpec)

/-- ITS FALSE NEIGHBOUR: 'it returns false'. Refute it at one input. -/
def ledgerCallsWrong : ChangeSpec := { name := "ledgerCalls", fn := fun _ => fun
  | [d] => { results := [.lit (.bool false)], args := [d] }
  | _ => none }
def LedgerCallsWrongFalsely : Prop := ledgerCallsRow.holds Try.pinned (OpenSpec.ofChange ledgerCallsWrong)

/-- 'turnkeylaw02.LedgerNone': WHATEVER THE INPUT: true; the input reads as it did. -/
def ledgerNoneSpec : ChangeSpec := { name := "ledgerNone", fn := fun _ => fun
  | [d1, d2] => { results := [.lit (.bool true)], args := [d1, d2] }
  | _ => none }
def ledgerNoneRow : OpenClaim := { program := "ytmdfmkdhfhbkjaa", sum := "cdd15c49176da974adbffe5ff7ab628a561ec53385680984ebcadb979edcf191", func := "turnkey/turnkeylaw02.LedgerNone", spec := "ledgerNone", unfollowed := true, recurses := true, apart := false }
def LedgerNoneSaid : Prop := ledgerNoneRow.holds Try.pinned (OpenSpec.ofChange ledgerNoneSpec)

/-- ITS FALSE NEIGHBOUR: 'it returns false'. Refute it at one input. -/
def ledgerNoneWrong : ChangeSpec := { name := "ledgerNone", fn := fun _ => fun
  | [d1, d2] => { results := [.lit (.bool false)], args := [d1, d2] }
  | _ => none }
def LedgerNoneWrongFalsely : Prop := ledgerNoneRow.holds Try.pinned (OpenSpec.ofChange ledgerNoneWrong)

/-- 'turnkeylaw02.LedgerLists': WHATEVER THE INPUT: true; the input reads as it did. -/
def ledgerListsSpec : ChangeSpec := { name := "ledgerLists", fn := fun _ => fun
  | [d1, d2] => { results := [.lit (.bool true)], args := [d1, d2] }
  | _ => none }
def ledgerListsRow : OpenClaim := { program := "ytmdfmkdhfhbkjaa", sum := "cdd15c49176da974adbffe5ff7ab628a561ec53385680984ebcadb979edcf191", func := "turnkey/turnkeylaw02.LedgerLists", spec := "ledgerLists", apart := false }
def LedgerListsSaid : Prop := ledgerListsRow.holds Try.pinned (OpenSpec.ofChange ledgerListsSpec)

/-- ITS FALSE NEIGHBOUR: 'it returns false'. Refute it at one input. -/
def ledgerListsWrong : ChangeSpec := { name := "ledgerLists", fn := fun _ => fun
  | [d1, d2] => { results := [.lit (.bool false)], args := [d1, d2] }
  | _ => none }
def LedgerListsWrongFalsely : Prop := ledgerListsRow.holds Try.pinned (OpenSpec.ofChange ledgerListsWrong)

/-- 'turnkeylaw02.LedgerNames': WHATEVER THE INPUT: true; the input reads as it did. -/
def ledgerNamesSpec : ChangeSpec := { name := "ledgerNames", fn := fun _ => fun
  | [] => { results := [.lit (.bool true)], args := [] }
  | _ => none }
def ledgerNamesRow : OpenClaim := { program := "ytmdfmkdhfhbkjaa", sum := "cdd15c49176da974adbffe5ff7ab628a561ec53385680984ebcadb979edcf191", func := "turnkey/turnkeylaw02.LedgerNames", spec := "ledgerNames", apart := false }
def LedgerNamesSaid : Prop := ledgerNamesRow.holds Try.pinned (OpenSpec.ofChange ledgerNamesSpec)

/-- ITS FALSE NEIGHBOUR: 'it returns false'. Refute it at one input. -/
def ledgerNamesWrong : ChangeSpec := { name := "ledgerNames", fn := fun _ => fun
  | [] => { results := [.lit (.bool false)], args := [] }
  | _ => none }
def LedgerNamesWrongFalsely : Prop := ledgerNamesRow.holds Try.pinned (OpenSpec.ofChange ledgerNamesWrong)

/-- 'turnkeylaw02.LedgerMarks': WHATEVER THE INPUT: true; the input reads as it did. -/
def ledgerMarksSpec : ChangeSpec := { name := "ledgerMarks", fn := fun _ => fun
  | [d1, d2] => { results := [.lit (.bool true)], args := [d1, d2] }
  | _ => none }
def ledgerMarksRow : OpenClaim := { program := "ytmdfmkdhfhbkjaa", sum := "cdd15c49176da974adbffe5ff7ab628a561ec53385680984ebcadb979edcf191", func := "turnkey/turnkeylaw02.LedgerMarks", spec := "ledgerMarks", unfollowed := true, recurses := true, apart := false }
def LedgerMarksSaid : Prop := ledgerMarksRow.holds Try.pinned (OpenSpec.ofChange ledgerMarksSpec)

/-- ITS FALSE NEIGHBOUR: 'it returns false'. Refute it at one input. -/
def ledgerMarksWrong : ChangeSpec := { name := "ledgerMarks", fn := fun _ => fun
  | [d1, d2] => { results := [.lit (.bool false)], args := [d1, d2] }
  | _ => none }
def LedgerMarksWrongFalsely : Prop := ledgerMarksRow.holds Try.pinned (OpenSpec.ofChange ledgerMarksWrong)

/- THE SECOND FORM. 'bulk': how many values and letters a reading holds, each counted each time it is reached (what is shared counts as often as it is met; a slice's spare places count too). A statement '..UptoSaid' is the law's where the arguments, and the package variables that the reading takes, are together of bulk at most 1048576: NARROWER than '..Said'. Prove '..Said' where nothing that the law and all that it calls make is longer than what came in: it says more and counts as full. Else prove '..UptoSaid'. A law counts once. -/
mutual
def uptoBulk {H : Type} : DataW H → Nat
  | .lit (.string bytes) => bytes.length + 1
  | .lit _ => 1
  | .nil => 1
  | .ptr d => uptoBulk d + 1
  | .slice elems spare => uptoBulkAll elems + uptoBulkAll spare + 1
  | .agg parts => uptoBulkAll parts + 1
  | .iface _ d => uptoBulk d + 1
  | .map entries => uptoBulkEntries entries + 1
  | .held _ => 1
def uptoBulkAll {H : Type} : List (DataW H) → Nat
  | [] => 0
  | d :: r => uptoBulk d + uptoBulkAll r
def uptoBulkEntries {H : Type} : List (Lit × DataW H) → Nat
  | [] => 0
  | x :: r => uptoBulkEntry x + uptoBulkEntries r
def uptoBulkEntry {H : Type} : Lit × DataW H → Nat
  | (.string bytes, d) => bytes.length + uptoBulk d + 1
  | (_, d) => uptoBulk d + 1
 end
def uptoSmall : (H : Type) → List (DataW H) → Bool := fun _ ds => decide (uptoBulkAll ds ≤ 1048576)
def OpenSpec.upto (s : _root_.Go.ChangeSpec) : _root_.Go.OpenSpec := { _root_.Go.OpenSpec.ofChange s with cond := some uptoSmall }

/-- 'turnkeylaw02.LedgerCalls', WHERE WHAT IT READS IS OF BULK AT MOST 1048576: true; the input reads as it did. -/
def ledgerCallsUptoRow : OpenClaim := { program := "ytmdfmkdhfhbkjaa", sum := "cdd15c49176da974adbffe5ff7ab628a561ec53385680984ebcadb979edcf191", func := "turnkey/turnkeylaw02.LedgerCalls", spec := "ledgerCalls", unfollowed := true, recurses := true, apart := false, narrowed := true }
def LedgerCallsUptoSaid : Prop := ledgerCallsUptoRow.holds Try.pinned (OpenSpec.upto ledgerCallsSpec)

/-- 'turnkeylaw02.LedgerNone', WHERE WHAT IT READS IS OF BULK AT MOST 1048576: true; the input reads as it did. -/
def ledgerNoneUptoRow : OpenClaim := { program := "ytmdfmkdhfhbkjaa", sum := "cdd15c49176da974adbffe5ff7ab628a561ec53385680984ebcadb979edcf191", func := "turnkey/turnkeylaw02.LedgerNone", spec := "ledgerNone", unfollowed := true, recurses := true, apart := false, narrowed := true }
def LedgerNoneUptoSaid : Prop := ledgerNoneUptoRow.holds Try.pinned (OpenSpec.upto ledgerNoneSpec)

/-- 'turnkeylaw02.LedgerLists', WHERE WHAT IT READS IS OF BULK AT MOST 1048576: true; the input reads as it did. -/
def ledgerListsUptoRow : OpenClaim := { program := "ytmdfmkdhfhbkjaa", sum := "cdd15c49176da974adbffe5ff7ab628a561ec53385680984ebcadb979edcf191", func := "turnkey/turnkeylaw02.LedgerLists", spec := "ledgerLists", apart := false, narrowed := true }
def LedgerListsUptoSaid : Prop := ledgerListsUptoRow.holds Try.pinned (OpenSpec.upto ledgerListsSpec)

/-- 'turnkeylaw02.LedgerNames', WHERE WHAT IT READS IS OF BULK AT MOST 1048576: true; the input reads as it did. -/
def ledgerNamesUptoRow : OpenClaim := { program := "ytmdfmkdhfhbkjaa", sum := "cdd15c49176da974adbffe5ff7ab628a561ec53385680984ebcadb979edcf191", func := "turnkey/turnkeylaw02.LedgerNames", spec := "ledgerNames", apart := false, narrowed := true }
def LedgerNamesUptoSaid : Prop := ledgerNamesUptoRow.holds Try.pinned (OpenSpec.upto ledgerNamesSpec)

/-- 'turnkeylaw02.LedgerMarks', WHERE WHAT IT READS IS OF BULK AT MOST 1048576: true; the input reads as it did. -/
def ledgerMarksUptoRow : OpenClaim := { program := "ytmdfmkdhfhbkjaa", sum := "cdd15c49176da974adbffe5ff7ab628a561ec53385680984ebcadb979edcf191", func := "turnkey/turnkeylaw02.LedgerMarks", spec := "ledgerMarks", unfollowed := true, recurses := true, apart := false, narrowed := true }
def LedgerMarksUptoSaid : Prop := ledgerMarksUptoRow.holds Try.pinned (OpenSpec.upto ledgerMarksSpec)

end Rows
end Go.Proofs.Ytmdfmkdhfhbkjaa
