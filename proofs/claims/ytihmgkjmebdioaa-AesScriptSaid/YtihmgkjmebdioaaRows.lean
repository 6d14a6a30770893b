/-
  No cell of these rows narrows 'for every input' (looked for: loops, veiled, ifaces, maps, wideKeys, modest, calm, conditions, laid).
  DERIVED. THE GIVEN ROWS OF THIS SEAT. 5 by the template 'for every input the law returns true; each argument reads behind the call as it read before'; 0 by the template 'total and deterministic' (their statements: YtihmgkjmebdioaaTotals.lean).
  GIVEN WITH THE SEED: the statements are not yours to turn. If you find one false, say at which input.
  Laid BY PROGRAM, IN A SANDBOX (cutbox-rows.mjs): the forced cells as the released guide's own fill.sh prints them over the translation 4e40124129dceb32… (all of the seat's roots in one cut). By AI agents, Wed Nov 11 2026. No macro, syntax, notation, axiom, sorry.
-/
import Derived.Test.YtihmgkjmebdioaaChecked
import GoSem.Claim
import GoSem.ClaimJoined
import GoSem.ClaimMapViews
import Derived.JoinedTies
import Derived.KernelRfl
namespace Go.Proofs.Ytihmgkjmebdioaa
/- THE CELL 'sum', in the pinned program and in every row, IS THE sha256 OF THE DUMP (.gsa) THAT YtihmgkjmebdioaaProg.lean LOADS. Nothing in Lean hashes anything: it is a label: what it is worth is what the hold of that sum in a sandbox is worth. -/
noncomputable def Try.pinned : Pinned := { name := "ytihmgkjmebdioaa", sum := "4e40124129dceb3219ec2c01a3fd2b509b93695d80b9080854f4ed7490ce758a", checked := Try.checked }
namespace Rows
def none {H : Type} : Left H := { results := [], args := [] }

/-- 'turnkeylaw10.AesForms': WHATEVER THE INPUT: true; the input reads as it did. -/
def aesFormsSpec : ChangeSpec := { name := "aesForms", fn := fun _ => fun
  | [d1, d2] => { results := [.lit (.bool true)], args := [d1, d2] }
  | _ => none }
def aesFormsRow : OpenClaim := { program := "ytihmgkjmebdioaa", sum := "4e40124129dceb3219ec2c01a3fd2b509b93695d80b9080854f4ed7490ce758a", func := "turnkey/turnkeylaw10.AesForms", spec := "aesForms", apart := false }
def AesFormsSaid : Prop := aesFormsRow.holds Try.pinned (OpenSpec.ofChange aesFormsSpec)

/-- ITS FALSE NEIGHBOUR: 'it returns false'. Refute it at one input. -/
def aesFormsWrong : ChangeSpec := { name := "aesForms", fn := fun _ => fun
  | [d1, d2] => { results := [.lit (.bool false)], args := [d1, d2] }
  | _ => none }
def AesFormsWrongFalsely : Prop := aesFormsRow.holds Try.pinned (OpenSpec.ofChange aesFormsWrong)

/-- 'turnkeylaw10.AesKnown': WHATEVER THE INPUT: true; the input reads as it did. -/
def aesKnownSpec : ChangeSpec := { name := "aesKnown", fn := fun _ => fun
  | [] => { results := [.lit (.bool true)], args := [] }
  | _ => none }
def aesKnownRow : OpenClaim := { program := "ytihmgkjmebdioaa", sum := "4e40124129dceb3219ec2c01a3fd2b509b93695d80b9080854f4ed7490ce758a", func := "turnkey/turnkeylaw10.AesKnown", spec := "aesKnown", apart := false }
def AesKnownSaid : Prop := aesKnownRow.holds Try.pinned (OpenSpec.ofChange aesKnownSpec)

/-- ITS FALSE NEIGHBOUR: 'it returns false'. Refute it at one input. -/
def aesKnownWrong : ChangeSpec := { name := "aesKnown", fn := fun _ => fun
  | [] => { results := [.lit (.bool false)], args := [] }
  | _ => none }
def AesKnownWrongFalsely : Prop := aesKnownRow.holds Try.pinned (OpenSpec.ofChange aesKnownWrong)

/-- 'turnkeylaw10.AesBack': WHATEVER THE INPUT: true; the input reads as it did. -/
def aesBackSpec : ChangeSpec := { name := "aesBack", fn := fun _ => fun
  | [d1, d2, d3] => { results := [.lit (.bool true)], args := [d1, d2, d3] }
  | _ => none }
def aesBackRow : OpenClaim := { program := "ytihmgkjmebdioaa", sum := "4e40124129dceb3219ec2c01a3fd2b509b93695d80b9080854f4ed7490ce758a", func := "turnkey/turnkeylaw10.AesBack", spec := "aesBack", apart := false }
def AesBackSaid : Prop := aesBackRow.holds Try.pinned (OpenSpec.ofChange aesBackSpec)

/-- ITS FALSE NEIGHBOUR: 'it returns false'. Refute it at one input. -/
def aesBackWrong : ChangeSpec := { name := "aesBack", fn := fun _ => fun
  | [d1, d2, d3] => { results := [.lit (.bool false)], args := [d1, d2, d3] }
  | _ => none }
def AesBackWrongFalsely : Prop := aesBackRow.holds Try.pinned (OpenSpec.ofChange aesBackWrong)

/-- 'turnkeylaw10.AesScript': WHATEVER THE INPUT: true; the input reads as it did. -/
def aesScriptSpec : ChangeSpec := { name := "aesScript", fn := fun _ => fun
  | [d1, d2, d3] => { results := [.lit (.bool true)], args := [d1, d2, d3] }
  | _ => none }
def aesScriptRow : OpenClaim := { program := "ytihmgkjmebdioaa", sum := "4e40124129dceb3219ec2c01a3fd2b509b93695d80b9080854f4ed7490ce758a", func := "turnkey/turnkeylaw10.AesScript", spec := "aesScript", apart := false }
def AesScriptSaid : Prop := aesScriptRow.holds Try.pinned (OpenSpec.ofChange aesScriptSpec)

/-- ITS FALSE NEIGHBOUR: 'it returns false'. Refute it at one input. -/
def aesScriptWrong : ChangeSpec := { name := "aesScript", fn := fun _ => fun
  | [d1, d2, d3] => { results := [.lit (.bool false)], args := [d1, d2, d3] }
  | _ => none }
def AesScriptWrongFalsely : Prop := aesScriptRow.holds Try.pinned (OpenSpec.ofChange aesScriptWrong)

/-- 'turnkeylaw10.AesNone': WHATEVER THE INPUT: true; the input reads as it did. -/
def aesNoneSpec : ChangeSpec := { name := "aesNone", fn := fun _ => fun
  | [d] => { results := [.lit (.bool true)], args := [d] }
  | _ => none }
def aesNoneRow : OpenClaim := { program := "ytihmgkjmebdioaa", sum := "4e40124129dceb3219ec2c01a3fd2b509b93695d80b9080854f4ed7490ce758a", func := "turnkey/turnkeylaw10.AesNone", spec := "aesNone", apart := false }
def AesNoneSaid : Prop := aesNoneRow.holds Try.pinned (OpenSpec.ofChange aesNoneSpec)

/-- ITS FALSE NEIGHBOUR: 'it returns false'. Refute it at one input. -/
def aesNoneWrong : ChangeSpec := { name := "aesNone", fn := fun _ => fun
  | [d] => { results := [.lit (.bool false)], args := [d] }
  | _ => none }
def AesNoneWrongFalsely : Prop := aesNoneRow.holds Try.pinned (OpenSpec.ofChange aesNoneWrong)

/- THE SECOND FORM. 'bulk': how many values and letters a reading holds, each counted each time it is reached (what is shared counts as often as it is met; a slice's spare places count too). A statement '..UptoSaid' is the law's where the arguments, and the package variables that the reading takes, are together of bulk at most 1048576: NARROWER than '..Said'. Prove '..Said' where nothing that the law and all that it calls make is longer than what came in: it says more and counts as full. Else prove '..UptoSaid'. A law counts once. -/
mutual
def uptoBulk {H : Type} : DataW H → Nat
  | .lit (.string bytes) => bytes.length + 1
  | .lit _ => 1
  | .nil => 1
  | .ptr d => uptoBulk d + 1
  | .slice elems spare => uptoBulkAll elems + uptoBulkAll spare + 1
  | .agg parts => uptoBulkAll parts + 1
  | .iface _ d => uptoBulk d + 1
  | .map entries => uptoBulkEntries entries + 1
  | .held _ => 1
def uptoBulkAll {H : Type} : List (DataW H) → Nat
  | [] => 0
  | d :: r => uptoBulk d + uptoBulkAll r
def uptoBulkEntries {H : Type} : List (Lit × DataW H) → Nat
  | [] => 0
  | x :: r => uptoBulkEntry x + uptoBulkEntries r
def uptoBulkEntry {H : Type} : Lit × DataW H → Nat
  | (.string bytes, d) => bytes.length + uptoBulk d + 1
  | (_, d) => uptoBulk d + 1
 end
def uptoSmall : (H : Type) → List (DataW H) → Bool := fun _ ds => decide (uptoBulkAll ds ≤ 1048576)
def OpenSpec.upto (s : _root_.Go.ChangeSpec) : _root_.Go.OpenSpec := { _root_.Go.OpenSpec.ofChange s with cond := some uptoSmall }

/-- 'turnkeylaw10.AesForms', WHERE WHAT IT READS IS OF BULK AT MOST 1048576: true; the input reads as it did. -/
def aesFormsUptoRow : OpenClaim := { program := "ytihmgkjmebdioaa", sum := "4e40124129dceb3219ec2c01a3fd2b509b93695d80b9080854f4ed7490ce758a", func := "turnkey/turnkeylaw10.AesForms", spec := "aesForms", apart := false, narrowed := true }
def AesFormsUptoSaid : Prop := aesFormsUptoRow.holds Try.pinned (OpenSpec.upto aesFormsSpec)

/-- 'turnkeylaw10.AesKnown', WHERE WHAT IT READS IS OF BULK AT MOST 1048576: true; the input reads as it did. -/
def aesKnownUptoRow : OpenClaim := { program := "ytihmgkjmebdioaa", sum := "4e40124129dceb3219ec2c01a3fd2b509b93695d80b9080854f4ed7490ce758a", func := "turnkey/turnkeylaw10.AesKnown", spec := "aesKnown", apart := false, narrowed := true }
def AesKnownUptoSaid : Prop := aesKnownUptoRow.holds Try.pinned (OpenSpec.upto aesKnownSpec)

/-- 'turnkeylaw10.AesBack', WHERE WHAT IT READS IS OF BULK AT MOST 1048576: true; the input reads as it did. -/
def aesBackUptoRow : OpenClaim := { program := "ytihmgkjmebdioaa", sum := "4e40124129dceb3219ec2c01a3fd2b509b93695d80b9080854f4ed7490ce758a", func := "turnkey/turnkeylaw10.AesBack", spec := "aesBack", apart := false, narrowed := true }
def AesBackUptoSaid : Prop := aesBackUptoRow.holds Try.pinned (OpenSpec.upto aesBackSpec)

/-- 'turnkeylaw10.AesScript', WHERE WHAT IT READS IS OF BULK AT MOST 1048576: true; the input reads as it did. -/
def aesScriptUptoRow : OpenClaim := { program := "ytihmgkjmebdioaa", sum := "4e40124129dceb3219ec2c01a3fd2b509b93695d80b9080854f4ed7490ce758a", func := "turnkey/turnkeylaw10.AesScript", spec := "aesScript", apart := false, narrowed := true }
def AesScriptUptoSaid : Prop := aesScriptUptoRow.holds Try.pinned (OpenSpec.upto aesScriptSpec)

/-- 'turnkeylaw10.AesNone', WHERE WHAT IT READS IS OF BULK AT MOST 1048576: true; the input reads as it did. -/
def aesNoneUptoRow : OpenClaim := { program := "ytihmgkjmebdioaa", sum := "4e40124129dceb3219ec2c01a3fd2b509b93695d80b9080854f4ed7490ce758a", func := "turnkey/turnkeylaw10.AesNone", spec := "aesNone", apart := false, narrowed := true }
def AesNoneUptoSaid : Prop := aesNoneUptoRow.holds Try.pinned (OpenSpec.upto aesNoneSpec)

end Rows
end Go.Proofs.Ytihmgkjmebdioaa
