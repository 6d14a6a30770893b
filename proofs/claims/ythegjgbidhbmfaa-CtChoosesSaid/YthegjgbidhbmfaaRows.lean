/-
  No cell of these rows narrows 'for every input' (looked for: loops, veiled, ifaces, maps, wideKeys, modest, calm, conditions, laid).
  DERIVED. THE GIVEN ROWS OF THIS SEAT. 6 by the template 'for every input the law returns true; each argument reads behind the call as it read before'; 0 by the template 'total and deterministic' (their statements: YthegjgbidhbmfaaTotals.lean).
  GIVEN WITH THE SEED: the statements are not yours to turn. If you find one false, say at which input.
  Laid BY PROGRAM, IN A SANDBOX (cutbox-rows.mjs): the forced cells as the released guide's own fill.sh prints them over the translation b2597d7a998db017… (all of the seat's roots in one cut). By AI agents, Wed Nov 11 2026. No macro, syntax, notation, axiom, sorry.
-/
import Derived.Test.YthegjgbidhbmfaaChecked
import GoSem.Claim
import GoSem.ClaimJoined
import GoSem.ClaimMapViews
import Derived.JoinedTies
import Derived.KernelRfl
namespace Go.Proofs.Ythegjgbidhbmfaa
/- THE CELL 'sum', in the pinned program and in every row, IS THE sha256 OF THE DUMP (.gsa) THAT YthegjgbidhbmfaaProg.lean LOADS. Nothing in Lean hashes anything: it is a label: what it is worth is what the hold of that sum in a sandbox is worth. -/
noncomputable def Try.pinned : Pinned := { name := "ythegjgbidhbmfaa", sum := "b2597d7a998db01723adb37b6a390ac97825a284801ee6ffca92aa261143206a", checked := Try.checked }
namespace Rows
def none {H : Type} : Left H := { results := [], args := [] }

/-- 'turnkeylaw03.CtWipes': WHATEVER THE INPUT: true; the input reads as it did. -/
def ctWipesSpec : ChangeSpec := { name := "ctWipes", fn := fun _ => fun
  | [d1, d2, d3] => { results := [.lit (.bool true)], args := [d1, d2, d3] }
  | _ => none }
def ctWipesRow : OpenClaim := { program := "ythegjgbidhbmfaa", sum := "b2597d7a998db01723adb37b6a390ac97825a284801ee6ffca92aa261143206a", func := "turnkey/turnkeylaw03.CtWipes", spec := "ctWipes", apart := false }
def CtWipesSaid : Prop := ctWipesRow.holds Try.pinned (OpenSpec.ofChange ctWipesSpec)

/-- ITS FALSE NEIGHBOUR: 'it returns false'. Refute it at one input. -/
def ctWipesWrong : ChangeSpec := { name := "ctWipes", fn := fun _ => fun
  | [d1, d2, d3] => { results := [.lit (.bool false)], args := [d1, d2, d3] }
  | _ => none }
def CtWipesWrongFalsely : Prop := ctWipesRow.holds Try.pinned (OpenSpec.ofChange ctWipesWrong)

/-- 'turnkeylaw03.CtChooses': WHATEVER THE INPUT: true; the input reads as it did. -/
def ctChoosesSpec : ChangeSpec := { name := "ctChooses", fn := fun _ => fun
  | [d1, d2, d3] => { results := [.lit (.bool true)], args := [d1, d2, d3] }
  | _ => none }
def ctChoosesRow : OpenClaim := { program := "ythegjgbidhbmfaa", sum := "b2597d7a998db01723adb37b6a390ac97825a284801ee6ffca92aa261143206a", func := "turnkey/turnkeylaw03.CtChooses", spec := "ctChooses", apart := false }
def CtChoosesSaid : Prop := ctChoosesRow.holds Try.pinned (OpenSpec.ofChange ctChoosesSpec)

/-- ITS FALSE NEIGHBOUR: 'it returns false'. Refute it at one input. -/
def ctChoosesWrong : ChangeSpec := { name := "ctChooses", fn := fun _ => fun
  | [d1, d2, d3] => { results := [.lit (.bool false)], args := [d1, d2, d3] }
  | _ => none }
def CtChoosesWrongFalsely : Prop := ctChoosesRow.holds Try.pinned (OpenSpec.ofChange ctChoosesWrong)

/-- 'turnkeylaw03.CtCompares': WHATEVER THE INPUT: true; the input reads as it did. -/
def ctComparesSpec : ChangeSpec := { name := "ctCompares", fn := fun _ => fun
  | [d1, d2] => { results := [.lit (.bool true)], args := [d1, d2] }
  | _ => none }
def ctComparesRow : OpenClaim := { program := "ythegjgbidhbmfaa", sum := "b2597d7a998db01723adb37b6a390ac97825a284801ee6ffca92aa261143206a", func := "turnkey/turnkeylaw03.CtCompares", spec := "ctCompares", apart := false }
def CtComparesSaid : Prop := ctComparesRow.holds Try.pinned (OpenSpec.ofChange ctComparesSpec)

/-- ITS FALSE NEIGHBOUR: 'it returns false'. Refute it at one input. -/
def ctComparesWrong : ChangeSpec := { name := "ctCompares", fn := fun _ => fun
  | [d1, d2] => { results := [.lit (.bool false)], args := [d1, d2] }
  | _ => none }
def CtComparesWrongFalsely : Prop := ctComparesRow.holds Try.pinned (OpenSpec.ofChange ctComparesWrong)

/-- 'turnkeylaw03.CtOrder': WHATEVER THE INPUT: true; the input reads as it did. -/
def ctOrderSpec : ChangeSpec := { name := "ctOrder", fn := fun _ => fun
  | [d1, d2, d3, d4] => { results := [.lit (.bool true)], args := [d1, d2, d3, d4] }
  | _ => none }
def ctOrderRow : OpenClaim := { program := "ythegjgbidhbmfaa", sum := "b2597d7a998db01723adb37b6a390ac97825a284801ee6ffca92aa261143206a", func := "turnkey/turnkeylaw03.CtOrder", spec := "ctOrder", apart := false }
def CtOrderSaid : Prop := ctOrderRow.holds Try.pinned (OpenSpec.ofChange ctOrderSpec)

/-- ITS FALSE NEIGHBOUR: 'it returns false'. Refute it at one input. -/
def ctOrderWrong : ChangeSpec := { name := "ctOrder", fn := fun _ => fun
  | [d1, d2, d3, d4] => { results := [.lit (.bool false)], args := [d1, d2, d3, d4] }
  | _ => none }
def CtOrderWrongFalsely : Prop := ctOrderRow.holds Try.pinned (OpenSpec.ofChange ctOrderWrong)

/-- 'turnkeylaw03.CtPublic': WHATEVER THE INPUT: true; the input reads as it did. -/
def ctPublicSpec : ChangeSpec := { name := "ctPublic", fn := fun _ => fun
  | [d1, d2, d3, d4, d5, d6] => { results := [.lit (.bool true)], args := [d1, d2, d3, d4, d5, d6] }
  | _ => none }
def ctPublicRow : OpenClaim := { program := "ythegjgbidhbmfaa", sum := "b2597d7a998db01723adb37b6a390ac97825a284801ee6ffca92aa261143206a", func := "turnkey/turnkeylaw03.CtPublic", spec := "ctPublic", apart := false }
def CtPublicSaid : Prop := ctPublicRow.holds Try.pinned (OpenSpec.ofChange ctPublicSpec)

/-- ITS FALSE NEIGHBOUR: 'it returns false'. Refute it at one input. -/
def ctPublicWrong : ChangeSpec := { name := "ctPublic", fn := fun _ => fun
  | [d1, d2, d3, d4, d5, d6] => { results := [.lit (.bool false)], args := [d1, d2, d3, d4, d5, d6] }
  | _ => none }
def CtPublicWrongFalsely : Prop := ctPublicRow.holds Try.pinned (OpenSpec.ofChange ctPublicWrong)

/-- 'turnkeylaw03.CtNames': WHATEVER THE INPUT: true; the input reads as it did. -/
def ctNamesSpec : ChangeSpec := { name := "ctNames", fn := fun _ => fun
  | [] => { results := [.lit (.bool true)], args := [] }
  | _ => none }
def ctNamesRow : OpenClaim := { program := "ythegjgbidhbmfaa", sum := "b2597d7a998db01723adb37b6a390ac97825a284801ee6ffca92aa261143206a", func := "turnkey/turnkeylaw03.CtNames", spec := "ctNames", apart := false }
def CtNamesSaid : Prop := ctNamesRow.holds Try.pinned (OpenSpec.ofChange ctNamesSpec)

/-- ITS FALSE NEIGHBOUR: 'it returns false'. Refute it at one input. -/
def ctNamesWrong : ChangeSpec := { name := "ctNames", fn := fun _ => fun
  | [] => { results := [.lit (.bool false)], args := [] }
  | _ => none }
def CtNamesWrongFalsely : Prop := ctNamesRow.holds Try.pinned (OpenSpec.ofChange ctNamesWrong)

/- THE SECOND FORM. 'bulk': how many values and letters a reading holds, each counted each time it is reached (what is shared counts as often as it is met; a slice's spare places count too). A statement '..UptoSaid' is the law's where the arguments, and the package variables that the reading takes, are together of bulk at most 1048576: NARROWER than '..Said'. Prove '..Said' where nothing that the law and all that it calls make is longer than what came in: it says more and counts as full. Else prove '..UptoSaid'. A law counts once. -/
mutual
def uptoBulk {H : Type} : DataW H → Nat
  | .lit (.string bytes) => bytes.length + 1
  | .lit _ => 1
  | .nil => 1
  | .ptr d => uptoBulk d + 1
  | .slice elems spare => uptoBulkAll elems + uptoBulkAll spare + 1
  | .agg parts => uptoBulkAll parts + 1
  | .iface _ d => uptoBulk d + 1
  | .map entries => uptoBulkEntries entries + 1
  | .held _ => 1
def uptoBulkAll {H : Type} : List (DataW H) → Nat
  | [] => 0
  | d :: r => uptoBulk d + uptoBulkAll r
def uptoBulkEntries {H : Type} : List (Lit × DataW H) → Nat
  | [] => 0
  | x :: r => uptoBulkEntry x + uptoBulkEntries r
def uptoBulkEntry {H : Type} : Lit × DataW H → Nat
  | (.string bytes, d) => bytes.length + uptoBulk d + 1
  | (_, d) => uptoBulk d + 1
 end
def uptoSmall : (H : Type) → List (DataW H) → Bool := fun _ ds => decide (uptoBulkAll ds ≤ 1048576)
def OpenSpec.upto (s : _root_.Go.ChangeSpec) : _root_.Go.OpenSpec := { _root_.Go.OpenSpec.ofChange s with cond := some uptoSmall }

/-- 'turnkeylaw03.CtWipes', WHERE WHAT IT READS IS OF BULK AT MOST 1048576: true; the input reads as it did. -/
def ctWipesUptoRow : OpenClaim := { program := "ythegjgbidhbmfaa", sum := "b2597d7a998db01723adb37b6a390ac97825a284801ee6ffca92aa261143206a", func := "turnkey/turnkeylaw03.CtWipes", spec := "ctWipes", apart := false, narrowed := true }
def CtWipesUptoSaid : Prop := ctWipesUptoRow.holds Try.pinned (OpenSpec.upto ctWipesSpec)

/-- 'turnkeylaw03.CtChooses', WHERE WHAT IT READS IS OF BULK AT MOST 1048576: true; the input reads as it did. -/
def ctChoosesUptoRow : OpenClaim := { program := "ythegjgbidhbmfaa", sum := "b2597d7a998db01723adb37b6a390ac97825a284801ee6ffca92aa261143206a", func := "turnkey/turnkeylaw03.CtChooses", spec := "ctChooses", apart := false, narrowed := true }
def CtChoosesUptoSaid : Prop := ctChoosesUptoRow.holds Try.pinned (OpenSpec.upto ctChoosesSpec)

/-- 'turnkeylaw03.CtCompares', WHERE WHAT IT READS IS OF BULK AT MOST 1048576: true; the input reads as it did. -/
def ctComparesUptoRow : OpenClaim := { program := "ythegjgbidhbmfaa", sum := "b2597d7a998db01723adb37b6a390ac97825a284801ee6ffca92aa261143206a", func := "turnkey/turnkeylaw03.CtCompares", spec := "ctCompares", apart := false, narrowed := true }
def CtComparesUptoSaid : Prop := ctComparesUptoRow.holds Try.pinned (OpenSpec.upto ctComparesSpec)

/-- 'turnkeylaw03.CtOrder', WHERE WHAT IT READS IS OF BULK AT MOST 1048576: true; the input reads as it did. -/
def ctOrderUptoRow : OpenClaim := { program := "ythegjgbidhbmfaa", sum := "b2597d7a998db01723adb37b6a390ac97825a284801ee6ffca92aa261143206a", func := "turnkey/turnkeylaw03.CtOrder", spec := "ctOrder", apart := false, narrowed := true }
def CtOrderUptoSaid : Prop := ctOrderUptoRow.holds Try.pinned (OpenSpec.upto ctOrderSpec)

/-- 'turnkeylaw03.CtPublic', WHERE WHAT IT READS IS OF BULK AT MOST 1048576: true; the input reads as it did. -/
def ctPublicUptoRow : OpenClaim := { program := "ythegjgbidhbmfaa", sum := "b2597d7a998db01723adb37b6a390ac97825a284801ee6ffca92aa261143206a", func := "turnkey/turnkeylaw03.CtPublic", spec := "ctPublic", apart := false, narrowed := true }
def CtPublicUptoSaid : Prop := ctPublicUptoRow.holds Try.pinned (OpenSpec.upto ctPublicSpec)

/-- 'turnkeylaw03.CtNames', WHERE WHAT IT READS IS OF BULK AT MOST 1048576: true; the input reads as it did. -/
def ctNamesUptoRow : OpenClaim := { program := "ythegjgbidhbmfaa", sum := "b2597d7a998db01723adb37b6a390ac97825a284801ee6ffca92aa261143206a", func := "turnkey/turnkeylaw03.CtNames", spec := "ctNames", apart := false, narrowed := true }
def CtNamesUptoSaid : Prop := ctNamesUptoRow.holds Try.pinned (OpenSpec.upto ctNamesSpec)

end Rows
end Go.Proofs.Ythegjgbidhbmfaa
