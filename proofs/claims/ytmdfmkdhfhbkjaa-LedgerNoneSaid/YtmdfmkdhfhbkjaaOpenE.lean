/- Opening an argument of type Event. -/
import Derived.Test.YtmdfmkdhfhbkjaaRows
import Derived.Test.YtmdfmkdhfhbkjaaLaw
import Derived.Lib.SmallJoins
namespace Go.Proofs.Ytmdfmkdhfhbkjaa
open Go.RowKit Go.ChangeShapes Go.WideShapes Go.ChangeAt
set_option maxRecDepth 100000
theorem openEvent {H : Type} {enc : TypeId × Value → H} {W : World} {base : Nat} {v : Value} {d : DataW H} {p : List MemPlace}
    (hval : Value.okWide Try.prog W .any base 39 v) (h : DataW.Trod enc Try.prog W 0 (fun _ => true) true 39 v d p) : ∃ k s : Int, v = .agg #[.int .u8 k, .int .i64 s] := by
  obtain ⟨v0, v1, y0, y1, n, rfl, _, _, h0, h1⟩ := Go.Joins.open_agg2 Try.underlying39 (by kernel_rfl) (by kernel_rfl) hval h
  obtain ⟨a, e, _, _⟩ := DataW.trod_int Try.underlying37 h0
  obtain ⟨b, f, _, _⟩ := DataW.trod_int Try.underlying3 h1
  injection e with e _
  injection f with f _
  subst e f
  exact ⟨a, b, rfl⟩
end Go.Proofs.Ytmdfmkdhfhbkjaa
