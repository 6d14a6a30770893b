/- Opening an argument of type Ask. -/
import Derived.Test.YtpbplcbdejoolaaRows
import Derived.Test.YtpbplcbdejoolaaOpenF
namespace Go.Proofs.Ytpbplcbdejoolaa
open Go.RowKit Go.ChangeShapes Go.WideShapes Go.ChangeAt
set_option maxRecDepth 100000
theorem list6 {α : Type} {l : List α} (h : l.length = 6) : ∃ a b c d e f, l = [a, b, c, d, e, f] := by
  match l, h with
  | [a, b, c, d, e, f], _ => exact ⟨a, b, c, d, e, f, rfl⟩
/-- what an Ask holds -/
structure AskIs (W : World) (v : Value) (A B : List UInt8) (x : UInt8) (base ex m : Nat) : Prop where
  form : ∃ va vb, v = .agg #[va, vb, .int .u8 (x.toNat : Int), .int .u64 (base : Int), .int .u64 (ex : Int), .int .u64 (m : Int)] ∧ Bs W va A ∧ Bs W vb B
  b1 : base < 18446744073709551616
  b2 : ex < 18446744073709551616
  b3 : m < 18446744073709551616
theorem u64_nat {a : Int} (h : (Lit.int .u64 a).wf = true) : ∃ n : Nat, a = (n : Int) ∧ n < 18446744073709551616 := by
  have := bounds_u64 h
  exact ⟨a.toNat, by omega, by omega⟩
theorem openAsk {H : Type} {enc : TypeId × Value → H} {W : World} {base : Nat} {v : Value} {d : DataW H} {p : List MemPlace}
    (hval : Value.okWide Try.prog W .any base 43 v) (h : DataW.Trod enc Try.prog W 0 (fun _ => true) true 43 v d p) : ∃ A B x b e m, AskIs W v A B x b e m := by
  obtain ⟨cs, rfl, hl, n, hf⟩ := open_fields Try.underlying43 (by kernel_rfl) (by kernel_rfl) hval h
  obtain ⟨c0, c1, c2, c3, c4, c5, rfl⟩ := list6 hl
  obtain ⟨c, y0, e0, h0⟩ := hf 0 _ rfl
  obtain rfl : c0 = c := by simpa using e0
  obtain ⟨c, y1, e1, h1⟩ := hf 1 _ rfl
  obtain rfl : c1 = c := by simpa using e1
  obtain ⟨c, y2, e2, h2⟩ := hf 2 _ rfl
  obtain rfl : c2 = c := by simpa using e2
  obtain ⟨c, y3, e3, h3⟩ := hf 3 _ rfl
  obtain rfl : c3 = c := by simpa using e3
  obtain ⟨c, y4, e4, h4⟩ := hf 4 _ rfl
  obtain rfl : c4 = c := by simpa using e4
  obtain ⟨c, y5, e5, h5⟩ := hf 5 _ rfl
  obtain rfl : c5 = c := by simpa using e5
  obtain ⟨A, hA⟩ := bytes_cell Try.underlying41 Try.underlying5 cellsU8 h0
  obtain ⟨B, hB⟩ := bytes_cell Try.underlying41 Try.underlying5 cellsU8 h1
  obtain ⟨x, rfl, wx⟩ := int_cell Try.underlying5 h2
  obtain ⟨b, rfl, wb⟩ := int_cell Try.underlying35 h3
  obtain ⟨e, rfl, we⟩ := int_cell Try.underlying35 h4
  obtain ⟨m, rfl, wm⟩ := int_cell Try.underlying35 h5
  obtain ⟨b, rfl, lb⟩ := u64_nat wb
  obtain ⟨e, rfl, le⟩ := u64_nat we
  obtain ⟨m, rfl, lm⟩ := u64_nat wm
  have hx := bounds_u8 wx
  exact ⟨A, B, UInt8.ofNat x.toNat, b, e, m, ⟨c0, c1, by rw [u8_of _ (by omega), Int.toNat_of_nonneg hx.1], hA, hB⟩, lb, le, lm⟩
end Go.Proofs.Ytpbplcbdejoolaa
