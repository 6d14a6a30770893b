/- Opening a list of acts. -/
import Derived.Test.YtmdfmkdhfhbkjaaRows
import Derived.Test.YtmdfmkdhfhbkjaaOpenR
namespace Go.Proofs.Ytmdfmkdhfhbkjaa
open Go.RowKit Go.ChangeShapes Go.WideShapes Go.ChangeAt
set_option maxRecDepth 100000
structure Ac where
  on : Int
  cl : Int
  k : Int
  s : Int
  n : Int
def KAc : Knd Ac := ⟨41, 5, fun x => [.int .i64 x.on, .int .i64 x.cl, .int .u8 x.k, .int .i64 x.s, .int .i64 x.n], by decide, fun _ => rfl, fun x u hu => by simp at hu; rcases hu with rfl | rfl | rfl | rfl | rfl <;> rfl⟩
def okAc (r : Ac) : Prop := (-9223372036854775808 ≤ r.on ∧ r.on ≤ 9223372036854775807) ∧ (0 ≤ r.k ∧ r.k ≤ 255) ∧ (-9223372036854775808 ≤ r.n ∧ r.n ≤ 9223372036854775807)
theorem bounds_i64a {n : Int} (h : (Lit.int .i64 n).wf = true) : -9223372036854775808 ≤ n ∧ n ≤ 9223372036854775807 := by
  simp [Lit.wf, IntKind.min, IntKind.max, IntKind.signed, IntKind.bits] at h
  omega
theorem dec_act {H : Type} {enc : TypeId × Value → H} {W : World} (n : Nat) (cs : List Value) (y : DataW H × List MemPlace) (h : DataW.trod enc Try.prog W 0 (fun _ => true) true n 41 cs = some y) :
    ∃ r : Ac, okAc r ∧ cs = KAc.cv r := by
  obtain ⟨xs, m, _, _, hl, hxs, hf⟩ := DataW.trod_struct Try.underlying41 h
  have hl2 : cs.length = 5 := hl.trans (by kernel_rfl)
  match cs, hl2 with
  | [c0, c1, c2, c3, c4], _ =>
    have hxs2 : xs.length = 4 := hxs
    match xs, hxs2 with
    | [x0, x1, x2, x3], _ =>
      have h0 : DataW.trod enc Try.prog W 0 (fun _ => true) true m 3 (([c0, c1, c2, c3, c4].drop 0).take (Try.prog.cellsOf 3)) = some x0 := hf 0 _ rfl
      have h1 : DataW.trod enc Try.prog W 0 (fun _ => true) true m 3 (([c0, c1, c2, c3, c4].drop 1).take (Try.prog.cellsOf 3)) = some x1 := hf 1 _ rfl
      have h2 : DataW.trod enc Try.prog W 0 (fun _ => true) true m 39 (([c0, c1, c2, c3, c4].drop 2).take (Try.prog.cellsOf 39)) = some x2 := hf 2 _ rfl
      have h3 : DataW.trod enc Try.prog W 0 (fun _ => true) true m 3 (([c0, c1, c2, c3, c4].drop 4).take (Try.prog.cellsOf 3)) = some x3 := hf 3 _ rfl
      rw [show Try.prog.cellsOf 39 = 2 from by kernel_rfl] at h2
      rw [show Try.prog.cellsOf 3 = 1 from by kernel_rfl] at h0 h1 h3
      obtain ⟨k, s, hq, he⟩ := dec_event _ _ x2 h2
      obtain ⟨a, ha, _, wa⟩ := DataW.trod_int (x := x0) Try.underlying3 h0
      obtain ⟨c, hc, _, wc⟩ := DataW.trod_int (x := x1) Try.underlying3 h1
      obtain ⟨d, hd, _, wd⟩ := DataW.trod_int (x := x3) Try.underlying3 h3
      have e0 : c0 = .int .i64 a := by simpa using ha
      have e1 : c1 = .int .i64 c := by simpa using hc
      have e2 : c2 = .int .u8 k ∧ c3 = .int .i64 s := by simpa using he
      have e4 : c4 = .int .i64 d := by simpa using hd
      obtain ⟨rfl, rfl⟩ := e2
      subst e0; subst e1; subst e4
      exact ⟨⟨a, c, k, s, d⟩, ⟨bounds_i64a wa, hq.1, bounds_i64a wd⟩, rfl⟩
theorem cellsAct : Try.prog.cellsOf 41 = 5 := by kernel_rfl
def InAc (W : World) (v : Value) (l : List Ac) : Prop := KAc.R W v l ∧ (∀ r ∈ l, okAc r)
theorem openActs {H : Type} {enc : TypeId × Value → H} {W : World} {base : Nat} {v : Value} {d : DataW H} {p : List MemPlace}
    (hval : Value.okWide Try.prog W .any base 22 v) (h : DataW.Trod enc Try.prog W 0 (fun _ => true) true 22 v d p) : ∃ l : List Ac, InAc W v l := by
  obtain ⟨l, hl, hq, hh⟩ := open_elems KAc okAc Try.underlying22 cellsAct dec_act hval h
  exact ⟨l, hl, hq⟩
end Go.Proofs.Ytmdfmkdhfhbkjaa
