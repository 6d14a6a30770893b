/- Opening a list of notes. -/
import Derived.Test.YtmdfmkdhfhbkjaaRows
import Derived.Test.YtmdfmkdhfhbkjaaOpenR
namespace Go.Proofs.Ytmdfmkdhfhbkjaa
open Go.RowKit Go.ChangeShapes Go.WideShapes Go.ChangeAt
set_option maxRecDepth 100000
def KNt : Knd Rn := ⟨68, 3, fun x => [.int .u8 x.k, .int .i64 x.s, .int .u16 x.c], by decide, fun _ => rfl, fun x u hu => by simp at hu; rcases hu with rfl | rfl | rfl <;> rfl⟩
def okNt (r : Rn) : Prop := (0 ≤ r.k ∧ r.k ≤ 255) ∧ (-9223372036854775808 ≤ r.s ∧ r.s ≤ 9223372036854775807) ∧ (0 ≤ r.c ∧ r.c ≤ 65535)
theorem bounds_u16 {n : Int} (h : (Lit.int .u16 n).wf = true) : 0 ≤ n ∧ n ≤ 65535 := by
  simp [Lit.wf, IntKind.min, IntKind.max, IntKind.signed, IntKind.bits] at h
  omega
theorem dec_note {H : Type} {enc : TypeId × Value → H} {W : World} (n : Nat) (cs : List Value) (y : DataW H × List MemPlace) (h : DataW.trod enc Try.prog W 0 (fun _ => true) true n 68 cs = some y) :
    ∃ r : Rn, okNt r ∧ cs = KNt.cv r := by
  obtain ⟨xs, m, _, _, hl, hxs, hf⟩ := DataW.trod_struct Try.underlying68 h
  have hl2 : cs.length = 3 := hl.trans (by kernel_rfl)
  match cs, hl2 with
  | [c0, c1, c2], _ =>
    have hxs2 : xs.length = 2 := hxs
    match xs, hxs2 with
    | [x0, x1], _ =>
      have h0 : DataW.trod enc Try.prog W 0 (fun _ => true) true m 39 (([c0, c1, c2].drop 0).take (Try.prog.cellsOf 39)) = some x0 := hf 0 _ rfl
      have h1 : DataW.trod enc Try.prog W 0 (fun _ => true) true m 66 (([c0, c1, c2].drop 2).take (Try.prog.cellsOf 66)) = some x1 := hf 1 _ rfl
      rw [show Try.prog.cellsOf 39 = 2 from by kernel_rfl] at h0
      rw [show Try.prog.cellsOf 66 = 1 from by kernel_rfl] at h1
      obtain ⟨k, s, hq, he⟩ := dec_event _ _ x0 h0
      obtain ⟨c, hc, _, wc⟩ := DataW.trod_int (x := x1) Try.underlying66 h1
      have e0 : c0 = .int .u8 k ∧ c1 = .int .i64 s := by simpa using he
      have e2 : c2 = .int .u16 c := by simpa using hc
      obtain ⟨rfl, rfl⟩ := e0
      subst e2
      exact ⟨⟨k, s, c⟩, ⟨hq.1, hq.2, bounds_u16 wc⟩, rfl⟩
theorem bytesNote : Try.prog.bytesOf 68 = 24 := by kernel_rfl
theorem cellsNote : Try.prog.cellsOf 68 = 3 := by kernel_rfl
def InNt (W : World) (v : Value) (l : List Rn) : Prop := KNt.R W v l ∧ (∀ r ∈ l, okNt r) ∧ l.length ≤ 5864062014634
theorem openNotes {H : Type} {enc : TypeId × Value → H} {W : World} {base : Nat} {v : Value} {d : DataW H} {p : List MemPlace} {ts : List TypeId} {ds : List (DataW H)}
    (hsz : (DataW.weightsEach Try.prog ts ds).all (· ≤ reachBytes) = true) (j : Nat) (hj : ts[j]? = some 65) (hd : ds[j]? = some d)
    (hval : Value.okWide Try.prog W .any base 65 v) (h : DataW.Trod enc Try.prog W 0 (fun _ => true) true 65 v d p) : ∃ l : List Rn, InNt W v l := by
  obtain ⟨l, hl, hq, hh⟩ := open_elems KNt okNt Try.underlying65 cellsNote dec_note hval h
  refine ⟨l, hl, hq, ?_⟩
  rcases hh with rfl | ⟨es, sp, rfl, hlen⟩
  · simp
  · have := sized_slice hsz hj hd Try.underlying65
    rw [bytesNote] at this
    simp only [reachBytes] at this
    omega
end Go.Proofs.Ytmdfmkdhfhbkjaa
