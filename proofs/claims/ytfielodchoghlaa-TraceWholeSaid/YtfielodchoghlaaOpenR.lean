/- Opening a list of runs, with the form's own reach. -/
import Derived.Test.YtfielodchoghlaaRows
import Derived.Test.YtfielodchoghlaaRuns
import Derived.Test.YtfielodchoghlaaOpenK
import Derived.Test.YtfielodchoghlaaLaw
import Derived.SizedLaws
namespace Go.Proofs.Ytfielodchoghlaa
open Go.RowKit Go.ChangeShapes Go.WideShapes Go.ChangeAt
set_option maxRecDepth 100000
/-- within their types -/
def okRn (r : Rn) : Prop := (0 ≤ r.k ∧ r.k ≤ 255) ∧ (-9223372036854775808 ≤ r.s ∧ r.s ≤ 9223372036854775807) ∧ (-9223372036854775808 ≤ r.c ∧ r.c ≤ 9223372036854775807)
theorem bounds_i64' {n : Int} (h : (Lit.int .i64 n).wf = true) : -9223372036854775808 ≤ n ∧ n ≤ 9223372036854775807 := by
  simp [Lit.wf, IntKind.min, IntKind.max, IntKind.signed, IntKind.bits] at h
  omega
theorem dec_event {H : Type} {enc : TypeId × Value → H} {W : World} (n : Nat) (cs : List Value) (y : DataW H × List MemPlace) (h : DataW.trod enc Try.prog W 0 (fun _ => true) true n 49 cs = some y) :
    ∃ k s : Int, ((0 ≤ k ∧ k ≤ 255) ∧ (-9223372036854775808 ≤ s ∧ s ≤ 9223372036854775807)) ∧ cs = [.int .u8 k, .int .i64 s] := by
  obtain ⟨xs, m, _, _, hl, hxs, hf⟩ := DataW.trod_struct Try.underlying49 h
  have hl2 : cs.length = 2 := hl.trans (by kernel_rfl)
  match cs, hl2 with
  | [c0, c1], _ =>
    have hxs2 : xs.length = 2 := hxs
    match xs, hxs2 with
    | [x0, x1], _ =>
      have h0 : DataW.trod enc Try.prog W 0 (fun _ => true) true m 47 (([c0, c1].drop 0).take (Try.prog.cellsOf 47)) = some x0 := hf 0 _ rfl
      have h1 : DataW.trod enc Try.prog W 0 (fun _ => true) true m 3 (([c0, c1].drop 1).take (Try.prog.cellsOf 3)) = some x1 := hf 1 _ rfl
      rw [show Try.prog.cellsOf 47 = 1 from by kernel_rfl] at h0
      rw [show Try.prog.cellsOf 3 = 1 from by kernel_rfl] at h1
      obtain ⟨k, hk, _, wk⟩ := DataW.trod_int (x := x0) Try.underlying47 h0
      obtain ⟨s, hs, _, ws⟩ := DataW.trod_int (x := x1) Try.underlying3 h1
      have e0 : c0 = .int .u8 k := by simpa using hk
      have e1 : c1 = .int .i64 s := by simpa using hs
      subst e0; subst e1
      exact ⟨k, s, ⟨bounds_u8 wk, bounds_i64' ws⟩, rfl⟩
theorem dec_run {H : Type} {enc : TypeId × Value → H} {W : World} (n : Nat) (cs : List Value) (y : DataW H × List MemPlace) (h : DataW.trod enc Try.prog W 0 (fun _ => true) true n 51 cs = some y) :
    ∃ r : Rn, okRn r ∧ cs = KN.cv r := by
  obtain ⟨xs, m, _, _, hl, hxs, hf⟩ := DataW.trod_struct Try.underlying51 h
  have hl2 : cs.length = 3 := hl.trans (by kernel_rfl)
  match cs, hl2 with
  | [c0, c1, c2], _ =>
    have hxs2 : xs.length = 2 := hxs
    match xs, hxs2 with
    | [x0, x1], _ =>
      have h0 : DataW.trod enc Try.prog W 0 (fun _ => true) true m 49 (([c0, c1, c2].drop 0).take (Try.prog.cellsOf 49)) = some x0 := hf 0 _ rfl
      have h1 : DataW.trod enc Try.prog W 0 (fun _ => true) true m 3 (([c0, c1, c2].drop 2).take (Try.prog.cellsOf 3)) = some x1 := hf 1 _ rfl
      rw [show Try.prog.cellsOf 49 = 2 from by kernel_rfl] at h0
      rw [show Try.prog.cellsOf 3 = 1 from by kernel_rfl] at h1
      obtain ⟨k, s, hq, he⟩ := dec_event _ _ x0 h0
      obtain ⟨c, hc, _, wc⟩ := DataW.trod_int (x := x1) Try.underlying3 h1
      have e0 : c0 = .int .u8 k ∧ c1 = .int .i64 s := by simpa using he
      have e2 : c2 = .int .i64 c := by simpa using hc
      obtain ⟨rfl, rfl⟩ := e0
      subst e2
      exact ⟨⟨k, s, c⟩, ⟨hq.1, hq.2, bounds_i64' wc⟩, rfl⟩
theorem bytesRun : Try.prog.bytesOf 51 = 24 := by kernel_rfl
theorem cellsRun : Try.prog.cellsOf 51 = 3 := by kernel_rfl
/-- a list of runs that came in: what it reads as, its elements within their types, and that it is within the reach -/
def InN (W : World) (v : Value) (l : List Rn) : Prop := KN.R W v l ∧ (∀ r ∈ l, okRn r) ∧ l.length ≤ 5864062014634
theorem openRunsS {H : Type} {enc : TypeId × Value → H} {W : World} {base : Nat} {v : Value} {d : DataW H} {p : List MemPlace} {ts : List TypeId} {ds : List (DataW H)}
    (hsz : (DataW.weightsEach Try.prog ts ds).all (· ≤ reachBytes) = true) (j : Nat) (hj : ts[j]? = some 32) (hd : ds[j]? = some d)
    (hval : Value.okWide Try.prog W .any base 32 v) (h : DataW.Trod enc Try.prog W 0 (fun _ => true) true 32 v d p) : ∃ l : List Rn, InN W v l := by
  obtain ⟨l, hl, hq, hh⟩ := open_elems KN okRn Try.underlying32 cellsRun dec_run hval h
  refine ⟨l, hl, hq, ?_⟩
  rcases hh with rfl | ⟨es, sp, rfl, hlen⟩
  · simp
  · have := sized_slice hsz hj hd Try.underlying32
    rw [bytesRun] at this
    simp only [reachBytes] at this
    omega
end Go.Proofs.Ytfielodchoghlaa
