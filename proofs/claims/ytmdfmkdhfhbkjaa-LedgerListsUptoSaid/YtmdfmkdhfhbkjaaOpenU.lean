/- Opening a list of runs under the second form's bound. -/
import Derived.Test.YtmdfmkdhfhbkjaaRows
import Derived.Test.YtmdfmkdhfhbkjaaOpenR
namespace Go.Proofs.Ytmdfmkdhfhbkjaa
open Go.RowKit Go.ChangeShapes Go.WideShapes Go.ChangeAt
set_option maxRecDepth 100000
theorem bulk_one {H : Type} (d : DataW H) : 1 ≤ Rows.uptoBulk d := by
  cases d with
  | lit l => cases l <;> simp [Rows.uptoBulk]
  | nil => simp [Rows.uptoBulk]
  | ptr d => simp [Rows.uptoBulk]
  | slice e s => simp [Rows.uptoBulk]
  | agg p => simp [Rows.uptoBulk]
  | iface t d => simp [Rows.uptoBulk]
  | map e => simp [Rows.uptoBulk]
  | held h => simp [Rows.uptoBulk]
theorem bulk_len {H : Type} : ∀ l : List (DataW H), l.length ≤ Rows.uptoBulkAll l
  | [] => by simp
  | d :: r => by
    have h1 := bulk_one d
    have h2 := bulk_len r
    simp only [Rows.uptoBulkAll, List.length_cons]
    omega
theorem bulk_mem {H : Type} {d : DataW H} : ∀ {l : List (DataW H)}, d ∈ l → Rows.uptoBulk d ≤ Rows.uptoBulkAll l
  | x :: r, h => by
    simp only [Rows.uptoBulkAll]
    rcases List.mem_cons.1 h with rfl | h
    · omega
    · have := bulk_mem h
      omega
theorem openRunsU {H : Type} {enc : TypeId × Value → H} {W : World} {base : Nat} {v : Value} {d : DataW H} {p : List MemPlace} {ds : List (DataW H)} (hk : Rows.uptoSmall H ds = true) (hd : d ∈ ds)
    (hval : Value.okWide Try.prog W .any base 32 v) (h : DataW.Trod enc Try.prog W 0 (fun _ => true) true 32 v d p) : ∃ l : List Rn, KN.R W v l ∧ (∀ r ∈ l, okRn r) ∧ l.length ≤ 1048576 := by
  obtain ⟨l, hl, hq, hh⟩ := open_elems KN okRn Try.underlying32 cellsRun dec_run hval h
  refine ⟨l, hl, hq, ?_⟩
  rcases hh with rfl | ⟨es, sp, rfl, hlen⟩
  · simp
  · have h1 : Rows.uptoBulkAll ds ≤ 1048576 := of_decide_eq_true hk
    have h2 := bulk_mem hd
    have h3 := bulk_len es
    simp only [Rows.uptoBulk] at h2
    omega
end Go.Proofs.Ytmdfmkdhfhbkjaa
