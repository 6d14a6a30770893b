/- The contracts of both ledgers' New, Runs, Len, and of the kit's SameRuns. Conditions: at most 2^40 runs; counts in their kind. -/
import Derived.Test.YtideobdggdmeiaaLedNoteR
import Derived.Test.YtideobdggdmeiaaSl
namespace Go.Proofs.Ytideobdggdmeiaa
open Go.RowKit
set_option maxRecDepth 100000

theorem flatR_one' (rs : List Rn) : ∀ u ∈ flatR rs, u.oneCell' = true := by
  intro u hu
  obtain ⟨r, _, hr⟩ := List.mem_flatMap.1 hu
  exact three_cells r.k r.s r.c u hr
/-- a slice of runs that is read -/
def RunsRd (w : World) (v : Value) (rs : List Rn) : Prop := Sl w 3 v rs.length (flatR rs)
theorem RunsAt.rd {w : World} {v : Value} {rs : List Rn} (h : RunsAt w v rs) : RunsRd w v rs := Sl.of_own h (flatR_one' rs)
theorem RunsRd.cells {w : World} {ao : Option Addr} {cap : Nat} {rs : List Rn} (h : RunsRd w (.slice ao rs.length cap) rs) (i : Nat) (r : Rn) (hr : rs[i]? = some r) :
    ∃ b off, ao = some ⟨b, off, none⟩ ∧ w.cell? ⟨b, off + i * 3, none⟩ = some (.int .u8 r.k) ∧ w.cell? ⟨b, off + i * 3 + 1, none⟩ = some (.int .i64 r.s) ∧ w.cell? ⟨b, off + i * 3 + 2, none⟩ = some (.int .i64 r.c) := by
  obtain ⟨ao', cap', hv, _, _, _, h4⟩ := h.form
  obtain ⟨h1, h2, h3⟩ := flatR_at rs i r hr
  injection hv with e1 e2 e3
  subst e1
  obtain ⟨b, off, hao, c1⟩ := h4 _ _ h1
  obtain ⟨b2, off2, hao2, c2⟩ := h4 _ _ h2
  obtain ⟨b3, off3, hao3, c3⟩ := h4 _ _ h3
  rw [hao] at hao2 hao3
  injection hao2 with e2; injection e2 with e4 e5; subst e4; subst e5
  injection hao3 with e3; injection e3 with e6 e7; subst e6; subst e7
  exact ⟨b, off, hao, c1, by rw [Nat.add_assoc]; exact c2, by rw [Nat.add_assoc]; exact c3⟩

theorem maxl0 {n : Nat} (h : n ≤ 5497558138880) : 0 + n ≤ maxLen := by unfold maxLen; omega
theorem byt0 {n : Nat} (h : n ≤ 5497558138880) : (0 + n) * 24 ≤ 140737488355328 := by omega
/-- runs told in new memory -/
def NewRuns (rs : List Rn) (w : World) (e : Ending) (w' : World) : Prop :=
  ∃ v, e = .returned v ∧ RunsAt w' v rs ∧ Below w.heap.size w w' ∧ ∀ x, fp v x → w.heap.size ≤ x
/-- the document's Runs: one append a run -/
def RunsLoop (rs : List Rn) (w : World) (k : Nat) (v : Value) (w1 : World) : Prop :=
  RunsAt w1 v (rs.take k) ∧ Below w.heap.size w w1 ∧ ∀ x, fp v x → w.heap.size ≤ x
theorem take_succ_get (rs : List Rn) (k : Nat) (r : Rn) (h : rs[k]? = some r) : rs.take (k + 1) = rs.take k ++ [r] := by
  rw [List.take_add_one, h]; rfl
/-! ### SameRuns -/
theorem run_eq_run (r q : Rn) (h : r.k = q.k ∧ r.s = q.s ∧ r.c = q.c) : r = q := by
  obtain ⟨a, b, c⟩ := r; obtain ⟨x, y, z⟩ := q
  simp at h
  simp [h.1, h.2.1, h.2.2]
def sameTo (xs ys : List Rn) : Nat → Nat → Bool
  | 0, _ => true
  | n + 1, k => if xs[k]? = ys[k]? then sameTo xs ys n (k + 1) else false
theorem sameTo_eq (xs ys : List Rn) (hl : xs.length = ys.length) : ∀ n k, k + n = xs.length → (sameTo xs ys n k = true ↔ ∀ j, k ≤ j → xs[j]? = ys[j]?)
  | 0, k, h => by
    simp only [sameTo, true_iff]
    intro j hj
    rw [List.getElem?_eq_none (by omega), List.getElem?_eq_none (by omega)]
  | n + 1, k, h => by
    simp only [sameTo]
    by_cases e : xs[k]? = ys[k]?
    · rw [if_pos e, sameTo_eq xs ys hl n (k + 1) (by omega)]
      constructor
      · intro hh j hj
        by_cases ejk : j = k
        · subst ejk; exact e
        · exact hh j (by omega)
      · intro hh j hj
        exact hh j (by omega)
    · rw [if_neg e]
      simp only [Bool.false_eq_true, false_iff]
      intro hh
      exact e (hh k (Nat.le_refl _))
theorem sameTo_all (xs ys : List Rn) (hl : xs.length = ys.length) : sameTo xs ys xs.length 0 = decide (xs = ys) := by
  rw [Bool.eq_iff_iff, sameTo_eq xs ys hl _ 0 (by omega), decide_eq_true_eq]
  constructor
  · intro h; exact List.ext_getElem? fun j => h j (Nat.zero_le _)
  · rintro rfl _ _; rfl
theorem three_eq (a x b y c z : Int) : ((a == x) = true ∧ (b == y) = true ∧ (c == z) = true ∧ (⟨a, b, c⟩ : Rn) = ⟨x, y, z⟩) ∨ ((a == x) = false ∧ ¬ (⟨a, b, c⟩ : Rn) = ⟨x, y, z⟩) ∨
    ((a == x) = true ∧ (b == y) = false ∧ ¬ (⟨a, b, c⟩ : Rn) = ⟨x, y, z⟩) ∨ ((a == x) = true ∧ (b == y) = true ∧ (c == z) = false ∧ ¬ (⟨a, b, c⟩ : Rn) = ⟨x, y, z⟩) := by
  by_cases h1 : a = x
  · by_cases h2 : b = y
    · by_cases h3 : c = z
      · left; simp [h1, h2, h3]
      · right; right; right; simp [h1, h2, h3]
    · right; right; left; simp [h1, h2]
  · right; left; simp [h1]
end Go.Proofs.Ytideobdggdmeiaa
