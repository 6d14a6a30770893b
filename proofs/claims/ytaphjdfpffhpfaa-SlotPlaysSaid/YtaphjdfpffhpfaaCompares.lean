/- The walk of CtCompares. Conditions: each list has at most 2^47 - 4096 bytes (the form's own reach). -/
import Derived.Test.YtaphjdfpffhpfaaRows
import Derived.Test.YtaphjdfpffhpfaaCtEnv
import Derived.Test.YtaphjdfpffhpfaaOpen
namespace Go.Proofs.Ytaphjdfpffhpfaa
open Go.RowKit
set_option maxRecDepth 100000

/-- a note, if c -/
def noteIf (c : Prop) [Decidable c] (rs : List Rn) (k s : Int) : List Rn := if c then noteL rs k s 1 else rs
theorem noteIf_some (c : Prop) [Decidable c] (rs : List Rn) (k s : Int) : (if c then noteO (some rs) k s 1 else some rs) = some (noteIf c rs k s) := by
  unfold noteIf noteO
  by_cases h : c <;> simp [h]
theorem noteO_some (rs : List Rn) (k s n : Int) : noteO (some rs) k s n = some (noteL rs k s n) := rfl
/-- at most n events, in at most n runs -/
def Few (rs : List Rn) (n : Nat) : Prop := tot rs ≤ n ∧ rs.length ≤ n
theorem Few.nil : Few [] 0 := ⟨by simp [tot], by simp⟩
theorem noteL_len (rs : List Rn) (k s n : Int) : (noteL rs k s n).length ≤ rs.length + 1 := by
  rcases List.eq_nil_or_concat rs with rfl | ⟨r0, r, rfl⟩
  · simp [noteL]
  · rw [List.concat_eq_append]
    by_cases h : r.k = k ∧ r.s = s
    · obtain ⟨rfl, rfl⟩ := h
      rw [noteL_same]; simp
    · rw [noteL_other _ _ _ _ _ h]; simp
theorem Few.note {rs : List Rn} {n : Nat} (h : Few rs n) (k s : Int) : Few (noteL rs k s 1) (n + 1) :=
  ⟨by rw [tot_note]; have := h.1; omega, by have := noteL_len rs k s 1; have := h.2; omega⟩
theorem Few.noteIf {rs : List Rn} {n : Nat} (h : Few rs n) (c : Prop) [Decidable c] (k s : Int) : Few (noteIf c rs k s) (n + 1) := by
  unfold Proofs.Ytaphjdfpffhpfaa.noteIf
  split
  · exact h.note k s
  · exact ⟨by have := h.1; omega, by have := h.2; omega⟩
theorem Few.room {rs : List Rn} {n : Nat} (h : Few rs n) (hn : n ≤ 1000000) : Room (some rs) 1 := Room.some (by have := h.1; omega) (by have := h.2; omega)
theorem Few.len {rs : List Rn} {n : Nat} (h : Few rs n) (hn : n ≤ 1000000) : rs.length ≤ 5497558138880 := by have := h.2; omega

end Go.Proofs.Ytaphjdfpffhpfaa
