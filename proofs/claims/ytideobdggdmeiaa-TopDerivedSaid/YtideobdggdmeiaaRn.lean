/- Events and runs as plain data; what a note makes of runs. No program in sight. -/
import Derived.Lib.Hide
import GoSem.ClaimData
namespace Go.Proofs.Ytideobdggdmeiaa
open Go

/-! ### plain -/
/-- a run: its event's kind and size, how often -/
structure Rn where
  k : Int
  s : Int
  c : Int
deriving DecidableEq
def Rn.cells (r : Rn) : List Value := [.int .u8 r.k, .int .i64 r.s, .int .i64 r.c]
def flatR (rs : List Rn) : List Value := rs.flatMap Rn.cells
def tot (rs : List Rn) : Int := (rs.map (·.c)).sum
/-- a note of n events (n above 0) -/
def noteL (rs : List Rn) (k s n : Int) : List Rn :=
  match rs.getLast? with
  | some r => if r.k = k ∧ r.s = s then rs.dropLast ++ [⟨k, s, r.c + n⟩] else rs ++ [⟨k, s, n⟩]
  | none => [⟨k, s, n⟩]
theorem noteL_nil (k s n : Int) : noteL [] k s n = [⟨k, s, n⟩] := rfl
theorem noteL_same (rs : List Rn) (r : Rn) (n : Int) : noteL (rs ++ [r]) r.k r.s n = rs ++ [⟨r.k, r.s, r.c + n⟩] := by simp [noteL]
theorem noteL_other (rs : List Rn) (r : Rn) (k s n : Int) (h : ¬ (r.k = k ∧ r.s = s)) : noteL (rs ++ [r]) k s n = rs ++ [r] ++ [⟨k, s, n⟩] := by simp [noteL, h]
theorem flatR_length (rs : List Rn) : (flatR rs).length = rs.length * 3 := by
  induction rs with
  | nil => rfl
  | cons r rs ih => simp only [flatR, List.flatMap_cons, List.length_append, List.length_cons] at *; rw [ih]; simp [Rn.cells]; omega
theorem flatR_append (a b : List Rn) : flatR (a ++ b) = flatR a ++ flatR b := by simp [flatR]
theorem flatR_one (r : Rn) : flatR [r] = r.cells := by simp [flatR]
theorem flatR_at (rs : List Rn) (i : Nat) (r : Rn) (h : rs[i]? = some r) : (flatR rs)[i * 3]? = some (.int .u8 r.k) ∧ (flatR rs)[i * 3 + 1]? = some (.int .i64 r.s) ∧ (flatR rs)[i * 3 + 2]? = some (.int .i64 r.c) := by
  induction rs generalizing i with
  | nil => simp at h
  | cons x rs ih =>
    have e : flatR (x :: rs) = .int .u8 x.k :: .int .i64 x.s :: .int .i64 x.c :: flatR rs := by simp [flatR, Rn.cells]
    rw [e]
    cases i with
    | zero => simp at h; subst h; simp
    | succ i =>
      have := ih i (by simpa using h)
      rw [show (i + 1) * 3 = i * 3 + 1 + 1 + 1 from by omega]
      simpa using this
theorem tot_append (a b : List Rn) : tot (a ++ b) = tot a + tot b := by simp [tot]
theorem tot_one (r : Rn) : tot [r] = r.c := by simp [tot]
theorem tot_note (rs : List Rn) (k s n : Int) : tot (noteL rs k s n) = tot rs + n := by
  rcases List.eq_nil_or_concat rs with rfl | ⟨r0, r, rfl⟩
  · simp [noteL, tot]
  · rw [List.concat_eq_append]
    by_cases h : r.k = k ∧ r.s = s
    · obtain ⟨rfl, rfl⟩ := h
      rw [noteL_same, tot_append, tot_append, tot_one, tot_one]
      simp; omega
    · rw [noteL_other _ _ _ _ _ h, tot_append _ [_], tot_one]
/-- each run stands for something -/
def Posi (rs : List Rn) : Prop := ∀ r ∈ rs, 1 ≤ r.c
theorem tot_nonneg : ∀ rs : List Rn, Posi rs → (rs.length : Int) ≤ tot rs
  | [], _ => by simp [tot]
  | r :: rs, h => by
    have h1 := h r (by simp)
    have h2 := tot_nonneg rs (fun x hx => h x (by simp [hx]))
    have e : tot (r :: rs) = r.c + tot rs := by simp [tot]
    rw [e, List.length_cons]
    omega
theorem Posi.note {rs : List Rn} (h : Posi rs) (k s n : Int) (hn : 1 ≤ n) : Posi (noteL rs k s n) := by
  rcases List.eq_nil_or_concat rs with rfl | ⟨r0, r, rfl⟩
  · intro x hx; simp [noteL] at hx; subst hx; exact hn
  · rw [List.concat_eq_append] at *
    have hr := h r (by simp)
    by_cases e : r.k = k ∧ r.s = s
    · obtain ⟨rfl, rfl⟩ := e
      rw [noteL_same]
      intro x hx
      rcases List.mem_append.1 hx with hx | hx
      · exact h x (by simp [hx])
      · simp at hx; subst hx; show 1 ≤ r.c + n; omega
    · rw [noteL_other _ _ _ _ _ e]
      intro x hx
      rcases List.mem_append.1 hx with hx | hx
      · exact h x hx
      · simp at hx; subst hx; exact hn
theorem Posi.nil : Posi [] := fun _ h => by cases h

/-- an event -/
structure Ev where
  k : Int
  s : Int
deriving DecidableEq
def Ev.cells (e : Ev) : List Value := [.int .u8 e.k, .int .i64 e.s]
def Rn.ev (r : Rn) : Ev := ⟨r.k, r.s⟩
end Go.Proofs.Ytideobdggdmeiaa
