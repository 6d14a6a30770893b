/- Two lists of lists that were told, and a row of all their values: handed to ApartRuns they lie apart; each one's row is left. -/
import Derived.Test.YtmdfmkdhfhbkjaaRows
import Derived.Test.YtmdfmkdhfhbkjaaFin02
namespace Go.Proofs.Ytmdfmkdhfhbkjaa
open Go.RowKit
set_option maxRecDepth 100000
set_option linter.unusedVariables false
set_option linter.unusedSimpArgs false
/-- two neighbouring parts change places -/
theorem Env.move {w0 w : World} (A B C D : List Ob) (h : Env w0 w (A ++ (B ++ (C ++ D)))) : Env w0 w (A ++ (C ++ (B ++ D))) := by
  refine h.pick (fun j => if j < A.length then j else if j < A.length + C.length then j + B.length else if j < A.length + C.length + B.length then j - C.length else j) ?_ ?_
  · intro i j _ _ e
    by_cases a1 : i < A.length <;> by_cases a2 : i < A.length + C.length <;> by_cases a3 : i < A.length + C.length + B.length <;> by_cases b1 : j < A.length <;> by_cases b2 : j < A.length + C.length <;> by_cases b3 : j < A.length + C.length + B.length <;> simp only [a1, a2, a3, b1, b2, b3, if_true, if_false] at e <;> omega
  · intro j ob hj
    show (A ++ (B ++ (C ++ D)))[if j < A.length then j else if j < A.length + C.length then j + B.length else if j < A.length + C.length + B.length then j - C.length else j]? = some ob
    by_cases h1 : j < A.length
    · rw [if_pos h1, List.getElem?_append_left h1]
      rw [List.getElem?_append_left h1] at hj
      exact hj
    · rw [if_neg h1]
      rw [List.getElem?_append_right (by omega)] at hj
      by_cases h2 : j < A.length + C.length
      · rw [if_pos h2, List.getElem?_append_right (by omega), List.getElem?_append_right (by omega), List.getElem?_append_left (by omega)]
        rw [List.getElem?_append_left (by omega)] at hj
        rw [show j + B.length - A.length - B.length = j - A.length from by omega]
        exact hj
      · rw [if_neg h2]
        rw [List.getElem?_append_right (by omega)] at hj
        by_cases h3 : j < A.length + C.length + B.length
        · rw [if_pos h3, List.getElem?_append_right (by omega), List.getElem?_append_left (by omega)]
          rw [List.getElem?_append_left (by omega)] at hj
          rw [show j - C.length - A.length = j - A.length - C.length from by omega]
          exact hj
        · rw [if_neg h3, List.getElem?_append_right (by omega), List.getElem?_append_right (by omega), List.getElem?_append_right (by omega)]
          rw [List.getElem?_append_right (by omega)] at hj
          rw [show j - A.length - B.length - C.length = j - A.length - C.length - B.length from by omega]
          exact hj
def trN (l : List (Value × List Rn)) (j : Nat) : Nat := (l[j]?.map (fun p => p.2.length)).getD 0
def trC (l : List (Value × List Rn)) (j : Nat) : List Value := (l[j]?.map (fun p => KN.fl p.2)).getD []
def trT (l : List (Value × List Rn)) (j : Nat) : Ob := obE 61 3 (Tv (l.map (·.1)) j) (trN l j) (trC l j)
theorem obTR_out {w0 w : World} {u : Value} {ts : List (Value × List Rn)} {rest : List Ob} (h : Env w0 w (obTR u ts :: rest)) : Env w0 w (obE 32 1 u (ts.map (·.1)).length (ts.map (·.1)) :: ((List.range ts.length).map (trT ts) ++ rest)) := by
  have h1 := h.llOut (trT ts) (by
    intro j p hp
    rw [List.getElem?_map] at hp
    unfold trT trN trC
    rcases hq : ts[j]? with _ | q
    · rw [hq] at hp; cases hp
    · rw [hq] at hp
      injection hp with hp
      subst hp
      have e : Tv (ts.map (·.1)) j = q.1 := by unfold Tv; rw [List.getD_eq_getElem?_getD, List.getElem?_map, hq]; rfl
      rw [e]
      rfl)
  rw [show (ts.map mkMR).length = ts.length from List.length_map _] at h1
  exact h1
theorem trT_app (a b : List (Value × List Rn)) : (List.range a.length).map (trT a) ++ (List.range b.length).map (trT b) = (List.range ((a ++ b).map (·.1)).length).map (trT (a ++ b)) := by
  apply List.ext_getElem?
  intro j
  rw [List.length_map, List.length_append]
  by_cases h : j < a.length
  · rw [List.getElem?_append_left (by simpa using h), List.getElem?_map, List.getElem?_map, List.getElem?_range h, List.getElem?_range (by omega)]
    unfold trT trN trC Tv
    simp only [Option.map_some, List.getD_eq_getElem?_getD, List.getElem?_map, List.getElem?_append_left h]
  · rw [List.getElem?_append_right (by simp; omega), List.length_map, List.length_range]
    by_cases h2 : j < a.length + b.length
    · rw [List.getElem?_map, List.getElem?_map, List.getElem?_range (by omega), List.getElem?_range h2]
      unfold trT trN trC Tv
      simp only [Option.map_some, List.getD_eq_getElem?_getD, List.getElem?_map, List.getElem?_append_right (show a.length ≤ j by omega)]
    · rw [List.getElem?_eq_none (by simp; omega), List.getElem?_eq_none (by simp; omega)]
theorem apart_two {w0 w : World} {u0 u1 told : Value} {l0 l1 : List (Value × List Rn)} {rest : List Ob} (h : Env w0 w (obTR u0 l0 :: obTR u1 l1 :: obE 32 1 told (l0.map (·.1) ++ l1.map (·.1)).length (l0.map (·.1) ++ l1.map (·.1)) :: rest))
    (hs0 : ∀ p ∈ l0, p.2.length ≤ 5864062014799) (hs1 : ∀ p ∈ l1, p.2.length ≤ 5864062014799) (hl : l0.length + l1.length ≤ 900000) :
    Calls Try.prog 15 #[told] w fun e w' => e = .returned (.bool true) ∧ Env w0 w' (obE 32 1 u1 (l1.map (·.1)).length (l1.map (·.1)) :: obE 32 1 u0 (l0.map (·.1)).length (l0.map (·.1)) :: rest) := by
  obtain ⟨R0, hR0⟩ : ∃ x, obE 32 1 u0 (l0.map (·.1)).length (l0.map (·.1)) = x := ⟨_, rfl⟩
  obtain ⟨R1, hR1⟩ : ∃ x, obE 32 1 u1 (l1.map (·.1)).length (l1.map (·.1)) = x := ⟨_, rfl⟩
  have h1 := obTR_out h
  rw [hR0] at h1
  rw [hR0, hR1]
  have h2 := Env.move [] (R0 :: (List.range l0.length).map (trT l0)) [obTR u1 l1] (obE 32 1 told (l0.map (·.1) ++ l1.map (·.1)).length (l0.map (·.1) ++ l1.map (·.1)) :: rest) (by simpa using h1)
  have h3 := obTR_out (rest := (R0 :: (List.range l0.length).map (trT l0)) ++ (obE 32 1 told (l0.map (·.1) ++ l1.map (·.1)).length (l0.map (·.1) ++ l1.map (·.1)) :: rest)) (by simpa using h2)
  rw [hR1] at h3
  rw [← List.map_append] at h3
  obtain ⟨TO, hTO⟩ : ∃ x, obE 32 1 told ((l0 ++ l1).map (·.1)).length ((l0 ++ l1).map (·.1)) = x := ⟨_, rfl⟩
  rw [hTO] at h3
  have h4 := Env.move [] (R1 :: ((List.range l1.length).map (trT l1) ++ R0 :: (List.range l0.length).map (trT l0))) [TO] rest (by simpa using h3)
  have h5 := Env.move [TO] (R1 :: ((List.range l1.length).map (trT l1) ++ [R0])) ((List.range l0.length).map (trT l0)) rest (by simpa using h4)
  have h6 := Env.move (TO :: (List.range l0.length).map (trT l0)) [R1] ((List.range l1.length).map (trT l1)) (R0 :: rest) (by simpa using h5)
  have h7 : Env w0 w (TO :: (((List.range l0.length).map (trT l0) ++ (List.range l1.length).map (trT l1)) ++ R1 :: R0 :: rest)) := by simpa using h6
  rw [trT_app, ← hTO] at h7
  refine apartRuns_any told ((l0 ++ l1).map (·.1)) (trN (l0 ++ l1)) (trC (l0 ++ l1)) (R1 :: R0 :: rest) h7 ?_ (by simp; omega)
  intro j hj
  have hj2 : j < (l0 ++ l1).length := by simpa using hj
  unfold trN
  rw [List.getElem?_eq_getElem hj2]
  rcases List.mem_append.1 (List.getElem_mem hj2) with hm | hm
  · exact hs0 _ hm
  · exact hs1 _ hm
/-- one pair's five things -/
def pObs (b : Nat) (p q u v : Value) (rs : List Rn) (ts us : List (Value × List Rn)) : List Ob := [obK b 31 #[p, q, u, v], obP p (some rs), obR q (some rs), obTR u ts, obTR v us]
def lObs (b0 : Nat) (p0 q0 u0 v0 : Value) (r0 : List Rn) (t0 s0 : List (Value × List Rn)) (b1 : Nat) (p1 q1 u1 v1 : Value) (r1 : List Rn) (t1 s1 : List (Value × List Rn)) (A : Nat) : List Ob := pObs b0 p0 q0 u0 v0 r0 t0 s0 ++ pObs b1 p1 q1 u1 v1 r1 t1 s1 ++ [obK A 35 #[.pointer (some ⟨b0, 0, none⟩), .pointer (some ⟨b1, 0, none⟩)]]
/-- the same, the told a row of values -/
def pObs2 (b : Nat) (p q u v : Value) (rs : List Rn) (ts : List Value) (us : List (Value × List Rn)) : List Ob := [obK b 31 #[p, q, u, v], obP p (some rs), obR q (some rs), obE 32 1 u ts.length ts, obTR v us]
def lObs2 (b0 : Nat) (p0 q0 u0 v0 : Value) (r0 : List Rn) (t0 : List Value) (s0 : List (Value × List Rn)) (b1 : Nat) (p1 q1 u1 v1 : Value) (r1 : List Rn) (t1 : List Value) (s1 : List (Value × List Rn)) (A : Nat) : List Ob := pObs2 b0 p0 q0 u0 v0 r0 t0 s0 ++ pObs2 b1 p1 q1 u1 v1 r1 t1 s1 ++ [obK A 35 #[.pointer (some ⟨b0, 0, none⟩), .pointer (some ⟨b1, 0, none⟩)]]
theorem calls_apart {w0 w : World} {b0 b1 A : Nat} {p0 q0 u0 v0 p1 q1 u1 v1 told : Value} {r0 r1 : List Rn} {l0 s0 l1 s1 : List (Value × List Rn)} (h : Env w0 w (lObs b0 p0 q0 u0 v0 r0 l0 s0 b1 p1 q1 u1 v1 r1 l1 s1 A ++ [obE 32 1 told (l0.map (·.1) ++ l1.map (·.1)).length (l0.map (·.1) ++ l1.map (·.1))]))
    (hs0 : ∀ p ∈ l0, p.2.length ≤ 5864062014799) (hs1 : ∀ p ∈ l1, p.2.length ≤ 5864062014799) (hl : l0.length + l1.length ≤ 900000) :
    Calls Try.prog 15 #[told] w fun e w' => e = .returned (.bool true) ∧ Env w0 w' (lObs2 b0 p0 q0 u0 v0 r0 (l0.map (·.1)) s0 b1 p1 q1 u1 v1 r1 (l1.map (·.1)) s1 A) := by
  have h1 : Env w0 w (obTR u0 l0 :: obTR u1 l1 :: obE 32 1 told (l0.map (·.1) ++ l1.map (·.1)).length (l0.map (·.1) ++ l1.map (·.1)) :: [obK b0 31 #[p0, q0, u0, v0], obP p0 (some r0), obR q0 (some r0), obTR v0 s0, obK b1 31 #[p1, q1, u1, v1], obP p1 (some r1), obR q1 (some r1), obTR v1 s1, obK A 35 #[.pointer (some ⟨b0, 0, none⟩), .pointer (some ⟨b1, 0, none⟩)]]) := by
    refine h.pick (fun j => [3, 8, 11, 0, 1, 2, 4, 5, 6, 7, 9, 10].getD j 0) ?_ ?_
    · intro i j hi hj
      simp at hi hj
      exact (by decide : ∀ i, i < 12 → ∀ j, j < 12 → [3, 8, 11, 0, 1, 2, 4, 5, 6, 7, 9, 10].getD i 0 = [3, 8, 11, 0, 1, 2, 4, 5, 6, 7, 9, 10].getD j 0 → i = j) i hi j hj
    · intro j ob hj
      match j, hj with
      | 0, hj | 1, hj | 2, hj | 3, hj | 4, hj | 5, hj | 6, hj | 7, hj | 8, hj | 9, hj | 10, hj | 11, hj => exact hj
      | j + 12, hj => simp at hj
  refine (apart_two h1 hs0 hs1 hl).mono ?_
  rintro e w' ⟨rfl, h2⟩
  refine ⟨rfl, ?_⟩
  refine h2.pick (fun j => [2, 3, 4, 1, 5, 6, 7, 8, 0, 9, 10].getD j 0) ?_ ?_
  · intro i j hi hj
    simp [lObs2, pObs2] at hi hj
    exact (by decide : ∀ i, i < 11 → ∀ j, j < 11 → [2, 3, 4, 1, 5, 6, 7, 8, 0, 9, 10].getD i 0 = [2, 3, 4, 1, 5, 6, 7, 8, 0, 9, 10].getD j 0 → i = j) i hi j hj
  · intro j ob hj
    match j, hj with
    | 0, hj | 1, hj | 2, hj | 3, hj | 4, hj | 5, hj | 6, hj | 7, hj | 8, hj | 9, hj | 10, hj => exact hj
    | j + 11, hj => simp [lObs2, pObs2] at hj
end Go.Proofs.Ytmdfmkdhfhbkjaa
