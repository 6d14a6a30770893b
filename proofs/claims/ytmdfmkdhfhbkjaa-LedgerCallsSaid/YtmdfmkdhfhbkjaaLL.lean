/- A list of lists as ONE thing of a law's world: its row, and each list's own row, all apart. It takes in a list that was a thing of its own; in the end it falls into its parts. No program in sight. -/
import Derived.Test.YtmdfmkdhfhbkjaaAp
namespace Go.Proofs.Ytmdfmkdhfhbkjaa
open Go.RowKit
set_option maxRecDepth 100000
set_option linter.unusedVariables false
set_option linter.unusedSimpArgs false

/-- one list: its value, how many elements, its cells -/
structure Mem1 where
  v : Value
  n : Nat
  cs : List Value
section
variable (st e : TypeId) (sz : Nat)
structure LLat (w : World) (u : Value) (vs : List Value) (es : List Mem1) : Prop where
  row : w.ownsRow 0 st 1 u vs.length vs
  mem : ∀ (j : Nat) (p : Mem1), es[j]? = some p → w.ownsRow 0 e sz p.v p.n p.cs
  out : ∀ (j : Nat) (p : Mem1), es[j]? = some p → ∀ x, fpv p.v x → ¬ fpv u x
  two : ∀ (i j : Nat) (p q : Mem1), i ≠ j → es[i]? = some p → es[j]? = some q → ∀ x, fpv p.v x → ¬ fpv q.v x
def llF (u : Value) (es : List Mem1) : Nat → Prop := fun x => fpv u x ∨ ∃ (j : Nat) (p : Mem1), es[j]? = some p ∧ fpv p.v x
def obLL (u : Value) (vs : List Value) (es : List Mem1) : Ob where
  at' w F := LLat st e sz w u vs es ∧ F = llF u es
  keep h ho hd := by
    obtain ⟨h, rfl⟩ := h
    exact ⟨⟨ownsRow_keep h.row ho fun x hx => hd x (.inl hx), fun j p hp => ownsRow_keep (h.mem j p hp) ho fun x hx => hd x (.inr ⟨j, p, hp, hx⟩), h.out, h.two⟩, rfl⟩
  lt h := by
    obtain ⟨h, rfl⟩ := h
    rintro x (hx | ⟨j, p, hp, hx⟩)
    · exact (World.ownsRow.lt h.row x hx).2
    · exact (World.ownsRow.lt (h.mem j p hp) x hx).2
variable {st e sz}
theorem Env.ll {w0 w : World} {obs : List Ob} (h : Env w0 w obs) (i : Nat) {u : Value} {vs : List Value} {es : List Mem1} (hi : obs[i]? = some (obLL st e sz u vs es)) : LLat st e sz w u vs es := by
  obtain ⟨F, h1, _⟩ := h.get i hi
  exact h1.1
theorem Env.llNil {w0 w : World} {obs : List Ob} (h : Env w0 w obs) : Env w0 w (obs ++ [obLL st e sz (.slice none 0 0) [] []]) :=
  h.push (F' := llF (.slice none 0 0) []) _ ⟨⟨World.ownsRow_nil w 0 st 1, fun j p hp => by simp at hp, fun j p hp => by simp at hp, fun i j p q _ hp => by simp at hp⟩, rfl⟩ (Below.refl _ _) (fun x hx => by
    rcases hx with hx | ⟨j, p, hp, _⟩
    · simp [fpv, Value.ownBlock] at hx
    · simp at hp)
/-- two things become one (the second is the last) -/
theorem Env.merge {w0 w : World} {obs : List Ob} {ob2 : Ob} (h : Env w0 w (obs ++ [ob2])) (i : Nat) {ob1 : Ob} (hi : obs[i]? = some ob1) (ob3 : Ob)
    (hm : ∀ F1 F2, ob1.at' w F1 → ob2.at' w F2 → (∀ x, F1 x → ¬ F2 x) → ob3.at' w (fun x => F1 x ∨ F2 x)) : Env w0 w (obs.set i ob3) := by
  obtain ⟨own, hs, ho⟩ := h
  have hil : i < obs.length := (List.getElem?_eq_some_iff.1 hi).1
  obtain ⟨F1, a1, b1⟩ := ho i ob1 (by rw [List.getElem?_append_left hil]; exact hi)
  obtain ⟨F2, a2, b2⟩ := ho obs.length ob2 (by simp)
  refine ⟨fun x => if own x = obs.length + 1 then i + 1 else own x, ⟨hs.1, fun x hx => ?_⟩, fun j ob hj => ?_⟩
  · have := hs.2 x hx
    show (if own x = obs.length + 1 then i + 1 else own x) = 0
    rw [this, if_neg (by omega)]
  · by_cases hji : j = i
    · subst hji
      rw [List.getElem?_set_self hil] at hj
      injection hj with hj
      subst hj
      refine ⟨_, hm F1 F2 a1 a2 (fun x h1 h2 => ?_), fun x hx => ?_⟩
      · have := (b1 x h1).1
        have := (b2 x h2).1
        omega
      · rcases hx with hx | hx
        · refine ⟨?_, (b1 x hx).2⟩
          show (if own x = obs.length + 1 then j + 1 else own x) = j + 1
          rw [(b1 x hx).1, if_neg (by omega)]
        · refine ⟨?_, (b2 x hx).2⟩
          show (if own x = obs.length + 1 then j + 1 else own x) = j + 1
          rw [(b2 x hx).1, if_pos rfl]
    · rw [List.getElem?_set_ne (by omega)] at hj
      have hjl : j < obs.length := (List.getElem?_eq_some_iff.1 hj).1
      obtain ⟨F, c1, c2⟩ := ho j ob (by rw [List.getElem?_append_left hjl]; exact hj)
      refine ⟨F, c1, fun x hx => ⟨?_, (c2 x hx).2⟩⟩
      show (if own x = obs.length + 1 then i + 1 else own x) = j + 1
      rw [(c2 x hx).1, if_neg (by omega)]
theorem llF_add (u : Value) (es : List Mem1) (m : Mem1) : (fun x => llF u es x ∨ fpv m.v x) = llF u (es ++ [m]) := by
  funext x
  apply propext
  constructor
  · rintro ((hx | ⟨j, p, hp, hx⟩) | hx)
    · exact .inl hx
    · exact .inr ⟨j, p, by rw [List.getElem?_append_left (List.getElem?_eq_some_iff.1 hp).1]; exact hp, hx⟩
    · exact .inr ⟨es.length, m, by simp, hx⟩
  · rintro (hx | ⟨j, p, hp, hx⟩)
    · exact .inl (.inl hx)
    · rcases Nat.lt_or_ge j es.length with hj | hj
      · rw [List.getElem?_append_left hj] at hp
        exact .inl (.inr ⟨j, p, hp, hx⟩)
      · rw [List.getElem?_append_right hj] at hp
        rcases hk : j - es.length with _ | k
        · rw [hk] at hp
          simp at hp
          subst hp
          exact .inr hx
        · rw [hk] at hp
          simp at hp
theorem add_get (es : List Mem1) (m : Mem1) (j : Nat) (p : Mem1) (h : (es ++ [m])[j]? = some p) : (j < es.length ∧ es[j]? = some p) ∨ (j = es.length ∧ p = m) := by
  rcases Nat.lt_or_ge j es.length with hj | hj
  · rw [List.getElem?_append_left hj] at h
    exact .inl ⟨hj, h⟩
  · rw [List.getElem?_append_right hj] at h
    rcases hk : j - es.length with _ | k
    · rw [hk] at h
      simp at h
      exact .inr ⟨by omega, h.symm⟩
    · rw [hk] at h
      simp at h
/-- the last thing is taken in; the row is not yet written -/
theorem Env.llIn {w0 w : World} {obs : List Ob} {v : Value} {n : Nat} {cs : List Value} (h : Env w0 w (obs ++ [obE e sz v n cs])) (i : Nat) {u : Value} {vs : List Value} {es : List Mem1} (hi : obs[i]? = some (obLL st e sz u vs es)) :
    Env w0 w (obs.set i (obLL st e sz u vs (es ++ [⟨v, n, cs⟩]))) := by
  refine h.merge i hi _ ?_
  rintro F1 F2 ⟨h1, rfl⟩ ⟨h2, rfl⟩ hd
  refine ⟨⟨h1.row, fun j p hp => ?_, fun j p hp x hx => ?_, fun a b p q hab hp hq x hx => ?_⟩, llF_add u es ⟨v, n, cs⟩⟩
  · rcases add_get _ _ _ _ hp with ⟨_, hp⟩ | ⟨_, rfl⟩
    · exact h1.mem j p hp
    · exact h2
  · rcases add_get _ _ _ _ hp with ⟨_, hp⟩ | ⟨_, rfl⟩
    · exact h1.out j p hp x hx
    · exact fun hu => hd x (.inl hu) hx
  · rcases add_get _ _ _ _ hp with ⟨_, hp⟩ | ⟨e1, rfl⟩
    · rcases add_get _ _ _ _ hq with ⟨_, hq⟩ | ⟨e2, rfl⟩
      · exact h1.two a b p q hab hp hq x hx
      · exact hd x (.inr ⟨a, p, hp, hx⟩)
    · rcases add_get _ _ _ _ hq with ⟨_, hq⟩ | ⟨e2, rfl⟩
      · exact fun hx2 => hd x (.inr ⟨b, q, hq, hx2⟩) hx
      · exact absurd (e1.trans e2.symm) hab
/-- the row is written on -/
theorem Env.llRow {w0 w w' : World} {obs : List Ob} (h : Env w0 w obs) (i : Nat) {u u' : Value} {vs vs' : List Value} {es : List Mem1} (hi : obs[i]? = some (obLL st e sz u vs es))
    (hown : w'.ownsRow 0 st 1 u' vs'.length vs') (hg : w.grownBy w' u.ownBlock) (hat : u'.ownBlock = u.ownBlock ∨ u'.ownBlock = some w.heap.size) : Env w0 w' (obs.set i (obLL st e sz u' vs' es)) := by
  obtain ⟨F, ⟨h1, rfl⟩, h2, h3, h4⟩ := h.get i hi
  have ho : Only (fpv u) w w' := Only.grown (Only.refl _ w) hg (fun k hk => .inl hk)
  have hu : ∀ x, fpv u' x → fpv u x ∨ w.heap.size ≤ x := by
    intro x hx
    have hx' : u'.ownBlock = some x := hx
    rcases hat with hat | hat
    · rw [hat] at hx'
      exact .inl hx'
    · rw [hat] at hx'
      injection hx' with hx'
      exact .inr (by omega)
  refine h4 w' (llF u' es) (obLL st e sz u' vs' es) ⟨⟨hown, fun j p hp => ownsRow_keep (h1.mem j p hp) ho (h1.out j p hp), fun j p hp x hx hx2 => ?_, h1.two⟩, rfl⟩ (ho.mono fun x hx => .inl hx) (fun x hx => ?_)
  · rcases hu x hx2 with hx3 | hx3
    · exact h1.out j p hp x hx hx3
    · have := (World.ownsRow.lt (h1.mem j p hp) x hx).2
      omega
  · rcases hx with hx | hx
    · rcases hu x hx with hx | hx
      · exact .inl (.inl hx)
      · exact .inr hx
    · exact .inl (.inr hx)
open Classical in
/-- it falls into its parts -/
theorem Env.llOut {w0 w : World} {u : Value} {vs : List Value} {es : List Mem1} {rest : List Ob} (h : Env w0 w (obLL st e sz u vs es :: rest)) (T : Nat → Ob) (hT : ∀ (j : Nat) (p : Mem1), es[j]? = some p → T j = obE e sz p.v p.n p.cs) :
    Env w0 w (obE st 1 u vs.length vs :: ((List.range es.length).map T ++ rest)) := by
  obtain ⟨own, hs, ho⟩ := h
  obtain ⟨F, ⟨h1, hF⟩, hb⟩ := ho 0 _ rfl
  subst hF
  refine ⟨fun x => if own x = 0 then 0 else if own x = 1 then (if fpv u x then 1 else if hh : ∃ (j : Nat) (p : Mem1), es[j]? = some p ∧ fpv p.v x then Classical.choose hh + 2 else 0) else own x + es.length, ⟨hs.1, fun x hx => ?_⟩, fun k ob hk => ?_⟩
  · show (if own x = 0 then 0 else _) = 0
    rw [if_pos (hs.2 x hx)]
  · rcases k with _ | k
    · simp at hk
      subst hk
      refine ⟨fpv u, ⟨h1.row, rfl⟩, fun x hx => ⟨?_, (hb x (.inl hx)).2⟩⟩
      have e1 := (hb x (.inl hx)).1
      show (if own x = 0 then 0 else _) = 1
      rw [if_neg (by omega), if_pos (by omega), if_pos hx]
    · rw [List.getElem?_cons_succ] at hk
      rcases Nat.lt_or_ge k es.length with hkl | hkl
      · rw [List.getElem?_append_left (by simpa using hkl), List.getElem?_map, List.getElem?_range hkl] at hk
        simp at hk
        obtain ⟨p, hp⟩ : ∃ p, es[k]? = some p := ⟨_, List.getElem?_eq_getElem hkl⟩
        rw [hT k p hp] at hk
        subst hk
        refine ⟨fpv p.v, ⟨h1.mem k p hp, rfl⟩, fun x hx => ⟨?_, (hb x (.inr ⟨k, p, hp, hx⟩)).2⟩⟩
        have e1 := (hb x (.inr ⟨k, p, hp, hx⟩)).1
        have hh : ∃ (j : Nat) (p : Mem1), es[j]? = some p ∧ fpv p.v x := ⟨k, p, hp, hx⟩
        show (if own x = 0 then 0 else _) = k + 1 + 1
        rw [if_neg (by omega), if_pos (by omega), if_neg (h1.out k p hp x hx), dif_pos hh]
        obtain ⟨q, hq, hqx⟩ := Classical.choose_spec hh
        by_cases hjk : Classical.choose hh = k
        · rw [hjk]
        · exact absurd hqx (h1.two k _ p q (fun e => hjk e.symm) hp hq x hx)
      · rw [List.getElem?_append_right (by simpa using hkl)] at hk
        rw [List.length_map, List.length_range] at hk
        obtain ⟨F, c1, c2⟩ := ho (k - es.length + 1) ob (by rw [List.getElem?_cons_succ]; exact hk)
        refine ⟨F, c1, fun x hx => ⟨?_, (c2 x hx).2⟩⟩
        have e1 := (c2 x hx).1
        show (if own x = 0 then 0 else _) = k + 1 + 1
        rw [if_neg (by omega), if_neg (by omega)]
        omega
end
end Go.Proofs.Ytmdfmkdhfhbkjaa
