/- The plain law of LedgerMarks: what is noted from a mark on is what Since tells; joined with what was there it is all; counts of all kinds make the whole. No program in sight. -/
import Derived.Test.YtmdfmkdhfhbkjaaRows
import Derived.Test.YtmdfmkdhfhbkjaaSince
import Derived.Test.YtmdfmkdhfhbkjaaSums
import Derived.Test.YtmdfmkdhfhbkjaaChk
import Derived.Test.YtmdfmkdhfhbkjaaJoin
import Derived.Test.YtmdfmkdhfhbkjaaCount
namespace Go.Proofs.Ytmdfmkdhfhbkjaa
open Go.RowKit
set_option maxRecDepth 100000
set_option linter.unusedVariables false
set_option linter.unusedSimpArgs false

/-- one note, so many times -/
def noteT (a : List Rn) (x : Rn) : List Rn := if x.c < 1 then a else noteL a x.k x.s x.c
def noteAll (a : List Rn) (l : List Rn) : List Rn := l.foldl noteT a
/-- runs as a ledger's may be: counts from 1 on, neighbours unlike -/
def Nrm : List Rn → Prop
  | [] => True
  | [r] => 1 ≤ r.c
  | r :: q :: rs => 1 ≤ r.c ∧ ¬ (r.k = q.k ∧ r.s = q.s) ∧ Nrm (q :: rs)
theorem Nrm.posi : ∀ {l : List Rn}, Nrm l → Posi l
  | [], _ => Posi.nil
  | [r], h => fun x hx => by simp at hx; subst hx; exact h
  | r :: q :: rs, h => fun x hx => by
    rcases List.mem_cons.1 hx with rfl | hx
    · exact h.1
    · exact Nrm.posi h.2.2 x hx
theorem Nrm.tail {r : Rn} {l : List Rn} (h : Nrm (r :: l)) : Nrm l := by
  cases l with
  | nil => trivial
  | cons q l => exact h.2.2
/-- behind one another -/
theorem Nrm.snoc : ∀ {l : List Rn} {r : Rn}, Nrm l → 1 ≤ r.c → (∀ x, l.getLast? = some x → ¬ (x.k = r.k ∧ x.s = r.s)) → Nrm (l ++ [r])
  | [], r, _, h1, _ => h1
  | [x], r, h, h1, h2 => ⟨h, h2 x rfl, h1⟩
  | x :: q :: l, r, h, h1, h2 => ⟨h.1, h.2.1, Nrm.snoc (l := q :: l) h.2.2 h1 (fun y hy => h2 y (by simpa using hy))⟩
theorem Nrm.count : ∀ {l : List Rn} {r : Rn} {c : Int}, Nrm (l ++ [r]) → 1 ≤ c → Nrm (l ++ [⟨r.k, r.s, c⟩])
  | [], _, _, _, h => h
  | [x], r, c, h, hc => ⟨h.1, h.2.1, hc⟩
  | x :: q :: l, r, c, h, hc => ⟨h.1, h.2.1, Nrm.count (l := q :: l) h.2.2 hc⟩
theorem Nrm.note {l : List Rn} (h : Nrm l) (k s n : Int) (hn : 1 ≤ n) : Nrm (noteL l k s n) := by
  rcases List.eq_nil_or_concat l with rfl | ⟨l0, r, rfl⟩
  · exact hn
  · rw [List.concat_eq_append] at h ⊢
    by_cases he : r.k = k ∧ r.s = s
    · obtain ⟨rfl, rfl⟩ := he
      rw [noteL_same]
      have := h.posi r (by simp)
      exact h.count (by omega)
    · rw [noteL_other _ _ _ _ _ he]
      refine h.snoc hn (fun x hx => ?_)
      simp at hx
      subst hx
      exact he
theorem Nrm.all : ∀ (l : List Rn) {a : List Rn}, Nrm a → Nrm (noteAll a l)
  | [], _, h => h
  | x :: l, a, h => by
    show Nrm (noteAll (noteT a x) l)
    refine Nrm.all l ?_
    unfold noteT
    split
    · exact h
    · exact h.note _ _ _ (by omega)
/-- runs noted behind others -/
def glue (a : List Rn) : List Rn → List Rn
  | [] => a
  | x :: r => noteL a x.k x.s x.c ++ r
theorem noteL_last (a : List Rn) (k s n : Int) : ∃ l c, noteL a k s n = l ++ [⟨k, s, c⟩] := by
  rcases List.eq_nil_or_concat a with rfl | ⟨l0, r, rfl⟩
  · exact ⟨[], n, rfl⟩
  · rw [List.concat_eq_append]
    by_cases he : r.k = k ∧ r.s = s
    · obtain ⟨rfl, rfl⟩ := he
      exact ⟨l0, _, noteL_same _ _ _⟩
    · exact ⟨_, n, noteL_other _ _ _ _ _ he⟩
theorem noteL_twice (a : List Rn) (k s n m : Int) : noteL (noteL a k s n) k s m = noteL a k s (n + m) := by
  rcases List.eq_nil_or_concat a with rfl | ⟨l0, r, rfl⟩
  · simp [noteL]
  · rw [List.concat_eq_append]
    by_cases he : r.k = k ∧ r.s = s
    · obtain ⟨rfl, rfl⟩ := he
      have h1 := noteL_same l0 ⟨r.k, r.s, r.c + n⟩ m
      simp only at h1
      rw [noteL_same l0 r n, h1, noteL_same l0 r (n + m), Int.add_assoc]
    · rw [noteL_other _ _ _ _ _ he, noteL_other _ _ _ _ _ he]
      have := noteL_same (l0 ++ [r]) ⟨k, s, n⟩ m
      exact this
theorem glue_note (a b : List Rn) (k s n : Int) : noteL (glue a b) k s n = glue a (noteL b k s n) := by
  rcases List.eq_nil_or_concat b with rfl | ⟨l0, r, rfl⟩
  · simp [glue, noteL_nil]
  · rw [List.concat_eq_append]
    cases l0 with
    | nil =>
      simp only [List.nil_append, glue, List.append_nil]
      by_cases he : r.k = k ∧ r.s = s
      · obtain ⟨rfl, rfl⟩ := he
        rw [noteL_twice, show noteL [r] r.k r.s n = [⟨r.k, r.s, r.c + n⟩] from noteL_same [] r n]
        simp [glue]
      · rw [show noteL [r] k s n = [r] ++ [⟨k, s, n⟩] from noteL_other [] r k s n he]
        obtain ⟨l, c, hl⟩ := noteL_last a r.k r.s r.c
        rw [hl, noteL_other l ⟨r.k, r.s, c⟩ k s n he]
        simp [glue, hl]
    | cons x l =>
      simp only [List.cons_append, glue]
      by_cases he : r.k = k ∧ r.s = s
      · obtain ⟨rfl, rfl⟩ := he
        rw [← List.append_assoc, noteL_same, ← List.cons_append, noteL_same]
        simp [glue]
      · rw [← List.append_assoc, noteL_other _ _ _ _ _ he, ← List.cons_append, noteL_other _ _ _ _ _ he]
        simp [glue]
theorem glue_all : ∀ (l a b : List Rn), noteAll (glue a b) l = glue a (noteAll b l)
  | [], _, _ => rfl
  | x :: l, a, b => by
    show noteAll (noteT (glue a b) x) l = glue a (noteAll (noteT b x) l)
    unfold noteT
    split
    · exact glue_all l a b
    · rw [glue_note]
      exact glue_all l a _
/-- from the mark on -/
theorem since_glue (a b : List Rn) (ha : Nrm a) (hb : Nrm b) : sinceL (glue a b) (tot a) = b := by
  cases b with
  | nil => exact since_high a (tot a) ha.posi (Int.le_refl _)
  | cons x r =>
    have hx := hb.posi x (by simp)
    have hr := hb.tail.posi
    have hp : Posi (glue a (x :: r)) := by
      intro y hy
      rcases List.mem_append.1 hy with hy | hy
      · exact (ha.note x.k x.s x.c hx).posi y hy
      · exact hr y hy
    rcases List.eq_nil_or_concat a with rfl | ⟨l0, q, rfl⟩
    · exact since_low _ _ (Int.le_refl _)
    · rw [List.concat_eq_append] at *
      have hq := ha.posi q (by simp)
      rw [show glue (l0 ++ [q]) (x :: r) = noteL (l0 ++ [q]) x.k x.s x.c ++ r from rfl] at hp ⊢
      by_cases he : q.k = x.k ∧ q.s = x.s
      · have hn : noteL (l0 ++ [q]) x.k x.s x.c = l0 ++ [⟨x.k, x.s, q.c + x.c⟩] := by rw [← he.1, ← he.2]; exact noteL_same _ _ _
        rw [hn] at hp ⊢
        rw [List.append_assoc] at hp ⊢
        have e1 : (l0 ++ ([(⟨x.k, x.s, q.c + x.c⟩ : Rn)] ++ r))[l0.length]? = some (⟨x.k, x.s, q.c + x.c⟩ : Rn) := by simp
        have e2 : (l0 ++ ([(⟨x.k, x.s, q.c + x.c⟩ : Rn)] ++ r)).take l0.length = l0 := by simp
        have e3 : (l0 ++ ([(⟨x.k, x.s, q.c + x.c⟩ : Rn)] ++ r)).drop l0.length = (⟨x.k, x.s, q.c + x.c⟩ : Rn) :: r := by simp
        have := since_at _ (tot (l0 ++ [q])) l0.length _ hp e1 (by rw [e2, tot_append, tot_one]; omega) (by rw [e2, tot_append, tot_one]; simp only; omega)
        rw [e2, e3, tot_append, tot_one] at this
        rw [tot_append, tot_one, this]
        show (if tot l0 < tot l0 + q.c then (⟨x.k, x.s, q.c + x.c - (tot l0 + q.c - tot l0)⟩ : Rn) else ⟨x.k, x.s, q.c + x.c⟩) :: r = x :: r
        rw [if_pos (by omega)]
        have : q.c + x.c - (tot l0 + q.c - tot l0) = x.c := by omega
        simp only [this]
      · rw [noteL_other _ _ _ _ _ he] at hp ⊢
        have e0 : l0 ++ [q] ++ [⟨x.k, x.s, x.c⟩] ++ r = (l0 ++ [q]) ++ (x :: r) := by simp
        rw [e0] at hp ⊢
        have e1 : ((l0 ++ [q]) ++ (x :: r))[(l0 ++ [q]).length]? = some x := by rw [List.getElem?_append_right (Nat.le_refl _), Nat.sub_self]; rfl
        have e2 : ((l0 ++ [q]) ++ (x :: r)).take (l0 ++ [q]).length = l0 ++ [q] := List.take_left
        have e3 : ((l0 ++ [q]) ++ (x :: r)).drop (l0 ++ [q]).length = x :: r := List.drop_left
        have := since_at _ (tot (l0 ++ [q])) (l0 ++ [q]).length x hp e1 (by rw [e2]; exact Int.le_refl _) (by rw [e2]; omega)
        rw [e2, e3] at this
        rw [this]
        show (if tot (l0 ++ [q]) < tot (l0 ++ [q]) then (⟨x.k, x.s, x.c - (tot (l0 ++ [q]) - tot (l0 ++ [q]))⟩ : Rn) else x) :: r = x :: r
        rw [if_neg (by omega)]
/-- joining puts unlike runs behind -/
theorem eqE2_iff (a b c d : Int) : eqE2 a b c d = true ↔ (a = c ∧ b = d) := by unfold eqE2; simp
theorem join_rest : ∀ (b z : List Rn), Nrm b → (∀ x y, z.getLast? = some x → b.head? = some y → ¬ (x.k = y.k ∧ x.s = y.s)) → b.foldl joinS z = z ++ b
  | [], z, _, _ => by simp
  | y :: b, z, hb, hz => by
    have hy := hb.posi y (by simp)
    have e : joinS z y = z ++ [y] := by
      rcases List.eq_nil_or_concat z with rfl | ⟨l0, x, rfl⟩
      · rw [joinS_nil (by omega)]; rfl
      · rw [List.concat_eq_append] at *
        rw [joinS_other (by omega)]
        cases h : eqE2 x.k x.s y.k y.s with
        | false => rfl
        | true => exact absurd ((eqE2_iff _ _ _ _).1 h) (hz x y (by simp) rfl)
    rw [List.foldl_cons, e, join_rest b (z ++ [y]) hb.tail]
    · simp
    · intro x q hx hq
      simp at hx
      subst hx
      cases b with
      | nil => cases hq
      | cons q' b => injection hq with hq; subst hq; exact hb.2.1
theorem join_glue (a b : List Rn) (ha : Nrm a) (hb : Nrm b) (ht : tot a + tot b < 9223372036854775808) : joinL a b = glue a b := by
  unfold joinL
  rw [List.foldl_append, join_rest a [] ha (fun x y hx => by simp at hx), List.nil_append]
  cases b with
  | nil => rfl
  | cons x r =>
    have hx := hb.posi x (by simp)
    have hrt := tot_nonneg r hb.tail.posi
    rw [tot_cons] at ht
    have e : joinS a x = noteL a x.k x.s x.c := by
      rcases List.eq_nil_or_concat a with rfl | ⟨l0, q, rfl⟩
      · rw [joinS_nil (by omega)]; rfl
      · rw [List.concat_eq_append] at *
        have hq := ha.posi q (by simp)
        have h0 := tot_nonneg l0 (fun y hy => ha.posi y (by simp [hy]))
        rw [tot_append, tot_one] at ht
        by_cases he : q.k = x.k ∧ q.s = x.s
        · rw [joinS_same (by omega) ((eqE2_iff _ _ _ _).2 he)]
          have hs : sat q.c x.c = q.c + x.c := by unfold sat; rw [if_neg (by omega)]
          rw [hs, ← he.1, ← he.2, noteL_same]
        · rw [noteL_other _ _ _ _ _ he, joinS_other (by omega)]
          cases h : eqE2 q.k q.s x.k x.s with
          | false => rfl
          | true => exact absurd ((eqE2_iff _ _ _ _).1 h) he
    rw [List.foldl_cons, e]
    unfold glue
    refine join_rest r _ hb.tail (fun y q hy hq => ?_)
    obtain ⟨l, c, hl⟩ := noteL_last a x.k x.s x.c
    rw [hl] at hy
    simp at hy
    subst hy
    cases r with
    | nil => cases hq
    | cons q' r => injection hq with hq; subst hq; exact hb.2.1
/-- such runs may be a ledger's -/
theorem Nrm.at : ∀ {l : List Rn}, Nrm l → ∀ (k : Nat) (r q : Rn), l[k]? = some r → l[k + 1]? = some q → ¬ (r.k = q.k ∧ r.s = q.s)
  | [], _, k, r, q, h, _ => by simp at h
  | [x], _, k, r, q, _, h => by simp at h
  | x :: y :: l, h, 0, r, q, h1, h2 => by
    simp at h1 h2
    subst h1; subst h2
    exact h.2.1
  | x :: y :: l, h, k + 1, r, q, h1, h2 => Nrm.at (l := y :: l) h.2.2 k r q (by simpa using h1) (by simpa using h2)
theorem chkF_zero (rs : List Rn) (h : Nrm rs) : ∀ (n k : Nat), chkF rs n k = 0
  | 0, _ => rfl
  | n + 1, k => by
    rw [chkF]
    cases hr : rs[k]? with
    | none => rfl
    | some r =>
      have hp := h.posi r (List.mem_of_getElem? hr)
      simp only
      rw [if_neg (by omega)]
      cases k with
      | zero => exact chkF_zero rs h n 1
      | succ j =>
        simp only
        cases hq : rs[j]? with
        | none => rfl
        | some p =>
          simp only
          have hne : ¬ eqE2 r.k r.s p.k p.s = true := fun he => by
            have := (eqE2_iff _ _ _ _).1 he
            exact h.at j p r hq hr ⟨this.1.symm, this.2.symm⟩
          rw [if_neg hne]
          exact chkF_zero rs h n (j + 2)
theorem chkL_zero (rs : List Rn) (h : Nrm rs) : chkL rs = 0 := chkF_zero rs h _ _
theorem totL_tot : ∀ (l : List Rn) (z : Int), Posi l → 0 ≤ z → z + tot l < 9223372036854775808 → l.foldl totS z = z + tot l
  | [], z, _, _, _ => by simp [tot]
  | r :: l, z, hp, hz, ht => by
    have h1 := hp r (by simp)
    have h2 := tot_nonneg l (fun x hx => hp x (by simp [hx]))
    rw [tot_cons] at ht ⊢
    have e : totS z r = z + r.c := by unfold totS sat; rw [if_neg (by omega), if_neg (by omega)]
    rw [List.foldl_cons, e, totL_tot l (z + r.c) (fun x hx => hp x (by simp [hx])) (by omega) (by omega)]
    omega
theorem totL_is (l : List Rn) (hp : Posi l) (ht : tot l < 9223372036854775808) : totL l = tot l := by
  have := totL_tot l 0 hp (Int.le_refl _) (by omega)
  unfold totL
  omega
/-- counts of all kinds below e -/
def sumC (rs : List Rn) : Nat → Int
  | 0 => 0
  | e + 1 => sumC rs e + cnt rs (e : Int)
def sumTo (rs : List Rn) (j : Nat) : Nat → Int
  | 0 => 0
  | e + 1 => sumTo rs j e + cntTo rs (e : Int) j
theorem sumTo_succ (rs : List Rn) (j : Nat) : ∀ (e : Nat), 0 ≤ (rs.getD j ⟨0, 0, 0⟩).k → sumTo rs (j + 1) e = sumTo rs j e + (if (rs.getD j ⟨0, 0, 0⟩).k < e then (rs.getD j ⟨0, 0, 0⟩).c else 0)
  | 0, h => by rw [sumTo, sumTo, if_neg (by omega)]; rfl
  | e + 1, h => by
    rw [sumTo, sumTo, sumTo_succ rs j e h, cntTo]
    generalize (rs.getD j ⟨0, 0, 0⟩).k = k at *
    generalize (rs.getD j ⟨0, 0, 0⟩).c = c at *
    by_cases h1 : k < (e : Int)
    · rw [if_pos h1, if_neg (by omega), if_pos (by omega)]; omega
    · rw [if_neg h1]
      by_cases h2 : k = (e : Int)
      · rw [if_pos h2, if_pos (by omega)]; omega
      · rw [if_neg h2, if_neg (by omega)]; omega
theorem sumTo_tot (rs : List Rn) (hk : ∀ r ∈ rs, 0 ≤ r.k ∧ r.k ≤ 255) : ∀ (j : Nat), j ≤ rs.length → sumTo rs j 256 = tot (rs.take j)
  | 0, _ => by
    have : ∀ e, sumTo rs 0 e = 0 := fun e => by induction e with
      | zero => rfl
      | succ e ih => rw [sumTo, ih]; rfl
    rw [this]; simp [tot]
  | j + 1, hj => by
    have hg : rs.getD j ⟨0, 0, 0⟩ = rs[j] := by rw [List.getD_eq_getElem?_getD, List.getElem?_eq_getElem (by omega)]; rfl
    have hb := hk rs[j] (List.getElem_mem _)
    rw [sumTo_succ rs j 256 (by rw [hg]; exact hb.1), sumTo_tot rs hk j (by omega), hg, if_pos (by omega), List.take_add_one, List.getElem?_eq_getElem (by omega), tot_append]
    simp only [Option.toList_some, tot_one]
theorem sumC_all (rs : List Rn) (hk : ∀ r ∈ rs, 0 ≤ r.k ∧ r.k ≤ 255) : sumC rs 256 = tot rs := by
  have h : ∀ e, sumC rs e = sumTo rs rs.length e := fun e => by induction e with
    | zero => rfl
    | succ e ih => rw [sumC, sumTo, ih]; rfl
  rw [h, sumTo_tot rs hk rs.length (Nat.le_refl _), List.take_length]
theorem sumC_rng (rs : List Rn) (hp : Posi rs) : ∀ e, 0 ≤ sumC rs e
  | 0 => Int.le_refl _
  | e + 1 => by
    have h1 := sumC_rng rs hp e
    have h2 := (cntTo_bound rs (e : Int) hp rs.length (Nat.le_refl _)).1
    show 0 ≤ sumC rs e + cnt rs (e : Int)
    unfold cnt
    omega
theorem sumC_mono (rs : List Rn) (hp : Posi rs) (e : Nat) : ∀ d, sumC rs e ≤ sumC rs (e + d)
  | 0 => Int.le_refl _
  | d + 1 => by
    have h1 := sumC_mono rs hp e d
    have h2 := (cntTo_bound rs ((e + d : Nat) : Int) hp rs.length (Nat.le_refl _)).1
    show sumC rs e ≤ sumC rs (e + d) + cnt rs ((e + d : Nat) : Int)
    unfold cnt
    omega
/-- kinds stay within theirs -/
theorem noteL_kinds {a : List Rn} (h : ∀ r ∈ a, 0 ≤ r.k ∧ r.k ≤ 255) (k s n : Int) (hk : 0 ≤ k ∧ k ≤ 255) : ∀ r ∈ noteL a k s n, 0 ≤ r.k ∧ r.k ≤ 255 := by
  rcases List.eq_nil_or_concat a with rfl | ⟨l0, r, rfl⟩
  · intro r hr; simp [noteL_nil] at hr; subst hr; exact hk
  · rw [List.concat_eq_append] at *
    by_cases he : r.k = k ∧ r.s = s
    · obtain ⟨rfl, rfl⟩ := he
      rw [noteL_same]
      intro x hx
      rcases List.mem_append.1 hx with hx | hx
      · exact h x (by simp [hx])
      · simp at hx; subst hx; exact hk
    · rw [noteL_other _ _ _ _ _ he]
      intro x hx
      rcases List.mem_append.1 hx with hx | hx
      · exact h x hx
      · simp at hx; subst hx; exact hk
end Go.Proofs.Ytmdfmkdhfhbkjaa
