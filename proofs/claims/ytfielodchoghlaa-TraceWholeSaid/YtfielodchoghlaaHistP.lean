/- What Hist tells, and what TraceWhole asks, as plain lists. No program in sight. -/
import Derived.Test.YtfielodchoghlaaRows
import Derived.Test.YtfielodchoghlaaSrt
import Derived.Test.YtfielodchoghlaaSeries
import Derived.Test.YtfielodchoghlaaFlat
namespace Go.Proofs.Ytfielodchoghlaa
open Go.RowKit
set_option maxRecDepth 100000
set_option linter.unusedVariables false
set_option linter.unusedSimpArgs false
theorem ltR_iff (x y : Rn) : ltR x y = true ↔ x.k < y.k ∨ (x.k = y.k ∧ x.s < y.s) := by
  unfold ltR
  split <;> simp <;> omega
/-- how often an event stands there -/
def cntE : List Rn → Ev → Int
  | [], _ => 0
  | r :: l, e => (if r.ev = e then r.c else 0) + cntE l e
def hasE (rs : List Rn) (e : Ev) : Prop := ∃ r ∈ rs, r.ev = e
structure IsHist (rs h : List Rn) : Prop where
  up : h.Pairwise (fun x y => ltR x y = true)
  mem : ∀ x, x ∈ h ↔ hasE rs x.ev ∧ x.c = cntE rs x.ev
/-! ### two rising lists with the same members -/
theorem rise_eq : ∀ (a b : List Rn), a.Pairwise (fun x y => ltR x y = true) → b.Pairwise (fun x y => ltR x y = true) → (∀ x, x ∈ a ↔ x ∈ b) → a = b
  | [], [], _, _, _ => rfl
  | [], y :: b, _, _, h => by have := (h y).2 (by simp); simp at this
  | x :: a, [], _, _, h => by have := (h x).1 (by simp); simp at this
  | x :: a, y :: b, ha, hb, h => by
    have asym : ∀ p q : Rn, ltR p q = true → ltR q p = true → False := fun p q h1 h2 => by
      rw [ltR_iff] at h1 h2
      omega
    obtain ⟨a1, a2⟩ := List.pairwise_cons.1 ha
    obtain ⟨b1, b2⟩ := List.pairwise_cons.1 hb
    have e : x = y := by
      rcases List.mem_cons.1 ((h x).1 (by simp)) with h1 | h1
      · exact h1
      · rcases List.mem_cons.1 ((h y).2 (by simp)) with h2 | h2
        · exact h2.symm
        · exact (asym _ _ (a1 y h2) (b1 x h1)).elim
    subst e
    rw [rise_eq a b a2 b2 fun z => ?_]
    constructor
    · intro hz
      rcases List.mem_cons.1 ((h z).1 (by simp [hz])) with h1 | h1
      · subst h1; exact (asym _ _ (a1 z hz) (a1 z hz)).elim
      · exact h1
    · intro hz
      rcases List.mem_cons.1 ((h z).2 (by simp [hz])) with h1 | h1
      · subst h1; exact (asym _ _ (b1 z hz) (b1 z hz)).elim
      · exact h1
theorem IsHist.unique {rs h h' : List Rn} (a : IsHist rs h) (b : IsHist rs h') : h = h' :=
  rise_eq h h' a.up b.up fun x => (a.mem x).trans (b.mem x).symm
/-- the sorted list of whatever was collected -/
theorem IsHist.of_sorted {rs l h : List Rn} (hp : l.Perm h) (hn : (l.map Rn.ev).Nodup) (hm : ∀ e, e ∈ l.map Rn.ev ↔ hasE rs e) (hc : ∀ x ∈ l, x.c = cntE rs x.ev) (hs : h.Pairwise (fun x y => ltR y x = false)) : IsHist rs h := by
  have hn' : (h.map Rn.ev).Nodup := (hp.map Rn.ev).nodup_iff.1 hn
  refine ⟨?_, fun x => ?_⟩
  · have h2 : h.Pairwise (fun x y => x.ev ≠ y.ev) := List.pairwise_map.1 hn'
    refine (hs.and h2).imp fun {x y} hh => ?_
    obtain ⟨h1, h2⟩ := hh
    rw [ltR_iff]
    rw [← Bool.not_eq_true, ltR_iff] at h1
    have h3 : ¬ (x.k = y.k ∧ x.s = y.s) := fun h => h2 (by unfold Rn.ev; rw [h.1, h.2])
    omega
  · rw [← hp.mem_iff]
    constructor
    · intro hx
      exact ⟨(hm _).1 (List.mem_map.2 ⟨x, hx, rfl⟩), hc x hx⟩
    · rintro ⟨h1, h2⟩
      obtain ⟨y, hy, he⟩ := List.mem_map.1 ((hm _).2 h1)
      have h3 := hc y hy
      rw [he] at h3
      have : y = x := by
        have e3 : y.c = x.c := h3.trans h2.symm
        obtain ⟨a, b, c⟩ := x
        obtain ⟨a', b', c'⟩ := y
        have e1 : a' = a := congrArg Ev.k he
        have e2 : b' = b := congrArg Ev.s he
        have e3 : c' = c := e3
        rw [e1, e2, e3]
      rw [← this]; exact hy
/-! ### no event is lost -/
theorem sum_ite (E : List Ev) (e : Ev) (c : Int) (hn : E.Nodup) : (E.map fun x => if e = x then c else 0).sum = if e ∈ E then c else 0 := by
  induction E with
  | nil => simp
  | cons x E ih =>
    obtain ⟨h1, h2⟩ := List.nodup_cons.1 hn
    rw [List.map_cons, List.sum_cons, ih h2]
    by_cases h : e = x
    · subst h
      rw [if_pos rfl, if_neg h1, if_pos (by simp)]
      omega
    · rw [if_neg h, Int.zero_add]
      by_cases h2 : e ∈ E
      · rw [if_pos h2, if_pos (List.mem_cons_of_mem _ h2)]
      · rw [if_neg h2, if_neg (fun hh => (List.mem_cons.1 hh).elim h h2)]
theorem sum_add {α : Type} (l : List α) (f g : α → Int) : (l.map fun x => f x + g x).sum = (l.map f).sum + (l.map g).sum := by
  induction l with
  | nil => simp
  | cons x l ih => simp only [List.map_cons, List.sum_cons, ih]; omega
theorem cnt_sum (E : List Ev) (hn : E.Nodup) : ∀ rs : List Rn, (∀ r ∈ rs, r.ev ∈ E) → (E.map (cntE rs)).sum = tot rs
  | [], _ => by
    have : ∀ E : List Ev, (E.map (cntE [])).sum = 0 := fun E => by
      induction E with
      | nil => rfl
      | cons x E ih => rw [List.map_cons, List.sum_cons, ih]; rfl
    rw [this]; rfl
  | r :: l, h => by
    have ih := cnt_sum E hn l (fun x hx => h x (by simp [hx]))
    have e : E.map (cntE (r :: l)) = E.map fun x => (if r.ev = x then r.c else 0) + cntE l x := rfl
    rw [e, sum_add, sum_ite E r.ev r.c hn, if_pos (h r (by simp)), ih, tot_cons]
theorem IsHist.evs {rs h : List Rn} (a : IsHist rs h) : (h.map Rn.ev).Nodup := by
  refine List.pairwise_map.2 (a.up.imp fun {x y} hh he => ?_)
  rw [ltR_iff] at hh
  simp only [Rn.ev, Ev.mk.injEq] at he
  omega
theorem IsHist.tot {rs h : List Rn} (a : IsHist rs h) : tot h = tot rs := by
  rw [← cnt_sum (h.map Rn.ev) a.evs rs (fun r hr => List.mem_map.2 ⟨⟨r.k, r.s, cntE rs r.ev⟩, (a.mem _).2 ⟨⟨r, hr, rfl⟩, rfl⟩, rfl⟩), List.map_map]
  unfold Go.Proofs.Ytfielodchoghlaa.tot
  congr 1
  exact List.map_congr_left fun x hx => ((a.mem x).1 hx).2
theorem cnt_nn (e : Ev) : ∀ rs : List Rn, (∀ r ∈ rs, okC r) → 0 ≤ cntE rs e ∧ cntE rs e ≤ tot rs
  | [], _ => by simp [cntE, tot]
  | r :: l, h => by
    have ih := cnt_nn e l (fun x hx => h x (by simp [hx]))
    have h1 := (h r (by simp)).1
    rw [tot_cons, cntE]
    split <;> omega
theorem cnt_app (e : Ev) (a b : List Rn) : cntE (a ++ b) e = cntE a e + cntE b e := by
  induction a with
  | nil => simp [cntE]
  | cons r a ih => rw [List.cons_append, cntE, cntE, ih]; omega
theorem IsHist.pos {rs h : List Rn} (a : IsHist rs h) (hok : ∀ r ∈ rs, okC r) : ∀ x ∈ h, 1 ≤ x.c := by
  intro x hx
  obtain ⟨⟨r, hr, he⟩, hc⟩ := (a.mem x).1 hx
  rw [hc, ← he]
  clear hc he a
  induction rs with
  | nil => simp at hr
  | cons y l ih =>
    have hl : ∀ z ∈ l, okC z := fun z hz => hok z (by simp [hz])
    have h1 := (hok y (by simp)).1
    have h2 := (cnt_nn r.ev l hl).1
    rw [cntE]
    rcases List.mem_cons.1 hr with h3 | h3
    · subst h3
      rw [if_pos rfl]
      omega
    · have := ih hl h3
      split <;> omega
theorem IsHist.len {rs h : List Rn} (a : IsHist rs h) : h.length ≤ rs.length := by
  have h1 : (h.map Rn.ev) ⊆ (rs.map Rn.ev) := fun e he => by
    obtain ⟨x, hx, rfl⟩ := List.mem_map.1 he
    obtain ⟨r, hr, h2⟩ := ((a.mem x).1 hx).1
    exact List.mem_map.2 ⟨r, hr, h2⟩
  have h2 : ∀ (a b : List Ev), a.Nodup → a ⊆ b → a.length ≤ b.length := by
    intro a
    induction a with
    | nil => intro b _ _; simp
    | cons x a ih =>
      intro b hn hs
      obtain ⟨n1, n2⟩ := List.nodup_cons.1 hn
      have hx : x ∈ b := hs (by simp)
      have := ih (b.erase x) n2 (fun y hy => (List.mem_erase_of_ne (fun e => n1 (by rw [← e]; exact hy))).2 (hs (by simp [hy])))
      rw [List.length_erase_of_mem hx] at this
      have := List.length_pos_of_mem hx
      simp only [List.length_cons]
      omega
  have := h2 _ _ a.evs h1
  simpa using this
/-! ### put through a ledger -/
def noteH (rs : List Rn) : List Rn := rs.foldl (fun a r => noteL a r.k r.s r.c) []
theorem cnt_note (e : Ev) (a : List Rn) (r : Rn) : cntE (noteL a r.k r.s r.c) e = cntE a e + if r.ev = e then r.c else 0 := by
  rcases List.eq_nil_or_concat a with rfl | ⟨a0, x, rfl⟩
  · rw [noteL_nil]; simp [cntE, Rn.ev]
  · rw [List.concat_eq_append]
    by_cases h : x.k = r.k ∧ x.s = r.s
    · rw [← h.1, ← h.2, noteL_same, cnt_app, cnt_app]
      have e1 : r.ev = x.ev := by unfold Rn.ev; rw [h.1, h.2]
      have e2 : (⟨x.k, x.s, x.c + r.c⟩ : Rn).ev = x.ev := rfl
      simp only [cntE, e1, e2]
      split <;> omega
    · rw [noteL_other _ _ _ _ _ h, cnt_app _ (a0 ++ [x])]
      simp only [cntE]
      show _ + ((if r.ev = e then r.c else 0) + 0) = _
      omega
theorem has_note (e : Ev) (a : List Rn) (r : Rn) : hasE (noteL a r.k r.s r.c) e ↔ hasE a e ∨ r.ev = e := by
  rcases List.eq_nil_or_concat a with rfl | ⟨a0, x, rfl⟩
  · rw [noteL_nil]; simp [hasE, Rn.ev]
  · rw [List.concat_eq_append]
    by_cases h : x.k = r.k ∧ x.s = r.s
    · rw [← h.1, ← h.2, noteL_same]
      have e1 : r.ev = x.ev := by unfold Rn.ev; rw [h.1, h.2]
      have e2 : (⟨x.k, x.s, x.c + r.c⟩ : Rn).ev = x.ev := rfl
      rw [e1]
      simp only [hasE, List.mem_append, List.mem_singleton, or_and_right, exists_or, exists_eq_left, e2]
      constructor
      · rintro (h | h)
        · exact .inl (.inl h)
        · exact .inr h
      · rintro ((h | h) | h)
        · exact .inl h
        · exact .inr h
        · exact .inr h
    · rw [noteL_other _ _ _ _ _ h]
      have e2 : (⟨r.k, r.s, r.c⟩ : Rn).ev = r.ev := rfl
      simp only [hasE, List.mem_append, List.mem_singleton, or_and_right, exists_or, exists_eq_left, e2]
theorem foldH (rs : List Rn) : ∀ (a : List Rn), (∀ e, cntE (rs.foldl (fun a r => noteL a r.k r.s r.c) a) e = cntE a e + cntE rs e) ∧ (∀ e, hasE (rs.foldl (fun a r => noteL a r.k r.s r.c) a) e ↔ hasE a e ∨ hasE rs e) := by
  induction rs with
  | nil => intro a; simp [cntE, hasE]
  | cons r l ih =>
    intro a
    obtain ⟨h1, h2⟩ := ih (noteL a r.k r.s r.c)
    refine ⟨fun e => ?_, fun e => ?_⟩
    · rw [List.foldl_cons, h1, cnt_note, cntE]; omega
    · rw [List.foldl_cons, h2, has_note]
      simp only [hasE, List.mem_cons, or_and_right, exists_or, exists_eq_left, or_assoc]
theorem cnt_H (rs : List Rn) (e : Ev) : cntE (noteH rs) e = cntE rs e := by have := (foldH rs []).1 e; unfold noteH; rw [this]; simp [cntE]
theorem has_H (rs : List Rn) (e : Ev) : hasE (noteH rs) e ↔ hasE rs e := by have := (foldH rs []).2 e; unfold noteH; rw [this]; simp [hasE]
theorem IsHist.noted {rs h : List Rn} (a : IsHist (noteH rs) h) : IsHist rs h := ⟨a.up, fun x => by rw [a.mem, has_H, cnt_H]⟩
theorem noteH_snoc (rs : List Rn) (r : Rn) : noteH (rs ++ [r]) = noteL (noteH rs) r.k r.s r.c := by unfold noteH; rw [List.foldl_append]; rfl
theorem noteL_lenH (rs : List Rn) (k s n : Int) : (noteL rs k s n).length ≤ rs.length + 1 := by
  rcases List.eq_nil_or_concat rs with rfl | ⟨r0, r, rfl⟩
  · simp [noteL]
  · rw [List.concat_eq_append]
    by_cases h : r.k = k ∧ r.s = s
    · rw [← h.1, ← h.2, noteL_same]; simp
    · rw [noteL_other _ _ _ _ _ h]; simp
theorem ops_app (a b : List Rn) : opsL (a ++ b) = opsL a + opsL b := by simp [opsL]
theorem ops_note (a : List Rn) (r : Rn) : opsL (noteL a r.k r.s r.c) = opsL a + if r.k = 11 then r.c else 0 := by
  rcases List.eq_nil_or_concat a with rfl | ⟨a0, x, rfl⟩
  · rw [noteL_nil]; simp [opsL]
  · rw [List.concat_eq_append]
    by_cases h : x.k = r.k ∧ x.s = r.s
    · rw [← h.1, ← h.2, noteL_same, ops_app, ops_app]
      simp only [opsL, List.map_cons, List.map_nil, List.sum_cons, List.sum_nil]
      split <;> omega
    · rw [noteL_other _ _ _ _ _ h, ops_app _ [_]]
      simp [opsL]
/-- what a ledger has behind a trace -/
structure LedH (rs K : List Rn) : Prop where
  len : K.length ≤ rs.length
  pos : Posi K
  tot : tot K = tot rs
  ops : opsL K = opsL rs
theorem ledH : ∀ (n : Nat) (rs : List Rn), rs.length = n → (∀ r ∈ rs, okC r) → LedH rs (noteH rs)
  | 0, rs, hn, _ => by
    have : rs = [] := List.eq_nil_of_length_eq_zero hn
    subst this
    exact ⟨Nat.le_refl _, Posi.nil, rfl, rfl⟩
  | n + 1, rs, hn, h => by
    rcases List.eq_nil_or_concat rs with rfl | ⟨l, r, rfl⟩
    · simp at hn
    · rw [List.concat_eq_append] at *
      have ih := ledH n l (by simpa using hn) (fun x hx => h x (by simp [hx]))
      rw [noteH_snoc]
      refine ⟨?_, ih.pos.note _ _ _ (h r (by simp)).1, ?_, ?_⟩
      · have := noteL_lenH (noteH l) r.k r.s r.c
        have := ih.len
        simp; omega
      · rw [tot_note, ih.tot, tot_append, tot_one]
      · rw [ops_note, ih.ops, ops_app]
        simp [opsL]
theorem led_over {rs : List Rn} (hm : mayL rs = true) (hk : mayL (noteH rs) = false) : 4294967296 < tot rs := by
  obtain ⟨h1, h2⟩ := may_ok hm
  have L := ledH _ rs rfl h2
  unfold mayL at hm hk
  rw [decide_eq_true_eq] at hm
  rw [decide_eq_false_iff_not] at hk
  have hex : ∃ r ∈ noteH rs, 4294967296 < r.c := Classical.byContradiction fun hno => hk ⟨by have := L.len; omega, fun r hr => ⟨L.pos r hr, Int.not_lt.1 fun h => hno ⟨r, hr, h⟩⟩, by rw [L.ops]; exact hm.2.2⟩
  obtain ⟨r, hr, hc⟩ := hex
  rw [← L.tot]
  have : ∀ l : List Rn, Posi l → r ∈ l → r.c ≤ tot l := by
    intro l
    induction l with
    | nil => intro _ h; simp at h
    | cons y l ih =>
      intro hp hr
      rw [tot_cons]
      have h3 : 1 ≤ y.c := hp y (by simp)
      have h4 := tot_nonneg l (fun z hz => hp z (by simp [hz]))
      rcases List.mem_cons.1 hr with h5 | h5
      · subst h5; omega
      · have := ih (fun z hz => hp z (by simp [hz])) h5
        omega
  have := this _ L.pos hr
  omega
/-! ### the events one by one -/
theorem noteL_twiceH (a : List Rn) (k s m n : Int) : noteL (noteL a k s m) k s n = noteL a k s (m + n) := by
  rcases List.eq_nil_or_concat a with rfl | ⟨a0, x, rfl⟩
  · have := noteL_same [] ⟨k, s, m⟩ n
    simpa [noteL_nil] using this
  · rw [List.concat_eq_append]
    by_cases h : x.k = k ∧ x.s = s
    · rw [← h.1, ← h.2, noteL_same a0 x m, noteL_same a0 x (m + n)]
      have := noteL_same a0 ⟨x.k, x.s, x.c + m⟩ n
      dsimp only at this
      rw [this, Int.add_assoc]
    · rw [noteL_other _ _ _ _ _ h, noteL_other _ _ _ _ _ h]
      have := noteL_same (a0 ++ [x]) ⟨k, s, m⟩ n
      simpa using this
def oneH (l : List Ev) (a : List Rn) : List Rn := l.foldl (fun a e => noteL a e.k e.s 1) a
theorem oneH_rep (k s : Int) : ∀ (n : Nat) (a : List Rn), oneH (List.replicate (n + 1) ⟨k, s⟩) a = noteL a k s ((n : Int) + 1)
  | 0, a => by simp [oneH]
  | n + 1, a => by
    have ih := oneH_rep k s n (noteL a k s 1)
    have e : oneH (List.replicate (n + 1 + 1) ⟨k, s⟩) a = oneH (List.replicate (n + 1) ⟨k, s⟩) (noteL a k s 1) := rfl
    rw [e, ih, noteL_twiceH]
    congr 1
    omega
theorem oneH_flat : ∀ (rs : List Rn) (a : List Rn), (∀ r ∈ rs, okC r) → oneH (flatL rs) a = rs.foldl (fun a r => noteL a r.k r.s r.c) a
  | [], _, _ => rfl
  | r :: l, a, h => by
    have h1 := (h r (by simp)).1
    have e : flatL (r :: l) = List.replicate r.c.toNat ⟨r.k, r.s⟩ ++ flatL l := by simp [flatL]
    have e2 : oneH (List.replicate r.c.toNat ⟨r.k, r.s⟩) a = noteL a r.k r.s r.c := by
      have := oneH_rep r.k r.s (r.c.toNat - 1) a
      rw [show r.c.toNat - 1 + 1 = r.c.toNat by omega, show ((r.c.toNat - 1 : Nat) : Int) + 1 = r.c by omega] at this
      exact this
    have e3 : oneH (List.replicate r.c.toNat ⟨r.k, r.s⟩ ++ flatL l) a = oneH (flatL l) (oneH (List.replicate r.c.toNat ⟨r.k, r.s⟩) a) := by
      unfold oneH
      rw [List.foldl_append]
    rw [e, e3, e2, oneH_flat l _ (fun x hx => h x (by simp [hx])), List.foldl_cons]
theorem oneH_all {rs : List Rn} (h : ∀ r ∈ rs, okC r) : oneH (flatL rs) [] = noteH rs := oneH_flat rs [] h
/-! ### what stands in operations -/
/-- of the kinds that p tells -/
def insS (p : Int → Bool) (st : Int × Bool) (r : Rn) : Int × Bool :=
  if r.k = 11 then (st.1, true) else if r.k = 12 then (st.1, false) else if st.2 = true ∧ p r.k = true then (st.1 + r.c, st.2) else st
def insTo (rs : List Rn) (p : Int → Bool) (k : Nat) : Int × Bool := (rs.take k).foldl (insS p) (0, false)
def insK (rs : List Rn) (p : Int → Bool) : Int := (insTo rs p rs.length).1
theorem insTo_zero (rs : List Rn) (p : Int → Bool) : insTo rs p 0 = (0, false) := rfl
theorem insTo_succ {rs : List Rn} {k : Nat} {r : Rn} (p : Int → Bool) (h : rs[k]? = some r) : insTo rs p (k + 1) = insS p (insTo rs p k) r := by
  unfold insTo
  rw [List.take_add_one, h]
  simp [List.foldl_append]
theorem sum_set (l : List Int) (i : Nat) (x : Int) (h : i < l.length) : (l.set i x).sum = l.sum - l.getD i 0 + x := by
  induction l generalizing i with
  | nil => simp at h
  | cons y l ih =>
    cases i with
    | zero => simp; omega
    | succ i =>
      have := ih i (by simpa using h)
      simp only [List.set_cons_succ, List.sum_cons, this, List.getD_cons_succ]
      omega
theorem sum_rep (n : Nat) : (List.replicate n (0 : Int)).sum = 0 := by
  induction n with
  | zero => rfl
  | succ n ih => rw [List.replicate_succ, List.sum_cons, ih]; rfl
theorem ser_ins {rs : List Rn} (hok : ∀ r ∈ rs, okC r) (kk : Int) (p : Int → Bool) (hp : ∀ k, k ≠ 11 → k ≠ 12 → (p k = true ↔ k = kk)) : ∀ k, k ≤ rs.length → SerInv rs k (serTo rs kk k) ∧ (serTo rs kk k).1.sum = (insTo rs p k).1 ∧ (serTo rs kk k).2 = (insTo rs p k).2
  | 0, _ => ⟨SerInv.zero rs, rfl, rfl⟩
  | k + 1, h => by
    obtain ⟨i1, i2, i3⟩ := ser_ins hok kk p hp k (by omega)
    have hx : rs[k]? = some rs[k] := List.getElem?_eq_getElem (by omega)
    generalize rs[k] = r at hx
    have hr := hok r (List.mem_of_getElem? hx)
    rw [serTo_succ kk hx, insTo_succ p hx]
    refine ⟨i1.step kk hx hr, ?_⟩
    unfold serStep insS
    by_cases c1 : r.k = 11
    · rw [if_pos c1, if_pos c1]
      refine ⟨?_, rfl⟩
      rw [List.sum_append, sum_rep, i2]; simp
    · rw [if_neg c1, if_neg c1]
      by_cases c2 : r.k = 12
      · rw [if_pos c2, if_pos c2]
        exact ⟨i2, rfl⟩
      · have hpp := hp _ c1 c2
        rw [if_neg c2, if_neg c2, i3]
        by_cases c3 : (insTo rs p k).2 = true ∧ r.k = kk
        · rw [if_pos c3, if_pos ⟨c3.1, hpp.2 c3.2⟩]
          refine ⟨?_, rfl⟩
          have hne := i1.open' (i3.trans c3.1)
          have hlt : (serTo rs kk k).1.length - 1 < (serTo rs kk k).1.length := by have := List.length_pos_iff.2 hne; omega
          unfold addLast
          rw [sum_set _ _ _ hlt, i2]
          dsimp only
          omega
        · rw [if_neg c3, if_neg (fun hh => c3 ⟨hh.1, hpp.1 hh.2⟩)]
          exact ⟨i2, i3⟩
theorem series_sum {rs : List Rn} (hm : mayL rs = true) (kk : Int) : (seriesL rs kk).sum = insK rs (fun k => decide (k = kk)) := by
  have := (ser_ins (may_ok hm).2 kk (fun k => decide (k = kk)) (fun k _ _ => by simp) rs.length (Nat.le_refl _)).2.1
  unfold seriesL insK
  rw [if_pos hm, this]
/-- two kinds of kinds -/
theorem ins_or (rs : List Rn) (p q o : Int → Bool) (ho : ∀ k, o k = (p k || q k)) (hd : ∀ k, ¬ (p k = true ∧ q k = true)) : ∀ k, k ≤ rs.length → (insTo rs o k).1 = (insTo rs p k).1 + (insTo rs q k).1 ∧ (insTo rs o k).2 = (insTo rs p k).2 ∧ (insTo rs o k).2 = (insTo rs q k).2
  | 0, _ => ⟨rfl, rfl, rfl⟩
  | k + 1, h => by
    obtain ⟨i1, i2, i3⟩ := ins_or rs p q o ho hd k (by omega)
    have hx : rs[k]? = some rs[k] := List.getElem?_eq_getElem (by omega)
    generalize rs[k] = r at hx
    rw [insTo_succ o hx, insTo_succ p hx, insTo_succ q hx]
    unfold insS
    by_cases c1 : r.k = 11
    · simp only [if_pos c1, i1, and_self]
    · simp only [if_neg c1]
      by_cases c2 : r.k = 12
      · simp only [if_pos c2, i1, and_self]
      · simp only [if_neg c2, ← i2, ← i3, ho]
        have := hd r.k
        cases hop : (insTo rs o k).2 <;> cases hpp : p r.k <;> cases hqq : q r.k <;> simp_all <;> omega
theorem ins_none (rs : List Rn) (p : Int → Bool) (hp : ∀ r ∈ rs, r.k ≠ 11 → r.k ≠ 12 → p r.k = false) : ∀ k, k ≤ rs.length → (insTo rs p k).1 = 0
  | 0, _ => rfl
  | k + 1, h => by
    have ih := ins_none rs p hp k (by omega)
    have hx : rs[k]? = some rs[k] := List.getElem?_eq_getElem (by omega)
    generalize rs[k] = r at hx
    have := hp r (List.mem_of_getElem? hx)
    rw [insTo_succ p hx]
    unfold insS
    by_cases c1 : r.k = 11
    · simp only [if_pos c1, ih]
    · simp only [if_neg c1]
      by_cases c2 : r.k = 12
      · simp only [if_pos c2, ih]
      · simp only [if_neg c2, this c1 c2]
        simp [ih]
theorem ins_congr (rs : List Rn) (p q : Int → Bool) (hpq : ∀ r ∈ rs, p r.k = q r.k) : ∀ k, k ≤ rs.length → insTo rs p k = insTo rs q k
  | 0, _ => rfl
  | k + 1, h => by
    have ih := ins_congr rs p q hpq k (by omega)
    have hx : rs[k]? = some rs[k] := List.getElem?_eq_getElem (by omega)
    generalize rs[k] = r at hx
    rw [insTo_succ p hx, insTo_succ q hx, ih]
    unfold insS
    rw [hpq r (List.mem_of_getElem? hx)]
theorem ins_bd {rs : List Rn} (hok : ∀ r ∈ rs, okC r) (p : Int → Bool) : ∀ k, k ≤ rs.length → 0 ≤ (insTo rs p k).1 ∧ (insTo rs p k).1 ≤ tot (rs.take k)
  | 0, _ => by simp [insTo, tot]
  | k + 1, h => by
    have ih := ins_bd hok p k (by omega)
    have hx : rs[k]? = some rs[k] := List.getElem?_eq_getElem (by omega)
    generalize rs[k] = r at hx
    have h1 := (hok r (List.mem_of_getElem? hx)).1
    rw [insTo_succ p hx, tot_take1 hx]
    unfold insS
    split
    · dsimp only; omega
    · split
      · dsimp only; omega
      · split
        · dsimp only; omega
        · omega
/-! ### the sum over Hist's kinds -/
def seenK (h : List Rn) (i : Nat) (k : Int) : Bool := (h.take i).any fun x => decide (x.k = k)
/-- as the statement counts -/
def cntdK (rs h : List Rn) : Nat → Int
  | 0 => 0
  | i + 1 => cntdK rs h i + if 0 < i ∧ (h[i]?.map (·.k)) = (h[i - 1]?.map (·.k)) then 0 else match h[i]? with | some x => (seriesL rs x.k).sum | none => 0
theorem seenK_succ (h : List Rn) (i : Nat) (x : Rn) (hx : h[i]? = some x) (k : Int) : seenK h (i + 1) k = (seenK h i k || decide (k = x.k)) := by
  unfold seenK
  rw [List.take_add_one, hx, List.any_append]
  simp [eq_comm]
theorem up_k {h : List Rn} (hu : h.Pairwise (fun x y => ltR x y = true)) {i j : Nat} {x y : Rn} (hi : h[i]? = some x) (hj : h[j]? = some y) (hij : i < j) : x.k ≤ y.k := by
  obtain ⟨h1, rfl⟩ := List.getElem?_eq_some_iff.1 hi
  obtain ⟨h2, rfl⟩ := List.getElem?_eq_some_iff.1 hj
  have := List.pairwise_iff_getElem.1 hu i j h1 h2 hij
  rw [ltR_iff] at this
  omega
theorem cntd_ins {rs h : List Rn} (hm : mayL rs = true) (hu : h.Pairwise (fun x y => ltR x y = true)) : ∀ i, i ≤ h.length → cntdK rs h i = insK rs (seenK h i)
  | 0, _ => by
    rw [cntdK]
    symm
    exact ins_none rs _ (fun r _ _ _ => rfl) _ (Nat.le_refl _)
  | i + 1, hi => by
    have ih := cntd_ins hm hu i (by omega)
    have hx : h[i]? = some h[i] := List.getElem?_eq_getElem (by omega)
    generalize h[i] = x at hx
    rw [cntdK, ih, hx]
    dsimp only [Option.map_some]
    by_cases c : 0 < i ∧ some x.k = (h[i - 1]?.map (·.k))
    · rw [if_pos c, Int.add_zero]
      have hy : h[i - 1]? = some h[i - 1] := List.getElem?_eq_getElem (by omega)
      generalize h[i - 1] = y at hy
      have hk : x.k = y.k := by have := c.2; rw [hy] at this; simpa using this
      unfold insK
      rw [ins_congr rs (seenK h i) (seenK h (i + 1)) (fun r hr => ?_) _ (Nat.le_refl _)]
      rw [seenK_succ h i x hx]
      by_cases e : r.k = x.k
      · have : seenK h i r.k = true := by
          unfold seenK
          rw [List.any_eq_true]
          refine ⟨y, ?_, by rw [decide_eq_true_eq, e, hk]⟩
          refine List.mem_of_getElem? (i := i - 1) ?_
          rw [List.getElem?_take_of_lt (by omega)]
          exact hy
        rw [this]; rfl
      · rw [decide_eq_false e, Bool.or_false]
    · rw [if_neg c, series_sum hm]
      unfold insK
      rw [(ins_or rs (seenK h i) (fun k => decide (k = x.k)) (seenK h (i + 1)) (seenK_succ h i x hx) (fun k ⟨a, b⟩ => ?_) _ (Nat.le_refl _)).1]
      rw [decide_eq_true_eq] at b
      subst b
      unfold seenK at a
      rw [List.any_eq_true] at a
      obtain ⟨z, hz, hzk⟩ := a
      rw [decide_eq_true_eq] at hzk
      obtain ⟨j, hj⟩ := List.mem_iff_getElem?.1 hz
      have hji : j < i := by
        have := (List.getElem?_eq_some_iff.1 hj).1
        rw [List.length_take] at this
        omega
      rw [List.getElem?_take_of_lt hji] at hj
      have hy : h[i - 1]? = some h[i - 1] := List.getElem?_eq_getElem (by omega)
      generalize h[i - 1] = y at hy
      have h2 : y.k ≤ x.k := up_k hu hy hx (by omega)
      have h3 : z.k ≤ y.k := by
        by_cases e : j = i - 1
        · subst e
          rw [hj] at hy
          injection hy with hy
          rw [hy]
          exact Int.le_refl _
        · exact up_k hu hj hy (by omega)
      exact c ⟨by omega, by rw [hy]; simp; omega⟩
theorem cntd_all {rs h : List Rn} (hm : mayL rs = true) (a : IsHist rs h) : cntdK rs h h.length = insK rs (fun _ => true) := by
  rw [cntd_ins hm a.up _ (Nat.le_refl _)]
  unfold insK
  rw [ins_congr rs _ (fun _ => true) (fun r hr => ?_) _ (Nat.le_refl _)]
  unfold seenK
  rw [List.take_length, List.any_eq_true]
  exact ⟨⟨r.k, r.s, cntE rs r.ev⟩, (a.mem _).2 ⟨⟨r, hr, rfl⟩, rfl⟩, by simp⟩
/-! ### the series of the ledger's runs -/
theorem rep_addH (a b : Int) (ha : 1 ≤ a) (hb : 1 ≤ b) : List.replicate (a + b).toNat (0 : Int) = List.replicate a.toNat 0 ++ List.replicate b.toNat 0 := by
  rw [List.replicate_append_replicate]
  congr 1
  omega
theorem addLast_two (l : List Int) (h : l ≠ []) (a b : Int) : addLast (addLast l a) b = addLast l (a + b) := by
  unfold addLast
  have : 0 < l.length := List.length_pos_iff.2 h
  rw [List.length_set, List.set_set]
  congr 1
  rw [List.getD_eq_getElem?_getD, List.getElem?_set_self (by omega), Option.getD_some]
  omega
/-- once an operation was there, the row is not empty -/
def OpenOk (st : List Int × Bool) : Prop := st.2 = true → st.1 ≠ []
theorem open_step (kk : Int) (st : List Int × Bool) (r : Rn) (h : OpenOk st) (hr : 1 ≤ r.c) : OpenOk (serStep kk st r) := by
  unfold serStep
  split
  · intro _ e
    have := congrArg List.length e
    simp at this
    omega
  · split
    · intro e; simp at e
    · split
      · intro e e2
        have := congrArg List.length e2
        rw [addLast_len] at this
        exact h e (List.eq_nil_of_length_eq_zero (by simpa using this))
      · exact h
theorem ser_two (kk : Int) (st : List Int × Bool) (h : OpenOk st) (k s a b : Int) (ha : 1 ≤ a) (hb : 1 ≤ b) : serStep kk (serStep kk st ⟨k, s, a⟩) ⟨k, s, b⟩ = serStep kk st ⟨k, s, a + b⟩ := by
  unfold serStep
  dsimp only
  by_cases c1 : k = 11
  · simp only [if_pos c1, rep_addH a b ha hb, List.append_assoc]
  · simp only [if_neg c1]
    by_cases c2 : k = 12
    · simp only [if_pos c2]
    · simp only [if_neg c2]
      by_cases c3 : st.2 = true ∧ k = kk
      · simp only [if_pos c3]
        rw [addLast_two _ (h c3.1)]
      · simp only [if_neg c3]
theorem open_fold (kk : Int) : ∀ (l : List Rn) (st : List Int × Bool), Posi l → OpenOk st → OpenOk (l.foldl (serStep kk) st)
  | [], _, _, h => h
  | r :: l, st, hp, h => open_fold kk l _ (fun x hx => hp x (by simp [hx])) (open_step kk st r h (hp r (by simp)))
theorem ser_note (kk : Int) (a : List Rn) (r : Rn) (ha : Posi a) (hr : 1 ≤ r.c) : (noteL a r.k r.s r.c).foldl (serStep kk) ([], false) = serStep kk (a.foldl (serStep kk) ([], false)) r := by
  rcases List.eq_nil_or_concat a with rfl | ⟨a0, x, rfl⟩
  · rfl
  · rw [List.concat_eq_append] at *
    by_cases h : x.k = r.k ∧ x.s = r.s
    · obtain ⟨xk, xs, xc⟩ := x
      obtain ⟨rk, rs', rc⟩ := r
      obtain ⟨h1, h2⟩ := h
      dsimp only at h1 h2 hr ⊢
      subst h1; subst h2
      have hx : 1 ≤ xc := ha ⟨xk, xs, xc⟩ (by simp)
      have := noteL_same a0 ⟨xk, xs, xc⟩ rc
      dsimp only at this
      rw [this, List.foldl_append, List.foldl_append]
      simp only [List.foldl_cons, List.foldl_nil]
      rw [ser_two kk _ (open_fold kk a0 _ (fun y hy => ha y (by simp [hy])) (fun e => by simp at e)) xk xs xc rc hx hr]
    · rw [noteL_other _ _ _ _ _ h, List.foldl_append]
      rfl
theorem ser_H (kk : Int) : ∀ (n : Nat) (rs : List Rn), rs.length = n → (∀ r ∈ rs, okC r) → (noteH rs).foldl (serStep kk) ([], false) = rs.foldl (serStep kk) ([], false)
  | 0, rs, hn, _ => by
    have : rs = [] := List.eq_nil_of_length_eq_zero hn
    subst this; rfl
  | n + 1, rs, hn, h => by
    rcases List.eq_nil_or_concat rs with rfl | ⟨l, r, rfl⟩
    · simp at hn
    · rw [List.concat_eq_append] at *
      have hl : ∀ x ∈ l, okC x := fun x hx => h x (by simp [hx])
      have ih := ser_H kk n l (by simpa using hn) hl
      rw [noteH_snoc, ser_note kk (noteH l) r (ledH _ l rfl hl).pos (h r (by simp)).1, ih, List.foldl_append]
      rfl
theorem series_H {rs : List Rn} (hm : mayL rs = true) (hk : mayL (noteH rs) = true) (kk : Int) : seriesL (noteH rs) kk = seriesL rs kk := by
  unfold seriesL serTo
  rw [if_pos hm, if_pos hk, List.take_length, List.take_length, ser_H kk _ rs rfl (may_ok hm).2]
end Go.Proofs.Ytfielodchoghlaa
