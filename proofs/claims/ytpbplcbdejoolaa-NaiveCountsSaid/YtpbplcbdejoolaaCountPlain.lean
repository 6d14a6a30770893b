/- How many events, of which size: the plain law of naive's functions. No program in sight. -/
import Derived.Test.YtpbplcbdejoolaaRows
import Derived.Test.YtpbplcbdejoolaaFewS
namespace Go.Proofs.Ytpbplcbdejoolaa
open Go.RowKit
set_option linter.unusedVariables false
set_option linter.unusedSimpArgs false
set_option linter.unnecessarySimpa false
set_option maxRecDepth 100000

/-- how many branches have the size 1 -/
def szd (rs : List Rn) : Int := (rs.map fun r => if r.k = 9 ∧ r.s = 1 then r.c else 0).sum
theorem szd_append (a b : List Rn) : szd (a ++ b) = szd a + szd b := by simp [szd]
theorem szd_one (r : Rn) : szd [r] = if r.k = 9 ∧ r.s = 1 then r.c else 0 := by simp [szd]
theorem szd_note (rs : List Rn) (s : Int) : szd (noteL rs 9 s 1) = szd rs + if s = 1 then 1 else 0 := by
  rcases List.eq_nil_or_concat rs with rfl | ⟨r0, r, rfl⟩
  · rw [noteL_nil, szd_one]
    simp [szd]
  · rw [List.concat_eq_append]
    by_cases h : r.k = 9 ∧ r.s = s
    · obtain ⟨h1, rfl⟩ := h
      have e := noteL_same r0 r 1
      rw [h1] at e
      rw [e, szd_append, szd_append, szd_one, szd_one]
      simp only [h1, true_and]
      by_cases h2 : r.s = 1
      · simp only [h2, if_true]
        omega
      · simp only [h2, if_false]
        omega
    · have e : noteL (r0 ++ [r]) 9 s 1 = (r0 ++ [r]) ++ [⟨9, s, 1⟩] := by
        unfold noteL
        rw [List.getLast?_append, List.getLast?_singleton]
        simp only [Option.some_or, h, if_false]
      rw [e, szd_append, szd_one]
      simp
def totO : Option (List Rn) → Int
  | some rs => tot rs
  | none => 0
def szdO : Option (List Rn) → Int
  | some rs => szd rs
  | none => 0
def IsS (o : Option (List Rn)) : Prop := ∃ rs, o = some rs
theorem FewS.is {o : Option (List Rn)} {n : Nat} (h : FewS o n) : IsS o := by
  obtain ⟨rs, rfl, _⟩ := h
  exact ⟨rs, rfl⟩
theorem IsS.note {o : Option (List Rn)} (h : IsS o) (b : Bool) : IsS (noteB o b) := by
  obtain ⟨rs, rfl⟩ := h
  exact ⟨_, rfl⟩
theorem totO_note {o : Option (List Rn)} (h : IsS o) (b : Bool) : totO (noteB o b) = totO o + 1 := by
  obtain ⟨rs, rfl⟩ := h
  exact tot_note rs 9 _ 1
theorem szdO_note {o : Option (List Rn)} (h : IsS o) (b : Bool) : szdO (noteB o b) = szdO o + if b then 1 else 0 := by
  obtain ⟨rs, rfl⟩ := h
  show szd (noteL rs 9 (yesI b) 1) = szd rs + _
  rw [szd_note]
  cases b <;> rfl
/-- how long lists are alike -/
def common : List UInt8 → List UInt8 → Nat
  | a :: l, b :: m => if a = b then common l m + 1 else 0
  | _, _ => 0
theorem common_le : ∀ xs ys, common xs ys ≤ xs.length ∧ common xs ys ≤ ys.length
  | [], ys => by cases ys <;> simp [common]
  | a :: l, [] => by simp [common]
  | a :: l, b :: m => by
    have := common_le l m
    unfold common
    by_cases h : a = b
    · rw [if_pos h]; simp; omega
    · rw [if_neg h]; simp
theorem eqN_counts : ∀ (xs ys : List UInt8) (o : Option (List Rn)), xs.length = ys.length → IsS o →
    (eqN xs ys o).1 = decide (common xs ys = xs.length) ∧ totO (eqN xs ys o).2 = totO o + ((min (common xs ys + 1) xs.length : Nat) : Int)
  | [], [], o, _, h => by simp [eqN, common]
  | [], b :: m, o, hl, h => by simp at hl
  | a :: l, [], o, hl, h => by simp at hl
  | a :: l, b :: m, o, hl, h => by
    have hl' : l.length = m.length := by simpa using hl
    have hc := common_le l m
    unfold eqN common
    by_cases e : a = b
    · rw [if_pos e, if_pos e]
      obtain ⟨h1, h2⟩ := eqN_counts l m (noteB o true) hl' (h.note true)
      refine ⟨?_, ?_⟩
      · rw [h1, List.length_cons]
        congr 1
        exact propext (by omega)
      · rw [h2, totO_note h, List.length_cons]
        omega
    · rw [if_neg e, if_neg e]
      refine ⟨by simp, ?_⟩
      rw [totO_note h, List.length_cons]
      omega
theorem nEq_counts (xs ys : List UInt8) (o : Option (List Rn)) (h : IsS o) :
    (nEq xs ys o).1 = (decide (xs.length = ys.length) && decide (common xs ys = xs.length)) ∧ totO (nEq xs ys o).2 = totO o + (((if xs.length = ys.length then min (common xs ys + 1) xs.length else 0) : Nat) : Int) := by
  unfold nEq
  by_cases e : xs.length = ys.length
  · rw [if_pos e, if_pos e]
    obtain ⟨h1, h2⟩ := eqN_counts xs ys o e h
    exact ⟨by rw [h1]; simp [e], h2⟩
  · rw [if_neg e, if_neg e]
    exact ⟨by simp [e], by simp⟩
theorem fdN_counts (c : UInt8) : ∀ (xs : List UInt8) (i : Nat) (o : Option (List Rn)), IsS o →
    ((fdN c xs i o).1 = -1 ∧ totO (fdN c xs i o).2 = totO o + xs.length) ∨ ∃ k : Nat, k < xs.length ∧ (fdN c xs i o).1 = ((i + k : Nat) : Int) ∧ xs.getD k 0 = c ∧ totO (fdN c xs i o).2 = totO o + k + 1
  | [], i, o, h => .inl ⟨rfl, by simp [fdN]⟩
  | a :: l, i, o, h => by
    unfold fdN
    by_cases e : a = c
    · rw [if_pos e]
      exact .inr ⟨0, by simp, rfl, by simpa using e, by rw [totO_note h]; simp⟩
    · rw [if_neg e]
      rcases fdN_counts c l (i + 1) (noteB o false) (h.note false) with ⟨h1, h2⟩ | ⟨k, h1, h2, h3, h4⟩
      · exact .inl ⟨h1, by rw [h2, totO_note h, List.length_cons]; omega⟩
      · exact .inr ⟨k + 1, by simp; omega, by rw [h2]; congr 1; omega, by simpa using h3, by rw [h4, totO_note h]; omega⟩
def onesN (e : Nat) : Nat → Nat
  | 0 => 0
  | k + 1 => onesN e k + e / 2 ^ k % 2
theorem onesN_le (e : Nat) : ∀ k, onesN e k ≤ k
  | 0 => Nat.le_refl _
  | k + 1 => by
    have := onesN_le e k
    have : e / 2 ^ k % 2 < 2 := Nat.mod_lt _ (by omega)
    unfold onesN
    omega
theorem powO_counts (e : Nat) : ∀ (k : Nat) (o : Option (List Rn)), IsS o → totO (powO e k o) = totO o + k ∧ szdO (powO e k o) = szdO o + onesN e k
  | 0, o, h => by simp [powO, onesN]
  | k + 1, o, h => by
    obtain ⟨h1, h2⟩ := powO_counts e k (noteB o (decide (e / 2 ^ k % 2 = 1))) (h.note _)
    unfold powO onesN
    rw [h1, h2, totO_note h, szdO_note h]
    have : e / 2 ^ k % 2 < 2 := Nat.mod_lt _ (by omega)
    refine ⟨by omega, ?_⟩
    generalize e / 2 ^ k % 2 = z at this
    rcases z with _ | _ | z
    · simp
    · simp; omega
    · omega

/-! ### the sort -/
/-- x goes down into r (the last is the first) -/
def ins (x : UInt8) : List UInt8 → List UInt8
  | [] => [x]
  | a :: r => if x < a then a :: ins x r else x :: a :: r
def cnt (x : UInt8) (r : List UInt8) : Nat := r.countP (fun a => decide (x < a))
/-- r falls -/
def Falls (r : List UInt8) : Prop := r.Pairwise (fun a b => b ≤ a)
theorem ins_perm (x : UInt8) : ∀ r, (ins x r).Perm (x :: r)
  | [] => List.Perm.refl _
  | a :: r => by
    unfold ins
    by_cases h : x < a
    · rw [if_pos h]
      exact (List.Perm.cons a (ins_perm x r)).trans (List.Perm.swap x a r)
    · rw [if_neg h]
theorem ins_falls (x : UInt8) : ∀ r, Falls r → Falls (ins x r)
  | [], _ => by simp [ins, Falls]
  | a :: r, h => by
    have h' := h
    unfold Falls at h
    rw [List.pairwise_cons] at h
    unfold ins
    by_cases e : x < a
    · rw [if_pos e]
      unfold Falls
      rw [List.pairwise_cons]
      refine ⟨fun b hb => ?_, ins_falls x r h.2⟩
      rcases List.mem_cons.1 ((ins_perm x r).mem_iff.1 hb) with rfl | hb
      · exact UInt8.le_of_lt e
      · exact h.1 b hb
    · rw [if_neg e]
      unfold Falls
      rw [List.pairwise_cons]
      refine ⟨fun b hb => ?_, h'⟩
      have e2 : a ≤ x := UInt8.not_lt.1 e
      rcases List.mem_cons.1 hb with rfl | hb
      · exact e2
      · exact UInt8.le_trans (h.1 b hb) e2
theorem getD_mid (p q : List UInt8) (x : UInt8) : (p ++ x :: q).getD p.length 0 = x := by
  simp
theorem swapN_mid (p q : List UInt8) (a x : UInt8) : swapN (p ++ a :: x :: q) p.length = p ++ x :: a :: q := by
  have h1 : (p ++ a :: x :: q).getD p.length 0 = a := getD_mid p (x :: q) a
  have h2 : (p ++ a :: x :: q).getD (p.length + 1) 0 = x := by
    have := getD_mid (p ++ [a]) q x
    simpa using this
  unfold swapN
  rw [h1, h2, List.set_append_right _ _ (Nat.le_refl _), Nat.sub_self, List.set_cons_zero, List.set_append_right _ _ (Nat.le_succ _), show p.length + 1 - p.length = 1 by omega, List.set_cons_succ, List.set_cons_zero]
theorem dnN_ins (x : UInt8) : ∀ (r q : List UInt8) (o : Option (List Rn)), Falls r → IsS o →
    (dnN r.length (r.reverse ++ x :: q) o).1 = (ins x r).reverse ++ q ∧ szdO (dnN r.length (r.reverse ++ x :: q) o).2 = szdO o + cnt x r ∧ IsS (dnN r.length (r.reverse ++ x :: q) o).2
  | [], q, o, _, h => ⟨rfl, by simp [dnN, cnt], h⟩
  | a :: r, q, o, hf, h => by
    have hf' := hf
    unfold Falls at hf
    rw [List.pairwise_cons] at hf
    have e0 : (a :: r).reverse ++ x :: q = r.reverse ++ a :: x :: q := by simp
    have h1 : (r.reverse ++ a :: x :: q).getD r.length 0 = a := by
      have := getD_mid r.reverse (x :: q) a
      rwa [List.length_reverse] at this
    have h2 : (r.reverse ++ a :: x :: q).getD (r.length + 1) 0 = x := by
      have := getD_mid (r.reverse ++ [a]) q x
      simpa using this
    have h3 : swapN (r.reverse ++ a :: x :: q) r.length = r.reverse ++ x :: a :: q := by
      have := swapN_mid r.reverse q a x
      rwa [List.length_reverse] at this
    rw [e0, List.length_cons]
    unfold dnN ins
    rw [h1, h2, h3]
    by_cases e : x < a
    · rw [if_pos e, if_pos e]
      obtain ⟨g1, g2, g3⟩ := dnN_ins x r (a :: q) (noteB o true) hf.2 (h.note true)
      refine ⟨by rw [g1]; simp, ?_, g3⟩
      rw [g2, szdO_note h]
      unfold cnt
      rw [List.countP_cons]
      simp [e]
      omega
    · rw [if_neg e, if_neg e]
      refine ⟨by simp, ?_, h.note false⟩
      have hz : cnt x (a :: r) = 0 := by
        unfold cnt
        rw [List.countP_eq_zero]
        intro b hb
        simp only [decide_eq_true_eq]
        rcases List.mem_cons.1 hb with rfl | hb
        · exact e
        · exact fun hh => e (UInt8.lt_of_lt_of_le hh (hf.1 b hb))
      rw [szdO_note h, hz]
      simp
/-- pairs of which the greater stands ahead: r (backwards) stands ahead of q -/
def invC : List UInt8 → List UInt8 → Nat
  | _, [] => 0
  | r, x :: q => cnt x r + invC (x :: r) q
theorem invC_perm : ∀ (q r r' : List UInt8), r.Perm r' → invC r q = invC r' q
  | [], _, _, _ => rfl
  | x :: q, r, r', h => by
    unfold invC
    rw [invC_perm q _ _ (List.Perm.cons x h)]
    unfold cnt
    rw [h.countP_eq]
theorem srN_sort : ∀ (q r : List UInt8) (o : Option (List Rn)), Falls r → IsS o →
    ∃ r', (srN q.length r.length (r.reverse ++ q) o).1 = r'.reverse ∧ Falls r' ∧ r'.Perm (r.reverse ++ q) ∧ szdO (srN q.length r.length (r.reverse ++ q) o).2 = szdO o + invC r q
  | [], r, o, hf, h => ⟨r, by simp [srN], hf, by simpa using (List.reverse_perm r).symm, by simp [srN, invC]⟩
  | x :: q, r, o, hf, h => by
    obtain ⟨g1, g2, g3⟩ := dnN_ins x r q o hf h
    obtain ⟨r', k1, k2, k3, k4⟩ := srN_sort q (ins x r) (dnN r.length (r.reverse ++ x :: q) o).2 (ins_falls x r hf) g3
    have hl : (ins x r).length = r.length + 1 := by rw [(ins_perm x r).length_eq]; rfl
    rw [hl] at k1 k4
    have e : srN (x :: q).length r.length (r.reverse ++ x :: q) o = srN q.length (r.length + 1) ((ins x r).reverse ++ q) (dnN r.length (r.reverse ++ x :: q) o).2 := by
      rw [← g1]
      rfl
    refine ⟨r', by rw [e, k1], k2, ?_, ?_⟩
    · refine k3.trans ?_
      have p1 : ((ins x r).reverse ++ q).Perm ((x :: r) ++ q) := ((List.reverse_perm _).trans (ins_perm x r)).append_right q
      refine p1.trans ?_
      have p2 : ((x :: r) ++ q).Perm (r ++ x :: q) := List.perm_middle.symm
      exact p2.trans ((List.reverse_perm r).symm.append_right (x :: q))
    · rw [e, k4, g2, invC_perm q _ _ (ins_perm x r)]
      show _ = szdO o + ((cnt x r + invC (x :: r) q : Nat) : Int)
      omega
/-- as pairs counts them -/
def less (x : UInt8) (q : List UInt8) : Nat := q.countP (fun a => decide (a < x))
def pairsN : List UInt8 → Nat
  | [] => 0
  | a :: l => less a l + pairsN l
def lessAll (q : List UInt8) : List UInt8 → Nat
  | [] => 0
  | a :: r => less a q + lessAll q r
theorem lessAll_cons (x : UInt8) (q : List UInt8) : ∀ r, lessAll (x :: q) r = cnt x r + lessAll q r
  | [] => rfl
  | a :: r => by
    unfold lessAll cnt less
    rw [List.countP_cons, List.countP_cons, lessAll_cons x q r]
    unfold cnt
    omega
theorem invC_pairs : ∀ (q r : List UInt8), invC r q = lessAll q r + pairsN q
  | [], r => by
    have : ∀ r, lessAll [] r = 0 := by
      intro r
      induction r with
      | nil => rfl
      | cons a r ih => simp [lessAll, less, ih]
    simp [invC, pairsN, this]
  | x :: q, r => by
    unfold invC pairsN
    rw [invC_pairs q (x :: r), lessAll_cons]
    show cnt x r + (less x q + lessAll q r + pairsN q) = _
    omega
/-- what Sort answers, and how often it swaps -/
theorem sortN_law (xs : List UInt8) (o : Option (List Rn)) (h : IsS o) : ∃ T, (sortN xs o).1 = T ∧ T.Pairwise (· ≤ ·) ∧ T.Perm xs ∧ szdO (sortN xs o).2 = szdO o + pairsN xs := by
  cases xs with
  | nil => exact ⟨[], rfl, List.Pairwise.nil, List.Perm.refl _, by simp [sortN, srN, pairsN]⟩
  | cons a q =>
    obtain ⟨r', k1, k2, k3, k4⟩ := srN_sort q [a] o (by simp [Falls]) h
    refine ⟨r'.reverse, k1, ?_, ?_, ?_⟩
    · rw [List.pairwise_reverse]
      exact k2
    · exact (List.reverse_perm r').trans k3
    · have e : invC [a] q = pairsN (a :: q) := by
        have := invC_pairs (a :: q) []
        show _ = _
        simpa [invC, cnt, lessAll] using this
      rw [← e]
      exact k4
theorem less_le (x : UInt8) (q : List UInt8) : less x q ≤ q.length := List.countP_le_length
theorem pairsN_le : ∀ q : List UInt8, pairsN q ≤ q.length * q.length
  | [] => Nat.le_refl _
  | a :: l => by
    have h1 := pairsN_le l
    have h2 := less_le a l
    unfold pairsN
    rw [List.length_cons, Nat.add_mul, Nat.mul_add]
    omega
end Go.Proofs.Ytpbplcbdejoolaa
