/- A region that draws its order, walked once in the order of its text: each operation of its head has ONE value in every world that meets S, and leaves a world that meets S (reads, arithmetic, calls that keep S). The tail follows in its one order. No program in sight. -/
import Derived.StillTail
import Derived.KernelRfl
import Derived.Deep.MidRow
namespace Go.Proofs.Ytideobdggdmeiaa
open Go

section
variable {P : Program} {ops : Array Oper} {md : Region.Mode} {ib : Nat} {S S' : World → Prop}

/-- what one step gives: the value v, and S again -/
def Gives (P : Program) (S : World → Prop) (v : Value) : Result Next → Prop
  | .ok (.value u) w' => u = v ∧ S w'
  | .ok .skip w' => v = undef ∧ S w'
  | .ok (.enter f args) w' => Calls P f args w' fun e w'' => e = .returned v ∧ S w''
  | _ => False
/-- operation i of the head: number ib leads from S to S'; every other one keeps both -/
def Tame (P : Program) (ops : Array Oper) (ib : Nat) (S S' : World → Prop) (i : Nat) (o : Oper) (v : Value) (a : Act) : Prop :=
  (Region.wanted o (yielded ops a.tmps) = true ∧ (i = ib → ∀ w, S w → Gives P S' v ((execOp a.eval o).run P w)) ∧ (i ≠ ib → (∀ w, S w → Gives P S v ((execOp a.eval o).run P w)) ∧ ∀ w, S' w → Gives P S' v ((execOp a.eval o).run P w))) ∨
  (Region.wanted o (yielded ops a.tmps) = false ∧ v = undef ∧ i ≠ ib)
/-- the world's condition, by what has come up -/
def Met (ib : Nat) (S S' : World → Prop) (listed : Array Bool) (w : World) : Prop := (listed.getD ib false = false ∧ S w) ∨ (listed.getD ib false = true ∧ S' w)

theorem Tame.of_same {i : Nat} {o : Oper} {v : Value} {a a' : Act} (hy : Tame P ops ib S S' i o v a) (he : execOp a'.eval o = execOp a.eval o)
    (hw : Region.wanted o (yielded ops a'.tmps) = Region.wanted o (yielded ops a.tmps)) : Tame P ops ib S S' i o v a' := by
  unfold Tame at *
  rw [he, hw]
  exact hy
theorem gives_wp {o : Oper} {v : Value} {a : Act} {T : World → Prop} {K : Act → World → Prop} {Q : Exit → Act → World → Prop} {w : World} (h1 : Gives P T v ((execOp a.eval o).run P w)) (h : ∀ w, T w → K (a.put o.dst v) w) : o.wp P a w K Q := by
  unfold Oper.wp
  generalize (execOp a.eval o).run P w = r at *
  cases r with
  | ok n w' =>
    cases n <;> simp only [Gives] at h1 <;> simp only [Oper.upon]
    case value u => obtain ⟨rfl, h2⟩ := h1; exact h _ h2
    case skip => obtain ⟨rfl, h2⟩ := h1; exact h _ h2
    case enter f args => exact h1.mono fun e w'' ⟨he, hs⟩ => by subst he; exact h _ hs
  | halt x w' => simp only [Gives] at h1
theorem Tame.wpOp {i : Nat} {o : Oper} {v : Value} {a : Act} {listed : Array Bool} (hi : ops[i]? = some o) (hr : listed.getD i true = false) (hy : Tame P ops ib S S' i o v a) {K : Act → World → Prop} {Q : Exit → Act → World → Prop}
    (h : ∀ w, Met ib S S' (listed.setIfInBounds i true) w → K (a.put o.dst v) w) (w : World) (hS : Met ib S S' listed w) : wpOp P ops Q i K a w := by
  unfold Go.wpOp
  simp only [hi]
  have hlt : i < listed.size := by
    rcases Nat.lt_or_ge i listed.size with h' | h'
    · exact h'
    · simp [Array.getElem?_eq_none h'] at hr
  have hr' : listed.getD i false = false := getD_both hr
  rcases hy with ⟨hw, hb, hn⟩ | ⟨hw, rfl, hne⟩
  · simp only [hw, if_true]
    refine .inl ?_
    by_cases e : i = ib
    · subst e
      rcases hS with ⟨_, hS⟩ | ⟨hx, _⟩
      · exact gives_wp (hb rfl w hS) fun w' hw' => h w' (.inr ⟨by simp [hlt], hw'⟩)
      · rw [hr'] at hx; cases hx
    · obtain ⟨h1, h2⟩ := hn e
      rcases hS with ⟨hx, hS⟩ | ⟨hx, hS⟩
      · exact gives_wp (h1 w hS) fun w' hw' => h w' (.inl ⟨by rw [getD_set_ne false e]; exact hx, hw'⟩)
      · exact gives_wp (h2 w hS) fun w' hw' => h w' (.inr ⟨by rw [getD_set_ne false e]; exact hx, hw'⟩)
  · simp only [hw, Bool.false_eq_true, if_false]
    refine h w ?_
    rcases hS with ⟨hx, hS⟩ | ⟨hx, hS⟩
    · exact .inl ⟨by rw [getD_set_ne false hne]; exact hx, hS⟩
    · exact .inr ⟨by rw [getD_set_ne false hne]; exact hx, hS⟩

def taOp (P : Program) (ops : Array Oper) (ib : Nat) (S S' : World → Prop) (i : Nat) (K : Act → Prop) (a : Act) : Prop :=
  ∃ o v, ops[i]? = some o ∧ Tame P ops ib S S' i o v a ∧ K (a.put o.dst v)
theorem taOp_mono {i : Nat} {a : Act} {K K' : Act → Prop} (h : ∀ a, K a → K' a) (hh : taOp P ops ib S S' i K a) : taOp P ops ib S S' i K' a := by
  obtain ⟨o, v, h1, h2, h3⟩ := hh
  exact ⟨o, v, h1, h2, h _ h3⟩
theorem taOp_put {i j : Nat} {oi oj : Oper} {v : Value} (hj : ops[j]? = some oj) (hap : oi.apart ops oj = true)
    (hsi : ∀ cs b, oi.op ≠ .select cs b) (hsj : ∀ cs b, oj.op ≠ .select cs b) {K : Act → Prop} {a : Act}
    (hy : Tame P ops ib S S' i oi v a) (h : taOp P ops ib S S' j K (a.put oi.dst v)) :
    taOp P ops ib S S' j (fun a' => Tame P ops ib S S' i oi v a' ∧ K (a'.put oi.dst v)) a := by
  obtain ⟨h1, h2, h3⟩ := Oper.apart_spec hap
  obtain ⟨o, u, ho, hyo, hK⟩ := h
  have e : o = oj := Option.some.inj (ho.symm.trans hj)
  subst e
  refine ⟨o, u, hj, hyo.of_same (execOp_put o hsj a oi.dst v h1).symm (wanted_put o a oi.dst v h1).symm, ?_, ?_⟩
  · exact hy.of_same (execOp_put oi hsi a o.dst u h3) (wanted_put oi a o.dst u h3)
  · rw [← Act.put_comm a v u h2]
    exact hK

def wpAnyT (P : Program) (md : Region.Mode) (ops : Array Oper) (ib : Nat) (S S' : World → Prop) (n : Nat) (L : Array Bool → Act → Prop) : Nat → Array Bool → Act → Prop
  | 0, listed, a => L listed a
  | f + 1, listed, a =>
    Region.ready md ops listed ≠ [] ∧ ∀ i ∈ Region.ready md ops listed, i < n ∧ taOp P ops ib S S' i (wpAnyT P md ops ib S S' n L f (listed.setIfInBounds i true)) a

theorem wpAny_of_headT {n g : Nat} {L : Array Bool → Act → Prop} {Q' : Exit → Act → World → Prop} (hL : ∀ listed a, L listed a → ∀ w, Met ib S S' listed w → wpAny P md ops Q' g listed a w) :
    ∀ (f : Nat) (listed : Array Bool) (a : Act), wpAnyT P md ops ib S S' n L f listed a → ∀ w, Met ib S S' listed w → wpAny P md ops Q' (f + g) listed a w
  | 0, listed, a, h, w, hS => by rw [Nat.zero_add]; exact hL _ _ h w hS
  | f + 1, listed, a, h, w, hS => by
    rw [show f + 1 + g = (f + g) + 1 by omega]
    refine ⟨fun h0 => absurd h0 h.1, fun i hi => ?_⟩
    obtain ⟨o, v, ho, hy, hK⟩ := (h.2 i hi).2
    exact hy.wpOp ho (mem_ready.1 hi).1 (fun w' hS' => wpAny_of_headT hL f _ _ hK w' hS') w hS

/-- as 'sinkB' and 'tail_waits', from number m on: the first m have come up -/
def sinkM (md : Region.Mode) (ops : Array Oper) (m n : Nat) : Bool :=
  (List.range n).all fun i => decide (i < m) || (List.range (n + 1)).any fun j => decide (i < j) && Region.waitsFor md ops j i
/-- each operation behind n waits for one from n on -/
def chainW (md : Region.Mode) (ops : Array Oper) (n : Nat) : Bool :=
  (List.range ops.size).all fun t => decide (t ≤ n) || (List.range t).any fun u => decide (n ≤ u) && Region.waitsFor md ops t u
theorem chainW_of {n : Nat} (hc : Region.chainB md ops n = true) : chainW md ops n = true := by
  refine List.all_eq_true.2 fun t ht => ?_
  have h1 := List.all_eq_true.1 hc t ht
  simp only [Bool.or_eq_true, decide_eq_true_eq] at h1 ⊢
  rcases h1 with h1 | h1
  · exact .inl h1
  · by_cases h : t ≤ n
    · exact .inl h
    · refine .inr (List.any_eq_true.2 ⟨t - 1, List.mem_range.2 (by omega), ?_⟩)
      simp only [Bool.and_eq_true, decide_eq_true_eq]
      exact ⟨by omega, h1⟩
theorem tail_waitsM {m n : Nat} {listed : Array Bool} (hs : sinkM md ops m n = true) (hc : chainW md ops n = true) (hn : n < ops.size) (inv : HeadInv md ops n listed) :
    ∀ (d i : Nat), n - i = d → m ≤ i → i < n → listed.getD i true = false → ∀ t, n ≤ t → t ∉ Region.ready md ops listed := by
  intro d
  induction d using Nat.strongRecOn with
  | _ d ih =>
    intro i hd hm hi hun t ht hr
    obtain ⟨_, ot, hot, hall⟩ := mem_ready.1 hr
    have htlt : t < ops.size := (Array.getElem?_eq_some_iff.1 hot).1
    by_cases htn : t = n
    · subst htn
      have h1 := List.all_eq_true.1 hs i (List.mem_range.2 hi)
      simp only [Bool.or_eq_true, decide_eq_true_eq] at h1
      rcases h1 with h1 | h1
      · omega
      obtain ⟨j, hj, hj2⟩ := List.any_eq_true.1 h1
      simp only [Bool.and_eq_true, decide_eq_true_eq] at hj2
      obtain ⟨oj, hoj, e, he, hb, hon⟩ := Region.waitsFor_spec hj2.2
      have hjle : j ≤ t := by have := List.mem_range.1 hj; omega
      by_cases hjt : j = t
      · subst hjt
        have : oj = ot := Option.some.inj (hoj.symm.trans hot)
        subst this
        have h2 := hall e he hb
        rw [hon, getD_both hun] at h2
        cases h2
      · cases hl : listed.getD j false with
        | true =>
          have h2 := inv.closed j oj hoj hl e he hb
          rw [hon, getD_both hun] at h2
          cases h2
        | false =>
          have hjs : j < listed.size := by rw [inv.size]; omega
          exact ih (t - j) (by omega) j rfl (by omega) (by omega) (getD_in hjs hl) t (Nat.le_refl _) hr
    · have h1 := List.all_eq_true.1 hc t (List.mem_range.2 htlt)
      simp only [Bool.or_eq_true, decide_eq_true_eq] at h1
      rcases h1 with h1 | h1
      · omega
      · obtain ⟨u, hu, hu2⟩ := List.any_eq_true.1 h1
        have hut := List.mem_range.1 hu
        simp only [Bool.and_eq_true, decide_eq_true_eq] at hu2
        obtain ⟨o', ho', e, he, hb, hon⟩ := Region.waitsFor_spec hu2.2
        have : o' = ot := Option.some.inj (ho'.symm.trans hot)
        subst this
        have h2 := hall e he hb
        rw [hon, getD_both (inv.tail u hu2.1 (by omega))] at h2
        cases h2

theorem wpAnyT_first {m n i : Nat} {oi : Oper} {v : Value} {L : Array Bool → Act → Prop} (hi : ops[i]? = some oi) (hsel : ∀ (j : Nat) (o : Oper) cs b, ops[j]? = some o → o.op ≠ .select cs b)
    (hs : sinkM md ops m n = true) (hc : chainW md ops n = true) (hn : n < ops.size) (hmi : m ≤ i) (hin : i < n)
    (hdone : ∀ listed a, L listed a → ∀ j ∈ Region.ready md ops listed, n ≤ j) :
    ∀ (f : Nat) (listed : Array Bool) (a : Act), HeadInv md ops n listed →
      (∀ j oj, ops[j]? = some oj → j ≠ i → listed.getD j true = false → (∀ e ∈ oj.after, Region.binds md e = true → e.on ≠ i) → oi.apart ops oj = true) →
      i ∈ Region.ready md ops listed → Tame P ops ib S S' i oi v a →
      wpAnyT P md ops ib S S' n L f (listed.setIfInBounds i true) (a.put oi.dst v) → wpAnyT P md ops ib S S' n L (f + 1) listed a := by
  intro f
  induction f with
  | zero =>
    intro listed a inv _ hr hy H
    have hun := (mem_ready.1 hr).1
    refine ⟨fun h => (by rw [h] at hr; cases hr), fun j hj => ?_⟩
    have hjn : j < n := by
      rcases Nat.lt_or_ge j n with h | h
      · exact h
      · exact absurd hj (tail_waitsM hs hc hn inv _ i rfl hmi hin hun j h)
    refine ⟨hjn, ?_⟩
    by_cases hji : j = i
    · subst hji; exact ⟨oi, v, hi, hy, H⟩
    · have := hdone _ _ H j (ready_mono hj hji)
      omega
  | succ f ih =>
    intro listed a inv hfree hr hy H
    have hun := (mem_ready.1 hr).1
    refine ⟨fun h => (by rw [h] at hr; cases hr), fun j hj => ?_⟩
    have hjn : j < n := by
      rcases Nat.lt_or_ge j n with h | h
      · exact h
      · exact absurd hj (tail_waitsM hs hc hn inv _ i rfl hmi hin hun j h)
    refine ⟨hjn, ?_⟩
    by_cases hji : j = i
    · subst hji; exact ⟨oi, v, hi, hy, H⟩
    · have h1 := (H.2 j (ready_mono hj hji)).2
      obtain ⟨hjun, oj, hoj, hall⟩ := mem_ready.1 hj
      have hnot : ∀ e ∈ oj.after, Region.binds md e = true → e.on ≠ i := fun e he hb heq => by
        have h1 := hall e he hb
        rw [heq, getD_both hun] at h1
        cases h1
      have h2 := taOp_put hoj (hfree j oj hoj hji hjun hnot) (fun cs b => hsel i oi cs b hi) (fun cs b => hsel j oj cs b hoj) hy h1
      have hfree' : ∀ k ok, ops[k]? = some ok → k ≠ i → (listed.setIfInBounds j true).getD k true = false →
          (∀ e ∈ ok.after, Region.binds md e = true → e.on ≠ i) → oi.apart ops ok = true := fun k ok hk hki hun hno => by
        refine hfree k ok hk hki ?_ hno
        by_cases hjk : j = k
        · subst hjk; exact hjun
        · rw [getD_set_ne true hjk] at hun; exact hun
      refine taOp_mono (fun a' h3 => ih (listed.setIfInBounds j true) a' (inv.set hj hjn) hfree' (ready_mono hr (Ne.symm hji)) h3.1 ?_) h2
      rw [Array.setIfInBounds_comm _ _ hji]
      exact h3.2

/-- the head's operations in the order of the text -/
def wpTame (P : Program) (ops : Array Oper) (ib : Nat) (S S' : World → Prop) (Q : Act → Prop) : Nat → List Oper → Act → Prop
  | _, [], a => Q a
  | k, o :: rest, a => ∃ v, Tame P ops ib S S' k o v a ∧ wpTame P ops ib S S' Q (k + 1) rest (a.put o.dst v)

theorem wpAnyT_lex {m n g : Nat} {Lq : Act → Prop} (hsel : Region.noSelect ops = true) (hs : sinkM md ops m n = true) (hc : chainW md ops n = true) (hn : n < ops.size) :
    ∀ (l : List Oper) (k : Nat) (listed : Array Bool) (a : Act), (∀ j, j < l.length → l[j]? = ops[k + j]?) → k + l.length = n → m ≤ k → HeadInv md ops n listed →
    Region.lexHead md ops g l.length k listed = true → (∀ j, j < k → listed.getD j false = true) → wpTame P ops ib S S' Lq k l a →
    wpAnyT P md ops ib S S' n (fun listed' a' => Region.seqB md ops g n listed' = true ∧ (∀ j, j < n → listed'.getD j false = true) ∧ Lq a') l.length listed a
  | [], k, listed, a, _, hk, _, _, hB, hall, h => by
    have : k = n := by simpa using hk
    subst this
    exact ⟨by simpa [Region.lexHead] using hB, hall, h⟩
  | o :: l, k, listed, a, hl, hk, hmk, inv, hB, hall, h => by
    have h0 : ops[k]? = some o := by simpa using (hl 0 (by simp)).symm
    simp only [List.length_cons, Region.lexHead, Bool.and_eq_true] at hB
    obtain ⟨⟨hr, hf⟩, hB'⟩ := hB
    have hkn : k < n := by simp only [List.length_cons] at hk; omega
    have hr' : k ∈ Region.ready md ops listed := by simpa using hr
    obtain ⟨v, hy, hK⟩ := h
    refine wpAnyT_first h0 (Region.noSelect_spec hsel) hs hc hn hmk hkn (fun listed' a' hL => seqB_ready hL.1) l.length listed a inv (Region.free_spec h0 hf) hr' hy
      (wpAnyT_lex hsel hs hc hn l (k + 1) _ _ (fun j hj => by have := hl (j + 1) (by simp; omega); simpa [Nat.add_assoc, Nat.add_comm 1 j] using this) (by simp only [List.length_cons] at hk; omega) (by omega) (inv.set hr' hkn) hB' (fun j hj => ?_) hK)
    by_cases e : j = k
    · subst e
      have : j < listed.size := by rw [inv.size]; omega
      simp [this]
    · exact getD_set_true (hall j (by omega))

/-- the first m operations, taken first: each yields its value in whatever world -/
def wpPre (P : Program) (ops : Array Oper) (Q : Act → Prop) : List Oper → Act → Prop
  | [], a => Q a
  | o :: rest, a => ∃ v, Yields P ops o v a ∧ wpPre P ops Q rest (a.put o.dst v)
def lexPre (md : Region.Mode) (ops : Array Oper) : Nat → Nat → Array Bool → Bool
  | 0, _, _ => true
  | f + 1, k, listed => (Region.ready md ops listed).contains k && Region.free md ops listed k && lexPre md ops f (k + 1) (listed.setIfInBounds k true)
def listUp : Nat → Nat → Array Bool → Array Bool
  | 0, _, listed => listed
  | f + 1, k, listed => listUp f (k + 1) (listed.setIfInBounds k true)
theorem listUp_size : ∀ (f k : Nat) (listed : Array Bool), (listUp f k listed).size = listed.size
  | 0, _, _ => rfl
  | f + 1, k, listed => by rw [listUp, listUp_size]; simp
theorem listUp_get : ∀ (f k : Nat) (listed : Array Bool) (j : Nat), k + f ≤ listed.size → ((listUp f k listed).getD j false = true ↔ (listed.getD j false = true ∨ (k ≤ j ∧ j < k + f)))
  | 0, k, listed, j, _ => by simp [listUp]; omega
  | f + 1, k, listed, j, h => by
    rw [listUp, listUp_get f (k + 1) _ j (by simp; omega)]
    by_cases e : k = j
    · subst e
      have hk : k < listed.size := by omega
      simp [hk]
    · rw [getD_set_ne false e]
      constructor
      · rintro (h | h)
        · exact .inl h
        · right; omega
      · rintro (h | h)
        · exact .inl h
        · right; omega
theorem wpAny_pre {Q' : Exit → Act → World → Prop} {w : World} (hsel : Region.noSelect ops = true) (hQ : ∀ c (a : Act) (d : Option Tmp) (v : Value) w, Q' (.panic c) (a.put d v) w → Q' (.panic c) a w) {R : Act → Prop} {g : Nat} :
    ∀ (l : List Oper) (k : Nat) (listed : Array Bool) (a : Act), (∀ j, j < l.length → l[j]? = ops[k + j]?) → lexPre md ops l.length k listed = true →
      (∀ a', R a' → wpAny P md ops Q' g (listUp l.length k listed) a' w) → wpPre P ops R l a → wpAny P md ops Q' (l.length + g) listed a w
  | [], k, listed, a, _, _, hR, h => by rw [List.length_nil, Nat.zero_add]; exact hR a h
  | o :: l, k, listed, a, hl, hB, hR, h => by
    have h0 : ops[k]? = some o := by simpa using (hl 0 (by simp)).symm
    simp only [List.length_cons, lexPre, Bool.and_eq_true] at hB
    obtain ⟨⟨hr, hf⟩, hB'⟩ := hB
    obtain ⟨v, hy, hK⟩ := h
    rw [List.length_cons, show l.length + 1 + g = (l.length + g) + 1 by omega]
    exact wpAny_take h0 hsel hf hr (fun c a w => hQ c a _ v w) hy
      (wpAny_pre hsel hQ l (k + 1) _ _ (fun j hj => by have := hl (j + 1) (by simp; omega); simpa [Nat.add_assoc, Nat.add_comm 1 j] using this) hB' (fun a' ha' => hR a' ha') hK)

/-- what the kernel reckons of a region: m taken first, the head to n, the tail in one order -/
def tameB (md : Region.Mode) (ops : Array Oper) (m n : Nat) : Bool :=
  Region.noSelect ops && decide (n < ops.size) && decide (m ≤ n) && sinkM md ops m n && Region.chainB md ops n && lexPre md ops m 0 (Array.replicate ops.size false) &&
  ((List.range m).all fun i => ((ops[i]?).map fun o => o.after.all fun e => !Region.binds md e || decide (e.on < m)).getD false) && Region.lexHead md ops (ops.size - n) (n - m) m (listUp m 0 (Array.replicate ops.size false))

/-- THE BEGINNING: m operations taken first; n - m more in whatever order, each tame under S (number ib leads from S to S'); then the tail, in every world that meets S'. -/
theorem wp_region_tame3 {id : Nat} {Q : Exit → Act → World → Prop} {a : Act} {w : World} {l : List Oper} (ib : Nat) (S S' : World → Prop) (m n : Nat) (hm : P.follows .mixedOrders = true) (hB : tameB .any l.toArray m n = true)
    (hQ : ∀ c (a : Act) (d : Option Tmp) (v : Value) w, Q (.panic c) (a.put d v) w → Q (.panic c) a w)
    (hS : S { w with drawn := w.drawn + 1 }) (hend : (m ≤ ib ∧ ib < n) ∨ (n ≤ ib ∧ ∀ w, S w → S' w))
    (h : wpPre P l.toArray (fun a => wpTame P l.toArray ib S S' (fun a' => ∀ w', S' w' → wpList P l.toArray Q (l.drop n) a' w') m ((l.take n).drop m) a) (l.take m) a) : (Code.region id l.toArray true).wp P Q a w := by
  simp only [tameB, Bool.and_eq_true, decide_eq_true_eq] at hB
  obtain ⟨⟨⟨⟨⟨⟨⟨hsel, hn⟩, hmn⟩, hs⟩, hc⟩, hpre⟩, hcl⟩, hlex⟩ := hB
  have hn' : n < l.length := by simpa using hn
  have htl : ((l.take n).drop m).length = n - m := by simp; omega
  have hml : (l.take m).length = m := by simp; omega
  have hdl : (l.drop n).length = l.toArray.size - n := by simp
  have hsz : (Array.replicate l.toArray.size false).size = l.toArray.size := by simp
  have hget : ∀ j, (listUp m 0 (Array.replicate l.toArray.size false)).getD j false = true ↔ j < m := by
    intro j
    rw [listUp_get m 0 _ j (by rw [hsz]; omega), getD_replicate_false]
    simp
  have inv0 : HeadInv .any l.toArray n (listUp m 0 (Array.replicate l.toArray.size false)) := by
    refine ⟨by rw [listUp_size, hsz], fun j oj hj hl e he hb => ?_, fun t ht ht' => ?_⟩
    · have hjm := (hget j).1 hl
      have h1 := List.all_eq_true.1 hcl j (List.mem_range.2 hjm)
      rw [hj] at h1
      simp only [Option.map_some, Option.getD_some, Array.all_eq_true_iff_forall_mem, Bool.or_eq_true, Bool.not_eq_true', decide_eq_true_eq] at h1
      rcases h1 e he with h2 | h2
      · rw [hb] at h2; cases h2
      · exact (hget _).2 h2
    · refine getD_in (by rw [listUp_size, hsz]; exact ht') ?_
      cases hx : (listUp m 0 (Array.replicate l.toArray.size false)).getD t false with
      | false => rfl
      | true => have := (hget t).1 hx; omega
  refine wp_region_any hm ?_
  have key := wpAny_pre (P := P) (md := .any) (Q' := Q) (w := { w with drawn := w.drawn + 1 }) (g := l.toArray.size - m) hsel hQ (l.take m) 0 (Array.replicate l.toArray.size false) a (fun j hj => by
    have hj' : j < m := by rw [hml] at hj; exact hj
    simp [hj']) (by rw [hml]; exact hpre) (fun a' ha' => ?_) h
  · rw [hml, show m + (l.toArray.size - m) = l.toArray.size by omega] at key
    exact key
  · rw [hml]
    have H := wpAnyT_lex (md := .any) (m := m) (g := l.toArray.size - n) hsel hs (chainW_of hc) hn ((l.take n).drop m) m _ a' (fun j hj => by
      have hj' : m + j < n := by rw [htl] at hj; omega
      simp [List.getElem?_drop, hj']) (by rw [htl]; omega) (Nat.le_refl _) inv0 (by rw [htl]; exact hlex) (fun j hj => (hget j).2 hj) ha'
    have := wpAny_of_headT (Q' := Q) (ib := ib) (S := S) (S' := S') (g := l.toArray.size - n) (fun listed a' hL w' hS' => by
      have hw' : S' w' := by
        rcases hS' with ⟨hx, hS1⟩ | ⟨_, hS1⟩
        · rcases hend with hend | hend
          · rw [hL.2.1 ib hend.2] at hx; cases hx
          · exact hend.2 _ hS1
        · exact hS1
      have := wpAny_of_seq (md := .any) (Q' := Q) (l.drop n) n listed a' w' (fun j => by simp [List.getElem?_drop]) (by rw [hdl]; exact hL.1) (hL.2.2 w' hw')
      rwa [hdl] at this) _ _ _ H { w with drawn := w.drawn + 1 } (.inl ⟨by
        cases hx : (listUp m 0 (Array.replicate l.toArray.size false)).getD ib false with
        | false => rfl
        | true => have := (hget ib).1 hx; omega, hS⟩)
    rw [htl, show n - m + (l.toArray.size - n) = l.toArray.size - m by omega] at this
    exact this
theorem wp_region_tame {id : Nat} {Q : Exit → Act → World → Prop} {a : Act} {w : World} {l : List Oper} (S : World → Prop) (m n : Nat) (hm : P.follows .mixedOrders = true) (hB : tameB .any l.toArray m n = true)
    (hQ : ∀ c (a : Act) (d : Option Tmp) (v : Value) w, Q (.panic c) (a.put d v) w → Q (.panic c) a w)
    (hS : S { w with drawn := w.drawn + 1 }) (hn : n ≤ 4000)
    (h : wpPre P l.toArray (fun a => wpTame P l.toArray 4000 S S (fun a' => ∀ w', S w' → wpList P l.toArray Q (l.drop n) a' w') m ((l.take n).drop m) a) (l.take m) a) : (Code.region id l.toArray true).wp P Q a w :=
  wp_region_tame3 4000 S S m n hm hB hQ hS (.inr ⟨hn, fun _ h => h⟩) h

/-! ### a head in whatever order, ONE operation (a call), then operations that only compute, in whatever order again, then a tail -/
theorem lexPre_mem : ∀ {f k : Nat} {listed : Array Bool}, lexPre md ops (f + 1) k listed = true → k ∈ Region.ready md ops listed ∧ Region.free md ops listed k = true ∧ lexPre md ops f (k + 1) (listed.setIfInBounds k true) = true := by
  intro f k listed h
  simp only [lexPre, Bool.and_eq_true] at h
  exact ⟨by simpa using h.1.1, h.1.2, h.2⟩
theorem wpAnyT_lex2 {m n : Nat} {Lq : Act → Prop} (hsel : Region.noSelect ops = true) (hs : sinkM md ops m n = true) (hc : chainW md ops n = true) (hn : n < ops.size) :
    ∀ (l : List Oper) (k : Nat) (listed : Array Bool) (a : Act), (∀ j, j < l.length → l[j]? = ops[k + j]?) → k + l.length = n → m ≤ k → HeadInv md ops n listed →
    lexPre md ops l.length k listed = true → (∀ j, j < k → listed.getD j false = true) → wpTame P ops ib S S' Lq k l a →
    wpAnyT P md ops ib S S' n (fun listed' a' => listed' = listUp l.length k listed ∧ (∀ j, j < n → listed'.getD j false = true) ∧ Lq a') l.length listed a
  | [], k, listed, a, _, hk, _, _, _, hall, h => by
    have : k = n := by simpa using hk
    subst this
    exact ⟨rfl, hall, h⟩
  | o :: l, k, listed, a, hl, hk, hmk, inv, hB, hall, h => by
    have h0 : ops[k]? = some o := by simpa using (hl 0 (by simp)).symm
    obtain ⟨hr', hf, hB'⟩ := lexPre_mem hB
    have hkn : k < n := by simp only [List.length_cons] at hk; omega
    obtain ⟨v, hy, hK⟩ := h
    refine wpAnyT_first h0 (Region.noSelect_spec hsel) hs hc hn hmk hkn (fun listed' a' hL j hj => ?_) l.length listed a inv (Region.free_spec h0 hf) hr' hy
      (wpAnyT_lex2 hsel hs hc hn l (k + 1) _ _ (fun j hj => by have := hl (j + 1) (by simp; omega); simpa [Nat.add_assoc, Nat.add_comm 1 j] using this) (by simp only [List.length_cons] at hk; omega) (by omega) (inv.set hr' hkn) hB' (fun j hj => ?_) hK)
    · have h1 := (mem_ready.1 hj).1
      rcases Nat.lt_or_ge j n with h | h
      · have h2 := hL.2.1 j h
        rw [getD_both h1] at h2
        cases h2
      · exact h
    · by_cases e : j = k
      · subst e
        have : j < listed.size := by rw [inv.size]; omega
        simp [this]
      · exact getD_set_true (hall j (by omega))
def callB (md : Region.Mode) (ops : Array Oper) (n n2 : Nat) : Bool :=
  Region.noSelect ops && decide (n < n2) && decide (n2 < ops.size) && sinkM md ops 0 n && chainW md ops n && lexPre md ops n 0 (Array.replicate ops.size false) &&
  decide (Region.ready md ops (listUp n 0 (Array.replicate ops.size false)) = [n]) && ((ops[n]?).map fun o => o.guard.isNone).getD false &&
  sinkM md ops (n + 1) n2 && chainW md ops n2 && lexPre md ops (n2 - (n + 1)) (n + 1) ((listUp n 0 (Array.replicate ops.size false)).setIfInBounds n true) &&
  ((List.range (n + 1)).all fun i => ((ops[i]?).map fun o => o.after.all fun e => !Region.binds md e || decide (e.on < n + 1)).getD false) &&
  Region.seqB md ops (ops.size - n2) n2 (listUp (n2 - (n + 1)) (n + 1) ((listUp n 0 (Array.replicate ops.size false)).setIfInBounds n true))
theorem wp_region_call {id : Nat} {Q : Exit → Act → World → Prop} {a : Act} {w : World} {l : List Oper} (S : World → Prop) (n n2 : Nat) (o : Oper) (hm : P.follows .mixedOrders = true) (hB : callB .any l.toArray n n2 = true) (ho : l[n]? = some o)
    (hS : S { w with drawn := w.drawn + 1 }) (hn4 : n2 ≤ 4000)
    (h : wpTame P l.toArray 4000 S S (fun a' => ∀ w', S w' → o.wp P a' w' (fun a2 w2 => ∃ S2 : World → Prop, S2 w2 ∧ wpTame P l.toArray 4000 S2 S2 (fun a3 => ∀ w3, S2 w3 → wpList P l.toArray Q (l.drop n2) a3 w3) (n + 1) ((l.take n2).drop (n + 1)) a2) Q) 0 (l.take n) a) : (Code.region id l.toArray true).wp P Q a w := by
  simp only [callB, Bool.and_eq_true, decide_eq_true_eq] at hB
  obtain ⟨⟨⟨⟨⟨⟨⟨⟨⟨⟨⟨⟨hsel, hnn⟩, hn2⟩, hs⟩, hc⟩, hpre⟩, hrdy⟩, hg⟩, hs2⟩, hc2⟩, hpre2⟩, hcl⟩, hseq⟩ := hB
  have hn2' : n2 < l.length := by simpa using hn2
  have hn1 : n < l.toArray.size := by omega
  have hl1 : (l.take n).length = n := by simp; omega
  have hl2 : ((l.take n2).drop (n + 1)).length = n2 - (n + 1) := by simp; omega
  have hdl : (l.drop n2).length = l.toArray.size - n2 := by simp
  have hsz : (Array.replicate l.toArray.size false).size = l.toArray.size := by simp
  have hget : ∀ j, (listUp n 0 (Array.replicate l.toArray.size false)).getD j false = true ↔ j < n := by
    intro j
    rw [listUp_get n 0 _ j (by rw [hsz]; omega), getD_replicate_false]
    simp
  have hget2 : ∀ j, ((listUp n 0 (Array.replicate l.toArray.size false)).setIfInBounds n true).getD j false = true ↔ j < n + 1 := by
    intro j
    by_cases e : n = j
    · subst e
      have : n < (listUp n 0 (Array.replicate l.toArray.size false)).size := by rw [listUp_size, hsz]; omega
      generalize listUp n 0 (Array.replicate l.toArray.size false) = L at this
      simp [this]
    · rw [getD_set_ne false e, hget]; omega
  have inv0 : HeadInv .any l.toArray n (Array.replicate l.toArray.size false) :=
    ⟨hsz, fun j oj hj hl e he hb => (by rw [getD_replicate_false] at hl; cases hl), fun t ht ht' => getD_in (by rw [hsz]; exact ht') (getD_replicate_false _ _)⟩
  have inv2 : HeadInv .any l.toArray n2 ((listUp n 0 (Array.replicate l.toArray.size false)).setIfInBounds n true) := by
    refine ⟨by simp [listUp_size], fun j oj hj hl e he hb => ?_, fun t ht ht' => ?_⟩
    · have hjm := (hget2 j).1 hl
      have h1 := List.all_eq_true.1 hcl j (List.mem_range.2 hjm)
      rw [hj] at h1
      simp only [Option.map_some, Option.getD_some, Array.all_eq_true_iff_forall_mem, Bool.or_eq_true, Bool.not_eq_true', decide_eq_true_eq] at h1
      rcases h1 e he with h2 | h2
      · rw [hb] at h2; cases h2
      · exact (hget2 _).2 h2
    · refine getD_in (by simp [listUp_size]; simpa using ht') ?_
      cases hx : ((listUp n 0 (Array.replicate l.toArray.size false)).setIfInBounds n true).getD t false with
      | false => rfl
      | true => have := (hget2 t).1 hx; omega
  refine wp_region_any hm ?_
  have H := wpAnyT_lex2 (md := .any) (m := 0) hsel hs hc hn1 (l.take n) 0 _ a (fun j hj => by
    have hj' : j < n := by rw [hl1] at hj; exact hj
    simp [hj']) (by rw [hl1]; omega) (Nat.le_refl _) inv0 (by rw [hl1]; exact hpre) (fun j hj => by omega) h
  have key := wpAny_of_headT (Q' := Q) (ib := 4000) (S := S) (S' := S) (g := l.toArray.size - n) (fun listed a' hL w' hS' => by
    have hw' : S w' := by rcases hS' with ⟨_, h⟩ | ⟨_, h⟩ <;> exact h
    obtain ⟨rfl, _, hL3⟩ := hL
    rw [hl1, show l.toArray.size - n = (l.toArray.size - (n + 1)) + 1 from by omega]
    refine ⟨fun h0 => (by rw [hrdy] at h0; cases h0), fun i hi => ?_⟩
    rw [hrdy] at hi
    obtain rfl : i = n := by simpa using hi
    unfold Go.wpOp
    have ho' : l.toArray[i]? = some o := by simpa using ho
    rw [ho'] at hg ⊢
    have hg' : o.guard = none := by simpa using hg
    have hw : Region.wanted o (yielded l.toArray a'.tmps) = true := by unfold Region.wanted; rw [hg']
    simp only [hw, if_true]
    refine .inl (Oper.wp_mono (fun a2 w2 h2 => ?_) (hL3 w' hw'))
    obtain ⟨S2, hS2, hT⟩ := h2
    have H2 := wpAnyT_lex2 (md := .any) (m := i + 1) hsel hs2 hc2 hn2 ((l.take n2).drop (i + 1)) (i + 1) _ a2 (fun j hj => by
      have hj' : i + 1 + j < n2 := by rw [hl2] at hj; omega
      simp [List.getElem?_drop, hj']) (by rw [hl2]; omega) (Nat.le_refl _) inv2 (by rw [hl2]; exact hpre2) (fun j hj => (hget2 j).2 hj) hT
    have := wpAny_of_headT (Q' := Q) (ib := 4000) (S := S2) (S' := S2) (g := l.toArray.size - n2) (fun listed a' hL w' hS' => by
      have hw' : S2 w' := by rcases hS' with ⟨_, h⟩ | ⟨_, h⟩ <;> exact h
      obtain ⟨rfl, _, hL3⟩ := hL
      rw [hl2]
      have := wpAny_of_seq (md := .any) (Q' := Q) (l.drop n2) n2 _ a' w' (fun j => by simp [List.getElem?_drop]) (by rw [hdl]; exact hseq) (hL3 w' hw')
      rwa [hdl] at this) _ _ _ H2 w2 (.inl ⟨by
        cases hx : ((listUp i 0 (Array.replicate l.toArray.size false)).setIfInBounds i true).getD 4000 false with
        | false => rfl
        | true => have := (hget2 4000).1 hx; omega, hS2⟩)
    rw [hl2, show n2 - (i + 1) + (l.toArray.size - n2) = l.toArray.size - (i + 1) by omega] at this
    exact this) _ _ _ H { w with drawn := w.drawn + 1 } (.inl ⟨getD_replicate_false _ _, hS⟩)
  rw [hl1, show n + (l.toArray.size - n) = l.toArray.size by omega] at key
  exact key

/-! ### the steps -/
variable {Q : Act → Prop} {k : Nat} {o : Oper} {rest : List Oper} {a : Act} {v : Value}
theorem wpPre_nil {R : Act → Prop} (h : R a) : wpPre P ops R [] a := h
theorem wpPre_run {R : Act → Prop} (hw : Region.wanted o (yielded ops a.tmps) = true) (h : ∀ w, (execOp a.eval o).run P w = .ok (.value v) w) (kk : wpPre P ops R rest (a.put o.dst v)) : wpPre P ops R (o :: rest) a := ⟨v, .inl ⟨hw, h⟩, kk⟩
theorem wp_mid_call {Q : Exit → Act → World → Prop} {w : World} {next : Act → World → Prop} {f : FuncId} {args : Array Value} (h : (execOp a.eval o).run P w = .ok (.enter f args) w)
    (hc : Calls P f args w fun e w'' => ∃ v, e = .returned v ∧ next (a.put o.dst v) w'') : o.wp P a w next Q := by
  unfold Oper.wp
  rw [h, Oper.upon_enter]
  exact hc.mono fun e w'' ⟨v, he, hn⟩ => by subst he; exact hn
theorem wpTame_nil (h : Q a) : wpTame P ops ib S S' Q k [] a := h
/-- a step that only computes or reads -/
theorem wpTame_run2 (hk : k ≠ ib) (hw : Region.wanted o (yielded ops a.tmps) = true) (h : ∀ w, S w ∨ S' w → (execOp a.eval o).run P w = .ok (.value v) w) (kk : wpTame P ops ib S S' Q (k + 1) rest (a.put o.dst v)) : wpTame P ops ib S S' Q k (o :: rest) a :=
  ⟨v, .inl ⟨hw, fun e => absurd e hk, fun _ => ⟨fun w hS => by rw [h w (.inl hS)]; exact ⟨rfl, hS⟩, fun w hS => by rw [h w (.inr hS)]; exact ⟨rfl, hS⟩⟩⟩, kk⟩
/-- the step that leads from S to S' -/
theorem wpTame_bump (hk : k = ib) (hw : Region.wanted o (yielded ops a.tmps) = true) (h : ∀ w, S w → Gives P S' v ((execOp a.eval o).run P w)) (kk : wpTame P ops ib S S' Q (k + 1) rest (a.put o.dst v)) : wpTame P ops ib S S' Q k (o :: rest) a :=
  ⟨v, .inl ⟨hw, fun _ => h, fun e => absurd hk e⟩, kk⟩
/-- a step whose guard is false -/
theorem wpTame_off (hk : k ≠ ib) (hw : Region.wanted o (yielded ops a.tmps) = false) (kk : wpTame P ops ib S S' Q (k + 1) rest (a.put o.dst undef)) : wpTame P ops ib S S' Q k (o :: rest) a :=
  ⟨undef, .inr ⟨hw, rfl, hk⟩, kk⟩
/-- with one condition S -/
theorem wpTame_run (hk : k ≠ 4000) (hw : Region.wanted o (yielded ops a.tmps) = true) (h : ∀ w, S w → (execOp a.eval o).run P w = .ok (.value v) w) (kk : wpTame P ops 4000 S S Q (k + 1) rest (a.put o.dst v)) : wpTame P ops 4000 S S Q k (o :: rest) a :=
  wpTame_run2 hk hw (fun w hS => h w (by rcases hS with h | h <;> exact h)) kk
/-- a call -/
theorem wpTame_call {f : FuncId} {args : Array Value} (hk : k ≠ 4000) (hw : Region.wanted o (yielded ops a.tmps) = true) (h : ∀ w, S w → (execOp a.eval o).run P w = .ok (.enter f args) w)
    (hc : ∀ w, S w → Calls P f args w fun e w' => e = .returned v ∧ S w') (kk : wpTame P ops 4000 S S Q (k + 1) rest (a.put o.dst v)) : wpTame P ops 4000 S S Q k (o :: rest) a :=
  ⟨v, .inl ⟨hw, fun e => absurd e hk, fun _ => ⟨fun w hS => by rw [h w hS]; exact hc w hS, fun w hS => by rw [h w hS]; exact hc w hS⟩⟩, kk⟩
/-- a whole row is read -/
theorem wpTame_load {b off : Nat} {ty : TypeId} {x : Operand} {cs : List Value} {d : TypeDesc} {n : Nat} (hk : k ≠ 4000) (hw : Region.wanted o (yielded ops a.tmps) = true) (ho : o.op = .load ty x) (hx : a.eval x = .pointer (some ⟨b, off, none⟩))
    (hu : P.underlying ty = some d) (hd : d.isRow = true) (hi : (P.info? ty).map (·.size) = some n) (hn : cs.length = n) (h : ∀ w, S w → w.rangeAt b off cs) (kk : wpTame P ops 4000 S S Q (k + 1) rest (a.put o.dst (.agg cs.toArray))) : wpTame P ops 4000 S S Q k (o :: rest) a :=
  wpTame_run hk hw (fun w hS => by
    unfold execOp
    simp only [ho, hx, Instr.loadAt, Instr.sureAddr, Sem.run_bind, Sem.run_pure, Result.andThen_ok, run_loadVar_mid w b off ty cs d (h w hS) hu hd (by rw [hi, hn])]) kk
end
end Go.Proofs.Ytideobdggdmeiaa
