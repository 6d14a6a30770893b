/- Lists of elements of any kind: their cells, rows of one's own, what is told in new memory. No program in sight. -/
import Derived.Test.YtfielodchoghlaaAp
import Derived.Test.YtfielodchoghlaaKeep
import Derived.Deep.AppendLies
import Derived.IntWalk
namespace Go.Proofs.Ytfielodchoghlaa
open Go.RowKit
set_option maxRecDepth 100000
set_option linter.unusedVariables false

/-- a kind of elements: their type, how many cells each has, which -/
structure Knd (α : Type) where
  e : TypeId
  sz : Nat
  cv : α → List Value
  pos : 0 < sz
  len : ∀ x, (cv x).length = sz
  one : ∀ x, ∀ u ∈ cv x, u.oneCell' = true

section
variable {α : Type} (K : Knd α)
def Knd.fl (l : List α) : List Value := l.flatMap K.cv
theorem Knd.fl_nil : K.fl [] = [] := rfl
theorem Knd.fl_app (a b : List α) : K.fl (a ++ b) = K.fl a ++ K.fl b := by simp [Knd.fl]
theorem Knd.fl_one (x : α) : K.fl [x] = K.cv x := by simp [Knd.fl]
theorem Knd.fl_len (l : List α) : (K.fl l).length = l.length * K.sz := by
  induction l with
  | nil => simp [Knd.fl]
  | cons x l ih =>
    have : K.fl (x :: l) = K.cv x ++ K.fl l := by simp [Knd.fl]
    rw [this, List.length_append, ih, K.len, List.length_cons, Nat.add_mul]
    omega
theorem Knd.fl_cells (l : List α) : ∀ u ∈ K.fl l, u.oneCell' = true := by
  intro u hu
  obtain ⟨x, _, hx⟩ := List.mem_flatMap.1 hu
  exact K.one x u hx
theorem Knd.fl_get : ∀ (l : List α) (i c : Nat) (x : α), l[i]? = some x → c < K.sz → (K.fl l)[i * K.sz + c]? = (K.cv x)[c]?
  | [], i, c, x, h, _ => by simp at h
  | y :: l, i, c, x, h, hc => by
    have e : K.fl (y :: l) = K.cv y ++ K.fl l := by simp [Knd.fl]
    rw [e]
    cases i with
    | zero =>
      simp at h
      subst h
      rw [List.getElem?_append_left (by rw [K.len]; omega)]
      simp
    | succ i =>
      have h2 := Knd.fl_get l i c x (by simpa using h) hc
      rw [List.getElem?_append_right (by rw [K.len, Nat.add_mul]; omega), K.len, show (i + 1) * K.sz + c - K.sz = i * K.sz + c from by rw [Nat.add_mul]; omega]
      exact h2
/-- a slice value that owns the elements l, at a row of its own -/
def Knd.O (w : World) (v : Value) (l : List α) : Prop := w.ownsRow 0 K.e K.sz v l.length (K.fl l)
/-- a slice value that reads as l -/
def Knd.R (w : World) (v : Value) (l : List α) : Prop := Sl w K.sz v l.length (K.fl l)
def Knd.ob (v : Value) (l : List α) : Ob := obE K.e K.sz v l.length (K.fl l)
variable {K}
theorem Knd.O.rd {w : World} {v : Value} {l : List α} (h : K.O w v l) : K.R w v l := Sl.of_own h (K.fl_cells l)
theorem Knd.O.keep {w w' : World} {v : Value} {l : List α} (h : K.O w v l) {S : Nat → Prop} (ho : Only S w w') (hd : ∀ x, fpv v x → ¬ S x) : K.O w' v l := ownsRow_keep h ho hd
theorem Knd.O.lt {w : World} {v : Value} {l : List α} (h : K.O w v l) : ∀ x, fpv v x → x < w.heap.size := fun x hx => (World.ownsRow.lt h x hx).2
theorem Knd.O.nil (w : World) : K.O w (.slice none 0 0) [] := World.ownsRow_nil w 0 _ _
theorem Knd.R.nil (w : World) : K.R w (.slice none 0 0) [] := Sl.nil w _
theorem Knd.O.any {w : World} {v : Value} {l : List α} (h : K.O w v l) : ∃ ao cap, v = .slice ao l.length cap := by
  rcases h.2 with ⟨hv, h0⟩ | ⟨g, cap, cur, hv, _⟩
  · exact ⟨none, 0, by rw [h0]; exact hv⟩
  · exact ⟨some ⟨g, 0, none⟩, cap, hv⟩
theorem Knd.O.form {w : World} {v : Value} {l : List α} (h : K.O w v l) (h0 : 0 < l.length) : ∃ g cap, v = .slice (some ⟨g, 0, none⟩) l.length cap := by
  obtain ⟨g, cap, hv, _⟩ := World.ownsRow.form h h0
  exact ⟨g, cap, hv⟩
theorem Knd.R.any {w : World} {v : Value} {l : List α} (h : K.R w v l) : ∃ ao cap, v = .slice ao l.length cap ∧ l.length ≤ cap ∧ cap ≤ 9223372036854775807 ∧ (ao = none → cap = 0) := by
  obtain ⟨ao, cap, hv, h1, h2, h3, _⟩ := h.form
  exact ⟨ao, cap, hv, h1, h2, h3⟩
theorem Knd.R.grow {w w' : World} {v : Value} {l : List α} (h : K.R w v l) (hb : Below w.heap.size w w') : K.R w' v l := Sl.grow h hb
/-- element i, cell by cell -/
theorem Knd.R.get {w : World} {ao : Option Addr} {n cap : Nat} {l : List α} (h : K.R w (.slice ao n cap) l) {i : Nat} {x : α} (hx : l[i]? = some x) : ∃ b off, ao = some ⟨b, off, none⟩ ∧ b < w.heap.size ∧ ∀ c v, (K.cv x)[c]? = some v → w.cell? ⟨b, off + (i * K.sz + c), none⟩ = some v := by
  obtain ⟨ao', cap', hv, _, _, _, h4⟩ := h.form
  injection hv with e1 _ _
  subst e1
  have hc0 : 0 < (K.cv x).length := by rw [K.len]; exact K.pos
  obtain ⟨b, off, hb, hcell⟩ := h4 (i * K.sz + 0) _ ((K.fl_get l i 0 x hx K.pos).trans (List.getElem?_eq_getElem hc0))
  refine ⟨b, off, hb, World.block_lt_of_cell? w _ hcell, fun c v hv => ?_⟩
  have hc : c < K.sz := by
    have := (List.getElem?_eq_some_iff.1 hv).1
    rwa [K.len] at this
  obtain ⟨b2, off2, hb2, hcell2⟩ := h4 (i * K.sz + c) v ((K.fl_get l i c x hx hc).trans hv)
  rw [hb] at hb2
  injection hb2 with e
  injection e with e1 e2
  subst e1; subst e2
  exact hcell2
theorem Knd.O.get {w : World} {g n cap : Nat} {l : List α} (h : K.O w (.slice (some ⟨g, 0, none⟩) n cap) l) {i : Nat} {x : α} (hx : l[i]? = some x) : ∀ c v, (K.cv x)[c]? = some v → w.cell? ⟨g, i * K.sz + c, none⟩ = some v := by
  intro c v hv
  obtain ⟨b, off, hb, _, hc⟩ := Knd.R.get h.rd hx
  injection hb with e
  injection e with e1 e2
  subst e1; subst e2
  have := hc c v hv
  rwa [Nat.zero_add] at this
theorem Knd.O.frozen {w : World} {g n cap : Nat} {l : List α} (h : K.O w (.slice (some ⟨g, 0, none⟩) n cap) l) (j : Nat) : w.frozen? ⟨g, j, none⟩ = false := by
  have hn : n = l.length := by
    rcases h.2 with ⟨hv, _⟩ | ⟨g', cap', cur, hv, _⟩
    · simp at hv
    · simp at hv; exact hv.2.1
  subst hn
  exact World.ownsRow.frozenAt h j

/-- told in new memory -/
def Knd.New (K : Knd α) (l : List α) (w : World) (e : Ending) (w' : World) : Prop :=
  ∃ v, e = .returned v ∧ K.O w' v l ∧ Below w.heap.size w w' ∧ ∀ x, fpv v x → w.heap.size ≤ x
/-- a row that is made in a loop -/
def Knd.Mk (K : Knd α) (l : List α) (w : World) (v : Value) (w1 : World) : Prop := K.O w1 v l ∧ Below w.heap.size w w1 ∧ ∀ x, fpv v x → w.heap.size ≤ x
theorem Knd.Mk.nil (K : Knd α) (w : World) : K.Mk [] w (.slice none 0 0) w := ⟨Knd.O.nil w, Below.refl _ _, fun x hx => by simp [fpv, Value.ownBlock] at hx⟩
theorem Knd.Mk.draw {K : Knd α} {l : List α} {w w1 : World} {v : Value} (h : K.Mk l w v w1) (n : Nat) : K.Mk l w v (w1.drewN n) :=
  ⟨h.1.keep ((Only.refl (fun _ => False) w1).draw n) (fun _ _ h => h), ⟨h.2.1.os, h.2.1.tape, h.2.1.output, h.2.1.size, h.2.1.block⟩, h.2.2⟩
theorem Knd.Mk.below {K : Knd α} {l : List α} {w w1 w2 : World} {v : Value} (h : K.Mk l w v w1) (hb : Below w1.heap.size w1 w2) : K.Mk l w v w2 :=
  ⟨h.1.keep (Only.nothing hb) (fun _ _ h => h), h.2.1.trans (hb.mono h.2.1.size), h.2.2⟩
/-- one more element, behind its literal and an append -/
theorem Knd.Mk.more {K : Knd α} {l : List α} {w w1 w2 : World} {v v' : Value} {x : α} (h : K.Mk l w v w1) {o : Obj} {N : Nat} (hN : N = l.length) {cs : List Value} (hcs : cs = K.fl l ++ K.cv x) (hown : w2.ownsRow 0 K.e K.sz v' (N + 1) cs) (hgrow : (w1.alloc o).grownBy w2 v.ownBlock)
    (hat : v'.ownBlock = v.ownBlock ∨ v'.ownBlock = some (w1.heap.size + 1)) : K.Mk (l ++ [x]) w v' w2 := by
  subst hN; subst hcs
  obtain ⟨q1, q2, q3⟩ := h
  refine ⟨?_, (q2.alloc q2.size _).grown hgrow (by simp; have := q2.size; omega) (fun x hx => q3 x hx), fun y hy => ?_⟩
  · unfold Knd.O
    rw [K.fl_app, K.fl_one, List.length_append]
    exact hown
  · have hy' : v'.ownBlock = some y := hy
    rcases hat with hat | hat
    · exact q3 y (by show v.ownBlock = some y; rw [← hat]; exact hy')
    · rw [hat] at hy'
      injection hy' with hy'
      have := q2.size
      omega
theorem Knd.Mk.alloc {K : Knd α} {l : List α} {w w1 : World} {v : Value} (h : K.Mk l w v w1) (o : Obj) {N : Nat} (hN : N = l.length) : (w1.alloc o).ownsRow 0 K.e K.sz v N (K.fl l) := by
  subst hN
  exact h.1.keep ((Only.refl (fun _ => False) w1).alloc o) (fun _ _ h => h)
theorem Knd.Mk.new {K : Knd α} {l : List α} {w w1 : World} {v : Value} (h : K.Mk l w v w1) : K.New l w (.returned v) w1 := ⟨v, rfl, h⟩
/-- a whole list, behind an append to what was made -/
theorem Knd.Mk.whole {K : Knd α} {l m : List α} {w w1 w2 : World} {v v' : Value} (h : K.Mk l w v w1) {N : Nat} (hN : N = l.length + m.length) (hown : w2.ownsRow 0 K.e K.sz v' N (K.fl l ++ K.fl m)) (hgrow : w1.grownBy w2 v.ownBlock)
    (hat : v'.ownBlock = v.ownBlock ∨ v'.ownBlock = some w1.heap.size) : K.Mk (l ++ m) w v' w2 := by
  subst hN
  obtain ⟨q1, q2, q3⟩ := h
  refine ⟨?_, q2.grown hgrow q2.size (fun x hx => q3 x hx), fun y hy => ?_⟩
  · unfold Knd.O
    rw [K.fl_app, List.length_append]
    exact hown
  · have hy' : v'.ownBlock = some y := hy
    rcases hat with hat | hat
    · exact q3 y (by show v.ownBlock = some y; rw [← hat]; exact hy')
    · rw [hat] at hy'
      injection hy' with hy'
      have := q2.size
      omega

/-! ### the same? -/
def sameTo' (eq : α → α → Bool) (xs ys : List α) : Nat → Nat → Bool
  | 0, _ => true
  | n + 1, k => match xs[k]?, ys[k]? with
    | some x, some y => if eq x y then sameTo' eq xs ys n (k + 1) else false
    | _, _ => true
def sameL (eq : α → α → Bool) (xs ys : List α) : Bool := if xs.length = ys.length then sameTo' eq xs ys xs.length 0 else false
theorem sameTo_step {eq : α → α → Bool} {xs ys : List α} {n k : Nat} {x y : α} {b : Bool} (hx : xs[k]? = some x) (hy : ys[k]? = some y) (h : sameTo' eq xs ys (n + 1) k = b) : (if eq x y then sameTo' eq xs ys n (k + 1) else false) = b := by
  rw [sameTo', hx, hy] at h
  exact h
theorem sameTo_refl (eq : α → α → Bool) (h : ∀ x, eq x x = true) (xs : List α) : ∀ n k, sameTo' eq xs xs n k = true
  | 0, _ => rfl
  | n + 1, k => by
    rw [sameTo']
    cases hx : xs[k]? with
    | none => rfl
    | some x => simp [h, sameTo_refl eq h xs n (k + 1)]
theorem sameL_refl (eq : α → α → Bool) (h : ∀ x, eq x x = true) (xs : List α) : sameL eq xs xs = true := by
  unfold sameL
  rw [if_pos rfl, sameTo_refl eq h]
theorem sameTo_iff (eq : α → α → Bool) (h : ∀ x y, eq x y = true ↔ x = y) (xs ys : List α) (hl : xs.length = ys.length) : ∀ n k, k + n = xs.length → (sameTo' eq xs ys n k = true ↔ ∀ j, k ≤ j → xs[j]? = ys[j]?)
  | 0, k, hk => by
    simp only [sameTo', true_iff]
    intro j hj
    rw [List.getElem?_eq_none (by omega), List.getElem?_eq_none (by omega)]
  | n + 1, k, hk => by
    have hx : xs[k]? = some xs[k] := List.getElem?_eq_getElem (by omega)
    have hy : ys[k]? = some ys[k] := List.getElem?_eq_getElem (by omega)
    rw [sameTo', hx, hy]
    simp only
    by_cases e : eq xs[k] ys[k] = true
    · rw [if_pos e, sameTo_iff eq h xs ys hl n (k + 1) (by omega)]
      have e' := (h _ _).1 e
      constructor
      · intro hh j hj
        by_cases ejk : j = k
        · subst ejk; rw [hx, hy, e']
        · exact hh j (by omega)
      · intro hh j hj
        exact hh j (by omega)
    · rw [if_neg e]
      simp only [Bool.false_eq_true, false_iff]
      intro hh
      have := hh k (Nat.le_refl _)
      rw [hx, hy] at this
      exact e ((h _ _).2 (Option.some.inj this))
theorem sameL_iff (eq : α → α → Bool) (h : ∀ x y, eq x y = true ↔ x = y) (xs ys : List α) : sameL eq xs ys = true ↔ xs = ys := by
  unfold sameL
  by_cases hl : xs.length = ys.length
  · rw [if_pos hl, sameTo_iff eq h xs ys hl _ 0 (by omega)]
    constructor
    · intro hh; exact List.ext_getElem? fun j => hh j (Nat.zero_le _)
    · rintro rfl _ _; rfl
  · rw [if_neg hl]
    simp only [Bool.false_eq_true, false_iff]
    intro e
    exact hl (by rw [e])

/-! ### marks -/
/-- n marks of list k -/
def mks (mk : Int → Int → α) (k : Int) (n : Nat) : List α := (List.range n).map fun (i : Nat) => mk k (i : Int)
theorem mks_len (mk : Int → Int → α) (k : Int) (n : Nat) : (mks mk k n).length = n := by simp [mks]
theorem mks_succ (mk : Int → Int → α) (k : Int) (n : Nat) : mks mk k (n + 1) = mks mk k n ++ [mk k n] := by simp [mks, List.range_succ]
theorem mks_get (mk : Int → Int → α) (k : Int) (n i : Nat) (h : i < n) : (mks mk k n)[i]? = some (mk k i) := by simp [mks, List.getElem?_map, List.getElem?_range h]
def lentM (mk : Int → Int → α) (l : List α) : List α := l ++ mks mk 7 6
theorem lentM_len (mk : Int → Int → α) (l : List α) : (lentM mk l).length = l.length + 6 := by simp [lentM, mks]
/-- the first i elements are marked -/
def overM (mk : Int → Int → α) (l : List α) (i : Nat) : List α := mks mk 9 i ++ l.drop i
theorem overM_len (mk : Int → Int → α) (l : List α) (i : Nat) (h : i ≤ l.length) : (overM mk l i).length = l.length := by simp [overM, mks]; omega
theorem overM_zero (mk : Int → Int → α) (l : List α) : overM mk l 0 = l := by simp [overM, mks]
theorem overM_end (mk : Int → Int → α) (l : List α) : overM mk l l.length = mks mk 9 l.length := by simp [overM]
theorem overM_put (K : Knd α) (mk : Int → Int → α) (l : List α) (i : Nat) (h : i < l.length) : putAt (K.fl (overM mk l i)) (i * K.sz) (K.cv (mk 9 i)) = K.fl (overM mk l (i + 1)) := by
  unfold overM
  have h1 := putAt_app (K.cv (mk 9 i)) (K.fl (mks mk 9 i)) (K.fl (l.drop i)) (by
    rw [K.len, K.fl_len, List.length_drop]
    have := Nat.mul_le_mul_right K.sz (show 1 ≤ l.length - i by omega)
    omega)
  rw [K.fl_len, mks_len] at h1
  rw [K.fl_app, h1, mks_succ, K.fl_app, K.fl_app, K.fl_one, List.drop_eq_getElem_cons h]
  congr 1
  have e : K.fl (l[i] :: l.drop (i + 1)) = K.cv l[i] ++ K.fl (l.drop (i + 1)) := by simp only [Knd.fl, List.flatMap_cons]
  rw [e, K.len, ← K.len l[i], List.drop_left]
theorem Knd.O.put {K : Knd α} {w : World} {g cap N : Nat} {l : List α} (mk : Int → Int → α) {i : Nat} (h : K.O w (.slice (some ⟨g, 0, none⟩) N cap) (overM mk l i)) (hi : i < l.length) (hN : N = l.length) :
    K.O (w.setCells g (i * K.sz) (K.cv (mk 9 i))) (.slice (some ⟨g, 0, none⟩) N cap) (overM mk l (i + 1)) := by
  subst hN
  have hl := overM_len mk l i (by omega)
  have hl2 := overM_len mk l (i + 1) (by omega)
  unfold Knd.O at *
  rw [hl] at h
  have := ownsRow_setCells (K.cv (mk 9 i)) _ _ (i * K.sz) h
  rw [overM_put K mk l i hi] at this
  rw [hl2]
  exact this
/-- marks are the marks of Apart -/
def Mkr.ofK (K : Knd α) (st : TypeId) (mk : Int → Int → α) : Mkr := ⟨st, K.e, K.sz, fun k i => K.cv (mk ((k : Int) + 10) (i : Int)), K.pos, fun _ _ => K.len _, fun _ _ => K.one _⟩
end
theorem header {w : World} {base : Nat} {e : TypeId} {size n : Nat} {v : Value} {xs : List Value} (h : w.ownsRow base e size v n xs) : ∃ ao cap, v = .slice ao n cap ∧ n ≤ cap ∧ cap ≤ 9223372036854775807 ∧ (0 < n → ∃ g, ao = some ⟨g, 0, none⟩) := by
  rcases h.2 with ⟨rfl, rfl⟩ | ⟨g, cap, cur, rfl, _, _, h1, h2, _⟩
  · exact ⟨none, 0, rfl, by omega, by omega, fun h => by omega⟩
  · exact ⟨some ⟨g, 0, none⟩, cap, rfl, h1, h2, fun _ => ⟨g, rfl⟩⟩
end Go.Proofs.Ytfielodchoghlaa
