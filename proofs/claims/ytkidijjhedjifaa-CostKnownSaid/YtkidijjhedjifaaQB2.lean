/- A region that draws its order, step by step under a condition S that every operation keeps: what yields one value in every world that meets S is taken first; the others come alone, or two in either order. No program in sight. -/
import Derived.Deep.AppendLies
import Derived.IntWalk
import Derived.Test.YtkidijjhedjifaaRows
import Derived.OrdersHeld
import Derived.Test.YtkidijjhedjifaaQB0
import Derived.Test.YtkidijjhedjifaaQB1
/- Lists of elements of any kind: their cells, rows of one's own, what is told in new memory. No program in sight. -/
namespace Go.Proofs.Ytkidijjhedjifaa
open Go.RowKit
set_option maxRecDepth 100000
set_option linter.unusedVariables false

/-- a kind of elements: their type, how many cells each has, which -/
structure Knd (α : Type) where
  e : TypeId
  sz : Nat
  cv : α → List Value
  pos : 0 < sz
  len : ∀ x, (cv x).length = sz
  one : ∀ x, ∀ u ∈ cv x, u.oneCell' = true

section
variable {α : Type} (K : Knd α)
def Knd.fl (l : List α) : List Value := l.flatMap K.cv
theorem Knd.fl_nil : K.fl [] = [] := rfl
theorem Knd.fl_app (a b : List α) : K.fl (a ++ b) = K.fl a ++ K.fl b := by simp [Knd.fl]
theorem Knd.fl_one (x : α) : K.fl [x] = K.cv x := by simp [Knd.fl]
theorem Knd.fl_len (l : List α) : (K.fl l).length = l.length * K.sz := by
  induction l with
  | nil => simp [Knd.fl]
  | cons x l ih =>
    have : K.fl (x :: l) = K.cv x ++ K.fl l := by simp [Knd.fl]
    rw [this, List.length_append, ih, K.len, List.length_cons, Nat.add_mul]
    omega
theorem Knd.fl_cells (l : List α) : ∀ u ∈ K.fl l, u.oneCell' = true := by
  intro u hu
  obtain ⟨x, _, hx⟩ := List.mem_flatMap.1 hu
  exact K.one x u hx
theorem Knd.fl_get : ∀ (l : List α) (i c : Nat) (x : α), l[i]? = some x → c < K.sz → (K.fl l)[i * K.sz + c]? = (K.cv x)[c]?
  | [], i, c, x, h, _ => by simp at h
  | y :: l, i, c, x, h, hc => by
    have e : K.fl (y :: l) = K.cv y ++ K.fl l := by simp [Knd.fl]
    rw [e]
    cases i with
    | zero =>
      simp at h
      subst h
      rw [List.getElem?_append_left (by rw [K.len]; omega)]
      simp
    | succ i =>
      have h2 := Knd.fl_get l i c x (by simpa using h) hc
      rw [List.getElem?_append_right (by rw [K.len, Nat.add_mul]; omega), K.len, show (i + 1) * K.sz + c - K.sz = i * K.sz + c from by rw [Nat.add_mul]; omega]
      exact h2
/-- a slice value that owns the elements l, at a row of its own -/
def Knd.O (w : World) (v : Value) (l : List α) : Prop := w.ownsRow 0 K.e K.sz v l.length (K.fl l)
/-- a slice value that reads as l -/
def Knd.R (w : World) (v : Value) (l : List α) : Prop := Sl w K.sz v l.length (K.fl l)
def Knd.ob (v : Value) (l : List α) : Ob := obE K.e K.sz v l.length (K.fl l)
variable {K}
theorem Knd.O.rd {w : World} {v : Value} {l : List α} (h : K.O w v l) : K.R w v l := Sl.of_own h (K.fl_cells l)
theorem Knd.O.keep {w w' : World} {v : Value} {l : List α} (h : K.O w v l) {S : Nat → Prop} (ho : Only S w w') (hd : ∀ x, fpv v x → ¬ S x) : K.O w' v l := ownsRow_keep h ho hd
theorem Knd.O.lt {w : World} {v : Value} {l : List α} (h : K.O w v l) : ∀ x, fpv v x → x < w.heap.size := fun x hx => (World.ownsRow.lt h x hx).2
theorem Knd.O.nil (w : World) : K.O w (.slice none 0 0) [] := World.ownsRow_nil w 0 _ _
theorem Knd.R.nil (w : World) : K.R w (.slice none 0 0) [] := Sl.nil w _
theorem Knd.O.any {w : World} {v : Value} {l : List α} (h : K.O w v l) : ∃ ao cap, v = .slice ao l.length cap := by
  rcases h.2 with ⟨hv, h0⟩ | ⟨g, cap, cur, hv, _⟩
  · exact ⟨none, 0, by rw [h0]; exact hv⟩
  · exact ⟨some ⟨g, 0, none⟩, cap, hv⟩
theorem Knd.O.form {w : World} {v : Value} {l : List α} (h : K.O w v l) (h0 : 0 < l.length) : ∃ g cap, v = .slice (some ⟨g, 0, none⟩) l.length cap := by
  obtain ⟨g, cap, hv, _⟩ := World.ownsRow.form h h0
  exact ⟨g, cap, hv⟩
theorem Knd.R.any {w : World} {v : Value} {l : List α} (h : K.R w v l) : ∃ ao cap, v = .slice ao l.length cap ∧ l.length ≤ cap ∧ cap ≤ 9223372036854775807 ∧ (ao = none → cap = 0) := by
  obtain ⟨ao, cap, hv, h1, h2, h3, _⟩ := h.form
  exact ⟨ao, cap, hv, h1, h2, h3⟩
theorem Knd.R.grow {w w' : World} {v : Value} {l : List α} (h : K.R w v l) (hb : Below w.heap.size w w') : K.R w' v l := Sl.grow h hb
/-- element i, cell by cell -/
theorem Knd.R.get {w : World} {ao : Option Addr} {n cap : Nat} {l : List α} (h : K.R w (.slice ao n cap) l) {i : Nat} {x : α} (hx : l[i]? = some x) : ∃ b off, ao = some ⟨b, off, none⟩ ∧ b < w.heap.size ∧ ∀ c v, (K.cv x)[c]? = some v → w.cell? ⟨b, off + (i * K.sz + c), none⟩ = some v := by
  obtain ⟨ao', cap', hv, _, _, _, h4⟩ := h.form
  injection hv with e1 _ _
  subst e1
  have hc0 : 0 < (K.cv x).length := by rw [K.len]; exact K.pos
  obtain ⟨b, off, hb, hcell⟩ := h4 (i * K.sz + 0) _ ((K.fl_get l i 0 x hx K.pos).trans (List.getElem?_eq_getElem hc0))
  refine ⟨b, off, hb, World.block_lt_of_cell? w _ hcell, fun c v hv => ?_⟩
  have hc : c < K.sz := by
    have := (List.getElem?_eq_some_iff.1 hv).1
    rwa [K.len] at this
  obtain ⟨b2, off2, hb2, hcell2⟩ := h4 (i * K.sz + c) v ((K.fl_get l i c x hx hc).trans hv)
  rw [hb] at hb2
  injection hb2 with e
  injection e with e1 e2
  subst e1; subst e2
  exact hcell2
theorem Knd.O.get {w : World} {g n cap : Nat} {l : List α} (h : K.O w (.slice (some ⟨g, 0, none⟩) n cap) l) {i : Nat} {x : α} (hx : l[i]? = some x) : ∀ c v, (K.cv x)[c]? = some v → w.cell? ⟨g, i * K.sz + c, none⟩ = some v := by
  intro c v hv
  obtain ⟨b, off, hb, _, hc⟩ := Knd.R.get h.rd hx
  injection hb with e
  injection e with e1 e2
  subst e1; subst e2
  have := hc c v hv
  rwa [Nat.zero_add] at this
theorem Knd.O.frozen {w : World} {g n cap : Nat} {l : List α} (h : K.O w (.slice (some ⟨g, 0, none⟩) n cap) l) (j : Nat) : w.frozen? ⟨g, j, none⟩ = false := by
  have hn : n = l.length := by
    rcases h.2 with ⟨hv, _⟩ | ⟨g', cap', cur, hv, _⟩
    · simp at hv
    · simp at hv; exact hv.2.1
  subst hn
  exact World.ownsRow.frozenAt h j

/-- told in new memory -/
def Knd.New (K : Knd α) (l : List α) (w : World) (e : Ending) (w' : World) : Prop :=
  ∃ v, e = .returned v ∧ K.O w' v l ∧ Below w.heap.size w w' ∧ ∀ x, fpv v x → w.heap.size ≤ x
/-- a row that is made in a loop -/
def Knd.Mk (K : Knd α) (l : List α) (w : World) (v : Value) (w1 : World) : Prop := K.O w1 v l ∧ Below w.heap.size w w1 ∧ ∀ x, fpv v x → w.heap.size ≤ x
theorem Knd.Mk.nil (K : Knd α) (w : World) : K.Mk [] w (.slice none 0 0) w := ⟨Knd.O.nil w, Below.refl _ _, fun x hx => by simp [fpv, Value.ownBlock] at hx⟩
theorem Knd.Mk.draw {K : Knd α} {l : List α} {w w1 : World} {v : Value} (h : K.Mk l w v w1) (n : Nat) : K.Mk l w v (w1.drewN n) :=
  ⟨h.1.keep ((Only.refl (fun _ => False) w1).draw n) (fun _ _ h => h), ⟨h.2.1.os, h.2.1.tape, h.2.1.output, h.2.1.size, h.2.1.block⟩, h.2.2⟩
theorem Knd.Mk.below {K : Knd α} {l : List α} {w w1 w2 : World} {v : Value} (h : K.Mk l w v w1) (hb : Below w1.heap.size w1 w2) : K.Mk l w v w2 :=
  ⟨h.1.keep (Only.nothing hb) (fun _ _ h => h), h.2.1.trans (hb.mono h.2.1.size), h.2.2⟩
/-- one more element, behind its literal and an append -/
theorem Knd.Mk.more {K : Knd α} {l : List α} {w w1 w2 : World} {v v' : Value} {x : α} (h : K.Mk l w v w1) {o : Obj} {N : Nat} (hN : N = l.length) {cs : List Value} (hcs : cs = K.fl l ++ K.cv x) (hown : w2.ownsRow 0 K.e K.sz v' (N + 1) cs) (hgrow : (w1.alloc o).grownBy w2 v.ownBlock)
    (hat : v'.ownBlock = v.ownBlock ∨ v'.ownBlock = some (w1.heap.size + 1)) : K.Mk (l ++ [x]) w v' w2 := by
  subst hN; subst hcs
  obtain ⟨q1, q2, q3⟩ := h
  refine ⟨?_, (q2.alloc q2.size _).grown hgrow (by simp; have := q2.size; omega) (fun x hx => q3 x hx), fun y hy => ?_⟩
  · unfold Knd.O
    rw [K.fl_app, K.fl_one, List.length_append]
    exact hown
  · have hy' : v'.ownBlock = some y := hy
    rcases hat with hat | hat
    · exact q3 y (by show v.ownBlock = some y; rw [← hat]; exact hy')
    · rw [hat] at hy'
      injection hy' with hy'
      have := q2.size
      omega
theorem Knd.Mk.alloc {K : Knd α} {l : List α} {w w1 : World} {v : Value} (h : K.Mk l w v w1) (o : Obj) {N : Nat} (hN : N = l.length) : (w1.alloc o).ownsRow 0 K.e K.sz v N (K.fl l) := by
  subst hN
  exact h.1.keep ((Only.refl (fun _ => False) w1).alloc o) (fun _ _ h => h)
theorem Knd.Mk.new {K : Knd α} {l : List α} {w w1 : World} {v : Value} (h : K.Mk l w v w1) : K.New l w (.returned v) w1 := ⟨v, rfl, h⟩
/-- a whole list, behind an append to what was made -/
theorem Knd.Mk.whole {K : Knd α} {l m : List α} {w w1 w2 : World} {v v' : Value} (h : K.Mk l w v w1) {N : Nat} (hN : N = l.length + m.length) (hown : w2.ownsRow 0 K.e K.sz v' N (K.fl l ++ K.fl m)) (hgrow : w1.grownBy w2 v.ownBlock)
    (hat : v'.ownBlock = v.ownBlock ∨ v'.ownBlock = some w1.heap.size) : K.Mk (l ++ m) w v' w2 := by
  subst hN
  obtain ⟨q1, q2, q3⟩ := h
  refine ⟨?_, q2.grown hgrow q2.size (fun x hx => q3 x hx), fun y hy => ?_⟩
  · unfold Knd.O
    rw [K.fl_app, List.length_append]
    exact hown
  · have hy' : v'.ownBlock = some y := hy
    rcases hat with hat | hat
    · exact q3 y (by show v.ownBlock = some y; rw [← hat]; exact hy')
    · rw [hat] at hy'
      injection hy' with hy'
      have := q2.size
      omega

/-! ### the same? -/
def sameTo' (eq : α → α → Bool) (xs ys : List α) : Nat → Nat → Bool
  | 0, _ => true
  | n + 1, k => match xs[k]?, ys[k]? with
    | some x, some y => if eq x y then sameTo' eq xs ys n (k + 1) else false
    | _, _ => true
def sameL (eq : α → α → Bool) (xs ys : List α) : Bool := if xs.length = ys.length then sameTo' eq xs ys xs.length 0 else false
theorem sameTo_step {eq : α → α → Bool} {xs ys : List α} {n k : Nat} {x y : α} {b : Bool} (hx : xs[k]? = some x) (hy : ys[k]? = some y) (h : sameTo' eq xs ys (n + 1) k = b) : (if eq x y then sameTo' eq xs ys n (k + 1) else false) = b := by
  rw [sameTo', hx, hy] at h
  exact h
theorem sameTo_refl (eq : α → α → Bool) (h : ∀ x, eq x x = true) (xs : List α) : ∀ n k, sameTo' eq xs xs n k = true
  | 0, _ => rfl
  | n + 1, k => by
    rw [sameTo']
    cases hx : xs[k]? with
    | none => rfl
    | some x => simp [h, sameTo_refl eq h xs n (k + 1)]
theorem sameL_refl (eq : α → α → Bool) (h : ∀ x, eq x x = true) (xs : List α) : sameL eq xs xs = true := by
  unfold sameL
  rw [if_pos rfl, sameTo_refl eq h]
theorem sameTo_iff (eq : α → α → Bool) (h : ∀ x y, eq x y = true ↔ x = y) (xs ys : List α) (hl : xs.length = ys.length) : ∀ n k, k + n = xs.length → (sameTo' eq xs ys n k = true ↔ ∀ j, k ≤ j → xs[j]? = ys[j]?)
  | 0, k, hk => by
    simp only [sameTo', true_iff]
    intro j hj
    rw [List.getElem?_eq_none (by omega), List.getElem?_eq_none (by omega)]
  | n + 1, k, hk => by
    have hx : xs[k]? = some xs[k] := List.getElem?_eq_getElem (by omega)
    have hy : ys[k]? = some ys[k] := List.getElem?_eq_getElem (by omega)
    rw [sameTo', hx, hy]
    simp only
    by_cases e : eq xs[k] ys[k] = true
    · rw [if_pos e, sameTo_iff eq h xs ys hl n (k + 1) (by omega)]
      have e' := (h _ _).1 e
      constructor
      · intro hh j hj
        by_cases ejk : j = k
        · subst ejk; rw [hx, hy, e']
        · exact hh j (by omega)
      · intro hh j hj
        exact hh j (by omega)
    · rw [if_neg e]
      simp only [Bool.false_eq_true, false_iff]
      intro hh
      have := hh k (Nat.le_refl _)
      rw [hx, hy] at this
      exact e ((h _ _).2 (Option.some.inj this))
theorem sameL_iff (eq : α → α → Bool) (h : ∀ x y, eq x y = true ↔ x = y) (xs ys : List α) : sameL eq xs ys = true ↔ xs = ys := by
  unfold sameL
  by_cases hl : xs.length = ys.length
  · rw [if_pos hl, sameTo_iff eq h xs ys hl _ 0 (by omega)]
    constructor
    · intro hh; exact List.ext_getElem? fun j => hh j (Nat.zero_le _)
    · rintro rfl _ _; rfl
  · rw [if_neg hl]
    simp only [Bool.false_eq_true, false_iff]
    intro e
    exact hl (by rw [e])

/-! ### marks -/
/-- n marks of list k -/
def mks (mk : Int → Int → α) (k : Int) (n : Nat) : List α := (List.range n).map fun (i : Nat) => mk k (i : Int)
theorem mks_len (mk : Int → Int → α) (k : Int) (n : Nat) : (mks mk k n).length = n := by simp [mks]
theorem mks_succ (mk : Int → Int → α) (k : Int) (n : Nat) : mks mk k (n + 1) = mks mk k n ++ [mk k n] := by simp [mks, List.range_succ]
theorem mks_get (mk : Int → Int → α) (k : Int) (n i : Nat) (h : i < n) : (mks mk k n)[i]? = some (mk k i) := by simp [mks, List.getElem?_map, List.getElem?_range h]
def lentM (mk : Int → Int → α) (l : List α) : List α := l ++ mks mk 7 6
theorem lentM_len (mk : Int → Int → α) (l : List α) : (lentM mk l).length = l.length + 6 := by simp [lentM, mks]
/-- the first i elements are marked -/
def overM (mk : Int → Int → α) (l : List α) (i : Nat) : List α := mks mk 9 i ++ l.drop i
theorem overM_len (mk : Int → Int → α) (l : List α) (i : Nat) (h : i ≤ l.length) : (overM mk l i).length = l.length := by simp [overM, mks]; omega
theorem overM_zero (mk : Int → Int → α) (l : List α) : overM mk l 0 = l := by simp [overM, mks]
theorem overM_end (mk : Int → Int → α) (l : List α) : overM mk l l.length = mks mk 9 l.length := by simp [overM]
theorem overM_put (K : Knd α) (mk : Int → Int → α) (l : List α) (i : Nat) (h : i < l.length) : putAt (K.fl (overM mk l i)) (i * K.sz) (K.cv (mk 9 i)) = K.fl (overM mk l (i + 1)) := by
  unfold overM
  have h1 := putAt_app (K.cv (mk 9 i)) (K.fl (mks mk 9 i)) (K.fl (l.drop i)) (by
    rw [K.len, K.fl_len, List.length_drop]
    have := Nat.mul_le_mul_right K.sz (show 1 ≤ l.length - i by omega)
    omega)
  rw [K.fl_len, mks_len] at h1
  rw [K.fl_app, h1, mks_succ, K.fl_app, K.fl_app, K.fl_one, List.drop_eq_getElem_cons h]
  congr 1
  have e : K.fl (l[i] :: l.drop (i + 1)) = K.cv l[i] ++ K.fl (l.drop (i + 1)) := by simp only [Knd.fl, List.flatMap_cons]
  rw [e, K.len, ← K.len l[i], List.drop_left]
theorem Knd.O.put {K : Knd α} {w : World} {g cap N : Nat} {l : List α} (mk : Int → Int → α) {i : Nat} (h : K.O w (.slice (some ⟨g, 0, none⟩) N cap) (overM mk l i)) (hi : i < l.length) (hN : N = l.length) :
    K.O (w.setCells g (i * K.sz) (K.cv (mk 9 i))) (.slice (some ⟨g, 0, none⟩) N cap) (overM mk l (i + 1)) := by
  subst hN
  have hl := overM_len mk l i (by omega)
  have hl2 := overM_len mk l (i + 1) (by omega)
  unfold Knd.O at *
  rw [hl] at h
  have := ownsRow_setCells (K.cv (mk 9 i)) _ _ (i * K.sz) h
  rw [overM_put K mk l i hi] at this
  rw [hl2]
  exact this
/-- marks are the marks of Apart -/
def Mkr.ofK (K : Knd α) (st : TypeId) (mk : Int → Int → α) : Mkr := ⟨st, K.e, K.sz, fun k i => K.cv (mk ((k : Int) + 10) (i : Int)), K.pos, fun _ _ => K.len _, fun _ _ => K.one _⟩
end
theorem header {w : World} {base : Nat} {e : TypeId} {size n : Nat} {v : Value} {xs : List Value} (h : w.ownsRow base e size v n xs) : ∃ ao cap, v = .slice ao n cap ∧ n ≤ cap ∧ cap ≤ 9223372036854775807 ∧ (0 < n → ∃ g, ao = some ⟨g, 0, none⟩) := by
  rcases h.2 with ⟨rfl, rfl⟩ | ⟨g, cap, cur, rfl, _, _, h1, h2, _⟩
  · exact ⟨none, 0, rfl, by omega, by omega, fun h => by omega⟩
  · exact ⟨some ⟨g, 0, none⟩, cap, rfl, h1, h2, fun _ => ⟨g, rfl⟩⟩
end Go.Proofs.Ytkidijjhedjifaa
/- Lists of any kind as things of a law's world. No program in sight. -/
namespace Go.Proofs.Ytkidijjhedjifaa
open Go.RowKit
set_option maxRecDepth 100000
set_option linter.unusedVariables false
theorem Knd.New.lit {α : Type} (K : Knd α) (l : List α) (w : World) (hl : l.length ≤ 1000) : K.New l w (.returned (.slice (some ⟨w.heap.size, 0, none⟩) l.length l.length)) (w.alloc (.cells (K.fl l).toArray K.e)) := by
  refine ⟨_, rfl, ?_, (Below.refl _ _).alloc (Nat.le_refl _) _, fun x hx => ?_⟩
  · have := World.ownsRow_lit (base := 0) (e := K.e) (size := K.sz) w (K.fl l).toArray l.length (Nat.zero_le _) (by unfold maxLen; omega) (by rw [List.size_toArray, K.fl_len])
    simpa [Knd.O] using this
  · have e : w.heap.size = x := by simpa [fpv, Value.ownBlock] using hx
    omega
section
variable {α : Type} {K : Knd α} {w0 w w' : World} {obs : List Ob}
theorem Knd.New.env {l : List α} {e : Ending} (h : Env w0 w obs) (hn : K.New l w e w') : ∃ v, e = .returned v ∧ Env w0 w' (obs ++ [K.ob v l]) := by
  obtain ⟨v, he, h1, h2, h3⟩ := hn
  exact ⟨v, he, h.pushE h1 h2 h3⟩
theorem Env.kO (h : Env w0 w obs) (i : Nat) {v : Value} {l : List α} (hi : obs[i]? = some (K.ob v l)) : K.O w v l := Env.row h i hi
theorem Env.kR (h : Env w0 w obs) (i : Nat) {v : Value} {l : List α} (hi : obs[i]? = some (K.ob v l)) : K.R w v l := (Env.kO h i hi).rd
theorem Env.turnK (h : Env w0 w obs) (i : Nat) {v : Value} {l l' : List α} (hi : obs[i]? = some (K.ob v l)) (hb : K.O w' v l') (ho : Only (fpv v) w w') : Env w0 w' (obs.set i (K.ob v l')) := Env.turnE h i hi hb ho
theorem Env.oldK (h : Env w0 w obs) {v : Value} {l : List α} (hv : K.R w0 v l) : K.R w v l := hv.grow h.base
theorem Env.pushNil (h : Env w0 w obs) (K : Knd α) : Env w0 w (obs ++ [K.ob (.slice none 0 0) []]) := h.pushE (Knd.O.nil w) (Below.refl _ _) (fun x hx => by simp [fpv, Value.ownBlock] at hx)
/-- a beginning of a list -/
theorem Knd.R.begin {l r : List α} {ao : Option Addr} {n cap : Nat} (h : K.R w (.slice ao n cap) (l ++ r)) : K.R w (.slice ao l.length cap) l := by
  obtain ⟨ao', cap', hv, h1, h2, h3, h4⟩ := h.form
  injection hv with e1 e2 e3
  subst e1; subst e3
  refine ⟨K.fl_len l, K.fl_cells l, ao, cap, rfl, by rw [List.length_append] at h1; omega, h2, h3, fun j u hj => ?_⟩
  exact h4 j u (by rw [K.fl_app, List.getElem?_append_left (List.getElem?_eq_some_iff.1 hj).1]; exact hj)
theorem Knd.R.lent {mk : Int → Int → α} {l : List α} {ao : Option Addr} {n cap : Nat} (h : K.R w (.slice ao n cap) (lentM mk l)) : K.R w (.slice ao l.length cap) l := Knd.R.begin h
theorem Env.any (h : Env w0 w obs) (i : Nat) {v : Value} {l : List α} (hi : obs[i]? = some (K.ob v l)) : ∃ ao cap, v = .slice ao l.length cap := (Env.kO h i hi).any
theorem Env.lentF (h : Env w0 w obs) (i : Nat) {mk : Int → Int → α} {v : Value} {l : List α} (hi : obs[i]? = some (K.ob v (lentM mk l))) : ∃ g cap, v = .slice (some ⟨g, 0, none⟩) (lentM mk l).length cap ∧ l.length + 6 ≤ cap ∧ cap ≤ 9223372036854775807 := by
  have h1 := Env.kO h i hi
  obtain ⟨g, cap, rfl⟩ := h1.form (by rw [lentM_len]; omega)
  obtain ⟨ao, cap', hv, h2, h3, _⟩ := h1.rd.any
  injection hv with _ _ e3
  subst e3
  rw [lentM_len] at h2
  exact ⟨g, cap, rfl, h2, h3⟩
end
end Go.Proofs.Ytkidijjhedjifaa
/- The contract of Ledger.Count. Condition: the ledger's events are fewer than 2^63. -/
namespace Go.Proofs.Ytkidijjhedjifaa
open Go.RowKit
set_option maxRecDepth 100000
set_option linter.unusedVariables false

/-- how many events of the first j runs have the kind k -/
def cntTo (rs : List Rn) (k : Int) : Nat → Int
  | 0 => 0
  | j + 1 => cntTo rs k j + if (rs.getD j ⟨0, 0, 0⟩).k = k then (rs.getD j ⟨0, 0, 0⟩).c else 0
def cnt (rs : List Rn) (k : Int) : Int := cntTo rs k rs.length
theorem cntTo_bound (rs : List Rn) (k : Int) (h : Posi rs) : ∀ j, j ≤ rs.length → 0 ≤ cntTo rs k j ∧ cntTo rs k j ≤ tot (rs.take j)
  | 0, _ => by simp [cntTo, tot]
  | j + 1, hj => by
    obtain ⟨h1, h2⟩ := cntTo_bound rs k h j (by omega)
    have hg : rs.getD j ⟨0, 0, 0⟩ = rs[j] := by rw [List.getD_eq_getElem?_getD, List.getElem?_eq_getElem (by omega)]; rfl
    have hp := h rs[j] (List.getElem_mem _)
    rw [cntTo, hg, List.take_add_one, List.getElem?_eq_getElem (by omega), tot_append]
    simp only [Option.toList_some, tot_one]
    split <;> omega
theorem tot_take (rs : List Rn) (h : Posi rs) (j : Nat) : tot (rs.take j) ≤ tot rs := by
  have h1 := List.take_append_drop j rs
  have h2 : tot rs = tot (rs.take j) + tot (rs.drop j) := by rw [← tot_append, h1]
  have h3 := tot_nonneg (rs.drop j) (fun r hr => h r (List.mem_of_mem_drop hr))
  omega
end Go.Proofs.Ytkidijjhedjifaa
/- The kit's functions on lists (Runs). Conditions: a list and six more fit into 2^47 bytes. -/
namespace Go.Proofs.Ytkidijjhedjifaa
open Go.RowKit
set_option maxRecDepth 100000
set_option linter.unusedVariables false
set_option linter.unusedSimpArgs false
def KN : Knd Rn := ⟨51, 3, fun x => [.int .u8 x.k, .int .i64 x.s, .int .i64 x.c], by decide, fun _ => rfl, fun x u hu => by simp at hu; rcases hu with rfl | rfl | rfl <;> rfl⟩
theorem infoN : (Try.prog.info? 51).map (fun i => (i.zero, i.size, i.bytes)) = some (some (.agg #[.int .u8 0, .int .i64 0, .int .i64 0]), 3, 24) := by kernel_rfl
def mkN (k i : Int) : Rn := ⟨0, 0, -1000 * k - i - 7⟩
theorem markN_any (k i : Int) (w : World) (hk : 0 ≤ k) (hk' : k ≤ 1000000) (hi : 0 ≤ i) (hi' : i ≤ 1000000000000000) :
    Calls Try.prog 43 #[.int .i64 k, .int .i64 i] w fun e w' => e = .returned (.agg #[.int .u8 (mkN k i).k, .int .i64 (mkN k i).s, .int .i64 (mkN k i).c]) ∧ Below w.heap.size w w' := by
  show Calls _ _ _ _ fun e w' => e = .returned (.agg #[.int .u8 0, .int .i64 0, .int .i64 (-1000 * k - i - 7)]) ∧ Below w.heap.size w w'
  go_enter Try.func43, Try.ntmps43
  go_wp2
  exact bodyPost_ret (v := .agg #[.int .u8 0, .int .i64 0, .int .i64 (-1000 * k - i - 7)]) (by simp [results, Try.results43, go_sem]) rfl ⟨rfl, (Below.refl _ _).alloc (Nat.le_refl _) _⟩
def eqN (x y : Rn) : Bool := (x.k == y.k) && (x.s == y.s) && (x.c == y.c)
theorem eqcN (x y : Rn) : ((x.k == y.k) = true ∧ (x.s == y.s) = true ∧ (x.c == y.c) = true ∧ eqN x y = true) ∨ ((x.k == y.k) = false ∧ eqN x y = false) ∨ ((x.k == y.k) = true ∧ (x.s == y.s) = false ∧ eqN x y = false) ∨ ((x.k == y.k) = true ∧ (x.s == y.s) = true ∧ (x.c == y.c) = false ∧ eqN x y = false) := by
  unfold eqN
  cases h0 : (x.k == y.k) <;> cases h1 : (x.s == y.s) <;> cases h2 : (x.c == y.c) <;> simp
theorem eqN_iff (x y : Rn) : eqN x y = true ↔ x = y := by
  unfold eqN
  cases x; cases y; simp [and_assoc]
set_option maxHeartbeats 2000000 in
theorem sameN_any (u v : Value) (xs ys : List Rn) (w : World) (hu : KN.R w u xs) (hv : KN.R w v ys) :
    Calls Try.prog 14 #[u, v] w fun e w' => e = .returned (.bool (sameL eqN xs ys)) ∧ ∃ m, w' = w.drewN m := by
  have HU := Lib.hid hu
  have HV := Lib.hid hv
  obtain ⟨ao, cap, rfl, h1, h2, _⟩ := hu.any
  obtain ⟨bo, dap, rfl, h3, h4, _⟩ := hv.any
  clear hu hv
  have hla : xs.length ≤ 9223372036854775807 := by omega
  have hlb : ys.length ≤ 9223372036854775807 := by omega
  obtain ⟨b, hb⟩ : ∃ b, sameL eqN xs ys = b := ⟨_, rfl⟩
  rw [hb]
  unfold sameL at hb
  by_cases hl : xs.length = ys.length
  · rw [if_pos hl] at hb
    have HS := Lib.hid hb
    have hlI : ((xs.length : Int) != (ys.length : Int)) = false := by rw [hl]; simp
    have HL := Lib.hid hl
    clear hl hb
    go_enter Try.func14, Try.ntmps14
    go_wp2_with fail
    go_loopw [5] (fun i w1 => ∃ k : Nat, k ≤ xs.length ∧ i = .int .i64 (k : Int) ∧ Hid (sameTo' eqN xs ys (xs.length - k) k = b) ∧ ∃ m, w1 = w.drewN m) (fun i _ => xs.length - (intOf i).toNat)
    case atStart => exact ⟨0, Nat.zero_le _, rfl, HS, 0, rfl⟩
    case round =>
      obtain ⟨k, hk, rfl, HE, m, rfl⟩ := hrel
      by_cases hlt : k < xs.length
      · have hlt2 : k < ys.length := by rw [← HL.out]; exact hlt
        obtain ⟨x, hx⟩ : ∃ x, xs[k]? = some x := ⟨_, List.getElem?_eq_getElem hlt⟩
        obtain ⟨y, hy⟩ : ∃ y, ys[k]? = some y := ⟨_, List.getElem?_eq_getElem hlt2⟩
        obtain ⟨g, off, rfl, _, dd⟩ := HU.out.get hx
        obtain ⟨g2, off2, rfl, _, ee⟩ := HV.out.get hy
        have HE2 : Hid ((if eqN x y then sameTo' eqN xs ys (xs.length - (k + 1)) (k + 1) else false) = b) := by
          have h := HE.out
          rw [show xs.length - k = (xs.length - (k + 1)) + 1 from by omega] at h
          exact Lib.hid (sameTo_step hx hy h)
        clear HE hx hy
        obtain ⟨kx, sx, cx⟩ := x
        obtain ⟨ky, sy, cy⟩ := y
        have d0 : w.cell? ⟨g, off + k * 3, none⟩ = some (.int .u8 kx) := by have h := dd 0 _ rfl; rw [show off + (k * KN.sz + 0) = off + k * 3 from by show off + (k * 3 + 0) = _; omega] at h; exact h
        have d1 : w.cell? ⟨g, off + k * 3 + 1, none⟩ = some (.int .i64 sx) := by have h := dd 1 _ rfl; rw [show off + (k * KN.sz + 1) = off + k * 3 + 1 from by show off + (k * 3 + 1) = _; omega] at h; exact h
        have d2 : w.cell? ⟨g, off + k * 3 + 2, none⟩ = some (.int .i64 cx) := by have h := dd 2 _ rfl; rw [show off + (k * KN.sz + 2) = off + k * 3 + 2 from by show off + (k * 3 + 2) = _; omega] at h; exact h
        have e0 : w.cell? ⟨g2, off2 + k * 3, none⟩ = some (.int .u8 ky) := by have h := ee 0 _ rfl; rw [show off2 + (k * KN.sz + 0) = off2 + k * 3 from by show off2 + (k * 3 + 0) = _; omega] at h; exact h
        have e1 : w.cell? ⟨g2, off2 + k * 3 + 1, none⟩ = some (.int .i64 sy) := by have h := ee 1 _ rfl; rw [show off2 + (k * KN.sz + 1) = off2 + k * 3 + 1 from by show off2 + (k * 3 + 1) = _; omega] at h; exact h
        have e2 : w.cell? ⟨g2, off2 + k * 3 + 2, none⟩ = some (.int .i64 cy) := by have h := ee 2 _ rfl; rw [show off2 + (k * KN.sz + 2) = off2 + k * 3 + 2 from by show off2 + (k * 3 + 2) = _; omega] at h; exact h
        clear dd ee
        have hq := eqcN ⟨kx, sx, cx⟩ ⟨ky, sy, cy⟩
        dsimp only at hq
        rcases hq with ⟨h0, h1, h2, he⟩ | ⟨h0, he⟩ | ⟨h0, h1, he⟩ | ⟨h0, h1, h2, he⟩
        · have HE3 : Hid (sameTo' eqN xs ys (xs.length - (k + 1)) (k + 1) = b) := by
            have h := HE2.out
            rw [if_pos he] at h
            exact Lib.hid h
          clear HE2
          go_wp2_with fail
          go_quiet ((fail))
          go_wp2_with fail
          go_roundw
          case rel => exact ⟨k + 1, by omega, by go_num, HE3, m + nq, rfl⟩
          case measure => simp [intOf]; omega
        all_goals
          have HE3 : Hid (b = false) := by
            have h := HE2.out
            rw [he] at h
            exact Lib.hid h.symm
          clear HE2
          go_wp2_with fail
          go_quiet ((fail))
          go_wp2
          go_ret
          exact ⟨by rw [HE3.out]; rfl, m + nq, by simp⟩
      · obtain rfl : k = xs.length := by omega
        have HF : Hid (b = true) := by
          have h := HE.out
          rw [Nat.sub_self] at h
          exact Lib.hid h.symm
        go_wp2
        go_ret
        exact ⟨by rw [HF.out]; rfl, m, rfl⟩
  · rw [if_neg hl] at hb
    have hlI : ((xs.length : Int) != (ys.length : Int)) = true := by simp; omega
    have HF := Lib.hid hb
    clear hl hb
    go_enter Try.func14, Try.ntmps14
    go_wp2
    go_ret
    exact ⟨by rw [← HF.out]; rfl, 0, rfl⟩
theorem infoNs : (Try.prog.info? 31).map (fun i => (i.zero, i.size, i.bytes)) = some (some (.slice none 0 0), 1, 24) := by kernel_rfl
def MN : Mkr := Mkr.ofK KN 31 mkN
theorem MN_get (k n i : Nat) (h : i < n) (c : Nat) (hc : c < 3) : (MN.marks k n)[i * 3 + c]? = (KN.cv (mkN ((k : Int) + 10) (i : Int)))[c]? := MN.marks_get k c hc n i h
set_option maxHeartbeats 4000000 in
theorem apartRuns_any {w0 w : World} (u : Value) (vs : List Value) (n : Nat → Nat) (c : Nat → List Value) (rest : List Ob) (h : AEnv MN w0 w u vs (fun j => obE MN.e MN.sz (Tv vs j) (n j) (c j)) rest)
    (hn : ∀ j, j < vs.length → n j ≤ 5864062014799) (hl : vs.length ≤ 900000) :
    Calls Try.prog 22 #[u] w fun e w' => e = .returned (.bool true) ∧ Env w0 w' rest := by
  have hc : ∀ j, j < vs.length → (c j).length = n j * MN.sz := fun j hj => (Env.row h (j + 1) (AEnv.at (w0 := w0) (w := w) j hj)).1
  have HC := Lib.hid hc
  have HN := Lib.hid hn
  obtain ⟨ao, capu, rfl, hcu, hcm, hao⟩ := header h.row
  have HAO := Lib.hid hao
  have H0 : Hid (AEnv MN w0 w (.slice ao vs.length capu) vs (T1 MN vs n c 0 0) rest) := Lib.hid (h.same fun j hj => T1_zero vs n c j)
  clear hc hn hao h
  obtain ⟨N, hN⟩ : ∃ N, N = vs.length := ⟨_, rfl⟩
  have HNN := Lib.hid hN
  rw [← hN] at hl hcu H0
  rw [← hN]
  clear hN
  go_enter Try.func22, Try.ntmps22
  go_wp2_with fail
  go_loopw [3] (fun i w1 => ∃ (k : Nat), k ≤ N ∧ i = .int .i64 (k : Int) ∧ Hid (AEnv MN w0 w1 (.slice ao N capu) vs (T1 MN vs n c k 0) rest)) (fun i _ => N - (intOf i).toNat)
  case atStart => exact ⟨0, Nat.zero_le _, rfl, H0⟩
  case round =>
    clear H0
    obtain ⟨k, hk, rfl, H1⟩ := hrel
    by_cases hlt : k < N
    · have hkv : k < vs.length := by rw [← HNN.out]; exact hlt
      have hr1 := Env.row H1.out (k + 1) (by rw [AEnv.at (w0 := w0) (w := wr) k hkv, T1_self])
      obtain ⟨m, hm⟩ : ∃ m, n k = m := ⟨_, rfl⟩
      have hnk := HN.out k hkv
      rw [hm] at hr1 hnk
      obtain ⟨ak, capk, hvk, hck, hcmk, hak⟩ := header hr1
      obtain ⟨gu, rfl⟩ := HAO.out (by rw [← HNN.out]; omega)
      have hu1 := H1.out.row
      rw [← HNN.out] at hu1
      have c0 := World.ownsRow.cellAt hu1 k (by omega)
      rw [Tv_get hkv, hvk] at c0
      have HM := Lib.hid hm
      have HVK := Lib.hid hvk
      have HAK := Lib.hid hak
      have HKV := Lib.hid hkv
      clear hr1 hu1 hm hvk hak hkv
      go_wp2_with fail
      obtain ⟨wx, hwx⟩ : ∃ x, x = wr := ⟨_, rfl⟩
      go_loopw [4] (fun i w1 => ∃ (j : Nat), j ≤ m ∧ i = .int .i64 (j : Int) ∧ Hid (AEnv MN w0 w1 (.slice (some ⟨gu, 0, none⟩) N capu) vs (T1 MN vs n c k j) rest)) (fun i _ => m - (intOf i).toNat)
      case atStart => exact ⟨0, Nat.zero_le _, rfl, H1⟩
      case round =>
        clear c0
        obtain ⟨j, hj, rfl, H2⟩ := hrel
        have hu2 := H2.out.row
        rw [← HNN.out] at hu2
        have c0 := World.ownsRow.cellAt hu2 k (by omega)
        rw [Tv_get HKV.out, HVK.out] at c0
        clear hu2
        by_cases hjn : j < m
        · obtain ⟨g, rfl⟩ := HAK.out (by omega)
          have hr2 := Env.row H2.out (k + 1) (by rw [AEnv.at (w0 := w0) (w := wr) k HKV.out, T1_self])
          rw [HM.out, HVK.out] at hr2
          clear hr2
          have c0S : ∀ w', Below wr.heap.size wr w' → w'.cell? ⟨gu, k, none⟩ = some (.slice (some ⟨g, 0, none⟩) m capk) := fun w' hb => (hb.cell (p := ⟨gu, k, none⟩) (World.block_lt_of_cell? wr _ c0)).trans c0
          go_wp2_with fail
          have hwk : IntKind.i64.wrap ((k : Int) + 10) = (k : Int) + 10 := IntWalk.i64_in _ (by omega)
          refine wp_region_tame (fun w' => Below wr.heap.size wr w') 0 10 (by kernel_rfl) (by kernel_rfl) (fun _ _ d _ _ h => (by cases d <;> exact h)) ⟨rfl, rfl, rfl, Nat.le_refl _, fun _ _ => rfl⟩ (by decide) ?_
          simp only [List.take_succ_cons, List.take_zero, List.drop_succ_cons, List.drop_zero]
          refine wpPre_nil ?_
          refine wpTame_run (v := ?_) (by decide) rfl (fun w' hS => ?_) ?_
          rotate_left
          focus (have q0 := c0S w' hS; clear hS; go_simp; try rfl; done)
          simp only [Act.put, List.setIfInBounds_toArray, List.set_cons_zero, List.set_cons_succ]
          refine wpTame_run (v := ?_) (by decide) rfl (fun w' hS => ?_) ?_
          rotate_left
          focus (have q0 := c0S w' hS; clear hS; go_simp; try rfl; done)
          simp only [Act.put, List.setIfInBounds_toArray, List.set_cons_zero, List.set_cons_succ]
          refine wpTame_run (v := ?_) (by decide) rfl (fun w' hS => ?_) ?_
          rotate_left
          focus (have q0 := c0S w' hS; clear hS; go_simp; try rfl; done)
          simp only [Act.put, List.setIfInBounds_toArray, List.set_cons_zero, List.set_cons_succ]
          refine wpTame_run (v := ?_) (by decide) rfl (fun w' hS => ?_) ?_
          rotate_left
          focus (have q0 := c0S w' hS; clear hS; go_simp; try rfl; done)
          simp only [Act.put, List.setIfInBounds_toArray, List.set_cons_zero, List.set_cons_succ]
          refine wpTame_run (v := ?_) (by decide) rfl (fun w' hS => ?_) ?_
          rotate_left
          focus (have q0 := c0S w' hS; clear hS; go_simp; try rfl; done)
          simp only [Act.put, List.setIfInBounds_toArray, List.set_cons_zero, List.set_cons_succ]
          refine wpTame_run (v := ?_) (by decide) rfl (fun w' hS => ?_) ?_
          rotate_left
          focus (have q0 := c0S w' hS; clear hS; go_simp; try rfl; done)
          simp only [Act.put, List.setIfInBounds_toArray, List.set_cons_zero, List.set_cons_succ]
          refine wpTame_run (v := ?_) (by decide) rfl (fun w' hS => ?_) ?_
          rotate_left
          focus (have q0 := c0S w' hS; clear hS; go_simp; try rfl; done)
          simp only [Act.put, List.setIfInBounds_toArray, List.set_cons_zero, List.set_cons_succ]
          refine wpTame_run (v := ?_) (by decide) rfl (fun w' hS => ?_) ?_
          rotate_left
          focus (have q0 := c0S w' hS; clear hS; go_simp; try rfl; done)
          simp only [Act.put, List.setIfInBounds_toArray, List.set_cons_zero, List.set_cons_succ]
          refine wpTame_call (v := .agg #[.int .u8 (mkN ((k : Int) + 10) (j : Int)).k, .int .i64 (mkN ((k : Int) + 10) (j : Int)).s, .int .i64 (mkN ((k : Int) + 10) (j : Int)).c]) (by decide) rfl (fun w' h => ?_) (fun w' h => (markN_any ((k : Int) + 10) j w' (by omega) (by omega) (by omega) (by omega)).mono fun e w'' ⟨he, hb⟩ => ⟨he, h.trans (hb.mono h.size)⟩) ?_
          · clear h; go_simp; try rfl
          simp only [Act.put, List.setIfInBounds_toArray, List.set_cons_zero, List.set_cons_succ]
          refine wpTame_run (v := ?_) (by decide) rfl (fun w' hS => ?_) ?_
          rotate_left
          focus (have q0 := c0S w' hS; clear hS; go_simp; try rfl; done)
          simp only [Act.put, List.setIfInBounds_toArray, List.set_cons_zero, List.set_cons_succ]
          refine wpTame_nil ?_
          intro wm hw'
          have H3 := Lib.hid (H2.out.below hw')
          have hr3 := Env.row H3.out (k + 1) (by rw [AEnv.at (w0 := w0) (w := wm) k HKV.out, T1_self])
          rw [HM.out, HVK.out] at hr3
          have c1 := World.ownsRow.cellAt hr3 (j * 3) (by show j * 3 < m * 3; omega)
          rw [List.getElem?_eq_getElem (by rw [hr3.1]; show j * 3 < m * 3; omega)] at c1
          generalize (MN.to k (c k) j)[j * 3]'_ = z1 at c1
          have f1 := World.ownsRow.frozenAt hr3 (j * 3)
          have c2 := World.ownsRow.cellAt hr3 (j * 3 + 1) (by show j * 3 + 1 < m * 3; omega)
          rw [List.getElem?_eq_getElem (by rw [hr3.1]; show j * 3 + 1 < m * 3; omega)] at c2
          generalize (MN.to k (c k) j)[j * 3 + 1]'_ = z2 at c2
          have f2 := World.ownsRow.frozenAt hr3 (j * 3 + 1)
          have c3 := World.ownsRow.cellAt hr3 (j * 3 + 2) (by show j * 3 + 2 < m * 3; omega)
          rw [List.getElem?_eq_getElem (by rw [hr3.1]; show j * 3 + 2 < m * 3; omega)] at c3
          generalize (MN.to k (c k) j)[j * 3 + 2]'_ = z3 at c3
          have f3 := World.ownsRow.frozenAt hr3 (j * 3 + 2)
          clear hr3 c0 c0S hw'
          go_wp2_with fail
          go_roundw
          case rel => exact ⟨j + 1, by omega, by go_num, Lib.hid (H3.out.mark0 HKV.out (HC.out k HKV.out) (by rw [HM.out]; exact hjn) HVK.out)⟩
          case measure => simp [intOf]; omega
        · obtain rfl : j = m := by omega
          have H3 : Hid (AEnv MN w0 wr (.slice (some ⟨gu, 0, none⟩) N capu) vs (T1 MN vs n c (k + 1) 0) rest) := by
            have h := H2.out
            rw [← HM.out] at h
            exact Lib.hid (h.next (HC.out k HKV.out))
          go_wp2_with fail
          go_roundw
          case rel => exact ⟨k + 1, by omega, by go_num, H3⟩
          case measure => simp [intOf]; omega
    · obtain rfl : k = N := by omega
      have P0 : Hid (PEnv MN w0 wr (.slice ao k capu) vs n rest 0 none (.slice none 0 0) []) := by
        have h := H1.out
        rw [HNN.out] at h ⊢
        exact Lib.hid (PEnv.start h)
      clear H1
      go_wp2_with fail
      obtain ⟨wq, hwq⟩ : ∃ x, x = wr := ⟨_, rfl⟩
      go_loopw [5, 6] (fun gsv i w1 => ∃ (p : Nat) (gs : List Value), p ≤ k ∧ i = .int .i64 (p : Int) ∧ Hid (gs.length = p) ∧ Hid (PEnv MN w0 w1 (.slice ao k capu) vs n rest p none gsv gs)) (fun _ i _ => k - (intOf i).toNat)
      case atStart => exact ⟨0, [], Nat.zero_le _, rfl, Lib.hid rfl, P0⟩
      case round =>
        clear P0
        obtain ⟨p, gs, hp, rfl, HGS, P⟩ := hrel
        by_cases hlt : p < k
        · have hkv : p < vs.length := by rw [← HNN.out]; exact hlt
          have hd := P.out.hd hkv
          have hr1 := Env.row P.out (p + 1) (by rw [AEnv.at (w0 := w0) (w := wr) p hkv, T2_self])
          obtain ⟨m, hm⟩ : ∃ m, n p = m := ⟨_, rfl⟩
          have hnk := HN.out p hkv
          rw [hm] at hr1 hnk
          obtain ⟨ak, capk, hvk, hck, hcmk, hak⟩ := header hr1
          obtain ⟨gu, rfl⟩ := HAO.out (by rw [← HNN.out]; omega)
          have hu1 := P.out.row
          rw [← HNN.out] at hu1
          have c0 := World.ownsRow.cellAt hu1 p (by omega)
          rw [Tv_get hkv, hvk] at c0
          have PT := P.out.take hkv
          rw [hvk] at PT
          have HM := Lib.hid hm
          have HVK := Lib.hid hvk
          have HKV := Lib.hid hkv
          have HD := Lib.hid hd
          have HPT := Lib.hid PT
          clear hr1 hu1 hm hvk hak hkv hd PT P
          go_wp2_with fail
          obtain ⟨wy, hwy⟩ : ∃ x, x = wr := ⟨_, rfl⟩
          go_loopw [7, 8] (fun g i w1 => ∃ (j : Nat), j ≤ 6 ∧ i = .int .i64 (j : Int) ∧ Hid (PEnv MN w0 w1 (.slice (some ⟨gu, 0, none⟩) k capu) vs n rest p (some (g, j)) u5 gs)) (fun _ i _ => 6 - (intOf i).toNat)
          case atStart => exact ⟨0, by omega, rfl, HPT⟩
          case round =>
            clear HPT c0
            obtain ⟨j, hj, rfl, PJ⟩ := hrel
            have hu1 := PJ.out.row
            rw [← HNN.out] at hu1
            have c0 := World.ownsRow.cellAt hu1 p (by omega)
            rw [Tv_get HKV.out, HVK.out] at c0
            clear hu1
            by_cases hj6 : j < 6
            · obtain ⟨x, hx⟩ : ∃ x, mkN ((p : Int) + 10) ((m : Int) + j) = x := ⟨_, rfl⟩
              have hel : MN.el p (m + j) = [.int .u8 x.k, .int .i64 x.s, .int .i64 x.c] := by rw [← hx]; rfl
              have hwk : IntKind.i64.wrap ((p : Int) + 10) = (p : Int) + 10 := IntWalk.i64_in _ (by omega)
              go_wp2_with fail
              refine (markN_any ((p : Int) + 10) ((m : Int) + j) _ (by omega) (by omega) (by omega) (by omega)).mono ?_
              rintro e wm ⟨he, hbm⟩
              rw [hx] at he
              subst he
              clear hx
              have PA := (PJ.out.below hbm).below ((Below.refl wm.heap.size wm).alloc (Nat.le_refl _) (.cells #[.int .u8 x.k, .int .i64 x.s, .int .i64 x.c] 51))
              have HOWN : (wm.alloc (.cells #[.int .u8 x.k, .int .i64 x.s, .int .i64 x.c] 51)).ownsRow 0 51 3 u7 (m + j) (MN.marks p (m + j)) := by
                have h := PA.gone HKV.out
                rw [HM.out] at h
                exact h
              have HPA := Lib.hid PA
              have HEL := Lib.hid hel
              clear PA hel hbm
              obtain ⟨i0, hi, hz0, hz1, hz2⟩ := info_parts infoN
              go_wp2_with (at_builtin; refine wpList_append_keep _ rfl _ _ 31 rfl 51 i0 _ 3 24 Try.underlying31 hi hz0 hz1 hz2 rfl (by decide) u7 (m + j) (MN.marks p (m + j)) rfl HOWN ⟨wm.heap.size, 0, none⟩ 1 1 [.int .u8 x.k, .int .i64 x.s, .int .i64 x.c] rfl rfl (World.news_of_block (heap_alloc_new _ _)) (KN.one x) (by unfold maxLen; omega) (by omega) (by decide) ?_)
              intro v' w2 hown hgrow hat hne
              have HP2 : Hid (PEnv MN w0 w2 (.slice (some ⟨gu, 0, none⟩) k capu) vs n rest p (some (v', j + 1)) u5 gs) := by
                have hm := HM.out
                subst hm
                rw [← HEL.out] at hown
                exact Lib.hid (HPA.out.more HKV.out HD.out hown hgrow (by simpa using hat))
              clear hown hgrow hat hne HOWN hi hz0 hz1 hz2 c0
              go_wp2_with fail
              go_roundw
              case rel => exact ⟨j + 1, by omega, by go_num, HP2⟩
              case measure => simp [intOf]; omega
            · obtain rfl : j = 6 := by omega
              have hg := PJ.out.gone HKV.out
              obtain ⟨ag, capg, hug, _, _, _⟩ := header hg
              subst hug
              have HPA := Lib.hid (PJ.out.below ((Below.refl wr.heap.size wr).alloc (Nat.le_refl _) (.cells #[.slice ag (n p + 6) capg] 31)))
              have HROW : (wr.alloc (.cells #[.slice ag (n p + 6) capg] 31)).ownsRow 0 31 1 u5 p gs := by
                have h := HPA.out.gs
                rw [HGS.out] at h
                exact h
              clear hg c0
              obtain ⟨i0, hi, hz0, hz1, hz2⟩ := info_parts infoNs
              go_wp2_with (at_builtin; refine wpList_append_keep _ rfl _ _ 25 rfl 31 i0 _ 1 24 Try.underlying25 hi hz0 hz1 hz2 rfl (by decide) u5 p gs rfl HROW ⟨wr.heap.size, 0, none⟩ 1 1 [.slice ag (n p + 6) capg] rfl rfl (World.news_of_block (heap_alloc_new _ _)) (fun u hu => by simp at hu; subst hu; rfl) (by unfold maxLen; omega) (by omega) (by decide) ?_)
              intro v' w2 hown hgrow hat hne
              have HP2 : Hid (PEnv MN w0 w2 (.slice (some ⟨gu, 0, none⟩) k capu) vs n rest (p + 1) none v' (gs ++ [.slice ag (n p + 6) capg])) := by
                refine Lib.hid (HPA.out.kept HGS.out (by rw [HGS.out]; exact hown) hgrow ?_)
                rcases hat with hat | hat
                · exact .inl hat
                · exact .inr (by simpa using hat.1)
              clear hown hgrow hat hne HROW hi hz0 hz1 hz2
              go_wp2_with fail
              go_roundw
              case rel => exact ⟨p + 1, _, by omega, by go_num, Lib.hid (by rw [List.length_append, HGS.out]; rfl), HP2⟩
              case measure => simp [intOf]; omega
        · obtain rfl : p = k := by omega
          have hg := P.out.gs
          rw [HGS.out] at hg
          obtain ⟨ag, capg, hug, hcg, hcmg, hag⟩ := header hg
          subst hug
          have HROW := Lib.hid hg
          have HAG := Lib.hid hag
          have hu1 := P.out.row
          rw [← HNN.out] at hu1
          have HU := Lib.hid hu1
          have HR : Hid (∀ q, q < p → wr.ownsRow 0 51 3 (Tv gs q) (n q + 6) (MN.marks q (n q + 6)) ∧ Sl wr 3 (Tv vs q) (n q) (MN.marks q (n q)) ∧ n q ≤ 5864062014799) := Lib.hid (fun q hq => by
            have h := P.out
            have hq' : q < vs.length := by rw [← HNN.out]; exact hq
            have h2 := h
            rw [HNN.out] at h2
            obtain ⟨h3, h4⟩ := h2.rows q hq'
            exact ⟨h3, h4, HN.out q hq'⟩)
          have HEND : Hid (∀ w', Below wr.heap.size wr w' → Env w0 w' rest) := Lib.hid (fun w' hb => Env.below P.out.drop hb)
          clear hg hag hu1 P
          go_wp2_with fail
          obtain ⟨w3, rfl⟩ : ∃ w3 : World, w3 = wr := ⟨_, rfl⟩
          go_loopw [9] (fun i w1 => ∃ (q : Nat), q ≤ p ∧ i = .int .i64 (q : Int) ∧ Hid (Below w3.heap.size w3 w1)) (fun i _ => p - (intOf i).toNat)
          case atStart => exact ⟨0, Nat.zero_le _, rfl, Lib.hid (Below.refl _ _)⟩
          case round =>
            obtain ⟨q, hq, rfl, HB⟩ := hrel
            by_cases hlt : q < p
            · obtain ⟨h3, h4, hnq⟩ := HR.out q hlt
              obtain ⟨gu, rfl⟩ := HAO.out (by rw [← HNN.out]; omega)
              obtain ⟨gg, rfl⟩ := HAG.out (by omega)
              obtain ⟨m, hm⟩ : ∃ m, n q = m := ⟨_, rfl⟩
              rw [hm] at h3 h4 hnq
              obtain ⟨a1, cap1, hv1, hc1, hcm1, ha1⟩ := header h3
              obtain ⟨g1, rfl⟩ := ha1 (by omega)
              obtain ⟨a2, cap2, hv2, hc2, hcm2, ha2, ha3⟩ := h4.form
              have d1 := World.ownsRow.cellAt HROW.out q (by omega)
              rw [Tv_get (by rw [HGS.out]; exact hlt), hv1] at d1
              have d2 := World.ownsRow.cellAt HU.out q (by omega)
              rw [Tv_get (by rw [← HNN.out]; exact hlt), hv2] at d2
              rw [hv1] at h3
              have d1S : Hid (∀ w', Below w3.heap.size w3 w' → w'.cell? ⟨gg, q, none⟩ = some (.slice (some ⟨g1, 0, none⟩) (m + 6) cap1)) := Lib.hid (fun w' hb => (hb.cell (p := ⟨gg, q, none⟩) (World.block_lt_of_cell? w3 _ d1)).trans d1)
              have d2S : Hid (∀ w', Below w3.heap.size w3 w' → w'.cell? ⟨gu, q, none⟩ = some (.slice a2 m cap2)) := Lib.hid (fun w' hb => (hb.cell (p := ⟨gu, q, none⟩) (World.block_lt_of_cell? w3 _ d2)).trans d2)
              have H3 := Lib.hid h3
              have HA3 := Lib.hid ha3
              clear h3 h4 hm hv1 hv2 ha1 ha2 ha3 d1 d2
              have d1 := d1S.out _ HB.out
              go_wp2_with fail
              clear d1
              go_loopw [10] (fun i w1 => ∃ (j : Nat), j ≤ m + 6 ∧ i = .int .i64 (j : Int) ∧ Hid (Below w3.heap.size w3 w1)) (fun i _ => m + 6 - (intOf i).toNat)
              case atStart => exact ⟨0, Nat.zero_le _, rfl, HB⟩
              case round =>
                clear HB
                obtain ⟨j, hj, rfl, HB⟩ := hrel
                have d1 := d1S.out _ HB.out
                by_cases hjn : j < m + 6
                · obtain ⟨x, hx⟩ : ∃ x, mkN ((q : Int) + 10) (j : Int) = x := ⟨_, rfl⟩
                  have HX := Lib.hid hx
                  have d3S0 : ∀ w', Below w3.heap.size w3 w' → w'.cell? ⟨g1, j * 3, none⟩ = some (.int .u8 x.k) := fun w' hb => by
                    have h := World.ownsRow.cellAt H3.out (j * 3 + 0) (by omega)
                    rw [MN_get q (m + 6) j (by omega) 0 (by decide), HX.out] at h
                    have h2 : w3.cell? ⟨g1, j * 3, none⟩ = some (.int .u8 x.k) := h
                    exact (hb.cell (p := ⟨g1, j * 3, none⟩) (World.block_lt_of_cell? w3 _ h2)).trans h2
                  have d3S1 : ∀ w', Below w3.heap.size w3 w' → w'.cell? ⟨g1, j * 3 + 1, none⟩ = some (.int .i64 x.s) := fun w' hb => by
                    have h := World.ownsRow.cellAt H3.out (j * 3 + 1) (by omega)
                    rw [MN_get q (m + 6) j (by omega) 1 (by decide), HX.out] at h
                    have h2 : w3.cell? ⟨g1, j * 3 + 1, none⟩ = some (.int .i64 x.s) := h
                    exact (hb.cell (p := ⟨g1, j * 3 + 1, none⟩) (World.block_lt_of_cell? w3 _ h2)).trans h2
                  have d3S2 : ∀ w', Below w3.heap.size w3 w' → w'.cell? ⟨g1, j * 3 + 2, none⟩ = some (.int .i64 x.c) := fun w' hb => by
                    have h := World.ownsRow.cellAt H3.out (j * 3 + 2) (by omega)
                    rw [MN_get q (m + 6) j (by omega) 2 (by decide), HX.out] at h
                    have h2 : w3.cell? ⟨g1, j * 3 + 2, none⟩ = some (.int .i64 x.c) := h
                    exact (hb.cell (p := ⟨g1, j * 3 + 2, none⟩) (World.block_lt_of_cell? w3 _ h2)).trans h2
                  have hwk : IntKind.i64.wrap ((q : Int) + 10) = (q : Int) + 10 := IntWalk.i64_in _ (by omega)
                  have e1S := d1S.out
                  have e2S := d2S.out
                  clear hx
                  by_cases hjm : j < m
                  · obtain ⟨b, off, rfl, d4⟩ := HA3.out (j * 3 + 0) _ (MN_get q m j hjm 0 (by decide))
                    have d4S0 : ∀ w', Below w3.heap.size w3 w' → w'.cell? ⟨b, off + j * 3, none⟩ = some (.int .u8 x.k) := fun w' hb => by
                      obtain ⟨b2, off2, hb2, h⟩ := HA3.out (j * 3 + 0) (.int .u8 x.k) ((MN_get q m j hjm 0 (by decide)).trans (by rw [HX.out]; rfl))
                      injection hb2 with hb2
                      injection hb2 with e1 e2
                      subst e1; subst e2
                      have h2 : w3.cell? ⟨b, off + j * 3, none⟩ = some (.int .u8 x.k) := by rw [show off + j * 3 = off + (j * 3 + 0) from by omega]; exact h
                      exact (hb.cell (p := ⟨b, off + j * 3, none⟩) (World.block_lt_of_cell? w3 _ h2)).trans h2
                    have d4S1 : ∀ w', Below w3.heap.size w3 w' → w'.cell? ⟨b, off + j * 3 + 1, none⟩ = some (.int .i64 x.s) := fun w' hb => by
                      obtain ⟨b2, off2, hb2, h⟩ := HA3.out (j * 3 + 1) (.int .i64 x.s) ((MN_get q m j hjm 1 (by decide)).trans (by rw [HX.out]; rfl))
                      injection hb2 with hb2
                      injection hb2 with e1 e2
                      subst e1; subst e2
                      have h2 : w3.cell? ⟨b, off + j * 3 + 1, none⟩ = some (.int .i64 x.s) := by rw [show off + j * 3 + 1 = off + (j * 3 + 1) from by omega]; exact h
                      exact (hb.cell (p := ⟨b, off + j * 3 + 1, none⟩) (World.block_lt_of_cell? w3 _ h2)).trans h2
                    have d4S2 : ∀ w', Below w3.heap.size w3 w' → w'.cell? ⟨b, off + j * 3 + 2, none⟩ = some (.int .i64 x.c) := fun w' hb => by
                      obtain ⟨b2, off2, hb2, h⟩ := HA3.out (j * 3 + 2) (.int .i64 x.c) ((MN_get q m j hjm 2 (by decide)).trans (by rw [HX.out]; rfl))
                      injection hb2 with hb2
                      injection hb2 with e1 e2
                      subst e1; subst e2
                      have h2 : w3.cell? ⟨b, off + j * 3 + 2, none⟩ = some (.int .i64 x.c) := by rw [show off + j * 3 + 2 = off + (j * 3 + 2) from by omega]; exact h
                      exact (hb.cell (p := ⟨b, off + j * 3 + 2, none⟩) (World.block_lt_of_cell? w3 _ h2)).trans h2
                    clear d4
                    go_wp2_with fail
                    clear d1
                    refine wp_region_tame (fun w' => Below w3.heap.size w3 w') 0 37 (by kernel_rfl) (by kernel_rfl) (fun _ _ d _ _ h => (by cases d <;> exact h)) (by have h := HB.out; exact ⟨h.os, h.tape, h.output, h.size, h.block⟩) (by decide) ?_
                    simp only [List.take_succ_cons, List.take_zero, List.drop_succ_cons, List.drop_zero]
                    refine wpPre_nil ?_
                    refine wpTame_run (v := ?_) (by decide) rfl (fun w' hS => ?_) ?_
                    rotate_left
                    focus (have q0 := e1S w' hS; have q1 := e2S w' hS; have q2 := d3S0 w' hS; have q3 := d3S1 w' hS; have q4 := d3S2 w' hS; clear hS; go_simp; try rfl; done)
                    simp only [Act.put, List.setIfInBounds_toArray, List.set_cons_zero, List.set_cons_succ]
                    refine wpTame_run (v := ?_) (by decide) rfl (fun w' hS => ?_) ?_
                    rotate_left
                    focus (have q0 := e1S w' hS; have q1 := e2S w' hS; have q2 := d3S0 w' hS; have q3 := d3S1 w' hS; have q4 := d3S2 w' hS; clear hS; go_simp; try rfl; done)
                    simp only [Act.put, List.setIfInBounds_toArray, List.set_cons_zero, List.set_cons_succ]
                    refine wpTame_run (v := ?_) (by decide) rfl (fun w' hS => ?_) ?_
                    rotate_left
                    focus (have q0 := e1S w' hS; have q1 := e2S w' hS; have q2 := d3S0 w' hS; have q3 := d3S1 w' hS; have q4 := d3S2 w' hS; clear hS; go_simp; try rfl; done)
                    simp only [Act.put, List.setIfInBounds_toArray, List.set_cons_zero, List.set_cons_succ]
                    refine wpTame_run (v := ?_) (by decide) rfl (fun w' hS => ?_) ?_
                    rotate_left
                    focus (have q0 := e1S w' hS; have q1 := e2S w' hS; have q2 := d3S0 w' hS; have q3 := d3S1 w' hS; have q4 := d3S2 w' hS; clear hS; go_simp; try rfl; done)
                    simp only [Act.put, List.setIfInBounds_toArray, List.set_cons_zero, List.set_cons_succ]
                    refine wpTame_run (v := ?_) (by decide) rfl (fun w' hS => ?_) ?_
                    rotate_left
                    focus (have q0 := e1S w' hS; have q1 := e2S w' hS; have q2 := d3S0 w' hS; have q3 := d3S1 w' hS; have q4 := d3S2 w' hS; clear hS; go_simp; try rfl; done)
                    simp only [Act.put, List.setIfInBounds_toArray, List.set_cons_zero, List.set_cons_succ]
                    refine wpTame_run (v := ?_) (by decide) rfl (fun w' hS => ?_) ?_
                    rotate_left
                    focus (have q0 := e1S w' hS; have q1 := e2S w' hS; have q2 := d3S0 w' hS; have q3 := d3S1 w' hS; have q4 := d3S2 w' hS; clear hS; go_simp; try rfl; done)
                    simp only [Act.put, List.setIfInBounds_toArray, List.set_cons_zero, List.set_cons_succ]
                    refine wpTame_run (v := ?_) (by decide) rfl (fun w' hS => ?_) ?_
                    rotate_left
                    focus (have q0 := e1S w' hS; have q1 := e2S w' hS; have q2 := d3S0 w' hS; have q3 := d3S1 w' hS; have q4 := d3S2 w' hS; clear hS; go_simp; try rfl; done)
                    simp only [Act.put, List.setIfInBounds_toArray, List.set_cons_zero, List.set_cons_succ]
                    refine wpTame_run (v := ?_) (by decide) rfl (fun w' hS => ?_) ?_
                    rotate_left
                    focus (have q0 := e1S w' hS; have q1 := e2S w' hS; have q2 := d3S0 w' hS; have q3 := d3S1 w' hS; have q4 := d3S2 w' hS; clear hS; go_simp; try rfl; done)
                    simp only [Act.put, List.setIfInBounds_toArray, List.set_cons_zero, List.set_cons_succ]
                    refine wpTame_run (v := ?_) (by decide) rfl (fun w' hS => ?_) ?_
                    rotate_left
                    focus (have q0 := e1S w' hS; have q1 := e2S w' hS; have q2 := d3S0 w' hS; have q3 := d3S1 w' hS; have q4 := d3S2 w' hS; clear hS; go_simp; try rfl; done)
                    simp only [Act.put, List.setIfInBounds_toArray, List.set_cons_zero, List.set_cons_succ]
                    refine wpTame_run (v := ?_) (by decide) rfl (fun w' hS => ?_) ?_
                    rotate_left
                    focus (have q0 := e1S w' hS; have q1 := e2S w' hS; have q2 := d3S0 w' hS; have q3 := d3S1 w' hS; have q4 := d3S2 w' hS; clear hS; go_simp; try rfl; done)
                    simp only [Act.put, List.setIfInBounds_toArray, List.set_cons_zero, List.set_cons_succ]
                    refine wpTame_call (v := .agg #[.int .u8 x.k, .int .i64 x.s, .int .i64 x.c]) (by decide) rfl (fun w' h => ?_) (fun w' h => (markN_any ((q : Int) + 10) j w' (by omega) (by omega) (by omega) (by omega)).mono fun e w'' ⟨he, hb⟩ => ⟨by rw [he, HX.out], h.trans (hb.mono h.size)⟩) ?_
                    · clear h; go_simp; try rfl
                    simp only [Act.put, List.setIfInBounds_toArray, List.set_cons_zero, List.set_cons_succ]
                    refine wpTame_run (v := ?_) (by decide) rfl (fun w' hS => ?_) ?_
                    rotate_left
                    focus (have q0 := e1S w' hS; have q1 := e2S w' hS; have q2 := d3S0 w' hS; have q3 := d3S1 w' hS; have q4 := d3S2 w' hS; have q5 := d4S0 w' hS; have q6 := d4S1 w' hS; have q7 := d4S2 w' hS; clear hS; go_simp; try rfl; done)
                    simp only [Act.put, List.setIfInBounds_toArray, List.set_cons_zero, List.set_cons_succ]
                    refine wpTame_run (v := ?_) (by decide) rfl (fun w' hS => ?_) ?_
                    rotate_left
                    focus (have q0 := e1S w' hS; have q1 := e2S w' hS; have q2 := d3S0 w' hS; have q3 := d3S1 w' hS; have q4 := d3S2 w' hS; have q5 := d4S0 w' hS; have q6 := d4S1 w' hS; have q7 := d4S2 w' hS; clear hS; go_simp; try rfl; done)
                    simp only [Act.put, List.setIfInBounds_toArray, List.set_cons_zero, List.set_cons_succ]
                    refine wpTame_run (v := ?_) (by decide) rfl (fun w' hS => ?_) ?_
                    rotate_left
                    focus (have q0 := e1S w' hS; have q1 := e2S w' hS; have q2 := d3S0 w' hS; have q3 := d3S1 w' hS; have q4 := d3S2 w' hS; have q5 := d4S0 w' hS; have q6 := d4S1 w' hS; have q7 := d4S2 w' hS; clear hS; go_simp; try rfl; done)
                    simp only [Act.put, List.setIfInBounds_toArray, List.set_cons_zero, List.set_cons_succ]
                    refine wpTame_run (v := ?_) (by decide) rfl (fun w' hS => ?_) ?_
                    rotate_left
                    focus (have q0 := e1S w' hS; have q1 := e2S w' hS; have q2 := d3S0 w' hS; have q3 := d3S1 w' hS; have q4 := d3S2 w' hS; have q5 := d4S0 w' hS; have q6 := d4S1 w' hS; have q7 := d4S2 w' hS; clear hS; go_simp; try rfl; done)
                    simp only [Act.put, List.setIfInBounds_toArray, List.set_cons_zero, List.set_cons_succ]
                    refine wpTame_run (v := ?_) (by decide) rfl (fun w' hS => ?_) ?_
                    rotate_left
                    focus (have q0 := e1S w' hS; have q1 := e2S w' hS; have q2 := d3S0 w' hS; have q3 := d3S1 w' hS; have q4 := d3S2 w' hS; have q5 := d4S0 w' hS; have q6 := d4S1 w' hS; have q7 := d4S2 w' hS; clear hS; go_simp; try rfl; done)
                    simp only [Act.put, List.setIfInBounds_toArray, List.set_cons_zero, List.set_cons_succ]
                    refine wpTame_run (v := ?_) (by decide) rfl (fun w' hS => ?_) ?_
                    rotate_left
                    focus (have q0 := e1S w' hS; have q1 := e2S w' hS; have q2 := d3S0 w' hS; have q3 := d3S1 w' hS; have q4 := d3S2 w' hS; have q5 := d4S0 w' hS; have q6 := d4S1 w' hS; have q7 := d4S2 w' hS; clear hS; go_simp; try rfl; done)
                    simp only [Act.put, List.setIfInBounds_toArray, List.set_cons_zero, List.set_cons_succ]
                    refine wpTame_run (v := ?_) (by decide) rfl (fun w' hS => ?_) ?_
                    rotate_left
                    focus (have q0 := e1S w' hS; have q1 := e2S w' hS; have q2 := d3S0 w' hS; have q3 := d3S1 w' hS; have q4 := d3S2 w' hS; have q5 := d4S0 w' hS; have q6 := d4S1 w' hS; have q7 := d4S2 w' hS; clear hS; go_simp; try rfl; done)
                    simp only [Act.put, List.setIfInBounds_toArray, List.set_cons_zero, List.set_cons_succ]
                    refine wpTame_run (v := ?_) (by decide) rfl (fun w' hS => ?_) ?_
                    rotate_left
                    focus (have q0 := e1S w' hS; have q1 := e2S w' hS; have q2 := d3S0 w' hS; have q3 := d3S1 w' hS; have q4 := d3S2 w' hS; have q5 := d4S0 w' hS; have q6 := d4S1 w' hS; have q7 := d4S2 w' hS; clear hS; go_simp; try rfl; done)
                    simp only [Act.put, List.setIfInBounds_toArray, List.set_cons_zero, List.set_cons_succ]
                    refine wpTame_run (v := ?_) (by decide) rfl (fun w' hS => ?_) ?_
                    rotate_left
                    focus (have q0 := e1S w' hS; have q1 := e2S w' hS; have q2 := d3S0 w' hS; have q3 := d3S1 w' hS; have q4 := d3S2 w' hS; have q5 := d4S0 w' hS; have q6 := d4S1 w' hS; have q7 := d4S2 w' hS; clear hS; go_simp; try rfl; done)
                    simp only [Act.put, List.setIfInBounds_toArray, List.set_cons_zero, List.set_cons_succ]
                    refine wpTame_run (v := ?_) (by decide) rfl (fun w' hS => ?_) ?_
                    rotate_left
                    focus (have q0 := e1S w' hS; have q1 := e2S w' hS; have q2 := d3S0 w' hS; have q3 := d3S1 w' hS; have q4 := d3S2 w' hS; have q5 := d4S0 w' hS; have q6 := d4S1 w' hS; have q7 := d4S2 w' hS; clear hS; go_simp; try rfl; done)
                    simp only [Act.put, List.setIfInBounds_toArray, List.set_cons_zero, List.set_cons_succ]
                    refine wpTame_run (v := ?_) (by decide) rfl (fun w' hS => ?_) ?_
                    rotate_left
                    focus (have q0 := e1S w' hS; have q1 := e2S w' hS; have q2 := d3S0 w' hS; have q3 := d3S1 w' hS; have q4 := d3S2 w' hS; have q5 := d4S0 w' hS; have q6 := d4S1 w' hS; have q7 := d4S2 w' hS; clear hS; go_simp; try rfl; done)
                    simp only [Act.put, List.setIfInBounds_toArray, List.set_cons_zero, List.set_cons_succ]
                    refine wpTame_run (v := ?_) (by decide) rfl (fun w' hS => ?_) ?_
                    rotate_left
                    focus (have q0 := e1S w' hS; have q1 := e2S w' hS; have q2 := d3S0 w' hS; have q3 := d3S1 w' hS; have q4 := d3S2 w' hS; have q5 := d4S0 w' hS; have q6 := d4S1 w' hS; have q7 := d4S2 w' hS; clear hS; go_simp; try rfl; done)
                    simp only [Act.put, List.setIfInBounds_toArray, List.set_cons_zero, List.set_cons_succ]
                    refine wpTame_run (v := ?_) (by decide) rfl (fun w' hS => ?_) ?_
                    rotate_left
                    focus (have q0 := e1S w' hS; have q1 := e2S w' hS; have q2 := d3S0 w' hS; have q3 := d3S1 w' hS; have q4 := d3S2 w' hS; have q5 := d4S0 w' hS; have q6 := d4S1 w' hS; have q7 := d4S2 w' hS; clear hS; go_simp; try rfl; done)
                    simp only [Act.put, List.setIfInBounds_toArray, List.set_cons_zero, List.set_cons_succ]
                    refine wpTame_run (v := ?_) (by decide) rfl (fun w' hS => ?_) ?_
                    rotate_left
                    focus (have q0 := e1S w' hS; have q1 := e2S w' hS; have q2 := d3S0 w' hS; have q3 := d3S1 w' hS; have q4 := d3S2 w' hS; have q5 := d4S0 w' hS; have q6 := d4S1 w' hS; have q7 := d4S2 w' hS; clear hS; go_simp; try rfl; done)
                    simp only [Act.put, List.setIfInBounds_toArray, List.set_cons_zero, List.set_cons_succ]
                    refine wpTame_run (v := ?_) (by decide) rfl (fun w' hS => ?_) ?_
                    rotate_left
                    focus (have q0 := e1S w' hS; have q1 := e2S w' hS; have q2 := d3S0 w' hS; have q3 := d3S1 w' hS; have q4 := d3S2 w' hS; have q5 := d4S0 w' hS; have q6 := d4S1 w' hS; have q7 := d4S2 w' hS; clear hS; go_simp; try rfl; done)
                    simp only [Act.put, List.setIfInBounds_toArray, List.set_cons_zero, List.set_cons_succ]
                    refine wpTame_run (v := ?_) (by decide) rfl (fun w' hS => ?_) ?_
                    rotate_left
                    focus (have q0 := e1S w' hS; have q1 := e2S w' hS; have q2 := d3S0 w' hS; have q3 := d3S1 w' hS; have q4 := d3S2 w' hS; have q5 := d4S0 w' hS; have q6 := d4S1 w' hS; have q7 := d4S2 w' hS; clear hS; go_simp; try rfl; done)
                    simp only [Act.put, List.setIfInBounds_toArray, List.set_cons_zero, List.set_cons_succ]
                    refine wpTame_run (v := ?_) (by decide) rfl (fun w' hS => ?_) ?_
                    rotate_left
                    focus (have q0 := e1S w' hS; have q1 := e2S w' hS; have q2 := d3S0 w' hS; have q3 := d3S1 w' hS; have q4 := d3S2 w' hS; have q5 := d4S0 w' hS; have q6 := d4S1 w' hS; have q7 := d4S2 w' hS; clear hS; go_simp; try rfl; done)
                    simp only [Act.put, List.setIfInBounds_toArray, List.set_cons_zero, List.set_cons_succ]
                    refine wpTame_run (v := ?_) (by decide) rfl (fun w' hS => ?_) ?_
                    rotate_left
                    focus (have q0 := e1S w' hS; have q1 := e2S w' hS; have q2 := d3S0 w' hS; have q3 := d3S1 w' hS; have q4 := d3S2 w' hS; have q5 := d4S0 w' hS; have q6 := d4S1 w' hS; have q7 := d4S2 w' hS; clear hS; go_simp; try rfl; done)
                    simp only [Act.put, List.setIfInBounds_toArray, List.set_cons_zero, List.set_cons_succ]
                    refine wpTame_run (v := ?_) (by decide) rfl (fun w' hS => ?_) ?_
                    rotate_left
                    focus (have q0 := e1S w' hS; have q1 := e2S w' hS; have q2 := d3S0 w' hS; have q3 := d3S1 w' hS; have q4 := d3S2 w' hS; have q5 := d4S0 w' hS; have q6 := d4S1 w' hS; have q7 := d4S2 w' hS; clear hS; go_simp; try rfl; done)
                    simp only [Act.put, List.setIfInBounds_toArray, List.set_cons_zero, List.set_cons_succ]
                    refine wpTame_run (v := ?_) (by decide) rfl (fun w' hS => ?_) ?_
                    rotate_left
                    focus (have q0 := e1S w' hS; have q1 := e2S w' hS; have q2 := d3S0 w' hS; have q3 := d3S1 w' hS; have q4 := d3S2 w' hS; have q5 := d4S0 w' hS; have q6 := d4S1 w' hS; have q7 := d4S2 w' hS; clear hS; go_simp; try rfl; done)
                    simp only [Act.put, List.setIfInBounds_toArray, List.set_cons_zero, List.set_cons_succ]
                    refine wpTame_run (v := ?_) (by decide) rfl (fun w' hS => ?_) ?_
                    rotate_left
                    focus (have q0 := e1S w' hS; have q1 := e2S w' hS; have q2 := d3S0 w' hS; have q3 := d3S1 w' hS; have q4 := d3S2 w' hS; have q5 := d4S0 w' hS; have q6 := d4S1 w' hS; have q7 := d4S2 w' hS; clear hS; go_simp; try rfl; done)
                    simp only [Act.put, List.setIfInBounds_toArray, List.set_cons_zero, List.set_cons_succ]
                    refine wpTame_run (v := ?_) (by decide) rfl (fun w' hS => ?_) ?_
                    rotate_left
                    focus (have q0 := e1S w' hS; have q1 := e2S w' hS; have q2 := d3S0 w' hS; have q3 := d3S1 w' hS; have q4 := d3S2 w' hS; have q5 := d4S0 w' hS; have q6 := d4S1 w' hS; have q7 := d4S2 w' hS; clear hS; go_simp; try rfl; done)
                    simp only [Act.put, List.setIfInBounds_toArray, List.set_cons_zero, List.set_cons_succ]
                    refine wpTame_run (v := ?_) (by decide) rfl (fun w' hS => ?_) ?_
                    rotate_left
                    focus (have q0 := e1S w' hS; have q1 := e2S w' hS; have q2 := d3S0 w' hS; have q3 := d3S1 w' hS; have q4 := d3S2 w' hS; have q5 := d4S0 w' hS; have q6 := d4S1 w' hS; have q7 := d4S2 w' hS; clear hS; go_simp; try rfl; done)
                    simp only [Act.put, List.setIfInBounds_toArray, List.set_cons_zero, List.set_cons_succ]
                    refine wpTame_run (v := ?_) (by decide) rfl (fun w' hS => ?_) ?_
                    rotate_left
                    focus (have q0 := e1S w' hS; have q1 := e2S w' hS; have q2 := d3S0 w' hS; have q3 := d3S1 w' hS; have q4 := d3S2 w' hS; have q5 := d4S0 w' hS; have q6 := d4S1 w' hS; have q7 := d4S2 w' hS; clear hS; go_simp; try rfl; done)
                    simp only [Act.put, List.setIfInBounds_toArray, List.set_cons_zero, List.set_cons_succ]
                    refine wpTame_run (v := ?_) (by decide) rfl (fun w' hS => ?_) ?_
                    rotate_left
                    focus (have q0 := e1S w' hS; have q1 := e2S w' hS; have q2 := d3S0 w' hS; have q3 := d3S1 w' hS; have q4 := d3S2 w' hS; have q5 := d4S0 w' hS; have q6 := d4S1 w' hS; have q7 := d4S2 w' hS; clear hS; go_simp; try rfl; done)
                    simp only [Act.put, List.setIfInBounds_toArray, List.set_cons_zero, List.set_cons_succ]
                    refine wpTame_run (v := ?_) (by decide) rfl (fun w' hS => ?_) ?_
                    rotate_left
                    focus (have q0 := e1S w' hS; have q1 := e2S w' hS; have q2 := d3S0 w' hS; have q3 := d3S1 w' hS; have q4 := d3S2 w' hS; have q5 := d4S0 w' hS; have q6 := d4S1 w' hS; have q7 := d4S2 w' hS; clear hS; go_simp; try rfl; done)
                    simp only [Act.put, List.setIfInBounds_toArray, List.set_cons_zero, List.set_cons_succ]
                    refine wpTame_nil ?_
                    intro wm hw'
                    have HB2 := Lib.hid hw'
                    clear hw' e1S e2S d3S0 d3S1 d3S2 d4S0 d4S1 d4S2
                    go_wp2_with fail
                    go_roundw
                    case rel => exact ⟨j + 1, by omega, by go_num, HB2⟩
                    case measure => simp [intOf]; omega
                  · have hd : decide ((j : Int) < (m : Int)) = false := by simpa using hjm
                    have hd2 : decide (j < m) = false := by simpa using hjm
                    go_wp2_with fail
                    clear d1
                    refine wp_region_tame (fun w' => Below w3.heap.size w3 w') 0 37 (by kernel_rfl) (by kernel_rfl) (fun _ _ d _ _ h => (by cases d <;> exact h)) (by have h := HB.out; exact ⟨h.os, h.tape, h.output, h.size, h.block⟩) (by decide) ?_
                    simp only [List.take_succ_cons, List.take_zero, List.drop_succ_cons, List.drop_zero]
                    refine wpPre_nil ?_
                    refine wpTame_run (v := ?_) (by decide) rfl (fun w' hS => ?_) ?_
                    rotate_left
                    focus (have q0 := e1S w' hS; have q1 := e2S w' hS; have q2 := d3S0 w' hS; have q3 := d3S1 w' hS; have q4 := d3S2 w' hS; clear hS; go_simp; try rfl; done)
                    simp only [Act.put, List.setIfInBounds_toArray, List.set_cons_zero, List.set_cons_succ]
                    refine wpTame_run (v := ?_) (by decide) rfl (fun w' hS => ?_) ?_
                    rotate_left
                    focus (have q0 := e1S w' hS; have q1 := e2S w' hS; have q2 := d3S0 w' hS; have q3 := d3S1 w' hS; have q4 := d3S2 w' hS; clear hS; go_simp; try rfl; done)
                    simp only [Act.put, List.setIfInBounds_toArray, List.set_cons_zero, List.set_cons_succ]
                    refine wpTame_run (v := ?_) (by decide) rfl (fun w' hS => ?_) ?_
                    rotate_left
                    focus (have q0 := e1S w' hS; have q1 := e2S w' hS; have q2 := d3S0 w' hS; have q3 := d3S1 w' hS; have q4 := d3S2 w' hS; clear hS; go_simp; try rfl; done)
                    simp only [Act.put, List.setIfInBounds_toArray, List.set_cons_zero, List.set_cons_succ]
                    refine wpTame_run (v := ?_) (by decide) rfl (fun w' hS => ?_) ?_
                    rotate_left
                    focus (have q0 := e1S w' hS; have q1 := e2S w' hS; have q2 := d3S0 w' hS; have q3 := d3S1 w' hS; have q4 := d3S2 w' hS; clear hS; go_simp; try rfl; done)
                    simp only [Act.put, List.setIfInBounds_toArray, List.set_cons_zero, List.set_cons_succ]
                    refine wpTame_run (v := ?_) (by decide) rfl (fun w' hS => ?_) ?_
                    rotate_left
                    focus (have q0 := e1S w' hS; have q1 := e2S w' hS; have q2 := d3S0 w' hS; have q3 := d3S1 w' hS; have q4 := d3S2 w' hS; clear hS; go_simp; try rfl; done)
                    simp only [Act.put, List.setIfInBounds_toArray, List.set_cons_zero, List.set_cons_succ]
                    refine wpTame_run (v := ?_) (by decide) rfl (fun w' hS => ?_) ?_
                    rotate_left
                    focus (have q0 := e1S w' hS; have q1 := e2S w' hS; have q2 := d3S0 w' hS; have q3 := d3S1 w' hS; have q4 := d3S2 w' hS; clear hS; go_simp; try rfl; done)
                    simp only [Act.put, List.setIfInBounds_toArray, List.set_cons_zero, List.set_cons_succ]
                    refine wpTame_run (v := ?_) (by decide) rfl (fun w' hS => ?_) ?_
                    rotate_left
                    focus (have q0 := e1S w' hS; have q1 := e2S w' hS; have q2 := d3S0 w' hS; have q3 := d3S1 w' hS; have q4 := d3S2 w' hS; clear hS; go_simp; try rfl; done)
                    simp only [Act.put, List.setIfInBounds_toArray, List.set_cons_zero, List.set_cons_succ]
                    refine wpTame_run (v := ?_) (by decide) rfl (fun w' hS => ?_) ?_
                    rotate_left
                    focus (have q0 := e1S w' hS; have q1 := e2S w' hS; have q2 := d3S0 w' hS; have q3 := d3S1 w' hS; have q4 := d3S2 w' hS; clear hS; go_simp; try rfl; done)
                    simp only [Act.put, List.setIfInBounds_toArray, List.set_cons_zero, List.set_cons_succ]
                    refine wpTame_run (v := ?_) (by decide) rfl (fun w' hS => ?_) ?_
                    rotate_left
                    focus (have q0 := e1S w' hS; have q1 := e2S w' hS; have q2 := d3S0 w' hS; have q3 := d3S1 w' hS; have q4 := d3S2 w' hS; clear hS; go_simp; try rfl; done)
                    simp only [Act.put, List.setIfInBounds_toArray, List.set_cons_zero, List.set_cons_succ]
                    refine wpTame_run (v := ?_) (by decide) rfl (fun w' hS => ?_) ?_
                    rotate_left
                    focus (have q0 := e1S w' hS; have q1 := e2S w' hS; have q2 := d3S0 w' hS; have q3 := d3S1 w' hS; have q4 := d3S2 w' hS; clear hS; go_simp; try rfl; done)
                    simp only [Act.put, List.setIfInBounds_toArray, List.set_cons_zero, List.set_cons_succ]
                    refine wpTame_call (v := .agg #[.int .u8 x.k, .int .i64 x.s, .int .i64 x.c]) (by decide) rfl (fun w' h => ?_) (fun w' h => (markN_any ((q : Int) + 10) j w' (by omega) (by omega) (by omega) (by omega)).mono fun e w'' ⟨he, hb⟩ => ⟨by rw [he, HX.out], h.trans (hb.mono h.size)⟩) ?_
                    · clear h; go_simp; try rfl
                    simp only [Act.put, List.setIfInBounds_toArray, List.set_cons_zero, List.set_cons_succ]
                    refine wpTame_run (v := ?_) (by decide) rfl (fun w' hS => ?_) ?_
                    rotate_left
                    focus (have q0 := e1S w' hS; have q1 := e2S w' hS; have q2 := d3S0 w' hS; have q3 := d3S1 w' hS; have q4 := d3S2 w' hS; clear hS; go_simp; try rfl; done)
                    simp only [Act.put, List.setIfInBounds_toArray, List.set_cons_zero, List.set_cons_succ]
                    refine wpTame_run (v := ?_) (by decide) rfl (fun w' hS => ?_) ?_
                    rotate_left
                    focus (have q0 := e1S w' hS; have q1 := e2S w' hS; have q2 := d3S0 w' hS; have q3 := d3S1 w' hS; have q4 := d3S2 w' hS; clear hS; go_simp; try rfl; done)
                    simp only [Act.put, List.setIfInBounds_toArray, List.set_cons_zero, List.set_cons_succ]
                    refine wpTame_run (v := ?_) (by decide) rfl (fun w' hS => ?_) ?_
                    rotate_left
                    focus (have q0 := e1S w' hS; have q1 := e2S w' hS; have q2 := d3S0 w' hS; have q3 := d3S1 w' hS; have q4 := d3S2 w' hS; clear hS; go_simp; try rfl; done)
                    simp only [Act.put, List.setIfInBounds_toArray, List.set_cons_zero, List.set_cons_succ]
                    refine wpTame_run (v := ?_) (by decide) rfl (fun w' hS => ?_) ?_
                    rotate_left
                    focus (have q0 := e1S w' hS; have q1 := e2S w' hS; have q2 := d3S0 w' hS; have q3 := d3S1 w' hS; have q4 := d3S2 w' hS; clear hS; go_simp; try rfl; done)
                    simp only [Act.put, List.setIfInBounds_toArray, List.set_cons_zero, List.set_cons_succ]
                    refine wpTame_run (v := ?_) (by decide) rfl (fun w' hS => ?_) ?_
                    rotate_left
                    focus (have q0 := e1S w' hS; have q1 := e2S w' hS; have q2 := d3S0 w' hS; have q3 := d3S1 w' hS; have q4 := d3S2 w' hS; clear hS; go_simp; try rfl; done)
                    simp only [Act.put, List.setIfInBounds_toArray, List.set_cons_zero, List.set_cons_succ]
                    refine wpTame_run (v := ?_) (by decide) rfl (fun w' hS => ?_) ?_
                    rotate_left
                    focus (have q0 := e1S w' hS; have q1 := e2S w' hS; have q2 := d3S0 w' hS; have q3 := d3S1 w' hS; have q4 := d3S2 w' hS; clear hS; go_simp; try rfl; done)
                    simp only [Act.put, List.setIfInBounds_toArray, List.set_cons_zero, List.set_cons_succ]
                    refine wpTame_run (v := ?_) (by decide) rfl (fun w' hS => ?_) ?_
                    rotate_left
                    focus (have q0 := e1S w' hS; have q1 := e2S w' hS; have q2 := d3S0 w' hS; have q3 := d3S1 w' hS; have q4 := d3S2 w' hS; clear hS; go_simp; try rfl; done)
                    simp only [Act.put, List.setIfInBounds_toArray, List.set_cons_zero, List.set_cons_succ]
                    refine wpTame_run (v := ?_) (by decide) rfl (fun w' hS => ?_) ?_
                    rotate_left
                    focus (have q0 := e1S w' hS; have q1 := e2S w' hS; have q2 := d3S0 w' hS; have q3 := d3S1 w' hS; have q4 := d3S2 w' hS; clear hS; go_simp; try rfl; done)
                    simp only [Act.put, List.setIfInBounds_toArray, List.set_cons_zero, List.set_cons_succ]
                    refine wpTame_run (v := ?_) (by decide) rfl (fun w' hS => ?_) ?_
                    rotate_left
                    focus (have q0 := e1S w' hS; have q1 := e2S w' hS; have q2 := d3S0 w' hS; have q3 := d3S1 w' hS; have q4 := d3S2 w' hS; clear hS; go_simp; try rfl; done)
                    simp only [Act.put, List.setIfInBounds_toArray, List.set_cons_zero, List.set_cons_succ]
                    refine wpTame_run (v := ?_) (by decide) rfl (fun w' hS => ?_) ?_
                    rotate_left
                    focus (have q0 := e1S w' hS; have q1 := e2S w' hS; have q2 := d3S0 w' hS; have q3 := d3S1 w' hS; have q4 := d3S2 w' hS; clear hS; go_simp; try rfl; done)
                    simp only [Act.put, List.setIfInBounds_toArray, List.set_cons_zero, List.set_cons_succ]
                    refine wpTame_off (by decide) rfl ?_
                    simp only [Act.put, List.setIfInBounds_toArray, List.set_cons_zero, List.set_cons_succ]
                    refine wpTame_off (by decide) rfl ?_
                    simp only [Act.put, List.setIfInBounds_toArray, List.set_cons_zero, List.set_cons_succ]
                    refine wpTame_off (by decide) rfl ?_
                    simp only [Act.put, List.setIfInBounds_toArray, List.set_cons_zero, List.set_cons_succ]
                    refine wpTame_off (by decide) rfl ?_
                    simp only [Act.put, List.setIfInBounds_toArray, List.set_cons_zero, List.set_cons_succ]
                    refine wpTame_off (by decide) rfl ?_
                    simp only [Act.put, List.setIfInBounds_toArray, List.set_cons_zero, List.set_cons_succ]
                    refine wpTame_off (by decide) rfl ?_
                    simp only [Act.put, List.setIfInBounds_toArray, List.set_cons_zero, List.set_cons_succ]
                    refine wpTame_off (by decide) rfl ?_
                    simp only [Act.put, List.setIfInBounds_toArray, List.set_cons_zero, List.set_cons_succ]
                    refine wpTame_off (by decide) rfl ?_
                    simp only [Act.put, List.setIfInBounds_toArray, List.set_cons_zero, List.set_cons_succ]
                    refine wpTame_off (by decide) rfl ?_
                    simp only [Act.put, List.setIfInBounds_toArray, List.set_cons_zero, List.set_cons_succ]
                    refine wpTame_off (by decide) rfl ?_
                    simp only [Act.put, List.setIfInBounds_toArray, List.set_cons_zero, List.set_cons_succ]
                    refine wpTame_off (by decide) rfl ?_
                    simp only [Act.put, List.setIfInBounds_toArray, List.set_cons_zero, List.set_cons_succ]
                    refine wpTame_off (by decide) rfl ?_
                    simp only [Act.put, List.setIfInBounds_toArray, List.set_cons_zero, List.set_cons_succ]
                    refine wpTame_off (by decide) rfl ?_
                    simp only [Act.put, List.setIfInBounds_toArray, List.set_cons_zero, List.set_cons_succ]
                    refine wpTame_off (by decide) rfl ?_
                    simp only [Act.put, List.setIfInBounds_toArray, List.set_cons_zero, List.set_cons_succ]
                    refine wpTame_off (by decide) rfl ?_
                    simp only [Act.put, List.setIfInBounds_toArray, List.set_cons_zero, List.set_cons_succ]
                    refine wpTame_run (v := ?_) (by decide) rfl (fun w' hS => ?_) ?_
                    rotate_left
                    focus (have q0 := e1S w' hS; clear hS; go_simp; try rfl; done)
                    simp only [Act.put, List.setIfInBounds_toArray, List.set_cons_zero, List.set_cons_succ]
                    refine wpTame_nil ?_
                    intro wm hw'
                    have HB2 := Lib.hid hw'
                    clear hw' e1S e2S d3S0 d3S1 d3S2
                    go_wp2_with fail
                    go_roundw
                    case rel => exact ⟨j + 1, by omega, by go_num, HB2⟩
                    case measure => simp [intOf]; omega
                · go_wp2_with fail
                  go_roundw
                  case rel => exact ⟨q + 1, by omega, by go_num, HB⟩
                  case measure => simp [intOf]; omega
            · go_wp2_with fail
              go_ret
              exact ⟨rfl, HEND.out _ HB.out⟩
end Go.Proofs.Ytkidijjhedjifaa
/- Sums, checks and comparisons of runs: the program's and the document's. Conditions: the runs' counts are int values. -/
namespace Go.Proofs.Ytkidijjhedjifaa
open Go.RowKit
set_option maxRecDepth 100000
set_option linter.unusedVariables false
set_option linter.unusedSimpArgs false
theorem runCells {w w' : World} {ao : Option Addr} {n cap : Nat} {rs : List Rn} (h : KN.R w (.slice ao n cap) rs) (hb : Below w.heap.size w w') {k : Nat} {a b c : Int} (hx : rs[k]? = some ⟨a, b, c⟩) :
    ∃ g off, ao = some ⟨g, off, none⟩ ∧ g < w.heap.size ∧ w'.cell? ⟨g, off + k * 3, none⟩ = some (.int .u8 a) ∧ w'.cell? ⟨g, off + k * 3 + 1, none⟩ = some (.int .i64 b) ∧ w'.cell? ⟨g, off + k * 3 + 2, none⟩ = some (.int .i64 c) := by
  obtain ⟨g, off, hao, hlt, hc⟩ := h.get hx
  refine ⟨g, off, hao, hlt, ?_, ?_, ?_⟩
  · exact (hb.cell (p := ⟨g, off + k * 3, none⟩) hlt).trans (hc 0 _ rfl)
  · exact (hb.cell (p := ⟨g, off + k * 3 + 1, none⟩) hlt).trans (hc 1 _ rfl)
  · exact (hb.cell (p := ⟨g, off + k * 3 + 2, none⟩) hlt).trans (hc 2 _ rfl)
/-- the counts are int values -/
def okC (rs : List Rn) : Prop := ∀ r ∈ rs, -9223372036854775808 ≤ r.c ∧ r.c ≤ 9223372036854775807
/-! ### sums -/
def sat (a b : Int) : Int := if a > 9223372036854775807 - b then 9223372036854775807 else a + b
theorem sat_rng {a b : Int} (h1 : 0 ≤ a) (h3 : 0 ≤ b) (h4 : b ≤ 9223372036854775807) : 0 ≤ sat a b ∧ sat a b ≤ 9223372036854775807 := by
  unfold sat
  split <;> omega
theorem plus_any (a b : Int) (w : World) (h1 : 0 ≤ a) (h2 : a ≤ 9223372036854775807) (h3 : 0 ≤ b) (h4 : b ≤ 9223372036854775807) : Calls Try.prog 44 #[.int .i64 a, .int .i64 b] w fun e w' => e = .returned (.int .i64 (sat a b)) ∧ w = w' := by
  unfold sat
  by_cases h : a > 9223372036854775807 - b
  · rw [if_pos h]
    go_enter Try.func44, Try.ntmps44
    go_wp2
    go_ret
    exact ⟨rfl, rfl⟩
  · rw [if_neg h]
    go_enter Try.func44, Try.ntmps44
    go_wp2
    go_ret
    exact ⟨rfl, rfl⟩
def totS (n : Int) (r : Rn) : Int := if r.c < 1 then n else sat n r.c
def totL (l : List Rn) : Int := l.foldl totS 0
theorem fold_step {α β : Type} (f : β → α → β) (z : β) {l : List α} {k : Nat} {x : α} (h : l[k]? = some x) : (l.take (k + 1)).foldl f z = f ((l.take k).foldl f z) x := by
  rw [List.take_add_one, h, List.foldl_append]
  rfl
theorem totS_rng {n : Int} {r : Rn} (h1 : 0 ≤ n) (h2 : n ≤ 9223372036854775807) (h3 : r.c ≤ 9223372036854775807) : 0 ≤ totS n r ∧ totS n r ≤ 9223372036854775807 := by
  unfold totS
  split
  · exact ⟨h1, h2⟩
  · exact sat_rng h1 (by omega) h3
set_option maxHeartbeats 1000000 in
theorem total_any (u : Value) (rs : List Rn) (w : World) (hu : KN.R w u rs) (hok : okC rs) : Calls Try.prog 25 #[u] w fun e w' => e = .returned (.int .i64 (totL rs)) ∧ Below w.heap.size w w' := by
  have HU := Lib.hid hu
  have HOK := Lib.hid hok
  obtain ⟨ao, cap, rfl, _, _, _⟩ := hu.any
  obtain ⟨T, hT⟩ : ∃ T, totL rs = T := ⟨_, rfl⟩
  rw [hT]
  have HT := Lib.hid hT
  clear hu hok hT
  go_enter Try.func25, Try.ntmps25
  go_wp2_with fail
  go_loopw [3, 8] (fun n i w2 => ∃ (k : Nat) (t : Int), k ≤ rs.length ∧ i = .int .i64 (k : Int) ∧ n = .int .i64 t ∧ 0 ≤ t ∧ t ≤ 9223372036854775807 ∧ Hid ((rs.take k).foldl totS 0 = t) ∧ Hid (Below w.heap.size w w2)) (fun _ i _ => rs.length - (intOf i).toNat)
  case atStart => exact ⟨0, 0, Nat.zero_le _, rfl, rfl, by omega, by omega, Lib.hid (by simp), Lib.hid (Below.refl _ _)⟩
  case round =>
    obtain ⟨k, t, hk, rfl, rfl, t0, t1, HS, HB⟩ := hrel
    by_cases hlt : k < rs.length
    · obtain ⟨⟨rk, rsz, rc⟩, hx⟩ : ∃ x, rs[k]? = some x := ⟨_, List.getElem?_eq_getElem hlt⟩
      obtain ⟨g, off, rfl, hg, d1, d2, d3⟩ := runCells HU.out HB.out hx
      have hgr : g < wr.heap.size := Nat.lt_of_lt_of_le hg HB.out.size
      obtain ⟨r1, r2⟩ := HOK.out _ (List.mem_of_getElem? hx)
      dsimp only at r1 r2
      have hs := fold_step totS 0 hx
      rw [HS.out] at hs
      obtain ⟨t', ht'⟩ : ∃ t', totS t ⟨rk, rsz, rc⟩ = t' := ⟨_, rfl⟩
      obtain ⟨q1, q2⟩ := totS_rng (r := ⟨rk, rsz, rc⟩) t0 t1 r2
      rw [ht'] at hs q1 q2
      have HS2 := Lib.hid hs
      have HT2 : Hid (∀ b, 0 ≤ b → (rc < 1 → b = 0) → (¬ rc < 1 → b = rc) → sat t b = t') := by
        refine Lib.hid fun b hb h0 h1 => ?_
        rw [← ht']
        unfold totS
        by_cases hc : rc < 1
        · rw [if_pos hc, h0 hc]
          unfold sat
          rw [if_neg (by omega)]
          omega
        · rw [if_neg hc, h1 hc]
      clear hx hs HS ht'
      by_cases hc : rc < 1
      · have hc2 : rc ≤ 0 := by omega
        go_wp2_with fail
        all_goals
          refine (plus_any _ _ _ (by omega) (by omega) (by omega) (by omega)).mono ?_
          rintro e w3 ⟨he, rfl⟩
          rw [HT2.out _ (by omega) (by omega) (by omega)] at he
          subst he
          have HB2 : Hid (Below w.heap.size w (wr.alloc (.cells #[.int .u8 rk, .int .i64 rsz, .int .i64 rc] 51))) := Lib.hid (HB.out.alloc HB.out.size _)
          go_wp2
          go_roundw
          case rel => exact ⟨k + 1, t', by omega, by go_num, rfl, q1, q2, HS2, HB2⟩
          case measure => simp [intOf]; omega
      · have hc2 : 1 ≤ rc := by omega
        go_wp2_with fail
        all_goals
          refine (plus_any _ _ _ (by omega) (by omega) (by omega) (by omega)).mono ?_
          rintro e w3 ⟨he, rfl⟩
          rw [HT2.out _ (by omega) (by omega) (by omega)] at he
          subst he
          have HB2 : Hid (Below w.heap.size w (wr.alloc (.cells #[.int .u8 rk, .int .i64 rsz, .int .i64 rc] 51))) := Lib.hid (HB.out.alloc HB.out.size _)
          go_wp2
          go_roundw
          case rel => exact ⟨k + 1, t', by omega, by go_num, rfl, q1, q2, HS2, HB2⟩
          case measure => simp [intOf]; omega
    · obtain rfl : k = rs.length := by omega
      have ht : t = T := by have h := HS.out; rw [List.take_length] at h; rw [← h]; exact HT.out
      subst ht
      clear HS
      go_wp2
      go_ret
      exact ⟨rfl, HB.out⟩
end Go.Proofs.Ytkidijjhedjifaa
/- Since: the program's. Conditions: the ledger's events are fewer than 2^63. -/
namespace Go.Proofs.Ytkidijjhedjifaa
open Go.RowKit
set_option maxRecDepth 100000
set_option linter.unusedVariables false
set_option linter.unusedSimpArgs false
/-- the runs of the events from number m on -/
def sinceL : List Rn → Int → List Rn
  | [], _ => []
  | r :: rs, m => if m ≤ 0 then r :: rs else if m < r.c then ⟨r.k, r.s, r.c - m⟩ :: rs else sinceL rs (m - r.c)
theorem since_low (rs : List Rn) (m : Int) (h : m ≤ 0) : sinceL rs m = rs := by
  cases rs with
  | nil => rfl
  | cons r rs => rw [sinceL, if_pos h]
theorem tot_cons (r : Rn) (rs : List Rn) : tot (r :: rs) = r.c + tot rs := by simp [tot]
theorem since_high : ∀ (rs : List Rn) (m : Int), Posi rs → tot rs ≤ m → sinceL rs m = []
  | [], _, _, _ => rfl
  | r :: rs, m, hp, h => by
    have h1 := hp r (by simp)
    have hp2 : Posi rs := fun x hx => hp x (by simp [hx])
    have h2 := tot_nonneg rs hp2
    rw [tot_cons] at h
    rw [sinceL, if_neg (by omega), if_neg (by omega)]
    exact since_high rs (m - r.c) hp2 (by omega)
/-- what the program tells: the runs from k on, the first one cut -/
def cutL (d t : Int) : List Rn → List Rn
  | [] => []
  | r :: rs => (if t < d then ⟨r.k, r.s, r.c - (d - t)⟩ else r) :: rs
theorem since_at : ∀ (rs : List Rn) (m : Int) (k : Nat) (r : Rn), Posi rs → rs[k]? = some r → tot (rs.take k) ≤ m → m < tot (rs.take k) + r.c → sinceL rs m = cutL m (tot (rs.take k)) (rs.drop k)
  | [], _, _, _, _, hx, _, _ => by simp at hx
  | x :: rs, m, 0, r, hp, hx, h1, h2 => by
    have hx' : x = r := by simpa using hx
    subst hx'
    simp only [List.take_zero, show tot [] = 0 from rfl, List.drop_zero] at *
    rw [sinceL]
    by_cases hm : m ≤ 0
    · rw [if_pos hm]
      simp [cutL, show ¬ (0 < m) from by omega]
    · rw [if_neg hm, if_pos (by omega)]
      simp [cutL, show 0 < m from by omega]
  | x :: rs, m, k + 1, r, hp, hx, h1, h2 => by
    have hc := hp x (by simp)
    have hp2 : Posi rs := fun y hy => hp y (by simp [hy])
    have hx' : rs[k]? = some r := by simpa using hx
    rw [List.take_succ_cons, tot_cons] at h1 h2
    have hn : 0 ≤ tot (rs.take k) := by
      have := tot_nonneg (rs.take k) (fun y hy => hp2 y (List.mem_of_mem_take hy))
      omega
    rw [sinceL, if_neg (by omega), if_neg (by omega), since_at rs (m - x.c) k r hp2 hx' (by omega) (by omega), List.drop_succ_cons, List.take_succ_cons, tot_cons]
    obtain ⟨hk, hr⟩ := List.getElem?_eq_some_iff.1 hx'
    rw [List.drop_eq_getElem_cons hk, hr]
    simp only [cutL]
    by_cases hm : tot (rs.take k) < m - x.c
    · rw [if_pos hm, if_pos (by omega)]
      rw [show r.c - (m - x.c - tot (rs.take k)) = r.c - (m - (x.c + tot (rs.take k))) from by omega]
    · rw [if_neg hm, if_neg (by omega)]
theorem Knd.R.tail {α : Type} {K : Knd α} {w : World} {b off n cap : Nat} {l : List α} (h : K.R w (.slice (some ⟨b, off, none⟩) n cap) l) (k : Nat) (hk : k ≤ l.length) : K.R w (.slice (some ⟨b, off + k * K.sz, none⟩) (l.length - k) (cap - k)) (l.drop k) := by
  obtain ⟨ao', cap', hv, h1, h2, h3, h4⟩ := h.form
  injection hv with e1 e2 e3
  subst e1; subst e3
  refine ⟨by rw [K.fl_len, List.length_drop], K.fl_cells _, some ⟨b, off + k * K.sz, none⟩, cap - k, by rw [List.length_drop], by rw [List.length_drop]; omega, by omega, (fun h => by cases h), fun j u hj => ?_⟩
  have hfl : (K.fl l)[k * K.sz + j]? = some u := by
    have e : K.fl l = K.fl (l.take k) ++ K.fl (l.drop k) := by rw [← K.fl_app, List.take_append_drop]
    have hl : (K.fl (l.take k)).length = k * K.sz := by rw [K.fl_len, List.length_take, Nat.min_eq_left hk]
    rw [e, List.getElem?_append_right (by omega), hl, show k * K.sz + j - k * K.sz = j from by omega]
    exact hj
  obtain ⟨b', off', he, hc⟩ := h4 _ u hfl
  injection he with he
  injection he with q1 q2 _
  subst q1; subst q2
  exact ⟨b, off + k * K.sz, rfl, by rw [Nat.add_assoc]; exact hc⟩
/-- the first run's count is put anew -/
theorem Knd.Mk.head {w w1 : World} {g cap N : Nat} {l : List Rn} {x : Rn} (c : Int) (h : KN.Mk (x :: l) w (.slice (some ⟨g, 0, none⟩) N cap) w1) : KN.Mk (⟨x.k, x.s, c⟩ :: l) w (.slice (some ⟨g, 0, none⟩) N cap) (w1.setCells g 2 [.int .i64 c]) := by
  obtain ⟨h1, h2, h3⟩ := h
  have hN : N = l.length + 1 := by
    rcases h1.2 with ⟨hv, _⟩ | ⟨g', cap', cur, hv, _⟩
    · simp at hv
    · injection hv with _ e _ <;> first | exact e | simpa using e
  subst hN
  have hg : w.heap.size ≤ g := h3 g rfl
  have hw : Only (fpv (.slice (some ⟨g, 0, none⟩) (l.length + 1) cap)) w1 (w1.setCells g 2 [.int .i64 c]) := Only.sets (S := fpv (.slice (some ⟨g, 0, none⟩) (l.length + 1) cap)) (.inl rfl) [.int .i64 c] 2 w1 (Only.refl _ _)
  refine ⟨?_, h2.trans (hw.below0 (fun x hx hs => ?_) h2.size), h3⟩
  · unfold Knd.O at *
    rw [List.length_cons] at *
    have q := ownsRow_setCells [.int .i64 c] w1 (KN.fl (x :: l)) 2 h1
    have e1 : KN.fl (x :: l) = [.int .u8 x.k, .int .i64 x.s] ++ (.int .i64 x.c :: KN.fl l) := by simp [Knd.fl, KN]
    have e2 : KN.fl ((⟨x.k, x.s, c⟩ : Rn) :: l) = [.int .u8 x.k, .int .i64 x.s] ++ (.int .i64 c :: KN.fl l) := by simp [Knd.fl, KN]
    have e4 := putAt_app [.int .i64 c] [.int .u8 x.k, .int .i64 x.s] (.int .i64 x.c :: KN.fl l) (by simp)
    rw [e1] at q
    rw [show [Value.int .u8 x.k, Value.int .i64 x.s].length = 2 from rfl] at e4
    rw [e4] at q
    rw [e2]
    simpa using q
  · have := h3 x hs
    omega
end Go.Proofs.Ytkidijjhedjifaa
/- Check of runs: the program's and the document's. -/
namespace Go.Proofs.Ytkidijjhedjifaa
open Go.RowKit
set_option maxRecDepth 100000
set_option linter.unusedVariables false
set_option linter.unusedSimpArgs false
def eqE2 (a b c d : Int) : Bool := (a == c) && (b == d)
theorem eqcE (a b c d : Int) : ((a == c) = true ∧ (b == d) = true ∧ eqE2 a b c d = true) ∨ ((a == c) = false ∧ eqE2 a b c d = false) ∨ ((a == c) = true ∧ (b == d) = false ∧ eqE2 a b c d = false) := by
  unfold eqE2
  cases h0 : (a == c) <;> cases h1 : (b == d) <;> simp
/-- from run k on, n of them: may they be? -/
def chkF (rs : List Rn) : Nat → Nat → Int
  | 0, _ => 0
  | n + 1, k => match rs[k]? with
    | some r => if r.c < 1 then 120 else match k with
      | 0 => chkF rs n 1
      | j + 1 => match rs[j]? with
        | some p => if eqE2 r.k r.s p.k p.s = true then 120 else chkF rs n (j + 2)
        | none => 0
    | none => 0
def chkL (rs : List Rn) : Int := chkF rs rs.length 0
set_option maxHeartbeats 2000000 in
theorem check_any (u : Value) (rs : List Rn) (w : World) (hu : KN.R w u rs) : Calls Try.prog 23 #[u] w fun e w' => e = .returned (.int .i64 (chkL rs)) ∧ Below w.heap.size w w' := by
  have HU := Lib.hid hu
  obtain ⟨ao, cap, rfl, _, _, _⟩ := hu.any
  obtain ⟨T, hT⟩ : ∃ T, chkL rs = T := ⟨_, rfl⟩
  rw [hT]
  have HT : Hid (chkF rs rs.length 0 = T) := Lib.hid hT
  clear hu hT
  go_enter Try.func23, Try.ntmps23
  go_wp2_with fail
  go_loopw [7] (fun i w2 => ∃ (k : Nat), k ≤ rs.length ∧ i = .int .i64 (k : Int) ∧ Hid (chkF rs (rs.length - k) k = T) ∧ Hid (Below w.heap.size w w2)) (fun i _ => rs.length - (intOf i).toNat)
  case atStart => exact ⟨0, Nat.zero_le _, rfl, HT, Lib.hid (Below.refl _ _)⟩
  case round =>
    clear HT
    obtain ⟨k, hk, rfl, HS, HB⟩ := hrel
    by_cases hlt : k < rs.length
    · obtain ⟨⟨rk, rsz, rc⟩, hx⟩ : ∃ x, rs[k]? = some x := ⟨_, List.getElem?_eq_getElem hlt⟩
      obtain ⟨g, off, rfl, hg, d1, d2, d3⟩ := runCells HU.out HB.out hx
      have hgr : g < wr.heap.size := Nat.lt_of_lt_of_le hg HB.out.size
      have hs := HS.out
      rw [show rs.length - k = (rs.length - (k + 1)) + 1 from by omega] at hs
      rw [chkF, hx] at hs
      dsimp only at hs
      by_cases hc : rc < 1
      · rw [if_pos hc] at hs
        have HS2 := Lib.hid hs
        clear hs HS hx
        have hcb : decide (rc < 1) = true := by simpa using hc
        go_wp2_with fail
        go_quiet (fail)
        go_wp2
        go_ret
        exact ⟨by have e := HS2.out; subst e; rfl, by first | exact ((HB.out.alloc HB.out.size _).trans ⟨rfl, rfl, rfl, Nat.le_refl _, fun _ _ => rfl⟩) | exact (HB.out.trans ⟨rfl, rfl, rfl, Nat.le_refl _, fun _ _ => rfl⟩)⟩
      · rw [if_neg hc] at hs
        have hcb : decide (rc < 1) = false := by simpa using hc
        have hc2 : 1 ≤ rc := by omega
        by_cases hk0 : k = 0
        · have hkb : decide (0 < k) = false := by simp; omega
          have HS2 : Hid (chkF rs (rs.length - 1) 1 = T) := by
            subst hk0
            exact Lib.hid hs
          have HK0 := Lib.hid hk0
          clear hs HS hx hk0
          go_wp2_with fail
          go_quiet (fail)
          go_wp2_with fail
          go_roundw
          case rel => exact ⟨1, by omega, by have := HK0.out; go_num, HS2, Lib.hid (by first | exact ((HB.out.alloc HB.out.size _).trans ⟨rfl, rfl, rfl, Nat.le_refl _, fun _ _ => rfl⟩) | exact (HB.out.trans ⟨rfl, rfl, rfl, Nat.le_refl _, fun _ _ => rfl⟩))⟩
          case measure => simp [intOf]; omega
        · obtain ⟨j, hkj⟩ : ∃ j, k = j + 1 := ⟨k - 1, by omega⟩
          have hs2 : (match rs[j]? with
        | some p => if eqE2 rk rsz p.k p.s = true then 120 else chkF rs (rs.length - (k + 1)) (k + 1)
        | none => 0) = T := by
            subst hkj
            exact hs
          replace hs := hs2
          clear hs2
          obtain ⟨⟨pk, psz, pc⟩, hy⟩ : ∃ x, rs[j]? = some x := ⟨_, List.getElem?_eq_getElem (by omega)⟩
          obtain ⟨g2, off2, he2, hg2, e1, e2, e3⟩ := runCells HU.out HB.out hy
          injection he2 with he2
          injection he2 with q1 q2 _
          subst q1; subst q2
          simp only [hy] at hs
          have hj1 : IntKind.i64.wrap ((k : Int) - 1) = (j : Int) := by rw [IntWalk.i64_in _ (by omega)]; omega
          have hj0 : decide (0 < k) = true := by simp; omega
          have hjl : j < rs.length := by omega
          clear hx hy HS hk0 hkj
          rcases eqcE rk rsz pk psz with ⟨b1, b2, he⟩ | ⟨b1, he⟩ | ⟨b1, b2, he⟩
          · rw [if_pos he] at hs
            have HS2 := Lib.hid hs
            clear hs
            go_wp2_with fail
            go_quiet (fail)
            go_wp2
            go_ret
            exact ⟨by have e := HS2.out; subst e; rfl, by first | exact ((HB.out.alloc HB.out.size _).trans ⟨rfl, rfl, rfl, Nat.le_refl _, fun _ _ => rfl⟩) | exact (HB.out.trans ⟨rfl, rfl, rfl, Nat.le_refl _, fun _ _ => rfl⟩)⟩
          all_goals
            rw [if_neg (by rw [he]; simp)] at hs
            have HS2 := Lib.hid hs
            clear hs
            go_wp2_with fail
            go_quiet (fail)
            go_wp2_with fail
            go_roundw
            case rel => exact ⟨k + 1, by omega, by go_num, HS2, Lib.hid (by first | exact ((HB.out.alloc HB.out.size _).trans ⟨rfl, rfl, rfl, Nat.le_refl _, fun _ _ => rfl⟩) | exact (HB.out.trans ⟨rfl, rfl, rfl, Nat.le_refl _, fun _ _ => rfl⟩))⟩
            case measure => simp [intOf]; omega
    · obtain rfl : k = rs.length := by omega
      have ht : T = 0 := by have h := HS.out; rw [Nat.sub_self] at h; exact h.symm
      subst ht
      clear HS
      go_wp2
      go_ret
      exact ⟨rfl, HB.out⟩
end Go.Proofs.Ytkidijjhedjifaa
/- A region that draws its order, walked by a script: each operation is either taken first (it yields one value in whatever world, and stands apart from all that is left), or it is the only one that may come. No program in sight. -/
namespace Go.Proofs.Ytkidijjhedjifaa
open Go
section
variable {P : Program} {ops : Array Oper} {md : Region.Mode} {Q : Exit → Act → World → Prop}
def scriptB (md : Region.Mode) (ops : Array Oper) : List (Nat × Bool) → Array Bool → Bool
  | [], listed => (Region.ready md ops listed).isEmpty
  | (i, true) :: r, listed => (Region.ready md ops listed).contains i && Region.free md ops listed i && scriptB md ops r (listed.setIfInBounds i true)
  | (i, false) :: r, listed => decide (Region.ready md ops listed = [i]) && scriptB md ops r (listed.setIfInBounds i true)
def wpScript (P : Program) (ops : Array Oper) (Q : Exit → Act → World → Prop) : List (Nat × Bool) → Act → World → Prop
  | [], a, w => wpList P ops Q [] a w
  | (i, true) :: r, a, w => ∃ o v, ops[i]? = some o ∧ Yields P ops o v a ∧ wpScript P ops Q r (a.put o.dst v) w
  | (i, false) :: r, a, w => ∃ o, ops[i]? = some o ∧ ((Region.wanted o (yielded ops a.tmps) = true ∧ o.wp P a w (wpScript P ops Q r) Q) ∨ (Region.wanted o (yielded ops a.tmps) = false ∧ wpScript P ops Q r (a.put o.dst undef) w))
theorem wpAny_script (hsel : Region.noSelect ops = true) (hQ : ∀ c (a : Act) (d : Option Tmp) (v : Value) w, Q (.panic c) (a.put d v) w → Q (.panic c) a w) :
    ∀ (s : List (Nat × Bool)) (listed : Array Bool) (a : Act) (w : World), scriptB md ops s listed = true → wpScript P ops Q s a w → wpAny P md ops Q s.length listed a w
  | [], listed, a, w, hB, h => ⟨by simpa [scriptB] using hB, h⟩
  | (i, true) :: r, listed, a, w, hB, h => by
    simp only [scriptB, Bool.and_eq_true] at hB
    obtain ⟨⟨hr, hf⟩, hB'⟩ := hB
    obtain ⟨o, v, ho, hy, hK⟩ := h
    exact wpAny_take ho hsel hf hr (fun c a w => hQ c a _ v w) hy (wpAny_script hsel hQ r _ _ w hB' hK)
  | (i, false) :: r, listed, a, w, hB, h => by
    simp only [scriptB, Bool.and_eq_true, decide_eq_true_eq] at hB
    obtain ⟨hr, hB'⟩ := hB
    obtain ⟨o, ho, h⟩ := h
    refine ⟨fun h0 => (by rw [hr] at h0; cases h0), fun j hj => ?_⟩
    rw [hr] at hj
    obtain rfl : j = i := by simpa using hj
    unfold Go.wpOp
    simp only [ho]
    rcases h with ⟨hw, h⟩ | ⟨hw, h⟩
    · simp only [hw, if_true]
      exact .inl (Oper.wp_mono (fun a2 w2 h2 => wpAny_script hsel hQ r _ a2 w2 hB' h2) h)
    · simp only [hw, Bool.false_eq_true, if_false]
      exact wpAny_script hsel hQ r _ _ w hB' h
theorem wp_region_script {id : Nat} {a : Act} {w : World} {l : List Oper} (s : List (Nat × Bool)) (hm : P.follows .mixedOrders = true) (hB : (Region.noSelect l.toArray && decide (s.length = l.toArray.size) && scriptB .any l.toArray s (Array.replicate l.toArray.size false)) = true)
    (hQ : ∀ c (a : Act) (d : Option Tmp) (v : Value) w, Q (.panic c) (a.put d v) w → Q (.panic c) a w)
    (h : ∀ w', w' = w.drewN 1 → wpScript P l.toArray Q s a w') : (Code.region id l.toArray true).wp P Q a w := by
  simp only [Bool.and_eq_true, decide_eq_true_eq] at hB
  obtain ⟨⟨hsel, hl⟩, hB⟩ := hB
  refine wp_region_any hm ?_
  have := wpAny_script (md := .any) hsel hQ s _ a _ hB (h _ rfl)
  rw [hl] at this
  exact this

variable {r : List (Nat × Bool)} {a : Act} {w : World} {o : Oper} {i : Nat} {v : Value}
theorem scr_pure (ho : ops[i]? = some o) (hw : Region.wanted o (yielded ops a.tmps) = true) (h : ∀ w, (execOp a.eval o).run P w = .ok (.value v) w) (kk : wpScript P ops Q r (a.put o.dst v) w) : wpScript P ops Q ((i, true) :: r) a w := ⟨o, v, ho, .inl ⟨hw, h⟩, kk⟩
theorem scr_off (ho : ops[i]? = some o) (hw : Region.wanted o (yielded ops a.tmps) = false) (kk : wpScript P ops Q r (a.put o.dst undef) w) : wpScript P ops Q ((i, true) :: r) a w := ⟨o, undef, ho, .inr ⟨hw, rfl⟩, kk⟩
theorem scr_off1 (ho : ops[i]? = some o) (hw : Region.wanted o (yielded ops a.tmps) = false) (kk : wpScript P ops Q r (a.put o.dst undef) w) : wpScript P ops Q ((i, false) :: r) a w := ⟨o, ho, .inr ⟨hw, kk⟩⟩
theorem scr_call {f : FuncId} {args : Array Value} (ho : ops[i]? = some o) (hw : Region.wanted o (yielded ops a.tmps) = true) (h : (execOp a.eval o).run P w = .ok (.enter f args) w)
    (hc : Calls P f args w fun e w'' => ∃ v, e = .returned v ∧ wpScript P ops Q r (a.put o.dst v) w'') : wpScript P ops Q ((i, false) :: r) a w := ⟨o, ho, .inl ⟨hw, wp_mid_call h hc⟩⟩
theorem scr_run {w' : World} (ho : ops[i]? = some o) (hw : Region.wanted o (yielded ops a.tmps) = true) (h : (execOp a.eval o).run P w = .ok (.value v) w') (kk : wpScript P ops Q r (a.put o.dst v) w') : wpScript P ops Q ((i, false) :: r) a w := ⟨o, ho, .inl ⟨hw, by unfold Oper.wp; rw [h]; exact kk⟩⟩
theorem scr_skip {w' : World} (ho : ops[i]? = some o) (hw : Region.wanted o (yielded ops a.tmps) = true) (h : (execOp a.eval o).run P w = .ok .skip w') (kk : wpScript P ops Q r (a.put o.dst undef) w') : wpScript P ops Q ((i, false) :: r) a w := ⟨o, ho, .inl ⟨hw, by unfold Oper.wp; rw [h]; exact kk⟩⟩
end
end Go.Proofs.Ytkidijjhedjifaa
namespace Go.Proofs.Ytkidijjhedjifaa
open Go
section
variable {P : Program} {ops : Array Oper} {md : Region.Mode} {Q : Exit → Act → World → Prop} {S : World → Prop} {fuel : Nat} {listed : Array Bool} {a : Act} {w : World} {o : Oper} {i j : Nat} {v : Value}
theorem hd_start {id : Nat} (S : World → Prop) (hm : P.follows .mixedOrders = true) (h : ∀ w', w' = w.drewN 1 → wpAnyH P .any ops Q S ops.size (Array.replicate ops.size false) a w') : (Code.region id ops true).wp P Q a w := wp_region_held hm (h _ rfl)
/-- taken first: it yields v in every world that meets S -/
theorem hd_take (i : Nat) (ho : ops[i]? = some o) (hs : (Region.noSelect ops && Region.free md ops listed i && (Region.ready md ops listed).contains i) = true) (hQ : ∀ c (a : Act) (d : Option Tmp) (v : Value) w, Q (.panic c) (a.put d v) w → Q (.panic c) a w)
    (hw : Region.wanted o (yielded ops a.tmps) = true) (hS : S w) (h : ∀ w, S w → (execOp a.eval o).run P w = .ok (.value v) w) (kk : wpAnyH P md ops Q S fuel (listed.setIfInBounds i true) (a.put o.dst v) w) : wpAnyH P md ops Q S (fuel + 1) listed a w := by
  simp only [Bool.and_eq_true] at hs
  exact wpAnyH_take ho hs.1.1 hs.1.2 hs.2 (fun c a w => hQ c a _ v w) (.inl ⟨hw, h⟩) hS kk
/-- its guard is false -/
theorem hd_off (i : Nat) (ho : ops[i]? = some o) (hs : (Region.noSelect ops && Region.free md ops listed i && (Region.ready md ops listed).contains i) = true) (hQ : ∀ c (a : Act) (d : Option Tmp) (v : Value) w, Q (.panic c) (a.put d v) w → Q (.panic c) a w)
    (hw : Region.wanted o (yielded ops a.tmps) = false) (hS : S w) (kk : wpAnyH P md ops Q S fuel (listed.setIfInBounds i true) (a.put o.dst undef) w) : wpAnyH P md ops Q S (fuel + 1) listed a w := by
  simp only [Bool.and_eq_true] at hs
  exact wpAnyH_take ho hs.1.1 hs.1.2 hs.2 (fun c a w => hQ c a _ undef w) (.inr ⟨hw, rfl⟩) hS kk
/-- the only one that may come -/
theorem hd_one (i : Nat) (hr : decide (Region.ready md ops listed = [i]) = true) (h : wpOp P ops Q i (fun a' w' => S w' ∧ wpAnyH P md ops Q S fuel (listed.setIfInBounds i true) a' w') a w) : wpAnyH P md ops Q S (fuel + 1) listed a w := by
  rw [decide_eq_true_eq] at hr
  refine wpAnyH_all hr (by simp) fun k hk => ?_
  obtain rfl : k = i := by simpa using hk
  exact h
/-- one of two -/
theorem hd_two (i j : Nat) (hr : decide (Region.ready md ops listed = [i, j]) = true) (h1 : wpOp P ops Q i (fun a' w' => S w' ∧ wpAnyH P md ops Q S fuel (listed.setIfInBounds i true) a' w') a w)
    (h2 : wpOp P ops Q j (fun a' w' => S w' ∧ wpAnyH P md ops Q S fuel (listed.setIfInBounds j true) a' w') a w) : wpAnyH P md ops Q S (fuel + 1) listed a w := by
  rw [decide_eq_true_eq] at hr
  refine wpAnyH_all hr (by simp) fun k hk => ?_
  have hk2 : k = i ∨ k = j := by simpa using hk
  rcases hk2 with rfl | rfl
  · exact h1
  · exact h2
theorem hd_done (hr : (Region.ready md ops listed).isEmpty = true) (h : wpList P ops Q [] a w) : wpAnyH P md ops Q S fuel listed a w := wpAnyH_done (by simpa using hr) h fuel
variable {K : Act → World → Prop}
theorem op_call {f : FuncId} {args : Array Value} (ho : ops[i]? = some o) (hw : Region.wanted o (yielded ops a.tmps) = true) (h : (execOp a.eval o).run P w = .ok (.enter f args) w)
    (hc : Calls P f args w fun e w'' => ∃ v, e = .returned v ∧ K (a.put o.dst v) w'') : wpOp P ops Q i K a w := by
  unfold Go.wpOp
  simp only [ho, hw, if_true]
  exact .inl (wp_mid_call h hc)
theorem op_run {w' : World} (ho : ops[i]? = some o) (hw : Region.wanted o (yielded ops a.tmps) = true) (h : (execOp a.eval o).run P w = .ok (.value v) w') (hc : K (a.put o.dst v) w') : wpOp P ops Q i K a w := by
  unfold Go.wpOp
  simp only [ho, hw, if_true]
  refine .inl ?_
  unfold Oper.wp
  rw [h]
  exact hc
theorem op_skip {w' : World} (ho : ops[i]? = some o) (hw : Region.wanted o (yielded ops a.tmps) = true) (h : (execOp a.eval o).run P w = .ok .skip w') (hc : K (a.put o.dst undef) w') : wpOp P ops Q i K a w := by
  unfold Go.wpOp
  simp only [ho, hw, if_true]
  refine .inl ?_
  unfold Oper.wp
  rw [h]
  exact hc
theorem op_off (ho : ops[i]? = some o) (hw : Region.wanted o (yielded ops a.tmps) = false) (hc : K (a.put o.dst undef) w) : wpOp P ops Q i K a w := by
  unfold Go.wpOp
  simp only [ho, hw, Bool.false_eq_true, if_false]
  exact hc
end
end Go.Proofs.Ytkidijjhedjifaa
