/- Lists that were told are marked, gone on with, looked at (the kit's Apart..), whatever their elements: what lies where at each point. No program in sight. -/
import Derived.Test.YtideobdggdmeiaaBase
import Derived.Test.YtideobdggdmeiaaSl
namespace Go.Proofs.Ytideobdggdmeiaa
open Go.RowKit
set_option maxRecDepth 100000
set_option linter.unusedVariables false

/-- the elements of such lists: their slices' type, their type, how many cells they have, mark i of list k -/
structure Mkr where
  st : TypeId
  e : TypeId
  sz : Nat
  el : Nat → Nat → List Value
  pos : 0 < sz
  len : ∀ k i, (el k i).length = sz
  one : ∀ k i, ∀ u ∈ el k i, u.oneCell' = true

/-- cells are written from o on -/
def putAt : List Value → Nat → List Value → List Value
  | xs, _, [] => xs
  | xs, o, v :: r => putAt (xs.set o v) (o + 1) r
theorem putAt_app : ∀ (vs a b : List Value), vs.length ≤ b.length → putAt (a ++ b) a.length vs = a ++ vs ++ b.drop vs.length
  | [], a, b, _ => by simp [putAt]
  | v :: vs, a, [], h => by simp at h
  | v :: vs, a, x :: b, h => by
    have h1 : (a ++ x :: b).set a.length v = (a ++ [v]) ++ b := by rw [List.set_append_right _ _ (Nat.le_refl _), Nat.sub_self]; simp
    have h2 := putAt_app vs (a ++ [v]) b (by simpa using h)
    rw [putAt, h1, show a.length + 1 = (a ++ [v]).length from by simp, h2]
    simp
theorem ownsRow_setCells {base : Nat} {e : TypeId} {size g n cap : Nat} : ∀ (vs : List Value) (w : World) (xs : List Value) (o : Nat), w.ownsRow base e size (.slice (some ⟨g, 0, none⟩) n cap) n xs →
    (w.setCells g o vs).ownsRow base e size (.slice (some ⟨g, 0, none⟩) n cap) n (putAt xs o vs)
  | [], w, xs, o, h => h
  | v :: vs, w, xs, o, h => by
    rw [World.setCells, putAt]
    exact ownsRow_setCells vs _ _ _ (World.ownsRow.stored h o v).1
theorem Only.sets {S : Nat → Prop} {a : World} {g : Nat} (hp : S g ∨ a.heap.size ≤ g) : ∀ (vs : List Value) (o : Nat) (b : World), Only S a b → Only S a (b.setCells g o vs)
  | [], o, b, h => h
  | v :: vs, o, b, h => by
    rw [World.setCells]
    exact Only.sets hp vs _ _ (h.set hp v)

section
variable (M : Mkr)
def Mkr.marks (k n : Nat) : List Value := (List.range n).flatMap (M.el k)
theorem Mkr.marks_len (k n : Nat) : (M.marks k n).length = n * M.sz := by
  unfold Mkr.marks
  induction n with
  | zero => simp
  | succ n ih => rw [List.range_succ, List.flatMap_append, List.length_append, ih]; simp [M.len]; rw [Nat.add_mul]; omega
theorem Mkr.marks_succ (k n : Nat) : M.marks k (n + 1) = M.marks k n ++ M.el k n := by
  unfold Mkr.marks
  rw [List.range_succ, List.flatMap_append]
  simp
theorem Mkr.marks_get (k c : Nat) (hc : c < M.sz) : ∀ n i, i < n → (M.marks k n)[i * M.sz + c]? = (M.el k i)[c]?
  | 0, i, h => by omega
  | n + 1, i, h => by
    rw [M.marks_succ]
    by_cases e : i = n
    · subst e
      rw [List.getElem?_append_right (by rw [M.marks_len]; omega), M.marks_len, show i * M.sz + c - i * M.sz = c from by omega]
    · have : i * M.sz + c < n * M.sz := by
        have := Nat.mul_le_mul_right M.sz (show i + 1 ≤ n by omega)
        rw [Nat.add_mul] at this
        omega
      rw [List.getElem?_append_left (by rw [M.marks_len]; exact this)]
      exact Mkr.marks_get k c hc n i (by omega)
theorem Mkr.marks_one (k n : Nat) : ∀ u ∈ M.marks k n, u.oneCell' = true := by
  intro u hu
  unfold Mkr.marks at hu
  obtain ⟨i, _, h⟩ := List.mem_flatMap.1 hu
  exact M.one k i u h
/-- the first i elements are marked -/
def Mkr.to (k : Nat) (cs : List Value) (i : Nat) : List Value := M.marks k i ++ cs.drop (i * M.sz)
theorem Mkr.to_zero (k : Nat) (cs : List Value) : M.to k cs 0 = cs := by simp [Mkr.to, Mkr.marks]
theorem Mkr.to_end (k n : Nat) (cs : List Value) (h : cs.length = n * M.sz) : M.to k cs n = M.marks k n := by simp [Mkr.to, ← h]
theorem Mkr.to_len (k i n : Nat) (cs : List Value) (h : cs.length = n * M.sz) (hi : i ≤ n) : (M.to k cs i).length = n * M.sz := by
  have := Nat.mul_le_mul_right M.sz hi
  simp [Mkr.to, M.marks_len, h]
  omega
theorem Mkr.to_succ (k i n : Nat) (cs : List Value) (h : cs.length = n * M.sz) (hi : i < n) : putAt (M.to k cs i) (i * M.sz) (M.el k i) = M.to k cs (i + 1) := by
  have := Nat.mul_le_mul_right M.sz (show i + 1 ≤ n by omega)
  rw [Nat.add_mul] at this
  unfold Mkr.to
  have h1 := putAt_app (M.el k i) (M.marks k i) (cs.drop (i * M.sz)) (by rw [M.len, List.length_drop]; omega)
  rw [M.marks_len] at h1
  rw [h1, M.marks_succ, List.drop_drop, M.len, Nat.add_mul, Nat.one_mul]

/-- a slice's header -/
def Hd (v : Value) (n : Nat) : Prop := (v = .slice none 0 0 ∧ n = 0) ∨ ∃ b cap, v = .slice (some ⟨b, 0, none⟩) n cap
theorem Hd.of {w : World} {base : Nat} {e : TypeId} {size n : Nat} {v : Value} {xs : List Value} (h : w.ownsRow base e size v n xs) : Hd v n := by
  rcases h.2 with h2 | ⟨g, cap, cur, rfl, _⟩
  · exact .inl h2
  · exact .inr ⟨g, cap, rfl⟩
/-- a list that was told, and what it was gone on with: both hold marks; they may share a block -/
def obPair (v g : Value) (n m : Nat) (cv cg : List Value) : Ob where
  at' w F := w.ownsRow 0 M.e M.sz g m cg ∧ Sl w M.sz v n cv ∧ (∀ x, fpv v x → x < w.heap.size) ∧ F = fun x => fpv v x ∨ fpv g x
  keep := fun {w w' F S} h ho hd => by
    obtain ⟨h1, h2, h3, rfl⟩ := h
    exact ⟨ownsRow_keep h1 ho (fun x hx => hd x (.inr hx)), h2.only ho (fun x hx => hd x (.inl hx)), fun x hx => Nat.lt_of_lt_of_le (h3 x hx) ho.size, rfl⟩
  lt := fun {w F} h x hx => by
    obtain ⟨h1, h2, h3, rfl⟩ := h
    rcases hx with hx | hx
    · exact h3 x hx
    · exact (World.ownsRow.lt h1 x hx).2
theorem pair_append {w w2 : World} {v g g' : Value} {k n m : Nat} (hnm : n ≤ m) (hv : Sl w M.sz v n (M.marks k n)) (h0 : Hd v n) (hown : w2.ownsRow 0 M.e M.sz g' (m + 1) (M.marks k (m + 1))) (hgrow : w.grownBy w2 g.ownBlock)
    (hat : g'.ownBlock = g.ownBlock ∨ g'.ownBlock = some w.heap.size ∧ ∀ b, b < w.heap.size → w2.heap[b]? = w.heap[b]?) : Sl w2 M.sz v n (M.marks k n) := by
  by_cases hsame : g'.ownBlock = g.ownBlock ∧ v.ownBlock = g.ownBlock
  · obtain ⟨ao, cap, hvv, h1, h2, h3, h4⟩ := hv.form
    refine ⟨hv.len, hv.one, ao, cap, hvv, h1, h2, h3, fun j u hj => ?_⟩
    obtain ⟨b, off, hao, hc⟩ := h4 j u hj
    refine ⟨b, off, hao, ?_⟩
    have hjl : j < n * M.sz := by
      have := (List.getElem?_eq_some_iff.1 hj).1
      rwa [M.marks_len] at this
    have hjm : j < (m + 1) * M.sz := Nat.lt_of_lt_of_le hjl (Nat.mul_le_mul_right _ (by omega))
    obtain ⟨gg, gcap, hgf, _⟩ := World.ownsRow.form hown (by omega)
    have hb : gg = b := by
      have e1 : g'.ownBlock = v.ownBlock := hsame.1.trans hsame.2.symm
      rw [hgf, hvv, hao] at e1
      simpa [Value.ownBlock] using e1
    subst hb
    have hoff : off = 0 := by
      rcases h0 with ⟨h0, _⟩ | ⟨b2, cap2, h0⟩
      · rw [hvv, hao] at h0; simp at h0
      · rw [hvv, hao] at h0; simp at h0; exact h0.1.2
    subst hoff
    subst hgf
    have hsp : M.marks k (m + 1) = M.marks k n ++ (M.marks k (m + 1)).drop (n * M.sz) := by
      have e : ∀ d, (M.marks k (n + d)).take (n * M.sz) = M.marks k n := by
        intro d
        induction d with
        | zero => rw [Nat.add_zero, ← M.marks_len k n, List.take_length]
        | succ d ih =>
          rw [← Nat.add_assoc, M.marks_succ, List.take_append_of_le_length (by rw [M.marks_len]; exact Nat.mul_le_mul_right _ (by omega)), ih]
      have := e (m + 1 - n)
      rw [show n + (m + 1 - n) = m + 1 from by omega] at this
      conv => lhs; rw [← List.take_append_drop (n * M.sz) (M.marks k (m + 1)), this]
    rw [Nat.zero_add, World.ownsRow.cellAt hown j hjm, hsp, List.getElem?_append_left (by rw [M.marks_len]; exact hjl)]
    exact hj
  · refine hv.keep fun b hb hlt => ?_
    rcases hat with hat | ⟨_, hat⟩
    · refine hgrow.block b hlt fun e => hsame ⟨hat, hb.trans e⟩
    · exact hat b hlt
theorem pair_go {w0 w w2 : World} {obs : List Ob} (h : Env w0 w obs) (i : Nat) {v g g' : Value} {k n m : Nat} (hnm : n ≤ m) (hi : obs[i]? = some (obPair M v g n m (M.marks k n) (M.marks k m))) (h0 : Hd v n)
    (hown : w2.ownsRow 0 M.e M.sz g' (m + 1) (M.marks k (m + 1))) (hgrow : w.grownBy w2 g.ownBlock) (hat : g'.ownBlock = g.ownBlock ∨ g'.ownBlock = some w.heap.size ∧ ∀ b, b < w.heap.size → w2.heap[b]? = w.heap[b]?) :
    Env w0 w2 (obs.set i (obPair M v g' n (m + 1) (M.marks k n) (M.marks k (m + 1)))) := by
  obtain ⟨F, h1, _, _, h4⟩ := h.get i hi
  obtain ⟨h1, h2, h3, rfl⟩ := h1
  refine h4 w2 (fun x => fpv v x ∨ fpv g' x) (obPair M v g' n (m + 1) (M.marks k n) (M.marks k (m + 1))) ⟨hown, pair_append M hnm h2 h0 hown hgrow hat, fun x hx => Nat.lt_of_lt_of_le (h3 x hx) hgrow.size, rfl⟩
    ((Only.refl (fun x => fpv v x ∨ fpv g x) w).grown hgrow (fun k hk => .inl (.inr hk))) (fun x hx => ?_)
  rcases hx with hx | hx
  · exact .inl (.inl hx)
  · have hx' : g'.ownBlock = some x := hx
    rcases hat with hat | ⟨hat, _⟩
    · exact .inl (.inr (by show g.ownBlock = some x; rw [← hat]; exact hx'))
    · rw [hat] at hx'
      injection hx' with hx'
      exact .inr (by omega)

/-! ### the world: a slice of slices, its lists, the rest -/
def Tv (vs : List Value) (j : Nat) : Value := vs.getD j (.slice none 0 0)
theorem Tv_get {vs : List Value} {j : Nat} (h : j < vs.length) : vs[j]? = some (Tv vs j) := by
  unfold Tv
  rw [List.getD_eq_getElem?_getD, List.getElem?_eq_getElem h]
  rfl
def AEnv (w0 w : World) (u : Value) (vs : List Value) (T : Nat → Ob) (rest : List Ob) : Prop := Env w0 w (obE M.st 1 u vs.length vs :: ((List.range vs.length).map T ++ rest))
variable {M}
theorem AEnv.at {w0 w : World} {u : Value} {vs : List Value} {T : Nat → Ob} {rest : List Ob} (k : Nat) (hk : k < vs.length) : (obE M.st 1 u vs.length vs :: ((List.range vs.length).map T ++ rest))[k + 1]? = some (T k) := by
  rw [List.getElem?_cons_succ, List.getElem?_append_left (by simpa using hk), List.getElem?_map, List.getElem?_range hk]
  rfl
theorem AEnv.atRest {w0 w : World} {u : Value} {vs : List Value} {T : Nat → Ob} {rest : List Ob} (k : Nat) : (obE M.st 1 u vs.length vs :: ((List.range vs.length).map T ++ rest))[vs.length + 1 + k]? = rest[k]? := by
  rw [show vs.length + 1 + k = (vs.length + k) + 1 from by omega, List.getElem?_cons_succ, List.getElem?_append_right (by simp)]
  congr 1
  simp
theorem AEnv.row {w0 w : World} {u : Value} {vs : List Value} {T : Nat → Ob} {rest : List Ob} (h : AEnv M w0 w u vs T rest) : w.ownsRow 0 M.st 1 u vs.length vs := Env.row h 0 rfl
theorem AEnv.set {w0 w : World} {u : Value} {vs : List Value} {T T' : Nat → Ob} {rest : List Ob} (k : Nat) (hk : k < vs.length) {ob : Ob} (h : Env w0 w ((obE M.st 1 u vs.length vs :: ((List.range vs.length).map T ++ rest)).set (k + 1) ob)) (h1 : T' k = ob) (h2 : ∀ j, j < vs.length → j ≠ k → T' j = T j) : AEnv M w0 w u vs T' rest := by
  have e : (obE M.st 1 u vs.length vs :: ((List.range vs.length).map T ++ rest)).set (k + 1) ob = obE M.st 1 u vs.length vs :: ((List.range vs.length).map T' ++ rest) := by
    rw [List.set_cons_succ, List.set_append_left _ _ (by simpa using hk)]
    congr 2
    apply List.ext_getElem?
    intro j
    by_cases hj : j < vs.length
    · by_cases ejk : k = j
      · subst ejk
        rw [List.getElem?_set_self (by simpa using hj), List.getElem?_map, List.getElem?_range hj, ← h1]
        rfl
      · rw [List.getElem?_set_ne ejk, List.getElem?_map, List.getElem?_map, List.getElem?_range hj]
        simp only [Option.map_some]
        rw [h2 j hj (fun e => ejk e.symm)]
    · rw [List.getElem?_eq_none (by simp; omega), List.getElem?_eq_none (by simp; omega)]
  rw [e] at h
  exact h
theorem AEnv.same {w0 w : World} {u : Value} {vs : List Value} {T T' : Nat → Ob} {rest : List Ob} (h : AEnv M w0 w u vs T rest) (h2 : ∀ j, j < vs.length → T' j = T j) : AEnv M w0 w u vs T' rest := by
  have e : (List.range vs.length).map T' = (List.range vs.length).map T := List.map_congr_left fun j hj => h2 j (List.mem_range.1 hj)
  unfold AEnv
  rw [e]
  exact h
theorem AEnv.below {w0 w w' : World} {u : Value} {vs : List Value} {T : Nat → Ob} {rest : List Ob} (h : AEnv M w0 w u vs T rest) (hb : Below w.heap.size w w') : AEnv M w0 w' u vs T rest := Env.below h hb
theorem AEnv.drop {w0 w : World} {u : Value} {vs : List Value} {T : Nat → Ob} {rest : List Ob} (h : AEnv M w0 w u vs T rest) (r : List Ob) (n : Nat) (hr : ∀ (j : Nat) (ob : Ob), r[j]? = some ob → rest[j + n]? = some ob) : Env w0 w r :=
  Env.pick h (fun j => vs.length + 1 + (j + n)) (fun i j _ _ he => by simpa using he) (fun j ob hj => (AEnv.atRest (w0 := w0) (w := w) (j + n)).trans (hr j ob hj))
theorem AEnv.pushRest {w0 w w' : World} {u : Value} {vs : List Value} {T : Nat → Ob} {rest : List Ob} (h : AEnv M w0 w u vs T rest) {F' : Nat → Prop} (ob : Ob) (hat : ob.at' w' F') (hb : Below w.heap.size w w') (hn : ∀ x, F' x → w.heap.size ≤ x) : AEnv M w0 w' u vs T (rest ++ [ob]) := by
  have := Env.push h ob hat hb hn
  unfold AEnv
  simpa using this

/-- such a world is picked out of a law's world -/
theorem AEnv.of {w0 w : World} {obs : List Ob} (h : Env w0 w obs) {u : Value} {vs : List Value} {T : Nat → Ob} {rest : List Ob} (F : Nat → Nat) (hinj : ∀ i j, i < vs.length + 1 + rest.length → j < vs.length + 1 + rest.length → F i = F j → i = j)
    (h0 : obs[F 0]? = some (obE M.st 1 u vs.length vs)) (h1 : ∀ j, j < vs.length → obs[F (j + 1)]? = some (T j)) (h2 : ∀ (j : Nat) (ob : Ob), rest[j]? = some ob → obs[F (vs.length + 1 + j)]? = some ob) : AEnv M w0 w u vs T rest := by
  refine Env.pick h F (fun i j hi hj he => hinj i j (by simpa [Nat.add_assoc, Nat.add_comm, Nat.add_left_comm] using hi) (by simpa [Nat.add_assoc, Nat.add_comm, Nat.add_left_comm] using hj) he) (fun j ob hj => ?_)
  by_cases hj0 : j = 0
  · subst hj0
    rw [h0]
    simpa using hj
  · obtain ⟨j, rfl⟩ : ∃ i, j = i + 1 := ⟨j - 1, by omega⟩
    by_cases hlt : j < vs.length
    · rw [AEnv.at (w0 := w0) (w := w) j hlt] at hj
      rw [h1 j hlt]
      exact hj
    · obtain ⟨i, rfl⟩ : ∃ i, j = vs.length + i := ⟨j - vs.length, by omega⟩
      rw [show vs.length + i + 1 = vs.length + 1 + i from by omega, AEnv.atRest (w0 := w0) (w := w)] at hj
      rw [show vs.length + i + 1 = vs.length + 1 + i from by omega]
      exact h2 i ob hj
/-- .. behind a literal of some of the things: thing F j is list j -/
theorem AEnv.lit {w0 w : World} {obs : List Ob} (h : Env w0 w obs) {vs : List Value} {T : Nat → Ob} {rest : List Ob} (g : Nat) (hg : g = w.heap.size) (F : Nat → Nat) (hinj : ∀ i j, i < vs.length + rest.length → j < vs.length + rest.length → F i = F j → i = j) (hl : vs.length ≤ 900000)
    (h1 : ∀ j, j < vs.length → obs[F j]? = some (T j)) (h2 : ∀ (j : Nat) (ob : Ob), rest[j]? = some ob → obs[F (vs.length + j)]? = some ob) : AEnv M w0 (w.alloc (.cells vs.toArray M.st)) (.slice (some ⟨g, 0, none⟩) vs.length vs.length) vs T rest := by
  subst hg
  have hrow : (w.alloc (.cells vs.toArray M.st)).ownsRow 0 M.st 1 (.slice (some ⟨w.heap.size, 0, none⟩) vs.length vs.length) vs.length vs := by
    have := World.ownsRow_lit (base := 0) (e := M.st) (size := 1) w vs.toArray vs.length (Nat.zero_le _) (by unfold maxLen; omega) (by simp)
    simpa using this
  have hp := Env.pushE h hrow ((Below.refl w.heap.size w).alloc (Nat.le_refl _) _) (fun x hx => by
    have hx' : w.heap.size = x := by simpa [fpv, Value.ownBlock] using hx
    omega)
  have hF : ∀ i, i < vs.length + rest.length → F i < obs.length := by
    intro i hi
    by_cases hlt : i < vs.length
    · exact (List.getElem?_eq_some_iff.1 (h1 i hlt)).1
    · obtain ⟨j, rfl⟩ : ∃ j, i = vs.length + j := ⟨i - vs.length, by omega⟩
      have hj : j < rest.length := by omega
      exact (List.getElem?_eq_some_iff.1 (h2 j _ (List.getElem?_eq_getElem hj))).1
  refine AEnv.of hp (fun i => if i = 0 then obs.length else F (i - 1)) (fun i j hi hj he => ?_) (by simp) (fun j hj => ?_) (fun j ob hj => ?_)
  · by_cases hi0 : i = 0
    · by_cases hj0 : j = 0
      · omega
      · simp only [hi0, if_pos, if_neg hj0] at he
        have := hF (j - 1) (by omega)
        omega
    · by_cases hj0 : j = 0
      · simp only [hj0, if_pos, if_neg hi0] at he
        have := hF (i - 1) (by omega)
        omega
      · simp only [if_neg hi0, if_neg hj0] at he
        have := hinj (i - 1) (j - 1) (by omega) (by omega) he
        omega
  · rw [if_neg (by omega), Nat.add_sub_cancel, List.getElem?_append_left (hF j (by omega))]
    exact h1 j hj
  · have hlt : j < rest.length := (List.getElem?_eq_some_iff.1 hj).1
    rw [if_neg (by omega), show vs.length + 1 + j - 1 = vs.length + j from by omega, List.getElem?_append_left (hF _ (by omega))]
    exact h2 j ob hj

/-! ### phase one: lists before k are marked, list k's first i elements -/
variable (M)
def T1 (vs : List Value) (n : Nat → Nat) (c : Nat → List Value) (k i j : Nat) : Ob :=
  obE M.e M.sz (Tv vs j) (n j) (if j < k then M.marks j (n j) else if j = k then M.to j (c j) i else c j)
/-- phase two: lists before k are pairs, list k has been gone on with by i, if m -/
def T2 (vs gs : List Value) (n : Nat → Nat) (k : Nat) (g : Option (Value × Nat)) (j : Nat) : Ob :=
  if j < k then obPair M (Tv vs j) (Tv gs j) (n j) (n j + 6) (M.marks j (n j)) (M.marks j (n j + 6))
  else if j = k then match g with
    | some (g, i) => obPair M (Tv vs j) g (n j) (n j + i) (M.marks j (n j)) (M.marks j (n j + i))
    | none => obE M.e M.sz (Tv vs j) (n j) (M.marks j (n j))
  else obE M.e M.sz (Tv vs j) (n j) (M.marks j (n j))
variable {M}
theorem T1_zero (vs : List Value) (n : Nat → Nat) (c : Nat → List Value) (j : Nat) : T1 M vs n c 0 0 j = obE M.e M.sz (Tv vs j) (n j) (c j) := by
  unfold T1
  rw [if_neg (by omega)]
  by_cases e : j = 0
  · rw [if_pos e, M.to_zero]
  · rw [if_neg e]
theorem T1_next (vs : List Value) (n : Nat → Nat) (c : Nat → List Value) (k j : Nat) (hc : (c k).length = n k * M.sz) : T1 M vs n c (k + 1) 0 j = T1 M vs n c k (n k) j := by
  unfold T1
  by_cases h1 : j < k
  · rw [if_pos h1, if_pos (by omega)]
  · by_cases h2 : j = k
    · subst h2
      rw [if_neg h1, if_pos (by omega), if_pos rfl, M.to_end _ _ _ hc]
    · rw [if_neg h1, if_neg (by omega), if_neg h2]
      by_cases h3 : j = k + 1
      · subst h3; rw [if_pos rfl, M.to_zero]
      · rw [if_neg h3]
theorem T1_self (vs : List Value) (n : Nat → Nat) (c : Nat → List Value) (k i : Nat) : T1 M vs n c k i k = obE M.e M.sz (Tv vs k) (n k) (M.to k (c k) i) := by
  unfold T1
  rw [if_neg (Nat.lt_irrefl _), if_pos rfl]
theorem T1_other (vs : List Value) (n : Nat → Nat) (c : Nat → List Value) (k i i' j : Nat) (h : j ≠ k) : T1 M vs n c k i j = T1 M vs n c k i' j := by
  unfold T1
  rw [if_neg h, if_neg h]
theorem T1_T2 (vs : List Value) (n : Nat → Nat) (c : Nat → List Value) (j : Nat) (h : j < vs.length) : T2 M vs [] n 0 none j = T1 M vs n c vs.length 0 j := by
  unfold T1 T2
  rw [if_neg (by omega), if_pos h]
  by_cases e : j = 0
  · rw [if_pos e]
  · rw [if_neg e]
theorem T2_self (vs gs : List Value) (n : Nat → Nat) (k : Nat) : T2 M vs gs n k none k = obE M.e M.sz (Tv vs k) (n k) (M.marks k (n k)) := by
  unfold T2
  rw [if_neg (Nat.lt_irrefl _), if_pos rfl]
theorem T2_some (vs gs : List Value) (n : Nat → Nat) (k : Nat) (g : Value) (i : Nat) : T2 M vs gs n k (some (g, i)) k = obPair M (Tv vs k) g (n k) (n k + i) (M.marks k (n k)) (M.marks k (n k + i)) := by
  unfold T2
  rw [if_neg (Nat.lt_irrefl _), if_pos rfl]
theorem T2_other (vs gs : List Value) (n : Nat → Nat) (k j : Nat) (g g' : Option (Value × Nat)) (h : j ≠ k) : T2 M vs gs n k g j = T2 M vs gs n k g' j := by
  unfold T2
  rw [if_neg h, if_neg h]
theorem T2_next (vs gs : List Value) (n : Nat → Nat) (k j : Nat) (g : Value) (hg : gs.length = k) : T2 M vs (gs ++ [g]) n (k + 1) none j = T2 M vs gs n k (some (g, 6)) j := by
  unfold T2
  by_cases h1 : j < k
  · have e : Tv (gs ++ [g]) j = Tv gs j := by unfold Tv; rw [List.getD_eq_getElem?_getD, List.getD_eq_getElem?_getD, List.getElem?_append_left (by omega)]
    rw [if_pos h1, if_pos (by omega), e]
  · by_cases h2 : j = k
    · subst h2
      have e : Tv (gs ++ [g]) j = g := by unfold Tv; rw [List.getD_eq_getElem?_getD, List.getElem?_append_right (by omega), hg, Nat.sub_self]; rfl
      rw [if_neg h1, if_pos (by omega), if_pos rfl, e]
    · rw [if_neg h1, if_neg (by omega), if_neg h2]
      by_cases h3 : j = k + 1
      · rw [if_pos h3]
      · rw [if_neg h3]
theorem T2_end (vs gs : List Value) (n : Nat → Nat) (k j : Nat) (g : Option (Value × Nat)) (h : j < k) : T2 M vs gs n k g j = obPair M (Tv vs j) (Tv gs j) (n j) (n j + 6) (M.marks j (n j)) (M.marks j (n j + 6)) := by
  unfold T2
  rw [if_pos h]

/-! ### the steps -/
/-- mark i of list k is written -/
theorem AEnv.mark {w0 w : World} {u : Value} {vs : List Value} {n : Nat → Nat} {c : Nat → List Value} {rest : List Ob} {k i g cap N : Nat} (h : AEnv M w0 w u vs (T1 M vs n c k i) rest) (hk : k < vs.length) (hc : (c k).length = n k * M.sz) (hi : i < n k)
    (hv : Tv vs k = .slice (some ⟨g, 0, none⟩) N cap) (m : Nat) : AEnv M w0 ((w.drewN m).setCells g (i * M.sz) (M.el k i)) u vs (T1 M vs n c k (i + 1)) rest := by
  have h0 := Env.row h (k + 1) (by rw [AEnv.at (w0 := w0) (w := w) k hk, T1_self])
  have hN : N = n k := by
    rcases h0.2 with ⟨h1, _⟩ | ⟨g', cap', cur, h1, _⟩
    · rw [hv] at h1; simp at h1
    · rw [hv] at h1; simp at h1; exact h1.2.1
  subst hN
  have h1 : (w.drewN m).ownsRow 0 M.e M.sz (.slice (some ⟨g, 0, none⟩) (n k) cap) (n k) (M.to k (c k) i) := by
    rw [hv] at h0
    exact ownsRow_keep h0 ((Only.refl (fun _ => False) w).draw m) (fun _ _ h => h)
  have h2 := ownsRow_setCells (M.el k i) _ _ (i * M.sz) h1
  rw [M.to_succ k i (n k) (c k) hc hi] at h2
  refine AEnv.set k hk (Env.turnE h (k + 1) (by rw [AEnv.at (w0 := w0) (w := w) k hk, T1_self]) (by rw [hv]; exact h2) ?_) (by rw [T1_self]) (fun j hj hjk => T1_other _ _ _ _ _ _ _ hjk)
  rw [hv]
  exact Only.sets (S := fpv (.slice (some ⟨g, 0, none⟩) (n k) cap)) (.inl rfl) _ _ _ ((Only.refl _ w).draw m)
theorem AEnv.mark0 {w0 w : World} {u : Value} {vs : List Value} {n : Nat → Nat} {c : Nat → List Value} {rest : List Ob} {k i g cap N : Nat} (h : AEnv M w0 w u vs (T1 M vs n c k i) rest) (hk : k < vs.length) (hc : (c k).length = n k * M.sz) (hi : i < n k)
    (hv : Tv vs k = .slice (some ⟨g, 0, none⟩) N cap) : AEnv M w0 (w.setCells g (i * M.sz) (M.el k i)) u vs (T1 M vs n c k (i + 1)) rest := by
  have := AEnv.mark h hk hc hi hv 0
  rwa [World.drewN_zero] at this
theorem AEnv.next {w0 w : World} {u : Value} {vs : List Value} {n : Nat → Nat} {c : Nat → List Value} {rest : List Ob} {k : Nat} (h : AEnv M w0 w u vs (T1 M vs n c k (n k)) rest) (hc : (c k).length = n k * M.sz) : AEnv M w0 w u vs (T1 M vs n c (k + 1) 0) rest :=
  h.same fun j _ => T1_next vs n c k j hc
/-- phase two's world: the row of what the lists were gone on with stands behind the rest -/
def PEnv (M : Mkr) (w0 w : World) (u : Value) (vs : List Value) (n : Nat → Nat) (rest : List Ob) (k : Nat) (g : Option (Value × Nat)) (gsv : Value) (gs : List Value) : Prop :=
  AEnv M w0 w u vs (T2 M vs gs n k g) (rest ++ [obE M.st 1 gsv gs.length gs])
theorem PEnv.start {w0 w : World} {u : Value} {vs : List Value} {n : Nat → Nat} {c : Nat → List Value} {rest : List Ob} (h : AEnv M w0 w u vs (T1 M vs n c vs.length 0) rest) : PEnv M w0 w u vs n rest 0 none (.slice none 0 0) [] :=
  (h.same fun j hj => T1_T2 vs n c j hj).pushRest (F' := fpv (.slice none 0 0)) (obE M.st 1 (.slice none 0 0) 0 []) ⟨World.ownsRow_nil w 0 _ 1, rfl⟩ (Below.refl _ _) (fun x hx => by simp [fpv, Value.ownBlock] at hx)
theorem PEnv.row {w0 w : World} {u : Value} {vs : List Value} {n : Nat → Nat} {rest : List Ob} {k : Nat} {g : Option (Value × Nat)} {gsv : Value} {gs : List Value} (h : PEnv M w0 w u vs n rest k g gsv gs) : w.ownsRow 0 M.st 1 u vs.length vs := AEnv.row h
theorem PEnv.gs {w0 w : World} {u : Value} {vs : List Value} {n : Nat → Nat} {rest : List Ob} {k : Nat} {g : Option (Value × Nat)} {gsv : Value} {gs : List Value} (h : PEnv M w0 w u vs n rest k g gsv gs) : w.ownsRow 0 M.st 1 gsv gs.length gs :=
  Env.row h (vs.length + 1 + rest.length) (by rw [AEnv.atRest (w0 := w0) (w := w), List.getElem?_append_right (Nat.le_refl _), Nat.sub_self]; rfl)
theorem PEnv.below {w0 w w' : World} {u : Value} {vs : List Value} {n : Nat → Nat} {rest : List Ob} {k : Nat} {g : Option (Value × Nat)} {gsv : Value} {gs : List Value} (h : PEnv M w0 w u vs n rest k g gsv gs) (hb : Below w.heap.size w w') : PEnv M w0 w' u vs n rest k g gsv gs := AEnv.below h hb
/-- list k is taken -/
theorem PEnv.take {w0 w : World} {u : Value} {vs : List Value} {n : Nat → Nat} {rest : List Ob} {k : Nat} {gsv : Value} {gs : List Value} (h : PEnv M w0 w u vs n rest k none gsv gs) (hk : k < vs.length) : PEnv M w0 w u vs n rest k (some (Tv vs k, 0)) gsv gs := by
  have hi : (obE M.st 1 u vs.length vs :: ((List.range vs.length).map (T2 M vs gs n k none) ++ (rest ++ [obE M.st 1 gsv gs.length gs])))[k + 1]? = some (obE M.e M.sz (Tv vs k) (n k) (M.marks k (n k))) := by
    rw [AEnv.at (w0 := w0) (w := w) k hk, T2_self]
  obtain ⟨F, h1, _, _, h4⟩ := Env.get h (k + 1) hi
  obtain ⟨h1, rfl⟩ := h1
  refine AEnv.set k hk (h4 w (fun x => fpv (Tv vs k) x ∨ fpv (Tv vs k) x) (obPair M (Tv vs k) (Tv vs k) (n k) (n k) (M.marks k (n k)) (M.marks k (n k))) ⟨h1, Sl.of_own h1 (M.marks_one _ _), fun x hx => (World.ownsRow.lt h1 x hx).2, rfl⟩ (Only.refl _ _) (fun x hx => .inl (by rcases hx with hx | hx <;> exact hx))) ?_ (fun j hj hjk => T2_other _ _ _ _ _ _ _ hjk)
  rw [T2_some]
  rfl
theorem PEnv.hd {w0 w : World} {u : Value} {vs : List Value} {n : Nat → Nat} {rest : List Ob} {k : Nat} {gsv : Value} {gs : List Value} (h : PEnv M w0 w u vs n rest k none gsv gs) (hk : k < vs.length) : Hd (Tv vs k) (n k) :=
  Hd.of (Env.row h (k + 1) (by rw [AEnv.at (w0 := w0) (w := w) k hk, T2_self]))
/-- the row that is gone on with -/
theorem PEnv.gone {w0 w : World} {u : Value} {vs : List Value} {n : Nat → Nat} {rest : List Ob} {k : Nat} {gsv : Value} {gs : List Value} {g : Value} {i : Nat} (h : PEnv M w0 w u vs n rest k (some (g, i)) gsv gs) (hk : k < vs.length) : w.ownsRow 0 M.e M.sz g (n k + i) (M.marks k (n k + i)) := by
  obtain ⟨F, h1, _⟩ := Env.get h (k + 1) (by rw [AEnv.at (w0 := w0) (w := w) k hk, T2_some])
  exact h1.1
theorem PEnv.more {w0 w w2 : World} {u : Value} {vs : List Value} {n : Nat → Nat} {rest : List Ob} {k : Nat} {gsv : Value} {gs : List Value} {g g' : Value} {i : Nat} (h : PEnv M w0 w u vs n rest k (some (g, i)) gsv gs) (hk : k < vs.length) (h0 : Hd (Tv vs k) (n k))
    (hown : w2.ownsRow 0 M.e M.sz g' (n k + i + 1) (M.marks k (n k + i) ++ M.el k (n k + i))) (hgrow : w.grownBy w2 g.ownBlock) (hat : g'.ownBlock = g.ownBlock ∨ g'.ownBlock = some w.heap.size ∧ ∀ b, b < w.heap.size → w2.heap[b]? = w.heap[b]?) :
    PEnv M w0 w2 u vs n rest k (some (g', i + 1)) gsv gs := by
  rw [← M.marks_succ] at hown
  refine AEnv.set k hk (pair_go M h (k + 1) (by omega) (by rw [AEnv.at (w0 := w0) (w := w) k hk, T2_some]) h0 hown hgrow hat) ?_ (fun j hj hjk => T2_other _ _ _ _ _ _ _ hjk)
  rw [T2_some]
  rfl
/-- it is put behind the others -/
theorem PEnv.kept {w0 w w2 : World} {u : Value} {vs : List Value} {n : Nat → Nat} {rest : List Ob} {k : Nat} {gsv gsv' : Value} {gs : List Value} {g : Value} (h : PEnv M w0 w u vs n rest k (some (g, 6)) gsv gs) (hgs : gs.length = k)
    (hown : w2.ownsRow 0 M.st 1 gsv' (gs.length + 1) (gs ++ [g])) (hgrow : w.grownBy w2 gsv.ownBlock) (hat : gsv'.ownBlock = gsv.ownBlock ∨ gsv'.ownBlock = some w.heap.size) : PEnv M w0 w2 u vs n rest (k + 1) none gsv' (gs ++ [g]) := by
  have hi : (obE M.st 1 u vs.length vs :: ((List.range vs.length).map (T2 M vs gs n k (some (g, 6))) ++ (rest ++ [obE M.st 1 gsv gs.length gs])))[vs.length + 1 + rest.length]? = some (obE M.st 1 gsv gs.length gs) := by
    rw [AEnv.atRest (w0 := w0) (w := w), List.getElem?_append_right (Nat.le_refl _), Nat.sub_self]; rfl
  obtain ⟨F, h1, _, _, h4⟩ := Env.get h _ hi
  obtain ⟨h1, rfl⟩ := h1
  have h5 := h4 w2 (fpv gsv') (obE M.st 1 gsv' (gs.length + 1) (gs ++ [g])) ⟨hown, rfl⟩ ((Only.refl (fpv gsv) w).grown hgrow (fun k hk => .inl hk)) (fun x hx => by
    have hx' : gsv'.ownBlock = some x := hx
    rcases hat with hat | hat
    · exact .inl (by show gsv.ownBlock = some x; rw [← hat]; exact hx')
    · rw [hat] at hx'
      injection hx' with hx'
      exact .inr (by omega))
  have e : (obE M.st 1 u vs.length vs :: ((List.range vs.length).map (T2 M vs gs n k (some (g, 6))) ++ (rest ++ [obE M.st 1 gsv gs.length gs]))).set (vs.length + 1 + rest.length) (obE M.st 1 gsv' (gs.length + 1) (gs ++ [g]))
      = obE M.st 1 u vs.length vs :: ((List.range vs.length).map (T2 M vs gs n k (some (g, 6))) ++ (rest ++ [obE M.st 1 gsv' (gs.length + 1) (gs ++ [g])])) := by
    rw [show vs.length + 1 + rest.length = (vs.length + rest.length) + 1 from by omega, List.set_cons_succ, List.set_append_right _ _ (by simp), List.set_append_right _ _ (by simp)]
    simp
  rw [e] at h5
  unfold PEnv
  rw [List.length_append]
  exact AEnv.same h5 fun j hj => T2_next vs gs n k j g hgs
/-- what is read in the end: list k, and what it was gone on with -/
theorem PEnv.rows {w0 w : World} {u : Value} {vs : List Value} {n : Nat → Nat} {rest : List Ob} {gsv : Value} {gs : List Value} (h : PEnv M w0 w u vs n rest vs.length none gsv gs) (k : Nat) (hk : k < vs.length) :
    w.ownsRow 0 M.e M.sz (Tv gs k) (n k + 6) (M.marks k (n k + 6)) ∧ Sl w M.sz (Tv vs k) (n k) (M.marks k (n k)) := by
  obtain ⟨F, h1, _⟩ := Env.get h (k + 1) (by rw [AEnv.at (w0 := w0) (w := w) k hk, T2_end _ _ _ _ _ _ hk])
  exact ⟨h1.1, h1.2.1⟩
theorem PEnv.drop {w0 w : World} {u : Value} {vs : List Value} {n : Nat → Nat} {rest : List Ob} {k : Nat} {g : Option (Value × Nat)} {gsv : Value} {gs : List Value} (h : PEnv M w0 w u vs n rest k g gsv gs) : Env w0 w rest :=
  AEnv.drop h rest 0 fun j ob hj => by rw [Nat.add_zero, List.getElem?_append_left (List.getElem?_eq_some_iff.1 hj).1]; exact hj
end
end Go.Proofs.Ytideobdggdmeiaa
