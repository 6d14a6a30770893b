/- What the laws on ciphers begin with: rising bytes, the document's examples, what is none. -/
import Derived.Test.YtpampcokonicfaaRows
import Derived.Deep.AppendLies
import Derived.Deep.DeepCutAuto
import Derived.Deep.CutBlock
import Derived.Test.YtpampcokonicfaaQCmacScript0
import Derived.Test.YtpampcokonicfaaQCmacScript1
import Derived.Test.YtpampcokonicfaaQCmacScript2
import Derived.Test.YtpampcokonicfaaQCmacScript3
import Derived.Test.YtpampcokonicfaaQCmacScript7
import Derived.Test.YtpampcokonicfaaQCmacScript9
/- Lists that were told are marked, gone on with, looked at (the kit's Apart..), whatever their elements: what lies where at each point. No program in sight. -/
namespace Go.Proofs.Ytpampcokonicfaa.AX
open Go.RowKit
set_option maxRecDepth 100000
set_option linter.unusedVariables false

/-- the elements of such lists: their slices' type, their type, how many cells they have, mark i of list k -/
structure Mkr where
  st : TypeId
  e : TypeId
  sz : Nat
  el : Nat → Nat → List Value
  pos : 0 < sz
  len : ∀ k i, (el k i).length = sz
  one : ∀ k i, ∀ u ∈ el k i, u.oneCell' = true

/-- cells are written from o on -/
def putAt : List Value → Nat → List Value → List Value
  | xs, _, [] => xs
  | xs, o, v :: r => putAt (xs.set o v) (o + 1) r
theorem putAt_app : ∀ (vs a b : List Value), vs.length ≤ b.length → putAt (a ++ b) a.length vs = a ++ vs ++ b.drop vs.length
  | [], a, b, _ => by simp [putAt]
  | v :: vs, a, [], h => by simp at h
  | v :: vs, a, x :: b, h => by
    have h1 : (a ++ x :: b).set a.length v = (a ++ [v]) ++ b := by rw [List.set_append_right _ _ (Nat.le_refl _), Nat.sub_self]; simp
    have h2 := putAt_app vs (a ++ [v]) b (by simpa using h)
    rw [putAt, h1, show a.length + 1 = (a ++ [v]).length from by simp, h2]
    simp
theorem ownsRow_setCells {base : Nat} {e : TypeId} {size g n cap : Nat} : ∀ (vs : List Value) (w : World) (xs : List Value) (o : Nat), w.ownsRow base e size (.slice (some ⟨g, 0, none⟩) n cap) n xs →
    (w.setCells g o vs).ownsRow base e size (.slice (some ⟨g, 0, none⟩) n cap) n (putAt xs o vs)
  | [], w, xs, o, h => h
  | v :: vs, w, xs, o, h => by
    rw [World.setCells, putAt]
    exact ownsRow_setCells vs _ _ _ (World.ownsRow.stored h o v).1
theorem Only.sets {S : Nat → Prop} {a : World} {g : Nat} (hp : S g ∨ a.heap.size ≤ g) : ∀ (vs : List Value) (o : Nat) (b : World), Only S a b → Only S a (b.setCells g o vs)
  | [], o, b, h => h
  | v :: vs, o, b, h => by
    rw [World.setCells]
    exact Only.sets hp vs _ _ (h.set hp v)

section
variable (M : Mkr)
def Mkr.marks (k n : Nat) : List Value := (List.range n).flatMap (M.el k)
theorem Mkr.marks_len (k n : Nat) : (M.marks k n).length = n * M.sz := by
  unfold Mkr.marks
  induction n with
  | zero => simp
  | succ n ih => rw [List.range_succ, List.flatMap_append, List.length_append, ih]; simp [M.len]; rw [Nat.add_mul]; omega
theorem Mkr.marks_succ (k n : Nat) : M.marks k (n + 1) = M.marks k n ++ M.el k n := by
  unfold Mkr.marks
  rw [List.range_succ, List.flatMap_append]
  simp
theorem Mkr.marks_get (k c : Nat) (hc : c < M.sz) : ∀ n i, i < n → (M.marks k n)[i * M.sz + c]? = (M.el k i)[c]?
  | 0, i, h => by omega
  | n + 1, i, h => by
    rw [M.marks_succ]
    by_cases e : i = n
    · subst e
      rw [List.getElem?_append_right (by rw [M.marks_len]; omega), M.marks_len, show i * M.sz + c - i * M.sz = c from by omega]
    · have : i * M.sz + c < n * M.sz := by
        have := Nat.mul_le_mul_right M.sz (show i + 1 ≤ n by omega)
        rw [Nat.add_mul] at this
        omega
      rw [List.getElem?_append_left (by rw [M.marks_len]; exact this)]
      exact Mkr.marks_get k c hc n i (by omega)
theorem Mkr.marks_one (k n : Nat) : ∀ u ∈ M.marks k n, u.oneCell' = true := by
  intro u hu
  unfold Mkr.marks at hu
  obtain ⟨i, _, h⟩ := List.mem_flatMap.1 hu
  exact M.one k i u h
/-- the first i elements are marked -/
def Mkr.to (k : Nat) (cs : List Value) (i : Nat) : List Value := M.marks k i ++ cs.drop (i * M.sz)
theorem Mkr.to_zero (k : Nat) (cs : List Value) : M.to k cs 0 = cs := by simp [Mkr.to, Mkr.marks]
theorem Mkr.to_end (k n : Nat) (cs : List Value) (h : cs.length = n * M.sz) : M.to k cs n = M.marks k n := by simp [Mkr.to, ← h]
theorem Mkr.to_len (k i n : Nat) (cs : List Value) (h : cs.length = n * M.sz) (hi : i ≤ n) : (M.to k cs i).length = n * M.sz := by
  have := Nat.mul_le_mul_right M.sz hi
  simp [Mkr.to, M.marks_len, h]
  omega
theorem Mkr.to_succ (k i n : Nat) (cs : List Value) (h : cs.length = n * M.sz) (hi : i < n) : putAt (M.to k cs i) (i * M.sz) (M.el k i) = M.to k cs (i + 1) := by
  have := Nat.mul_le_mul_right M.sz (show i + 1 ≤ n by omega)
  rw [Nat.add_mul] at this
  unfold Mkr.to
  have h1 := putAt_app (M.el k i) (M.marks k i) (cs.drop (i * M.sz)) (by rw [M.len, List.length_drop]; omega)
  rw [M.marks_len] at h1
  rw [h1, M.marks_succ, List.drop_drop, M.len, Nat.add_mul, Nat.one_mul]

/-- a slice's header -/
def Hd (v : Value) (n : Nat) : Prop := (v = .slice none 0 0 ∧ n = 0) ∨ ∃ b cap, v = .slice (some ⟨b, 0, none⟩) n cap
theorem Hd.of {w : World} {base : Nat} {size n : Nat} {v : Value} {xs : List Value} (h : OwnsX w base size v n xs) : Hd v n := by
  rcases h.hd with h2 | ⟨g, cap, rfl⟩
  · exact .inl h2
  · exact .inr ⟨g, cap, rfl⟩
/-- a list that was told, and what it was gone on with: both hold marks; they may share a block -/
def obPair (v g : Value) (n m : Nat) (cv cg : List Value) : Ob where
  at' w F := OwnsX w 0 M.sz g m cg ∧ Sl w M.sz v n cv ∧ (∀ x, fpv v x → x < w.heap.size) ∧ F = fun x => fpv v x ∨ fpv g x
  keep := fun {w w' F S} h ho hd => by
    obtain ⟨h1, h2, h3, rfl⟩ := h
    exact ⟨OwnsX.keep h1 ho (fun x hx => hd x (.inr hx)), h2.only ho (fun x hx => hd x (.inl hx)), fun x hx => Nat.lt_of_lt_of_le (h3 x hx) ho.size, rfl⟩
  lt := fun {w F} h x hx => by
    obtain ⟨h1, h2, h3, rfl⟩ := h
    rcases hx with hx | hx
    · exact h3 x hx
    · exact OwnsX.lt h1 x hx
theorem pair_append {w w2 : World} {v g g' : Value} {k n m : Nat} (hnm : n ≤ m) (hv : Sl w M.sz v n (M.marks k n)) (h0 : Hd v n) (hown : OwnsX w2 0 M.sz g' (m + 1) (M.marks k (m + 1))) (hgrow : w.grownBy w2 g.ownBlock)
    (hat : g'.ownBlock = g.ownBlock ∨ g'.ownBlock = some w.heap.size ∧ ∀ b, b < w.heap.size → w2.heap[b]? = w.heap[b]?) : Sl w2 M.sz v n (M.marks k n) := by
  by_cases hsame : g'.ownBlock = g.ownBlock ∧ v.ownBlock = g.ownBlock
  · obtain ⟨ao, cap, hvv, h1, h2, h3, h4⟩ := hv.form
    refine ⟨hv.len, hv.one, ao, cap, hvv, h1, h2, h3, fun j u hj => ?_⟩
    obtain ⟨b, off, hao, hc⟩ := h4 j u hj
    refine ⟨b, off, hao, ?_⟩
    have hjl : j < n * M.sz := by
      have := (List.getElem?_eq_some_iff.1 hj).1
      rwa [M.marks_len] at this
    have hjm : j < (m + 1) * M.sz := Nat.lt_of_lt_of_le hjl (Nat.mul_le_mul_right _ (by omega))
    obtain ⟨gg, gcap, hgf, _⟩ := OwnsX.form hown (by omega)
    have hb : gg = b := by
      have e1 : g'.ownBlock = v.ownBlock := hsame.1.trans hsame.2.symm
      rw [hgf, hvv, hao] at e1
      simpa [Value.ownBlock] using e1
    subst hb
    have hoff : off = 0 := by
      rcases h0 with ⟨h0, _⟩ | ⟨b2, cap2, h0⟩
      · rw [hvv, hao] at h0; simp at h0
      · rw [hvv, hao] at h0; simp at h0; exact h0.1.2
    subst hoff
    subst hgf
    have hsp : M.marks k (m + 1) = M.marks k n ++ (M.marks k (m + 1)).drop (n * M.sz) := by
      have e : ∀ d, (M.marks k (n + d)).take (n * M.sz) = M.marks k n := by
        intro d
        induction d with
        | zero => rw [Nat.add_zero, ← M.marks_len k n, List.take_length]
        | succ d ih =>
          rw [← Nat.add_assoc, M.marks_succ, List.take_append_of_le_length (by rw [M.marks_len]; exact Nat.mul_le_mul_right _ (by omega)), ih]
      have := e (m + 1 - n)
      rw [show n + (m + 1 - n) = m + 1 from by omega] at this
      conv => lhs; rw [← List.take_append_drop (n * M.sz) (M.marks k (m + 1)), this]
    rw [Nat.zero_add, OwnsX.cellAt hown j hjm, hsp, List.getElem?_append_left (by rw [M.marks_len]; exact hjl)]
    exact hj
  · refine hv.keep fun b hb hlt => ?_
    rcases hat with hat | ⟨_, hat⟩
    · refine hgrow.block b hlt fun e => hsame ⟨hat, hb.trans e⟩
    · exact hat b hlt
theorem pair_go {w0 w w2 : World} {obs : List Ob} (h : Env w0 w obs) (i : Nat) {v g g' : Value} {k n m : Nat} (hnm : n ≤ m) (hi : obs[i]? = some (obPair M v g n m (M.marks k n) (M.marks k m))) (h0 : Hd v n)
    (hown : OwnsX w2 0 M.sz g' (m + 1) (M.marks k (m + 1))) (hgrow : w.grownBy w2 g.ownBlock) (hat : g'.ownBlock = g.ownBlock ∨ g'.ownBlock = some w.heap.size ∧ ∀ b, b < w.heap.size → w2.heap[b]? = w.heap[b]?) :
    Env w0 w2 (obs.set i (obPair M v g' n (m + 1) (M.marks k n) (M.marks k (m + 1)))) := by
  obtain ⟨F, h1, _, _, h4⟩ := h.get i hi
  obtain ⟨h1, h2, h3, rfl⟩ := h1
  refine h4 w2 (fun x => fpv v x ∨ fpv g' x) (obPair M v g' n (m + 1) (M.marks k n) (M.marks k (m + 1))) ⟨hown, pair_append M hnm h2 h0 hown hgrow hat, fun x hx => Nat.lt_of_lt_of_le (h3 x hx) hgrow.size, rfl⟩
    ((Only.refl (fun x => fpv v x ∨ fpv g x) w).grown hgrow (fun k hk => .inl (.inr hk))) (fun x hx => ?_)
  rcases hx with hx | hx
  · exact .inl (.inl hx)
  · have hx' : g'.ownBlock = some x := hx
    rcases hat with hat | ⟨hat, _⟩
    · exact .inl (.inr (by show g.ownBlock = some x; rw [← hat]; exact hx'))
    · rw [hat] at hx'
      injection hx' with hx'
      exact .inr (by omega)

/-! ### the world: a slice of slices, its lists, the rest -/
def Tv (vs : List Value) (j : Nat) : Value := vs.getD j (.slice none 0 0)
theorem Tv_get {vs : List Value} {j : Nat} (h : j < vs.length) : vs[j]? = some (Tv vs j) := by
  unfold Tv
  rw [List.getD_eq_getElem?_getD, List.getElem?_eq_getElem h]
  rfl
def AEnv (w0 w : World) (u : Value) (vs : List Value) (T : Nat → Ob) (rest : List Ob) : Prop := Env w0 w (obE M.st 1 u vs.length vs :: ((List.range vs.length).map T ++ rest))
variable {M}
theorem AEnv.at {w0 w : World} {u : Value} {vs : List Value} {T : Nat → Ob} {rest : List Ob} (k : Nat) (hk : k < vs.length) : (obE M.st 1 u vs.length vs :: ((List.range vs.length).map T ++ rest))[k + 1]? = some (T k) := by
  rw [List.getElem?_cons_succ, List.getElem?_append_left (by simpa using hk), List.getElem?_map, List.getElem?_range hk]
  rfl
theorem AEnv.atRest {w0 w : World} {u : Value} {vs : List Value} {T : Nat → Ob} {rest : List Ob} (k : Nat) : (obE M.st 1 u vs.length vs :: ((List.range vs.length).map T ++ rest))[vs.length + 1 + k]? = rest[k]? := by
  rw [show vs.length + 1 + k = (vs.length + k) + 1 from by omega, List.getElem?_cons_succ, List.getElem?_append_right (by simp)]
  congr 1
  simp
theorem AEnv.row {w0 w : World} {u : Value} {vs : List Value} {T : Nat → Ob} {rest : List Ob} (h : AEnv M w0 w u vs T rest) : w.ownsRow 0 M.st 1 u vs.length vs := Env.row h 0 rfl
theorem AEnv.set {w0 w : World} {u : Value} {vs : List Value} {T T' : Nat → Ob} {rest : List Ob} (k : Nat) (hk : k < vs.length) {ob : Ob} (h : Env w0 w ((obE M.st 1 u vs.length vs :: ((List.range vs.length).map T ++ rest)).set (k + 1) ob)) (h1 : T' k = ob) (h2 : ∀ j, j < vs.length → j ≠ k → T' j = T j) : AEnv M w0 w u vs T' rest := by
  have e : (obE M.st 1 u vs.length vs :: ((List.range vs.length).map T ++ rest)).set (k + 1) ob = obE M.st 1 u vs.length vs :: ((List.range vs.length).map T' ++ rest) := by
    rw [List.set_cons_succ, List.set_append_left _ _ (by simpa using hk)]
    congr 2
    apply List.ext_getElem?
    intro j
    by_cases hj : j < vs.length
    · by_cases ejk : k = j
      · subst ejk
        rw [List.getElem?_set_self (by simpa using hj), List.getElem?_map, List.getElem?_range hj, ← h1]
        rfl
      · rw [List.getElem?_set_ne ejk, List.getElem?_map, List.getElem?_map, List.getElem?_range hj]
        simp only [Option.map_some]
        rw [h2 j hj (fun e => ejk e.symm)]
    · rw [List.getElem?_eq_none (by simp; omega), List.getElem?_eq_none (by simp; omega)]
  rw [e] at h
  exact h
theorem AEnv.same {w0 w : World} {u : Value} {vs : List Value} {T T' : Nat → Ob} {rest : List Ob} (h : AEnv M w0 w u vs T rest) (h2 : ∀ j, j < vs.length → T' j = T j) : AEnv M w0 w u vs T' rest := by
  have e : (List.range vs.length).map T' = (List.range vs.length).map T := List.map_congr_left fun j hj => h2 j (List.mem_range.1 hj)
  unfold AEnv
  rw [e]
  exact h
theorem AEnv.below {w0 w w' : World} {u : Value} {vs : List Value} {T : Nat → Ob} {rest : List Ob} (h : AEnv M w0 w u vs T rest) (hb : Below w.heap.size w w') : AEnv M w0 w' u vs T rest := Env.below h hb
theorem AEnv.drop {w0 w : World} {u : Value} {vs : List Value} {T : Nat → Ob} {rest : List Ob} (h : AEnv M w0 w u vs T rest) (r : List Ob) (n : Nat) (hr : ∀ (j : Nat) (ob : Ob), r[j]? = some ob → rest[j + n]? = some ob) : Env w0 w r :=
  Env.pick h (fun j => vs.length + 1 + (j + n)) (fun i j _ _ he => by simpa using he) (fun j ob hj => (AEnv.atRest (w0 := w0) (w := w) (j + n)).trans (hr j ob hj))
theorem AEnv.pushRest {w0 w w' : World} {u : Value} {vs : List Value} {T : Nat → Ob} {rest : List Ob} (h : AEnv M w0 w u vs T rest) {F' : Nat → Prop} (ob : Ob) (hat : ob.at' w' F') (hb : Below w.heap.size w w') (hn : ∀ x, F' x → w.heap.size ≤ x) : AEnv M w0 w' u vs T (rest ++ [ob]) := by
  have := Env.push h ob hat hb hn
  unfold AEnv
  simpa using this

/-- such a world is picked out of a law's world -/
theorem AEnv.of {w0 w : World} {obs : List Ob} (h : Env w0 w obs) {u : Value} {vs : List Value} {T : Nat → Ob} {rest : List Ob} (F : Nat → Nat) (hinj : ∀ i j, i < vs.length + 1 + rest.length → j < vs.length + 1 + rest.length → F i = F j → i = j)
    (h0 : obs[F 0]? = some (obE M.st 1 u vs.length vs)) (h1 : ∀ j, j < vs.length → obs[F (j + 1)]? = some (T j)) (h2 : ∀ (j : Nat) (ob : Ob), rest[j]? = some ob → obs[F (vs.length + 1 + j)]? = some ob) : AEnv M w0 w u vs T rest := by
  refine Env.pick h F (fun i j hi hj he => hinj i j (by simpa [Nat.add_assoc, Nat.add_comm, Nat.add_left_comm] using hi) (by simpa [Nat.add_assoc, Nat.add_comm, Nat.add_left_comm] using hj) he) (fun j ob hj => ?_)
  by_cases hj0 : j = 0
  · subst hj0
    rw [h0]
    simpa using hj
  · obtain ⟨j, rfl⟩ : ∃ i, j = i + 1 := ⟨j - 1, by omega⟩
    by_cases hlt : j < vs.length
    · rw [AEnv.at (w0 := w0) (w := w) j hlt] at hj
      rw [h1 j hlt]
      exact hj
    · obtain ⟨i, rfl⟩ : ∃ i, j = vs.length + i := ⟨j - vs.length, by omega⟩
      rw [show vs.length + i + 1 = vs.length + 1 + i from by omega, AEnv.atRest (w0 := w0) (w := w)] at hj
      rw [show vs.length + i + 1 = vs.length + 1 + i from by omega]
      exact h2 i ob hj
/-- .. behind a literal of some of the things: thing F j is list j -/
theorem AEnv.lit {w0 w : World} {obs : List Ob} (h : Env w0 w obs) {vs : List Value} {T : Nat → Ob} {rest : List Ob} (g : Nat) (hg : g = w.heap.size) (F : Nat → Nat) (hinj : ∀ i j, i < vs.length + rest.length → j < vs.length + rest.length → F i = F j → i = j) (hl : vs.length ≤ 900000)
    (h1 : ∀ j, j < vs.length → obs[F j]? = some (T j)) (h2 : ∀ (j : Nat) (ob : Ob), rest[j]? = some ob → obs[F (vs.length + j)]? = some ob) : AEnv M w0 (w.alloc (.cells vs.toArray M.st)) (.slice (some ⟨g, 0, none⟩) vs.length vs.length) vs T rest := by
  subst hg
  have hrow : (w.alloc (.cells vs.toArray M.st)).ownsRow 0 M.st 1 (.slice (some ⟨w.heap.size, 0, none⟩) vs.length vs.length) vs.length vs := by
    have := World.ownsRow_lit (base := 0) (e := M.st) (size := 1) w vs.toArray vs.length (Nat.zero_le _) (by unfold maxLen; omega) (by simp)
    simpa using this
  have hp := Env.pushE h hrow ((Below.refl w.heap.size w).alloc (Nat.le_refl _) _) (fun x hx => by
    have hx' : w.heap.size = x := by simpa [fpv, Value.ownBlock] using hx
    omega)
  have hF : ∀ i, i < vs.length + rest.length → F i < obs.length := by
    intro i hi
    by_cases hlt : i < vs.length
    · exact (List.getElem?_eq_some_iff.1 (h1 i hlt)).1
    · obtain ⟨j, rfl⟩ : ∃ j, i = vs.length + j := ⟨i - vs.length, by omega⟩
      have hj : j < rest.length := by omega
      exact (List.getElem?_eq_some_iff.1 (h2 j _ (List.getElem?_eq_getElem hj))).1
  refine AEnv.of hp (fun i => if i = 0 then obs.length else F (i - 1)) (fun i j hi hj he => ?_) (by simp) (fun j hj => ?_) (fun j ob hj => ?_)
  · by_cases hi0 : i = 0
    · by_cases hj0 : j = 0
      · omega
      · simp only [hi0, if_pos, if_neg hj0] at he
        have := hF (j - 1) (by omega)
        omega
    · by_cases hj0 : j = 0
      · simp only [hj0, if_pos, if_neg hi0] at he
        have := hF (i - 1) (by omega)
        omega
      · simp only [if_neg hi0, if_neg hj0] at he
        have := hinj (i - 1) (j - 1) (by omega) (by omega) he
        omega
  · rw [if_neg (by omega), Nat.add_sub_cancel, List.getElem?_append_left (hF j (by omega))]
    exact h1 j hj
  · have hlt : j < rest.length := (List.getElem?_eq_some_iff.1 hj).1
    rw [if_neg (by omega), show vs.length + 1 + j - 1 = vs.length + j from by omega, List.getElem?_append_left (hF _ (by omega))]
    exact h2 j ob hj

/-! ### phase one: lists before k are marked, list k's first i elements -/
variable (M)
def T1 (vs : List Value) (n : Nat → Nat) (c : Nat → List Value) (k i j : Nat) : Ob :=
  obX M.sz (Tv vs j) (n j) (if j < k then M.marks j (n j) else if j = k then M.to j (c j) i else c j)
/-- phase two: lists before k are pairs, list k has been gone on with by i, if m -/
def T2 (vs gs : List Value) (n : Nat → Nat) (k : Nat) (g : Option (Value × Nat)) (j : Nat) : Ob :=
  if j < k then obPair M (Tv vs j) (Tv gs j) (n j) (n j + 6) (M.marks j (n j)) (M.marks j (n j + 6))
  else if j = k then match g with
    | some (g, i) => obPair M (Tv vs j) g (n j) (n j + i) (M.marks j (n j)) (M.marks j (n j + i))
    | none => obX M.sz (Tv vs j) (n j) (M.marks j (n j))
  else obX M.sz (Tv vs j) (n j) (M.marks j (n j))
variable {M}
theorem T1_zero (vs : List Value) (n : Nat → Nat) (c : Nat → List Value) (j : Nat) : T1 M vs n c 0 0 j = obX M.sz (Tv vs j) (n j) (c j) := by
  unfold T1
  rw [if_neg (by omega)]
  by_cases e : j = 0
  · rw [if_pos e, M.to_zero]
  · rw [if_neg e]
theorem T1_next (vs : List Value) (n : Nat → Nat) (c : Nat → List Value) (k j : Nat) (hc : (c k).length = n k * M.sz) : T1 M vs n c (k + 1) 0 j = T1 M vs n c k (n k) j := by
  unfold T1
  by_cases h1 : j < k
  · rw [if_pos h1, if_pos (by omega)]
  · by_cases h2 : j = k
    · subst h2
      rw [if_neg h1, if_pos (by omega), if_pos rfl, M.to_end _ _ _ hc]
    · rw [if_neg h1, if_neg (by omega), if_neg h2]
      by_cases h3 : j = k + 1
      · subst h3; rw [if_pos rfl, M.to_zero]
      · rw [if_neg h3]
theorem T1_self (vs : List Value) (n : Nat → Nat) (c : Nat → List Value) (k i : Nat) : T1 M vs n c k i k = obX M.sz (Tv vs k) (n k) (M.to k (c k) i) := by
  unfold T1
  rw [if_neg (Nat.lt_irrefl _), if_pos rfl]
theorem T1_other (vs : List Value) (n : Nat → Nat) (c : Nat → List Value) (k i i' j : Nat) (h : j ≠ k) : T1 M vs n c k i j = T1 M vs n c k i' j := by
  unfold T1
  rw [if_neg h, if_neg h]
theorem T1_T2 (vs : List Value) (n : Nat → Nat) (c : Nat → List Value) (j : Nat) (h : j < vs.length) : T2 M vs [] n 0 none j = T1 M vs n c vs.length 0 j := by
  unfold T1 T2
  rw [if_neg (by omega), if_pos h]
  by_cases e : j = 0
  · rw [if_pos e]
  · rw [if_neg e]
theorem T2_self (vs gs : List Value) (n : Nat → Nat) (k : Nat) : T2 M vs gs n k none k = obX M.sz (Tv vs k) (n k) (M.marks k (n k)) := by
  unfold T2
  rw [if_neg (Nat.lt_irrefl _), if_pos rfl]
theorem T2_some (vs gs : List Value) (n : Nat → Nat) (k : Nat) (g : Value) (i : Nat) : T2 M vs gs n k (some (g, i)) k = obPair M (Tv vs k) g (n k) (n k + i) (M.marks k (n k)) (M.marks k (n k + i)) := by
  unfold T2
  rw [if_neg (Nat.lt_irrefl _), if_pos rfl]
theorem T2_other (vs gs : List Value) (n : Nat → Nat) (k j : Nat) (g g' : Option (Value × Nat)) (h : j ≠ k) : T2 M vs gs n k g j = T2 M vs gs n k g' j := by
  unfold T2
  rw [if_neg h, if_neg h]
theorem T2_next (vs gs : List Value) (n : Nat → Nat) (k j : Nat) (g : Value) (hg : gs.length = k) : T2 M vs (gs ++ [g]) n (k + 1) none j = T2 M vs gs n k (some (g, 6)) j := by
  unfold T2
  by_cases h1 : j < k
  · have e : Tv (gs ++ [g]) j = Tv gs j := by unfold Tv; rw [List.getD_eq_getElem?_getD, List.getD_eq_getElem?_getD, List.getElem?_append_left (by omega)]
    rw [if_pos h1, if_pos (by omega), e]
  · by_cases h2 : j = k
    · subst h2
      have e : Tv (gs ++ [g]) j = g := by unfold Tv; rw [List.getD_eq_getElem?_getD, List.getElem?_append_right (by omega), hg, Nat.sub_self]; rfl
      rw [if_neg h1, if_pos (by omega), if_pos rfl, e]
    · rw [if_neg h1, if_neg (by omega), if_neg h2]
      by_cases h3 : j = k + 1
      · rw [if_pos h3]
      · rw [if_neg h3]
theorem T2_end (vs gs : List Value) (n : Nat → Nat) (k j : Nat) (g : Option (Value × Nat)) (h : j < k) : T2 M vs gs n k g j = obPair M (Tv vs j) (Tv gs j) (n j) (n j + 6) (M.marks j (n j)) (M.marks j (n j + 6)) := by
  unfold T2
  rw [if_pos h]

/-! ### the steps -/
/-- mark i of list k is written -/
theorem AEnv.mark {w0 w : World} {u : Value} {vs : List Value} {n : Nat → Nat} {c : Nat → List Value} {rest : List Ob} {k i g cap N : Nat} (h : AEnv M w0 w u vs (T1 M vs n c k i) rest) (hk : k < vs.length) (hc : (c k).length = n k * M.sz) (hi : i < n k)
    (hv : Tv vs k = .slice (some ⟨g, 0, none⟩) N cap) (m : Nat) : AEnv M w0 ((w.drewN m).setCells g (i * M.sz) (M.el k i)) u vs (T1 M vs n c k (i + 1)) rest := by
  have h0 := Env.rowX h (k + 1) (by rw [AEnv.at (w0 := w0) (w := w) k hk, T1_self])
  have hN : N = n k := by
    rcases h0.hd with ⟨h1, _⟩ | ⟨g', cap', h1⟩
    · rw [hv] at h1; simp at h1
    · rw [hv] at h1; simp at h1; exact h1.2.1
  subst hN
  have h1 : OwnsX (w.drewN m) 0 M.sz (.slice (some ⟨g, 0, none⟩) (n k) cap) (n k) (M.to k (c k) i) := by
    rw [hv] at h0
    exact OwnsX.keep h0 ((Only.refl (fun _ => False) w).draw m) (fun _ _ h => h)
  have h2 := OwnsX.setCells (M.el k i) _ _ (i * M.sz) h1 putAt (fun t ht => ownsRow_setCells (M.el k i) _ _ (i * M.sz) ht)
  rw [M.to_succ k i (n k) (c k) hc hi] at h2
  refine AEnv.set k hk (Env.turnX h (k + 1) (by rw [AEnv.at (w0 := w0) (w := w) k hk, T1_self]) (by rw [hv]; exact h2) ?_) (by rw [T1_self]) (fun j hj hjk => T1_other _ _ _ _ _ _ _ hjk)
  rw [hv]
  exact Only.sets (S := fpv (.slice (some ⟨g, 0, none⟩) (n k) cap)) (.inl rfl) _ _ _ ((Only.refl _ w).draw m)
theorem AEnv.mark0 {w0 w : World} {u : Value} {vs : List Value} {n : Nat → Nat} {c : Nat → List Value} {rest : List Ob} {k i g cap N : Nat} (h : AEnv M w0 w u vs (T1 M vs n c k i) rest) (hk : k < vs.length) (hc : (c k).length = n k * M.sz) (hi : i < n k)
    (hv : Tv vs k = .slice (some ⟨g, 0, none⟩) N cap) : AEnv M w0 (w.setCells g (i * M.sz) (M.el k i)) u vs (T1 M vs n c k (i + 1)) rest := by
  have := AEnv.mark h hk hc hi hv 0
  rwa [World.drewN_zero] at this
theorem AEnv.next {w0 w : World} {u : Value} {vs : List Value} {n : Nat → Nat} {c : Nat → List Value} {rest : List Ob} {k : Nat} (h : AEnv M w0 w u vs (T1 M vs n c k (n k)) rest) (hc : (c k).length = n k * M.sz) : AEnv M w0 w u vs (T1 M vs n c (k + 1) 0) rest :=
  h.same fun j _ => T1_next vs n c k j hc
/-- phase two's world: the row of what the lists were gone on with stands behind the rest -/
def PEnv (M : Mkr) (w0 w : World) (u : Value) (vs : List Value) (n : Nat → Nat) (rest : List Ob) (k : Nat) (g : Option (Value × Nat)) (gsv : Value) (gs : List Value) : Prop :=
  AEnv M w0 w u vs (T2 M vs gs n k g) (rest ++ [obE M.st 1 gsv gs.length gs])
theorem PEnv.start {w0 w : World} {u : Value} {vs : List Value} {n : Nat → Nat} {c : Nat → List Value} {rest : List Ob} (h : AEnv M w0 w u vs (T1 M vs n c vs.length 0) rest) : PEnv M w0 w u vs n rest 0 none (.slice none 0 0) [] :=
  (h.same fun j hj => T1_T2 vs n c j hj).pushRest (F' := fpv (.slice none 0 0)) (obE M.st 1 (.slice none 0 0) 0 []) ⟨World.ownsRow_nil w 0 _ 1, rfl⟩ (Below.refl _ _) (fun x hx => by simp [fpv, Value.ownBlock] at hx)
theorem PEnv.row {w0 w : World} {u : Value} {vs : List Value} {n : Nat → Nat} {rest : List Ob} {k : Nat} {g : Option (Value × Nat)} {gsv : Value} {gs : List Value} (h : PEnv M w0 w u vs n rest k g gsv gs) : w.ownsRow 0 M.st 1 u vs.length vs := AEnv.row h
theorem PEnv.gs {w0 w : World} {u : Value} {vs : List Value} {n : Nat → Nat} {rest : List Ob} {k : Nat} {g : Option (Value × Nat)} {gsv : Value} {gs : List Value} (h : PEnv M w0 w u vs n rest k g gsv gs) : w.ownsRow 0 M.st 1 gsv gs.length gs :=
  Env.row h (vs.length + 1 + rest.length) (by rw [AEnv.atRest (w0 := w0) (w := w), List.getElem?_append_right (Nat.le_refl _), Nat.sub_self]; rfl)
theorem PEnv.below {w0 w w' : World} {u : Value} {vs : List Value} {n : Nat → Nat} {rest : List Ob} {k : Nat} {g : Option (Value × Nat)} {gsv : Value} {gs : List Value} (h : PEnv M w0 w u vs n rest k g gsv gs) (hb : Below w.heap.size w w') : PEnv M w0 w' u vs n rest k g gsv gs := AEnv.below h hb
/-- list k is taken -/
theorem PEnv.take {w0 w : World} {u : Value} {vs : List Value} {n : Nat → Nat} {rest : List Ob} {k : Nat} {gsv : Value} {gs : List Value} (h : PEnv M w0 w u vs n rest k none gsv gs) (hk : k < vs.length) : PEnv M w0 w u vs n rest k (some (Tv vs k, 0)) gsv gs := by
  have hi : (obE M.st 1 u vs.length vs :: ((List.range vs.length).map (T2 M vs gs n k none) ++ (rest ++ [obE M.st 1 gsv gs.length gs])))[k + 1]? = some (obX M.sz (Tv vs k) (n k) (M.marks k (n k))) := by
    rw [AEnv.at (w0 := w0) (w := w) k hk, T2_self]
  obtain ⟨F, h1, _, _, h4⟩ := Env.get h (k + 1) hi
  obtain ⟨h1, rfl⟩ := h1
  refine AEnv.set k hk (h4 w (fun x => fpv (Tv vs k) x ∨ fpv (Tv vs k) x) (obPair M (Tv vs k) (Tv vs k) (n k) (n k) (M.marks k (n k)) (M.marks k (n k))) ⟨h1, OwnsX.sl h1 (M.marks_one _ _), fun x hx => OwnsX.lt h1 x hx, rfl⟩ (Only.refl _ _) (fun x hx => .inl (by rcases hx with hx | hx <;> exact hx))) ?_ (fun j hj hjk => T2_other _ _ _ _ _ _ _ hjk)
  rw [T2_some]
  rfl
theorem PEnv.hd {w0 w : World} {u : Value} {vs : List Value} {n : Nat → Nat} {rest : List Ob} {k : Nat} {gsv : Value} {gs : List Value} (h : PEnv M w0 w u vs n rest k none gsv gs) (hk : k < vs.length) : Hd (Tv vs k) (n k) :=
  Hd.of (Env.rowX h (k + 1) (by rw [AEnv.at (w0 := w0) (w := w) k hk, T2_self]))
/-- the row that is gone on with -/
theorem PEnv.gone {w0 w : World} {u : Value} {vs : List Value} {n : Nat → Nat} {rest : List Ob} {k : Nat} {gsv : Value} {gs : List Value} {g : Value} {i : Nat} (h : PEnv M w0 w u vs n rest k (some (g, i)) gsv gs) (hk : k < vs.length) : OwnsX w 0 M.sz g (n k + i) (M.marks k (n k + i)) := by
  obtain ⟨F, h1, _⟩ := Env.get h (k + 1) (by rw [AEnv.at (w0 := w0) (w := w) k hk, T2_some])
  exact h1.1
theorem PEnv.more {w0 w w2 : World} {u : Value} {vs : List Value} {n : Nat → Nat} {rest : List Ob} {k : Nat} {gsv : Value} {gs : List Value} {g g' : Value} {i : Nat} (h : PEnv M w0 w u vs n rest k (some (g, i)) gsv gs) (hk : k < vs.length) (h0 : Hd (Tv vs k) (n k))
    (hown : OwnsX w2 0 M.sz g' (n k + i + 1) (M.marks k (n k + i) ++ M.el k (n k + i))) (hgrow : w.grownBy w2 g.ownBlock) (hat : g'.ownBlock = g.ownBlock ∨ g'.ownBlock = some w.heap.size ∧ ∀ b, b < w.heap.size → w2.heap[b]? = w.heap[b]?) :
    PEnv M w0 w2 u vs n rest k (some (g', i + 1)) gsv gs := by
  rw [← M.marks_succ] at hown
  refine AEnv.set k hk (pair_go M h (k + 1) (by omega) (by rw [AEnv.at (w0 := w0) (w := w) k hk, T2_some]) h0 hown hgrow hat) ?_ (fun j hj hjk => T2_other _ _ _ _ _ _ _ hjk)
  rw [T2_some]
  rfl
/-- it is put behind the others -/
theorem PEnv.kept {w0 w w2 : World} {u : Value} {vs : List Value} {n : Nat → Nat} {rest : List Ob} {k : Nat} {gsv gsv' : Value} {gs : List Value} {g : Value} (h : PEnv M w0 w u vs n rest k (some (g, 6)) gsv gs) (hgs : gs.length = k)
    (hown : w2.ownsRow 0 M.st 1 gsv' (gs.length + 1) (gs ++ [g])) (hgrow : w.grownBy w2 gsv.ownBlock) (hat : gsv'.ownBlock = gsv.ownBlock ∨ gsv'.ownBlock = some w.heap.size) : PEnv M w0 w2 u vs n rest (k + 1) none gsv' (gs ++ [g]) := by
  have hi : (obE M.st 1 u vs.length vs :: ((List.range vs.length).map (T2 M vs gs n k (some (g, 6))) ++ (rest ++ [obE M.st 1 gsv gs.length gs])))[vs.length + 1 + rest.length]? = some (obE M.st 1 gsv gs.length gs) := by
    rw [AEnv.atRest (w0 := w0) (w := w), List.getElem?_append_right (Nat.le_refl _), Nat.sub_self]; rfl
  obtain ⟨F, h1, _, _, h4⟩ := Env.get h _ hi
  obtain ⟨h1, rfl⟩ := h1
  have h5 := h4 w2 (fpv gsv') (obE M.st 1 gsv' (gs.length + 1) (gs ++ [g])) ⟨hown, rfl⟩ ((Only.refl (fpv gsv) w).grown hgrow (fun k hk => .inl hk)) (fun x hx => by
    have hx' : gsv'.ownBlock = some x := hx
    rcases hat with hat | hat
    · exact .inl (by show gsv.ownBlock = some x; rw [← hat]; exact hx')
    · rw [hat] at hx'
      injection hx' with hx'
      exact .inr (by omega))
  have e : (obE M.st 1 u vs.length vs :: ((List.range vs.length).map (T2 M vs gs n k (some (g, 6))) ++ (rest ++ [obE M.st 1 gsv gs.length gs]))).set (vs.length + 1 + rest.length) (obE M.st 1 gsv' (gs.length + 1) (gs ++ [g]))
      = obE M.st 1 u vs.length vs :: ((List.range vs.length).map (T2 M vs gs n k (some (g, 6))) ++ (rest ++ [obE M.st 1 gsv' (gs.length + 1) (gs ++ [g])])) := by
    rw [show vs.length + 1 + rest.length = (vs.length + rest.length) + 1 from by omega, List.set_cons_succ, List.set_append_right _ _ (by simp), List.set_append_right _ _ (by simp)]
    simp
  rw [e] at h5
  unfold PEnv
  rw [List.length_append]
  exact AEnv.same h5 fun j hj => T2_next vs gs n k j g hgs
/-- what is read in the end: list k, and what it was gone on with -/
theorem PEnv.rows {w0 w : World} {u : Value} {vs : List Value} {n : Nat → Nat} {rest : List Ob} {gsv : Value} {gs : List Value} (h : PEnv M w0 w u vs n rest vs.length none gsv gs) (k : Nat) (hk : k < vs.length) :
    OwnsX w 0 M.sz (Tv gs k) (n k + 6) (M.marks k (n k + 6)) ∧ Sl w M.sz (Tv vs k) (n k) (M.marks k (n k)) := by
  obtain ⟨F, h1, _⟩ := Env.get h (k + 1) (by rw [AEnv.at (w0 := w0) (w := w) k hk, T2_end _ _ _ _ _ _ hk])
  exact ⟨h1.1, h1.2.1⟩
theorem PEnv.drop {w0 w : World} {u : Value} {vs : List Value} {n : Nat → Nat} {rest : List Ob} {k : Nat} {g : Option (Value × Nat)} {gsv : Value} {gs : List Value} (h : PEnv M w0 w u vs n rest k g gsv gs) : Env w0 w rest :=
  AEnv.drop h rest 0 fun j ob hj => by rw [Nat.add_zero, List.getElem?_append_left (List.getElem?_eq_some_iff.1 hj).1]; exact hj
end
end Go.Proofs.Ytpampcokonicfaa.AX
/- A list of lists as ONE thing of a law's world: its row, and each list's own row, all apart. It takes in a list that was a thing of its own; in the end it falls into its parts. No program in sight. -/
namespace Go.Proofs.Ytpampcokonicfaa.AX
open Go.RowKit
set_option maxRecDepth 100000
set_option linter.unusedVariables false
set_option linter.unusedSimpArgs false

/-- one list: its value, how many elements, its cells -/
structure Mem1 where
  v : Value
  n : Nat
  cs : List Value
section
variable (st : TypeId) (sz : Nat)
structure LLat (w : World) (u : Value) (vs : List Value) (es : List Mem1) : Prop where
  row : w.ownsRow 0 st 1 u vs.length vs
  mem : ∀ (j : Nat) (p : Mem1), es[j]? = some p → OwnsX w 0 sz p.v p.n p.cs
  out : ∀ (j : Nat) (p : Mem1), es[j]? = some p → ∀ x, fpv p.v x → ¬ fpv u x
  two : ∀ (i j : Nat) (p q : Mem1), i ≠ j → es[i]? = some p → es[j]? = some q → ∀ x, fpv p.v x → ¬ fpv q.v x
def llF (u : Value) (es : List Mem1) : Nat → Prop := fun x => fpv u x ∨ ∃ (j : Nat) (p : Mem1), es[j]? = some p ∧ fpv p.v x
def obLL (u : Value) (vs : List Value) (es : List Mem1) : Ob where
  at' w F := LLat st sz w u vs es ∧ F = llF u es
  keep h ho hd := by
    obtain ⟨h, rfl⟩ := h
    exact ⟨⟨ownsRow_keep h.row ho fun x hx => hd x (.inl hx), fun j p hp => OwnsX.keep (h.mem j p hp) ho fun x hx => hd x (.inr ⟨j, p, hp, hx⟩), h.out, h.two⟩, rfl⟩
  lt h := by
    obtain ⟨h, rfl⟩ := h
    rintro x (hx | ⟨j, p, hp, hx⟩)
    · exact (World.ownsRow.lt h.row x hx).2
    · exact OwnsX.lt (h.mem j p hp) x hx
variable {st sz}
theorem _root_.Go.Proofs.Ytpampcokonicfaa.Env.llX {w0 w : World} {obs : List Ob} (h : Env w0 w obs) (i : Nat) {u : Value} {vs : List Value} {es : List Mem1} (hi : obs[i]? = some (obLL st sz u vs es)) : LLat st sz w u vs es := by
  obtain ⟨F, h1, _⟩ := h.get i hi
  exact h1.1
theorem _root_.Go.Proofs.Ytpampcokonicfaa.Env.llNilX {w0 w : World} {obs : List Ob} (h : Env w0 w obs) : Env w0 w (obs ++ [obLL st sz (.slice none 0 0) [] []]) :=
  h.push (F' := llF (.slice none 0 0) []) _ ⟨⟨World.ownsRow_nil w 0 st 1, fun j p hp => by simp at hp, fun j p hp => by simp at hp, fun i j p q _ hp => by simp at hp⟩, rfl⟩ (Below.refl _ _) (fun x hx => by
    rcases hx with hx | ⟨j, p, hp, _⟩
    · simp [fpv, Value.ownBlock] at hx
    · simp at hp)
/-- two things become one (the second is the last) -/
theorem _root_.Go.Proofs.Ytpampcokonicfaa.Env.mergeX {w0 w : World} {obs : List Ob} {ob2 : Ob} (h : Env w0 w (obs ++ [ob2])) (i : Nat) {ob1 : Ob} (hi : obs[i]? = some ob1) (ob3 : Ob)
    (hm : ∀ F1 F2, ob1.at' w F1 → ob2.at' w F2 → (∀ x, F1 x → ¬ F2 x) → ob3.at' w (fun x => F1 x ∨ F2 x)) : Env w0 w (obs.set i ob3) := by
  obtain ⟨own, hs, ho⟩ := h
  have hil : i < obs.length := (List.getElem?_eq_some_iff.1 hi).1
  obtain ⟨F1, a1, b1⟩ := ho i ob1 (by rw [List.getElem?_append_left hil]; exact hi)
  obtain ⟨F2, a2, b2⟩ := ho obs.length ob2 (by simp)
  refine ⟨fun x => if own x = obs.length + 1 then i + 1 else own x, ⟨hs.1, fun x hx => ?_⟩, fun j ob hj => ?_⟩
  · have := hs.2 x hx
    show (if own x = obs.length + 1 then i + 1 else own x) = 0
    rw [this, if_neg (by omega)]
  · by_cases hji : j = i
    · subst hji
      rw [List.getElem?_set_self hil] at hj
      injection hj with hj
      subst hj
      refine ⟨_, hm F1 F2 a1 a2 (fun x h1 h2 => ?_), fun x hx => ?_⟩
      · have := (b1 x h1).1
        have := (b2 x h2).1
        omega
      · rcases hx with hx | hx
        · refine ⟨?_, (b1 x hx).2⟩
          show (if own x = obs.length + 1 then j + 1 else own x) = j + 1
          rw [(b1 x hx).1, if_neg (by omega)]
        · refine ⟨?_, (b2 x hx).2⟩
          show (if own x = obs.length + 1 then j + 1 else own x) = j + 1
          rw [(b2 x hx).1, if_pos rfl]
    · rw [List.getElem?_set_ne (by omega)] at hj
      have hjl : j < obs.length := (List.getElem?_eq_some_iff.1 hj).1
      obtain ⟨F, c1, c2⟩ := ho j ob (by rw [List.getElem?_append_left hjl]; exact hj)
      refine ⟨F, c1, fun x hx => ⟨?_, (c2 x hx).2⟩⟩
      show (if own x = obs.length + 1 then i + 1 else own x) = j + 1
      rw [(c2 x hx).1, if_neg (by omega)]
theorem llF_add (u : Value) (es : List Mem1) (m : Mem1) : (fun x => llF u es x ∨ fpv m.v x) = llF u (es ++ [m]) := by
  funext x
  apply propext
  constructor
  · rintro ((hx | ⟨j, p, hp, hx⟩) | hx)
    · exact .inl hx
    · exact .inr ⟨j, p, by rw [List.getElem?_append_left (List.getElem?_eq_some_iff.1 hp).1]; exact hp, hx⟩
    · exact .inr ⟨es.length, m, by simp, hx⟩
  · rintro (hx | ⟨j, p, hp, hx⟩)
    · exact .inl (.inl hx)
    · rcases Nat.lt_or_ge j es.length with hj | hj
      · rw [List.getElem?_append_left hj] at hp
        exact .inl (.inr ⟨j, p, hp, hx⟩)
      · rw [List.getElem?_append_right hj] at hp
        rcases hk : j - es.length with _ | k
        · rw [hk] at hp
          simp at hp
          subst hp
          exact .inr hx
        · rw [hk] at hp
          simp at hp
theorem add_get (es : List Mem1) (m : Mem1) (j : Nat) (p : Mem1) (h : (es ++ [m])[j]? = some p) : (j < es.length ∧ es[j]? = some p) ∨ (j = es.length ∧ p = m) := by
  rcases Nat.lt_or_ge j es.length with hj | hj
  · rw [List.getElem?_append_left hj] at h
    exact .inl ⟨hj, h⟩
  · rw [List.getElem?_append_right hj] at h
    rcases hk : j - es.length with _ | k
    · rw [hk] at h
      simp at h
      exact .inr ⟨by omega, h.symm⟩
    · rw [hk] at h
      simp at h
/-- the last thing is taken in; the row is not yet written -/
theorem _root_.Go.Proofs.Ytpampcokonicfaa.Env.llInX {w0 w : World} {obs : List Ob} {v : Value} {n : Nat} {cs : List Value} (h : Env w0 w (obs ++ [obX sz v n cs])) (i : Nat) {u : Value} {vs : List Value} {es : List Mem1} (hi : obs[i]? = some (obLL st sz u vs es)) :
    Env w0 w (obs.set i (obLL st sz u vs (es ++ [⟨v, n, cs⟩]))) := by
  refine h.mergeX i hi _ ?_
  rintro F1 F2 ⟨h1, rfl⟩ ⟨h2, rfl⟩ hd
  refine ⟨⟨h1.row, fun j p hp => ?_, fun j p hp x hx => ?_, fun a b p q hab hp hq x hx => ?_⟩, llF_add u es ⟨v, n, cs⟩⟩
  · rcases add_get _ _ _ _ hp with ⟨_, hp⟩ | ⟨_, rfl⟩
    · exact h1.mem j p hp
    · exact h2
  · rcases add_get _ _ _ _ hp with ⟨_, hp⟩ | ⟨_, rfl⟩
    · exact h1.out j p hp x hx
    · exact fun hu => hd x (.inl hu) hx
  · rcases add_get _ _ _ _ hp with ⟨_, hp⟩ | ⟨e1, rfl⟩
    · rcases add_get _ _ _ _ hq with ⟨_, hq⟩ | ⟨e2, rfl⟩
      · exact h1.two a b p q hab hp hq x hx
      · exact hd x (.inr ⟨a, p, hp, hx⟩)
    · rcases add_get _ _ _ _ hq with ⟨_, hq⟩ | ⟨e2, rfl⟩
      · exact fun hx2 => hd x (.inr ⟨b, q, hq, hx2⟩) hx
      · exact absurd (e1.trans e2.symm) hab
/-- the row is written on -/
theorem _root_.Go.Proofs.Ytpampcokonicfaa.Env.llRowX {w0 w w' : World} {obs : List Ob} (h : Env w0 w obs) (i : Nat) {u u' : Value} {vs vs' : List Value} {es : List Mem1} (hi : obs[i]? = some (obLL st sz u vs es))
    (hown : w'.ownsRow 0 st 1 u' vs'.length vs') (hg : w.grownBy w' u.ownBlock) (hat : u'.ownBlock = u.ownBlock ∨ u'.ownBlock = some w.heap.size) : Env w0 w' (obs.set i (obLL st sz u' vs' es)) := by
  obtain ⟨F, ⟨h1, rfl⟩, h2, h3, h4⟩ := h.get i hi
  have ho : Only (fpv u) w w' := Only.grown (Only.refl _ w) hg (fun k hk => .inl hk)
  have hu : ∀ x, fpv u' x → fpv u x ∨ w.heap.size ≤ x := by
    intro x hx
    have hx' : u'.ownBlock = some x := hx
    rcases hat with hat | hat
    · rw [hat] at hx'
      exact .inl hx'
    · rw [hat] at hx'
      injection hx' with hx'
      exact .inr (by omega)
  refine h4 w' (llF u' es) (obLL st sz u' vs' es) ⟨⟨hown, fun j p hp => OwnsX.keep (h1.mem j p hp) ho (h1.out j p hp), fun j p hp x hx hx2 => ?_, h1.two⟩, rfl⟩ (ho.mono fun x hx => .inl hx) (fun x hx => ?_)
  · rcases hu x hx2 with hx3 | hx3
    · exact h1.out j p hp x hx hx3
    · have := OwnsX.lt (h1.mem j p hp) x hx
      omega
  · rcases hx with hx | hx
    · rcases hu x hx with hx | hx
      · exact .inl (.inl hx)
      · exact .inr hx
    · exact .inl (.inr hx)
open Classical in
/-- it falls into its parts -/
theorem _root_.Go.Proofs.Ytpampcokonicfaa.Env.llOutX {w0 w : World} {u : Value} {vs : List Value} {es : List Mem1} {rest : List Ob} (h : Env w0 w (obLL st sz u vs es :: rest)) (T : Nat → Ob) (hT : ∀ (j : Nat) (p : Mem1), es[j]? = some p → T j = obX sz p.v p.n p.cs) :
    Env w0 w (obE st 1 u vs.length vs :: ((List.range es.length).map T ++ rest)) := by
  obtain ⟨own, hs, ho⟩ := h
  obtain ⟨F, ⟨h1, hF⟩, hb⟩ := ho 0 _ rfl
  subst hF
  refine ⟨fun x => if own x = 0 then 0 else if own x = 1 then (if fpv u x then 1 else if hh : ∃ (j : Nat) (p : Mem1), es[j]? = some p ∧ fpv p.v x then Classical.choose hh + 2 else 0) else own x + es.length, ⟨hs.1, fun x hx => ?_⟩, fun k ob hk => ?_⟩
  · show (if own x = 0 then 0 else _) = 0
    rw [if_pos (hs.2 x hx)]
  · rcases k with _ | k
    · simp at hk
      subst hk
      refine ⟨fpv u, ⟨h1.row, rfl⟩, fun x hx => ⟨?_, (hb x (.inl hx)).2⟩⟩
      have e1 := (hb x (.inl hx)).1
      show (if own x = 0 then 0 else _) = 1
      rw [if_neg (by omega), if_pos (by omega), if_pos hx]
    · rw [List.getElem?_cons_succ] at hk
      rcases Nat.lt_or_ge k es.length with hkl | hkl
      · rw [List.getElem?_append_left (by simpa using hkl), List.getElem?_map, List.getElem?_range hkl] at hk
        simp at hk
        obtain ⟨p, hp⟩ : ∃ p, es[k]? = some p := ⟨_, List.getElem?_eq_getElem hkl⟩
        rw [hT k p hp] at hk
        subst hk
        refine ⟨fpv p.v, ⟨h1.mem k p hp, rfl⟩, fun x hx => ⟨?_, (hb x (.inr ⟨k, p, hp, hx⟩)).2⟩⟩
        have e1 := (hb x (.inr ⟨k, p, hp, hx⟩)).1
        have hh : ∃ (j : Nat) (p : Mem1), es[j]? = some p ∧ fpv p.v x := ⟨k, p, hp, hx⟩
        show (if own x = 0 then 0 else _) = k + 1 + 1
        rw [if_neg (by omega), if_pos (by omega), if_neg (h1.out k p hp x hx), dif_pos hh]
        obtain ⟨q, hq, hqx⟩ := Classical.choose_spec hh
        by_cases hjk : Classical.choose hh = k
        · rw [hjk]
        · exact absurd hqx (h1.two k _ p q (fun e => hjk e.symm) hp hq x hx)
      · rw [List.getElem?_append_right (by simpa using hkl)] at hk
        rw [List.length_map, List.length_range] at hk
        obtain ⟨F, c1, c2⟩ := ho (k - es.length + 1) ob (by rw [List.getElem?_cons_succ]; exact hk)
        refine ⟨F, c1, fun x hx => ⟨?_, (c2 x hx).2⟩⟩
        have e1 := (c2 x hx).1
        show (if own x = 0 then 0 else _) = k + 1 + 1
        rw [if_neg (by omega), if_neg (by omega)]
        omega
end
end Go.Proofs.Ytpampcokonicfaa.AX
/- The contract of ApartBytes. Conditions: at most 5000000000000 lists, each of at most 2^47 - 328 bytes; each lies in a row of its own, apart from the others and from the rest. -/
namespace Go.Proofs.Ytpampcokonicfaa.AX
open Go.RowKit
set_option maxRecDepth 100000
set_option linter.unusedVariables false
/-- mark i of list k -/
def mk10 (k i : Nat) : UInt8 := UInt8.ofNat ((7 * (k + 10) + i + 1) % 256)
theorem mk10_form (k i : Nat) : (7 * ((k : Int) + 10) + (i : Int) + 1) % 256 = ((mk10 k i).toNat : Int) := by
  unfold mk10
  rw [u8_of _ (by omega)]
  omega
def MB : Mkr := ⟨22, 5, 1, fun k i => [.int .u8 ((mk10 k i).toNat : Int)], by decide, fun _ _ => rfl, fun k i u hu => by simp at hu; subst hu; rfl⟩
theorem MB_get (k n i : Nat) (h : i < n) : (MB.marks k n)[i]? = some (.int .u8 ((mk10 k i).toNat : Int)) := by
  have := MB.marks_get k 0 (by decide) n i h
  simpa [MB] using this
theorem info8s : (Try.prog.info? 22).map (fun i => (i.zero, i.size, i.bytes)) = some (some (.slice none 0 0), 1, 24) := by kernel_rfl
theorem mark_q (k i : Nat) (w : World) (hk : k ≤ 5000000000000) (hi : i ≤ 1000000000000000) :
    Calls Try.prog 65 #[.int .i64 ((k : Int) + 10), .int .i64 (i : Int)] w fun e w'' => e = .returned (.int .u8 ((mk10 k i).toNat : Int)) ∧ w'' = w :=
  (mark_any ((k : Int) + 10) i w (by omega) (by omega) (by omega) (by omega)).mono fun e w' ⟨he, hw⟩ => ⟨by rw [he, mk10_form], hw.symm⟩
set_option maxHeartbeats 4000000 in
theorem apartBytes_any {w0 w : World} (u : Value) (vs : List Value) (n : Nat → Nat) (c : Nat → List Value) (rest : List Ob) (h : AEnv MB w0 w u vs (fun j => obX MB.sz (Tv vs j) (n j) (c j)) rest)
    (hn : ∀ j, j < vs.length → n j ≤ 140737488355000) (hl : vs.length ≤ 5000000000000) :
    Calls Try.prog 37 #[u] w fun e w' => e = .returned (.bool true) ∧ Env w0 w' rest := by
  have hc : ∀ j, j < vs.length → (c j).length = n j * MB.sz := fun j hj => (Env.rowX h (j + 1) (AEnv.at (w0 := w0) (w := w) j hj)).len
  have HC := Lib.hid hc
  have HN := Lib.hid hn
  obtain ⟨ao, capu, rfl, hcu, hcm, hao⟩ := header h.row
  have HAO := Lib.hid hao
  have H0 : Hid (AEnv MB w0 w (.slice ao vs.length capu) vs (T1 MB vs n c 0 0) rest) := Lib.hid (h.same fun j hj => T1_zero vs n c j)
  clear hc hn hao h
  obtain ⟨N, hN⟩ : ∃ N, N = vs.length := ⟨_, rfl⟩
  have HNN := Lib.hid hN
  rw [← hN] at hl hcu H0
  rw [← hN]
  clear hN
  go_enter Try.func37, Try.ntmps37
  go_wp2_with fail
  go_loopw [3] (fun i w1 => ∃ (k : Nat), k ≤ N ∧ i = .int .i64 (k : Int) ∧ Hid (AEnv MB w0 w1 (.slice ao N capu) vs (T1 MB vs n c k 0) rest)) (fun i _ => N - (intOf i).toNat)
  case atStart => exact ⟨0, Nat.zero_le _, rfl, H0⟩
  case round =>
    clear H0
    obtain ⟨k, hk, rfl, H1⟩ := hrel
    by_cases hlt : k < N
    · have hkv : k < vs.length := by rw [← HNN.out]; exact hlt
      have hr1 := Env.rowX H1.out (k + 1) (by rw [AEnv.at (w0 := w0) (w := wr) k hkv, T1_self])
      obtain ⟨m, hm⟩ : ∃ m, n k = m := ⟨_, rfl⟩
      have hnk := HN.out k hkv
      rw [hm] at hr1 hnk
      obtain ⟨ak, capk, hvk, hck, hcmk, hak⟩ := OwnsX.header hr1
      obtain ⟨gu, rfl⟩ := HAO.out (by rw [← HNN.out]; omega)
      have hu1 := H1.out.row
      rw [← HNN.out] at hu1
      have c0 := World.ownsRow.cellAt hu1 k (by omega)
      rw [Tv_get hkv, hvk] at c0
      have HM := Lib.hid hm
      have HVK := Lib.hid hvk
      have HAK := Lib.hid hak
      have HKV := Lib.hid hkv
      clear hr1 hu1 hm hvk hak hkv
      go_wp2_with fail
      obtain ⟨wx, hwx⟩ : ∃ x, x = wr := ⟨_, rfl⟩
      go_loopw [4] (fun i w1 => ∃ (j : Nat), j ≤ m ∧ i = .int .i64 (j : Int) ∧ Hid (AEnv MB w0 w1 (.slice (some ⟨gu, 0, none⟩) N capu) vs (T1 MB vs n c k j) rest)) (fun i _ => m - (intOf i).toNat)
      case atStart => exact ⟨0, Nat.zero_le _, rfl, H1⟩
      case round =>
        clear c0
        obtain ⟨j, hj, rfl, H2⟩ := hrel
        have hu2 := H2.out.row
        rw [← HNN.out] at hu2
        have c0 := World.ownsRow.cellAt hu2 k (by omega)
        rw [Tv_get HKV.out, HVK.out] at c0
        clear hu2
        by_cases hjn : j < m
        · obtain ⟨g, rfl⟩ := HAK.out (by omega)
          have hr2 := Env.rowX H2.out (k + 1) (by rw [AEnv.at (w0 := w0) (w := wr) k HKV.out, T1_self])
          rw [HM.out, HVK.out] at hr2
          have c1 := OwnsX.cellAt hr2 j (by show j < m * 1; omega)
          have f1 := OwnsX.frozenAt hr2 j
          rw [List.getElem?_eq_getElem (by rw [OwnsX.len hr2]; show j < m * 1; omega)] at c1
          generalize ((MB.to k (c k) j)[j]'_) = z at c1
          clear hr2
          go_wp2_with fail
          have hwk : IntKind.i64.wrap ((k : Int) + 10) = (k : Int) + 10 := IntWalk.i64_in _ (by omega)
          refine wp_region_tame (fun w' => w' = wr.drewN 1) 0 10 (by kernel_rfl) (by kernel_rfl) (fun _ _ d _ _ h => (by cases d <;> exact h)) rfl (by decide) ?_
          simp only [List.take_succ_cons, List.take_zero, List.drop_succ_cons, List.drop_zero]
          refine wpPre_nil ?_
          refine wpTame_run (v := ?_) (by decide) rfl (fun w' hS => ?_) ?_
          rotate_left
          focus (subst hS; go_simp; try rfl; done)
          simp only [Act.put, List.setIfInBounds_toArray, List.set_cons_zero, List.set_cons_succ]
          refine wpTame_run (v := ?_) (by decide) rfl (fun w' hS => ?_) ?_
          rotate_left
          focus (subst hS; go_simp; try rfl; done)
          simp only [Act.put, List.setIfInBounds_toArray, List.set_cons_zero, List.set_cons_succ]
          refine wpTame_run (v := ?_) (by decide) rfl (fun w' hS => ?_) ?_
          rotate_left
          focus (subst hS; go_simp; try rfl; done)
          simp only [Act.put, List.setIfInBounds_toArray, List.set_cons_zero, List.set_cons_succ]
          refine wpTame_run (v := ?_) (by decide) rfl (fun w' hS => ?_) ?_
          rotate_left
          focus (subst hS; go_simp; try rfl; done)
          simp only [Act.put, List.setIfInBounds_toArray, List.set_cons_zero, List.set_cons_succ]
          refine wpTame_run (v := ?_) (by decide) rfl (fun w' hS => ?_) ?_
          rotate_left
          focus (subst hS; go_simp; try rfl; done)
          simp only [Act.put, List.setIfInBounds_toArray, List.set_cons_zero, List.set_cons_succ]
          refine wpTame_run (v := ?_) (by decide) rfl (fun w' hS => ?_) ?_
          rotate_left
          focus (subst hS; go_simp; try rfl; done)
          simp only [Act.put, List.setIfInBounds_toArray, List.set_cons_zero, List.set_cons_succ]
          refine wpTame_run (v := ?_) (by decide) rfl (fun w' hS => ?_) ?_
          rotate_left
          focus (subst hS; go_simp; try rfl; done)
          simp only [Act.put, List.setIfInBounds_toArray, List.set_cons_zero, List.set_cons_succ]
          refine wpTame_run (v := ?_) (by decide) rfl (fun w' hS => ?_) ?_
          rotate_left
          focus (subst hS; go_simp; try rfl; done)
          simp only [Act.put, List.setIfInBounds_toArray, List.set_cons_zero, List.set_cons_succ]
          refine wpTame_call (v := .int .u8 ((mk10 k j).toNat : Int)) (by decide) rfl (fun w' h => ?_) (fun w' h => (mark_any ((k : Int) + 10) j w' (by omega) (by omega) (by omega) (by omega)).mono fun e w'' ⟨he, hw⟩ => ⟨by rw [he, mk10_form], by rw [← hw]; exact h⟩) ?_
          · subst h; go_simp; try rfl
          simp only [Act.put, List.setIfInBounds_toArray, List.set_cons_zero, List.set_cons_succ]
          refine wpTame_run (v := ?_) (by decide) rfl (fun w' hS => ?_) ?_
          rotate_left
          focus (subst hS; go_simp; try rfl; done)
          simp only [Act.put, List.setIfInBounds_toArray, List.set_cons_zero, List.set_cons_succ]
          refine wpTame_nil ?_
          rintro w' rfl
          go_wp2_with fail
          go_roundw
          case rel =>
            have hh := H2.out.mark HKV.out (HC.out k HKV.out) (by rw [HM.out]; exact hjn) HVK.out 1
            rw [show j * MB.sz = j from Nat.mul_one j] at hh
            exact ⟨j + 1, by omega, by go_num, Lib.hid hh⟩
          case measure => simp [intOf]; omega
        · obtain rfl : j = m := by omega
          have H3 : Hid (AEnv MB w0 wr (.slice (some ⟨gu, 0, none⟩) N capu) vs (T1 MB vs n c (k + 1) 0) rest) := by
            have h := H2.out
            rw [← HM.out] at h
            exact Lib.hid (h.next (HC.out k HKV.out))
          go_wp2_with fail
          go_roundw
          case rel => exact ⟨k + 1, by omega, by go_num, H3⟩
          case measure => simp [intOf]; omega
    · obtain rfl : k = N := by omega
      have P0 : Hid (PEnv MB w0 wr (.slice ao k capu) vs n rest 0 none (.slice none 0 0) []) := by
        have h := H1.out
        rw [HNN.out] at h ⊢
        exact Lib.hid (PEnv.start h)
      clear H1
      go_wp2_with fail
      obtain ⟨wq, hwq⟩ : ∃ x, x = wr := ⟨_, rfl⟩
      go_loopw [5, 6] (fun gsv i w1 => ∃ (p : Nat) (gs : List Value), p ≤ k ∧ i = .int .i64 (p : Int) ∧ Hid (gs.length = p) ∧ Hid (PEnv MB w0 w1 (.slice ao k capu) vs n rest p none gsv gs)) (fun _ i _ => k - (intOf i).toNat)
      case atStart => exact ⟨0, [], Nat.zero_le _, rfl, Lib.hid rfl, P0⟩
      case round =>
        clear P0
        obtain ⟨p, gs, hp, rfl, HGS, P⟩ := hrel
        by_cases hlt : p < k
        · have hkv : p < vs.length := by rw [← HNN.out]; exact hlt
          have hd := P.out.hd hkv
          have hr1 := Env.rowX P.out (p + 1) (by rw [AEnv.at (w0 := w0) (w := wr) p hkv, T2_self])
          obtain ⟨m, hm⟩ : ∃ m, n p = m := ⟨_, rfl⟩
          have hnk := HN.out p hkv
          rw [hm] at hr1 hnk
          obtain ⟨ak, capk, hvk, hck, hcmk, hak⟩ := OwnsX.header hr1
          obtain ⟨gu, rfl⟩ := HAO.out (by rw [← HNN.out]; omega)
          have hu1 := P.out.row
          rw [← HNN.out] at hu1
          have c0 := World.ownsRow.cellAt hu1 p (by omega)
          rw [Tv_get hkv, hvk] at c0
          have PT := P.out.take hkv
          rw [hvk] at PT
          have HM := Lib.hid hm
          have HVK := Lib.hid hvk
          have HKV := Lib.hid hkv
          have HD := Lib.hid hd
          have HPT := Lib.hid PT
          clear hr1 hu1 hm hvk hak hkv hd PT P
          go_wp2_with fail
          obtain ⟨wy, hwy⟩ : ∃ x, x = wr := ⟨_, rfl⟩
          go_loopw [7, 8] (fun g i w1 => ∃ (j : Nat), j ≤ 6 ∧ i = .int .i64 (j : Int) ∧ Hid (PEnv MB w0 w1 (.slice (some ⟨gu, 0, none⟩) k capu) vs n rest p (some (g, j)) u5 gs)) (fun _ i _ => 6 - (intOf i).toNat)
          case atStart => exact ⟨0, by omega, rfl, HPT⟩
          case round =>
            clear HPT c0
            obtain ⟨j, hj, rfl, PJ⟩ := hrel
            have hu1 := PJ.out.row
            rw [← HNN.out] at hu1
            have c0 := World.ownsRow.cellAt hu1 p (by omega)
            rw [Tv_get HKV.out, HVK.out] at c0
            clear hu1
            by_cases hj6 : j < 6
            · have PA := PJ.out.below ((Below.refl wr.heap.size wr).alloc (Nat.le_refl _) (.cells #[.int .u8 ((mk10 p (m + j)).toNat : Int)] 5))
              have HOWN : OwnsX (wr.alloc (.cells #[.int .u8 ((mk10 p (m + j)).toNat : Int)] 5)) 0 1 u7 (m + j) (MB.marks p (m + j)) := by
                have h := PA.gone HKV.out
                rw [HM.out] at h
                exact h
              have HPA := Lib.hid PA
              clear PA
              have hwk : IntKind.i64.wrap ((p : Int) + 10) = (p : Int) + 10 := IntWalk.i64_in _ (by omega)
              go_wp2_with fail
              refine (mark_any ((p : Int) + 10) ((m : Int) + j) _ (by omega) (by omega) (by omega) (by omega)).mono ?_
              rintro e w' ⟨he, rfl⟩
              have he' : e = .returned (.int .u8 ((mk10 p (m + j)).toNat : Int)) := by rw [he, ← mk10_form]; simp
              subst he'
              clear he
              obtain ⟨i0, hi, hz0, hz1, hz2⟩ := info_parts info8
              go_wp2_with (at_builtin; refine wpList_append_X _ rfl _ _ 22 rfl 5 i0 _ 1 1 Try.underlying22 hi hz0 hz1 hz2 rfl (by decide) u7 (m + j) (MB.marks p (m + j)) rfl HOWN ⟨wr.heap.size, 0, none⟩ 1 1 [.int .u8 ((mk10 p (m + j)).toNat : Int)] rfl rfl (World.news_of_block (heap_alloc_new _ _)) (lent_one _) (by unfold maxLen; omega) (by omega) (by decide) ?_)
              intro v' w2 hown hgrow hat hne
              have HP2 : Hid (PEnv MB w0 w2 (.slice (some ⟨gu, 0, none⟩) k capu) vs n rest p (some (v', j + 1)) u5 gs) := by
                have hm := HM.out
                subst hm
                exact Lib.hid (HPA.out.more HKV.out HD.out hown hgrow (by simpa using hat))
              clear hown hgrow hat hne HOWN hi hz0 hz1 hz2 c0
              go_wp2_with fail
              go_roundw
              case rel => exact ⟨j + 1, by omega, by go_num, HP2⟩
              case measure => simp [intOf]; omega
            · obtain rfl : j = 6 := by omega
              have hg := PJ.out.gone HKV.out
              obtain ⟨ag, capg, hug, _, _, _⟩ := OwnsX.header hg
              subst hug
              have HPA := Lib.hid (PJ.out.below ((Below.refl wr.heap.size wr).alloc (Nat.le_refl _) (.cells #[.slice ag (n p + 6) capg] 22)))
              have HROW : (wr.alloc (.cells #[.slice ag (n p + 6) capg] 22)).ownsRow 0 22 1 u5 p gs := by
                have h := HPA.out.gs
                rw [HGS.out] at h
                exact h
              clear hg c0
              obtain ⟨i0, hi, hz0, hz1, hz2⟩ := info_parts info8s
              go_wp2_with (at_builtin; refine wpList_append_keep _ rfl _ _ 43 rfl 22 i0 _ 1 24 Try.underlying43 hi hz0 hz1 hz2 rfl (by decide) u5 p gs rfl HROW ⟨wr.heap.size, 0, none⟩ 1 1 [.slice ag (n p + 6) capg] rfl rfl (World.news_of_block (heap_alloc_new _ _)) (fun u hu => by simp at hu; subst hu; rfl) (by unfold maxLen; omega) (by omega) (by decide) ?_)
              intro v' w2 hown hgrow hat hne
              have HP2 : Hid (PEnv MB w0 w2 (.slice (some ⟨gu, 0, none⟩) k capu) vs n rest (p + 1) none v' (gs ++ [.slice ag (n p + 6) capg])) := by
                refine Lib.hid (HPA.out.kept HGS.out (by rw [HGS.out]; exact hown) hgrow ?_)
                rcases hat with hat | hat
                · exact .inl hat
                · exact .inr (by simpa using hat.1)
              clear hown hgrow hat hne HROW hi hz0 hz1 hz2
              go_wp2_with fail
              go_roundw
              case rel => exact ⟨p + 1, _, by omega, by go_num, Lib.hid (by rw [List.length_append, HGS.out]; rfl), HP2⟩
              case measure => simp [intOf]; omega
        · obtain rfl : p = k := by omega
          have hg := P.out.gs
          rw [HGS.out] at hg
          obtain ⟨ag, capg, hug, hcg, hcmg, hag⟩ := header hg
          subst hug
          have HROW := Lib.hid hg
          have HAG := Lib.hid hag
          have hu1 := P.out.row
          rw [← HNN.out] at hu1
          have HU := Lib.hid hu1
          have HR : Hid (∀ q, q < p → OwnsX wr 0 1 (Tv gs q) (n q + 6) (MB.marks q (n q + 6)) ∧ Sl wr 1 (Tv vs q) (n q) (MB.marks q (n q)) ∧ n q ≤ 140737488355000) := Lib.hid (fun q hq => by
            have h := P.out
            have hq' : q < vs.length := by rw [← HNN.out]; exact hq
            have h2 := h
            rw [HNN.out] at h2
            obtain ⟨h3, h4⟩ := h2.rows q hq'
            exact ⟨h3, h4, HN.out q hq'⟩)
          have HEND : Hid (∀ m, Env w0 (wr.drewN m) rest) := Lib.hid (fun m => P.out.drop.draw m)
          clear hg hag hu1 P
          go_wp2_with fail
          obtain ⟨w3, rfl⟩ : ∃ w3 : World, w3 = wr := ⟨_, rfl⟩
          go_loopw [9] (fun i w1 => ∃ (q d : Nat), q ≤ p ∧ i = .int .i64 (q : Int) ∧ w1 = w3.drewN d) (fun i _ => p - (intOf i).toNat)
          case atStart => exact ⟨0, 0, Nat.zero_le _, rfl, rfl⟩
          case round =>
            obtain ⟨q, d, hq, rfl, rfl⟩ := hrel
            by_cases hlt : q < p
            · obtain ⟨h3, h4, hnq⟩ := HR.out q hlt
              obtain ⟨gu, rfl⟩ := HAO.out (by rw [← HNN.out]; omega)
              obtain ⟨gg, rfl⟩ := HAG.out (by omega)
              obtain ⟨m, hm⟩ : ∃ m, n q = m := ⟨_, rfl⟩
              rw [hm] at h3 h4 hnq
              obtain ⟨a1, cap1, hv1, hc1, hcm1, ha1⟩ := OwnsX.header h3
              obtain ⟨g1, rfl⟩ := ha1 (by omega)
              obtain ⟨a2, cap2, hv2, hc2, hcm2, ha2, ha3⟩ := h4.form
              have d1 := World.ownsRow.cellAt HROW.out q (by omega)
              rw [Tv_get (by rw [HGS.out]; exact hlt), hv1] at d1
              have d2 := World.ownsRow.cellAt HU.out q (by omega)
              rw [Tv_get (by rw [← HNN.out]; exact hlt), hv2] at d2
              rw [hv1] at h3
              have H3 := Lib.hid h3
              have HA3 := Lib.hid ha3
              clear h3 h4 hm hv1 hv2 ha1 ha2 ha3
              go_wp2_with fail
              go_loopw [10] (fun i w1 => ∃ (j d : Nat), j ≤ m + 6 ∧ i = .int .i64 (j : Int) ∧ w1 = w3.drewN d) (fun i _ => m + 6 - (intOf i).toNat)
              case atStart => exact ⟨0, d, Nat.zero_le _, rfl, rfl⟩
              case round =>
                obtain ⟨j, d, hj, rfl, rfl⟩ := hrel
                by_cases hjn : j < m + 6
                · have d3 := OwnsX.cellAt H3.out j (by omega)
                  rw [MB_get _ _ _ (by omega)] at d3
                  have hz : (((mk10 q j).toNat : Int) != ((mk10 q j).toNat : Int)) = false := by simp
                  have hwk : IntKind.i64.wrap ((q : Int) + 10) = (q : Int) + 10 := IntWalk.i64_in _ (by omega)
                  by_cases hjm : j < m
                  · obtain ⟨b, off, rfl, d4⟩ := HA3.out j _ (MB_get q m j hjm)
                    go_wp2_with fail
                    go_quiet ((go_at_call 65; exact (mark_q q j _ (by omega) (by omega)).mono fun e w' ⟨he, hw⟩ => ⟨he, _, hw⟩))
                    go_wp2_with fail
                    go_roundw
                    case rel => exact ⟨j + 1, _, by omega, by go_num, rfl⟩
                    case measure => simp [intOf]; omega
                  · have hd : decide ((j : Int) < (m : Int)) = false := by simpa using hjm
                    go_wp2_with fail
                    go_quiet ((go_at_call 65; exact (mark_q q j _ (by omega) (by omega)).mono fun e w' ⟨he, hw⟩ => ⟨he, _, hw⟩))
                    go_wp2_with fail
                    go_roundw
                    case rel => exact ⟨j + 1, _, by omega, by go_num, rfl⟩
                    case measure => simp [intOf]; omega
                · go_wp2_with fail
                  go_roundw
                  case rel => exact ⟨q + 1, d, by omega, by go_num, rfl⟩
                  case measure => simp [intOf]; omega
            · go_wp2_with fail
              go_ret
              exact ⟨rfl, HEND.out _⟩
end Go.Proofs.Ytpampcokonicfaa.AX
/- Lists of bytes that were told, kept in a list of lists: one thing of a law's world (obT); another one behind, read one, all of them handed to ApartBytes. No statement's program in sight but the kit's ApartBytes. -/
namespace Go.Proofs.Ytpampcokonicfaa.AX
open Go.RowKit
set_option maxRecDepth 100000
set_option linter.unusedVariables false
set_option linter.unusedSimpArgs false

def mkM (p : Value × List UInt8) : Mem1 := ⟨p.1, p.2.length, p.2.map B⟩
def obT (u : Value) (ts : List (Value × List UInt8)) : Ob := obLL 22 1 u (ts.map (·.1)) (ts.map mkM)
theorem obT_form {w0 w : World} {obs : List Ob} (h : Env w0 w obs) (i : Nat) {u : Value} {ts : List (Value × List UInt8)} (hi : obs[i]? = some (obT u ts)) : ∃ ao cap, u = .slice ao ts.length cap ∧ ts.length ≤ cap ∧ cap ≤ 9223372036854775807 := by
  have hl := (h.llX i hi).row
  rw [List.length_map] at hl
  rcases hl.2 with ⟨rfl, h0⟩ | ⟨g, cap, cur, rfl, _, hg, hnc, hcm, _, htake⟩
  · exact ⟨none, 0, by rw [h0], by omega, by omega⟩
  · exact ⟨some ⟨g, 0, none⟩, cap, rfl, hnc, hcm⟩
/-- one list more, that was the last thing -/
theorem obT_more {w0 w w' : World} {obs : List Ob} {v : Value} {l : List UInt8} (h : Env w0 w (obs ++ [obBX v l])) (hb : Below w.heap.size w w') (i : Nat) {u u' : Value} {ts : List (Value × List UInt8)} (hi : obs[i]? = some (obT u ts)) {w2 : World}
    (hown : w2.ownsRow 0 22 1 u' (ts.length + 1) (ts.map (·.1) ++ [v])) (hg : w'.grownBy w2 u.ownBlock) (hat : u'.ownBlock = u.ownBlock ∨ u'.ownBlock = some w'.heap.size) : Env w0 w2 (obs.set i (obT u' (ts ++ [(v, l)]))) := by
  have h1 : Env w0 w (obs.set i (obLL 22 1 u (ts.map (·.1)) (ts.map mkM ++ [mkM (v, l)]))) := Env.llInX (sz := 1) (v := v) (n := l.length) (cs := l.map B) h i hi
  have hil : i < obs.length := (List.getElem?_eq_some_iff.1 hi).1
  have h2 := (h1.below hb).llRowX i (u' := u') (vs' := ts.map (·.1) ++ [v]) (List.getElem?_set_self hil) (by rw [List.length_append, List.length_map, List.length_singleton]; exact hown) hg hat
  rw [List.set_set] at h2
  unfold obT
  rw [List.map_append, List.map_append]
  exact h2
theorem one_slice' {ao : Option Addr} {n c : Nat} : ∀ u ∈ [Value.slice ao n c], u.oneCell' = true := by
  intro u hu
  simp at hu
  subst hu
  rfl
theorem wpList_append_T {w0 w1 : World} {obs : List Ob} {ao : Option Addr} {c : Nat} {l : List UInt8} (h : Env w0 w1 (obs ++ [obBX (.slice ao l.length c) l])) (i : Nat) {u : Value} {ts : List (Value × List UInt8)} (hi : obs[i]? = some (obT u ts)) {a : Act} {o : Oper} {Q : Exit → Act → World → Prop} {ops : Array Oper} {rest : List Oper}
    (s x : Operand) (hgd : o.guard = none) (ho : o.op = .call { callee := .builtin .append, args := #[s, x], argTypes := #[43, 43] }) (hs : a.eval s = u) (hx : a.eval x = .slice (some ⟨w1.heap.size, 0, none⟩) 1 1) (hn : ts.length ≤ 5000000000000)
    (kk : ∀ u' w', Env w0 w' (obs.set i (obT u' (ts ++ [(.slice ao l.length c, l)]))) → wpList Try.prog ops Q rest (a.put o.dst u') w') : wpList Try.prog ops Q (o :: rest) a (w1.alloc (.cells #[.slice ao l.length c] 22)) := by
  obtain ⟨i0, hi0, hz0, hz1, hz2⟩ := info_parts info8s
  have hb : Below w1.heap.size w1 (w1.alloc (.cells #[.slice ao l.length c] 22)) := (Below.refl _ _).alloc (Nat.le_refl _) _
  have hil : i < obs.length := (List.getElem?_eq_some_iff.1 hi).1
  have hi2 : (obs ++ [obBX (.slice ao l.length c) l])[i]? = some (obT u ts) := by rw [List.getElem?_append_left hil]; exact hi
  have hrow := ((h.below hb).llX i hi2).row
  rw [List.length_map] at hrow
  refine wpList_append_lies _ hgd s x 43 ho 0 22 i0 _ 1 24 Try.underlying43 hi0 hz0 hz1 hz2 rfl (by decide) u ts.length (ts.map (·.1)) hs hrow ⟨w1.heap.size, 0, none⟩ 1 1 [.slice ao l.length c] hx rfl (World.news_of_block (heap_alloc_new w1 (.cells #[.slice ao l.length c] 22))) one_slice' (by decide) (by unfold maxLen; omega) (by omega) (Nat.zero_le _) _ rfl ?_
  intro g cap w' h1 h2 h3 h4
  exact kk _ _ (obT_more h hb i hi h1 h2 (by
    rcases h3 with h3 | h3
    · exact .inl (by rw [h3]; rfl)
    · exact .inr (by rw [h3]; rfl)))
theorem obT_get {w0 w : World} {obs : List Ob} (h : Env w0 w obs) (i : Nat) {u : Value} {ts : List (Value × List UInt8)} (hi : obs[i]? = some (obT u ts)) {j : Nat} {v : Value} {l : List UInt8} (hj : ts[j]? = some (v, l)) : Bs w v l := by
  have := (h.llX i hi).mem j (mkM (v, l)) (by rw [List.getElem?_map, hj]; rfl)
  exact (OwnsX.sl this (bytes_one l)).bytes
theorem obT_cell {w0 w : World} {obs : List Ob} (h : Env w0 w obs) (i : Nat) {g n c : Nat} {ts : List (Value × List UInt8)} (hi : obs[i]? = some (obT (.slice (some ⟨g, 0, none⟩) n c) ts)) {j : Nat} {v : Value} {l : List UInt8} (hj : ts[j]? = some (v, l)) : w.cell? ⟨g, j, none⟩ = some v := by
  have hr := (h.llX i hi).row
  rcases hr.2 with ⟨hv, _⟩ | ⟨g', cap', cur, hv, _⟩
  · cases hv
  · injection hv with _ e2 _
    have hn : n = ts.length := by rw [e2]; exact List.length_map _
    rw [← e2] at hr
    have hl : j < ts.length := (List.getElem?_eq_some_iff.1 hj).1
    rw [World.ownsRow.cellAt hr j (by omega), List.getElem?_map, hj]
    rfl
theorem obT_slice {w0 w : World} {obs : List Ob} (h : Env w0 w obs) (i : Nat) {u : Value} {ts : List (Value × List UInt8)} (hi : obs[i]? = some (obT u ts)) (h0 : 0 < ts.length) : ∃ g c, u = .slice (some ⟨g, 0, none⟩) ts.length c ∧ ts.length ≤ c ∧ c ≤ 9223372036854775807 := by
  have hr := (h.llX i hi).row
  rw [List.length_map] at hr
  rcases hr.2 with ⟨_, hv⟩ | ⟨g', cap', cur, hv, _, _, h1, h2, _⟩
  · omega
  · exact ⟨g', cap', hv, h1, h2⟩
/-- all of them lie apart, and of other things -/
theorem apart_told {w0 w : World} {u : Value} {ts : List (Value × List UInt8)} {rest : List Ob} (h : Env w0 w (obT u ts :: rest)) (hs : ∀ p ∈ ts, p.2.length ≤ 140737488355000) (hl : ts.length ≤ 5000000000000) :
    Calls Try.prog 37 #[u] w fun e w' => e = .returned (.bool true) ∧ Env w0 w' rest := by
  have h1 := h.llOutX (fun j => obX 1 (Tv (ts.map (·.1)) j) ((ts[j]?.map (fun p => p.2.length)).getD 0) ((ts[j]?.map (fun p => p.2.map B)).getD [])) (by
    intro j p hp
    rw [List.getElem?_map] at hp
    rcases hq : ts[j]? with _ | q
    · rw [hq] at hp; cases hp
    · rw [hq] at hp
      injection hp with hp
      subst hp
      have e : Tv (ts.map (·.1)) j = q.1 := by unfold Tv; rw [List.getD_eq_getElem?_getD, List.getElem?_map, hq]; rfl
      rw [e]
      rfl)
  rw [show (ts.map mkM).length = ts.length from List.length_map _, show (ts.map (·.1)).length = ts.length from List.length_map _] at h1
  refine apartBytes_any u (ts.map (·.1)) (fun j => (ts[j]?.map (fun p => p.2.length)).getD 0) (fun j => (ts[j]?.map (fun p => p.2.map B)).getD []) rest ?_ ?_ (by simpa using hl)
  · unfold AEnv
    have e : (ts.map (·.1)).length = ts.length := List.length_map _
    rw [e]
    exact h1
  · intro j hj
    have hj2 : j < ts.length := by simpa using hj
    have e : ts[j]? = some ts[j] := List.getElem?_eq_getElem hj2
    rw [e]
    exact hs _ (List.getElem_mem hj2)
end Go.Proofs.Ytpampcokonicfaa.AX
/- The law's pair of Macs: its world, what turns in it. -/
namespace Go.Proofs.Ytpampcokonicfaa
open Go.RowKit
set_option maxRecDepth 100000
set_option linter.unusedVariables false
set_option linter.unusedSimpArgs false
attribute [local go_sem] Oper.semAt_some
structure St13 where
  p0 : Pm
  p1 : Pm
  R0 : Option Rm
  R1 : Option Rm
  tv : Value
  wv : Value
  rs : List Rn
  ts : List (Value × List UInt8)
  ws : List (Value × List UInt8)
def pairM (pl pw : Value) (x : St13) : Array Value := #[x.p0.v, x.p1.v, rmV x.R0, rmV x.R1, pl, pw, x.tv, x.wv]
def WM (P : Nat) (pl pw : Value) (x : St13) : List Ob :=
  [obK P 68 (pairM pl pw x), obP pl (some x.rs), obR pw (some x.rs), x.p0.oc, x.p1.oc, obM2 x.R0 x.R1, AX.obT x.tv x.ts, AX.obT x.wv x.ws, obP (.pointer none) none, obR (.pointer none) none, x.p0.om, x.p1.om]
structure OK13 (i m : Nat) (x : St13) : Prop where
  r0 : relM x.p0 x.R0
  r1 : relM x.p1 x.R1
  nn : 0 ≤ tot x.rs
  sum : tot x.rs ≤ 10000 * i
  len : x.rs.length ≤ 10000 * i
  tl : x.ts.length ≤ i
  same : x.ts.map (·.2) = x.ws.map (·.2)
  small : ∀ y ∈ x.ts, y.2.length ≤ 400
  m0 : x.p0.msgLen ≤ m
  m1 : x.p1.msgLen ≤ m
theorem OK13.wl {i m : Nat} {x : St13} (h : OK13 i m x) : x.ws.length = x.ts.length := by
  have := congrArg List.length h.same
  simpa using this.symm
theorem OK13.up {i m n j : Nat} {x : St13} (h : OK13 i m x) (hn : m ≤ n) (hj : i ≤ j) : OK13 j n x :=
  ⟨h.r0, h.r1, h.nn, by have := h.sum; omega, by have := h.len; omega, by have := h.tl; omega, h.same, h.small, Nat.le_trans h.m0 hn, Nat.le_trans h.m1 hn⟩
def sdM (k : Nat) (x : St13) : Pm := if k = 0 then x.p0 else x.p1
section
variable {P : Nat} {pl pw : Value} {x : St13} {Y : List Ob}
theorem WM_c (k : Nat) (hk : k < 2) : (WM P pl pw x ++ Y)[3 + k]? = some (sdM k x).oc := by
  rcases (by omega : k = 0 ∨ k = 1) with rfl | rfl <;> rfl
theorem WM_m (k : Nat) (hk : k < 2) : (WM P pl pw x ++ Y)[10 + k]? = some (sdM k x).om := by
  rcases (by omega : k = 0 ∨ k = 1) with rfl | rfl <;> rfl
theorem pairM_c (k : Nat) (hk : k < 2) : (pairM pl pw x)[k]? = some (sdM k x).v := by
  rcases (by omega : k = 0 ∨ k = 1) with rfl | rfl <;> rfl
theorem pairM_r (k : Nat) (hk : k < 2) : (pairM pl pw x)[2 + k]? = some (rmV (sideM k x.R0 x.R1)) := by
  rcases (by omega : k = 0 ∨ k = 1) with rfl | rfl <;> rfl
theorem OK13.rk {i m : Nat} (h : OK13 i m x) (k : Nat) (hk : k < 2) : relM (sdM k x) (sideM k x.R0 x.R1) := by
  rcases (by omega : k = 0 ∨ k = 1) with rfl | rfl
  · exact h.r0
  · exact h.r1
theorem OK13.mlen {i m : Nat} (h : OK13 i m x) (k : Nat) : (sdM k x).msgLen ≤ m := by
  unfold sdM
  split
  · exact h.m0
  · exact h.m1
end
/-- the ledgers of a call: the law's, or none -/
def LSel13 (pl pw : Value) (x : St13) (jl jw : Nat) (lv qv : Value) (o : Option (List Rn)) : Prop := (jl = 1 ∧ jw = 2 ∧ lv = pl ∧ qv = pw ∧ o = some x.rs) ∨ (jl = 8 ∧ jw = 9 ∧ lv = .pointer none ∧ qv = .pointer none ∧ o = none)
def St13.led (x : St13) (rs : List Rn) : St13 := { x with rs := rs }
/-- side k is p and R then -/
def St13.setS (x : St13) (k : Nat) (p : Pm) (R : Option Rm) : St13 := { x with p0 := if k = 0 then p else x.p0, p1 := if k = 0 then x.p1 else p, R0 := mpt1 k x.R0 R, R1 := mpt2 k x.R1 R }
section
variable {P : Nat} {pl pw : Value} {x : St13} {jl jw : Nat} {lv qv : Value} {o o' : Option (List Rn)} {Y : List Ob}
theorem LSel13.l (h : LSel13 pl pw x jl jw lv qv o) : (WM P pl pw x ++ Y)[jl]? = some (obP lv o) := by
  rcases h with ⟨rfl, rfl, rfl, rfl, rfl⟩ | ⟨rfl, rfl, rfl, rfl, rfl⟩ <;> rfl
theorem LSel13.w (h : LSel13 pl pw x jl jw lv qv o) : (WM P pl pw x ++ Y)[jw]? = some (obR qv o) := by
  rcases h with ⟨rfl, rfl, rfl, rfl, rfl⟩ | ⟨rfl, rfl, rfl, rfl, rfl⟩ <;> rfl
theorem LSel13.j (h : LSel13 pl pw x jl jw lv qv o) : (jl = 1 ∧ jw = 2) ∨ (jl = 8 ∧ jw = 9) := by
  rcases h with ⟨rfl, rfl, _⟩ | ⟨rfl, rfl, _⟩ <;> decide
theorem LSel13.lotl (h : LSel13 pl pw x jl jw lv qv o) {i m : Nat} (hx : OK13 i m x) (hi : i ≤ 1000) : Lotl o := by
  rcases h with ⟨_, _, _, _, rfl⟩ | ⟨_, _, _, _, rfl⟩
  · intro rs hrs
    injection hrs with hrs
    subst hrs
    have := hx.sum
    have := hx.len
    exact ⟨by omega, by omega⟩
  · intro rs hrs
    cases hrs
theorem LSel13.note (h : LSel13 pl pw x jl jw lv qv o) {d : Nat} (hu : Upd o o' d) (hd : d ≤ 10000) {i m : Nat} (hx : OK13 i m x) :
    ∃ rs', (∀ Y, ((WM P pl pw x ++ Y).set jl (obP lv o')).set jw (obR qv o') = WM P pl pw (x.led rs') ++ Y) ∧ OK13 (i + 1) m (x.led rs') := by
  rcases h with ⟨rfl, rfl, rfl, rfl, rfl⟩ | ⟨rfl, rfl, rfl, rfl, rfl⟩
  · match o', hu with
    | some rs', ⟨h1, h2, h3⟩ =>
      refine ⟨rs', fun Y => rfl, ⟨hx.r0, hx.r1, ?_, ?_, ?_, ?_, hx.same, hx.small, hx.m0, hx.m1⟩⟩
      · show 0 ≤ tot rs'
        have := hx.nn; omega
      · show tot rs' ≤ _
        have := hx.sum; omega
      · show rs'.length ≤ _
        have := hx.len; omega
      · show x.ts.length ≤ _
        have := hx.tl; omega
  · match o', hu with
    | none, _ => exact ⟨x.rs, fun Y => rfl, hx.up (Nat.le_refl _) (by omega)⟩
theorem WM_setS (k : Nat) (hk : k < 2) (p : Pm) (R : Option Rm) (hp : p.v = (sdM k x).v) (hR : rmV R = rmV (sideM k x.R0 x.R1)) :
    (((WM P pl pw x ++ Y).set (3 + k) p.oc).set (10 + k) p.om).set 5 (obM2 (mpt1 k x.R0 R) (mpt2 k x.R1 R)) = WM P pl pw (x.setS k p R) ++ Y := by
  have e : pairM pl pw (x.setS k p R) = pairM pl pw x := by
    rcases (by omega : k = 0 ∨ k = 1) with rfl | rfl
    · show #[p.v, x.p1.v, rmV R, rmV x.R1, pl, pw, x.tv, x.wv] = #[x.p0.v, x.p1.v, rmV x.R0, rmV x.R1, pl, pw, x.tv, x.wv]
      rw [hp, hR]; rfl
    · show #[x.p0.v, p.v, rmV x.R0, rmV R, pl, pw, x.tv, x.wv] = #[x.p0.v, x.p1.v, rmV x.R0, rmV x.R1, pl, pw, x.tv, x.wv]
      rw [hp, hR]; rfl
  have q : WM P pl pw (x.setS k p R) ++ Y = obK P 68 (pairM pl pw (x.setS k p R)) :: ((WM P pl pw (x.setS k p R)).tail ++ Y) := rfl
  rw [q, e]
  rcases (by omega : k = 0 ∨ k = 1) with rfl | rfl <;> rfl
/-- both sides' pointers written, too -/
theorem WM_setP (k : Nat) (hk : k < 2) (p : Pm) (R : Option Rm) :
    ((((WM P pl pw x ++ Y).set 0 (obK P 68 (((pairM pl pw x).setIfInBounds k p.v).setIfInBounds (2 + k) (rmV R)))).set (3 + k) p.oc).set (10 + k) p.om).set 5 (obM2 (mpt1 k x.R0 R) (mpt2 k x.R1 R)) = WM P pl pw (x.setS k p R) ++ Y := by
  rcases (by omega : k = 0 ∨ k = 1) with rfl | rfl <;> rfl
end
theorem OK13.set {i m n : Nat} {x : St13} (h : OK13 i m x) (k : Nat) (hk : k < 2) {p : Pm} {R : Option Rm} (hr : relM p R) (hm : m ≤ n) (hp : p.msgLen ≤ n) : OK13 i n (x.setS k p R) := by
  rcases (by omega : k = 0 ∨ k = 1) with rfl | rfl
  · exact ⟨hr, h.r1, h.nn, h.sum, h.len, h.tl, h.same, h.small, hp, Nat.le_trans h.m1 hm⟩
  · exact ⟨h.r0, hr, h.nn, h.sum, h.len, h.tl, h.same, h.small, Nat.le_trans h.m0 hm, hp⟩
theorem Pm.write_v (p : Pm) (d : List UInt8) : (p.write d).v = p.v ∧ (p.write d).oc = p.oc := by cases p <;> exact ⟨rfl, rfl⟩
theorem Pm.reset_v (p : Pm) : p.reset.v = p.v ∧ p.reset.oc = p.oc := by cases p <;> exact ⟨rfl, rfl⟩
theorem Pm.wipe_v (p : Pm) : p.wipe.v = p.v := by cases p <;> rfl
theorem Pm.write_len (p : Pm) (d : List UInt8) : (p.write d).msgLen ≤ p.msgLen + d.length := by
  cases p
  · exact Nat.zero_le _
  · show (_ ++ d).length ≤ _
    rw [List.length_append]
    exact Nat.le_refl _
  · exact Nat.zero_le _
theorem Pm.reset_len (p : Pm) : p.reset.msgLen ≤ p.msgLen := by
  cases p <;> exact Nat.zero_le _
theorem Pm.wipe_len (p : Pm) : p.wipe.msgLen ≤ p.msgLen := by
  cases p <;> exact Nat.zero_le _
theorem Pm.tag_len (p : Pm) : p.tag.length ≤ 400 := by
  cases p
  · exact Nat.zero_le _
  · show (tagR _ _).length ≤ _
    rw [← tagOf_is, tagOf_len]; omega
  · exact Nat.zero_le _
theorem Pm.form_len {p : Pm} {R : Option Rm} (h : relM p R) : p.form.length ≤ 400 := by
  cases p
  · exact Nat.zero_le _
  · obtain ⟨r, _, _, _, _, hk⟩ := h.get
    show (formR _ _).length ≤ _
    rw [formR_len _ _ hk]
    unfold RightLen at hk
    omega
  · exact Nat.zero_le _
section
variable {w0 w : World} {P : Nat} {pl pw : Value} {x : St13} {jl jw : Nat} {lv qv : Value} {o o' : Option (List Rn)} {Y : List Ob}
theorem end_write (hs : LSel13 pl pw x jl jw lv qv o) (k : Nat) (hk : k < 2) {d : List UInt8} {R : Option Rm} (hR : rmV R = rmV (sideM k x.R0 x.R1)) {rs' : List Rn} (hset : ∀ Y, ((WM P pl pw x ++ Y).set jl (obP lv o')).set jw (obR qv o') = WM P pl pw (x.led rs') ++ Y)
    (h : Env w0 w (((((WM P pl pw x ++ Y).set jl (obP lv o')).set (10 + k) ((sdM k x).write d).om).set 5 (obM2 (mpt1 k x.R0 R) (mpt2 k x.R1 R))).set jw (obR qv o'))) : Env w0 w (WM P pl pw ((x.led rs').setS k ((sdM k x).write d) R) ++ Y) := by
  have h3 : (((WM P pl pw x ++ Y).set jl (obP lv o')).set (3 + k) ((sdM k x).write d).oc) = (WM P pl pw x ++ Y).set jl (obP lv o') := by
    apply set_is
    rw [List.getElem?_set_ne (by rcases hs.j with ⟨h1, h2⟩ | ⟨h1, h2⟩ <;> omega), (Pm.write_v _ d).2]
    exact WM_c k hk
  rw [← h3] at h
  have e : (((((WM P pl pw x ++ Y).set jl (obP lv o')).set (3 + k) ((sdM k x).write d).oc).set (10 + k) ((sdM k x).write d).om).set 5 (obM2 (mpt1 k x.R0 R) (mpt2 k x.R1 R))).set jw (obR qv o') = (((((WM P pl pw x ++ Y).set jl (obP lv o')).set jw (obR qv o')).set (3 + k) ((sdM k x).write d).oc).set (10 + k) ((sdM k x).write d).om).set 5 (obM2 (mpt1 k x.R0 R) (mpt2 k x.R1 R)) := by
    rcases (by omega : k = 0 ∨ k = 1) with rfl | rfl <;> rcases hs.j with ⟨rfl, rfl⟩ | ⟨rfl, rfl⟩ <;> rfl
  rw [e, hset] at h
  have e2 := WM_setS (P := P) (pl := pl) (pw := pw) (x := x.led rs') (Y := Y) k hk ((sdM k x).write d) R (by rw [(Pm.write_v _ d).1]; rfl) hR
  rw [← e2]
  exact h
theorem end_reset (k : Nat) (hk : k < 2) {R : Option Rm} (hR : rmV R = rmV (sideM k x.R0 x.R1))
    (h : Env w0 w (((WM P pl pw x ++ Y).set (10 + k) (sdM k x).reset.om).set 5 (obM2 (mpt1 k x.R0 R) (mpt2 k x.R1 R)))) : Env w0 w (WM P pl pw (x.setS k (sdM k x).reset R) ++ Y) := by
  have h3 : ((WM P pl pw x ++ Y).set (3 + k) (sdM k x).reset.oc) = WM P pl pw x ++ Y := by
    apply set_is
    rw [(Pm.reset_v _).2]
    exact WM_c k hk
  rw [← h3] at h
  rw [← WM_setS (P := P) (pl := pl) (pw := pw) (x := x) (Y := Y) k hk (sdM k x).reset R (Pm.reset_v _).1 hR]
  exact h
theorem end_wipe (hs : LSel13 pl pw x jl jw lv qv o) (k : Nat) (hk : k < 2) {R : Option Rm} (hR : rmV R = rmV (sideM k x.R0 x.R1)) {rs' : List Rn} (hset : ∀ Y, ((WM P pl pw x ++ Y).set jl (obP lv o')).set jw (obR qv o') = WM P pl pw (x.led rs') ++ Y)
    (h : Env w0 w (((((WM P pl pw x ++ Y).set jl (obP lv o')).set (3 + k) (sdM k x).wipe.oc).set (10 + k) (sdM k x).wipe.om).set jw (obR qv o') |>.set 5 (obM2 (mpt1 k x.R0 R) (mpt2 k x.R1 R)))) : Env w0 w (WM P pl pw ((x.led rs').setS k (sdM k x).wipe R) ++ Y) := by
  have e : ((((WM P pl pw x ++ Y).set jl (obP lv o')).set (3 + k) (sdM k x).wipe.oc).set (10 + k) (sdM k x).wipe.om).set jw (obR qv o') = (((((WM P pl pw x ++ Y).set jl (obP lv o')).set jw (obR qv o')).set (3 + k) (sdM k x).wipe.oc).set (10 + k) (sdM k x).wipe.om) := by
    rcases (by omega : k = 0 ∨ k = 1) with rfl | rfl <;> rcases hs.j with ⟨rfl, rfl⟩ | ⟨rfl, rfl⟩ <;> rfl
  rw [e, hset] at h
  have e2 := WM_setS (P := P) (pl := pl) (pw := pw) (x := x.led rs') (Y := Y) k hk (sdM k x).wipe R (Pm.wipe_v _) hR
  rw [← e2]
  exact h
end
end Go.Proofs.Ytpampcokonicfaa
/- The law's pair of Macs: make. -/
namespace Go.Proofs.Ytpampcokonicfaa
open Go.RowKit
set_option maxRecDepth 100000
set_option linter.unusedVariables false
set_option linter.unusedSimpArgs false
attribute [local go_sem] Oper.semAt_some
theorem Env.swapOne {w0 w : World} {L : List Ob} {C : Ob} (h : Env w0 w (L ++ [C])) (m : Nat) (hm : m < L.length) : Env w0 w (L.set m C) := by
  refine h.pick (fun j => if j = m then L.length else j) ?_ ?_
  · intro i j hi hj e
    rw [List.length_set] at hi hj
    by_cases h1 : i = m <;> by_cases h2 : j = m <;> simp only [h1, h2, if_true, if_false] at e <;> omega
  · intro j ob hj
    have hjl : j < L.length := by
      have := (List.getElem?_eq_some_iff.1 hj).1
      rwa [List.length_set] at this
    by_cases h1 : j = m
    · subst h1
      rw [List.getElem?_set_self hjl] at hj
      rw [if_pos rfl]
      exact (at_r rfl 0).trans hj
    · rw [List.getElem?_set_ne (fun e => h1 e.symm)] at hj
      rw [if_neg h1, List.getElem?_append_left hjl]
      exact hj
theorem Env.swapTwo {w0 w : World} {L : List Ob} {B C : Ob} (h : Env w0 w (L ++ [B, C])) (m n : Nat) (hm : m < L.length) (hn : n < L.length) : Env w0 w ((L.set m C).set n B) := by
  have h1 : Env w0 w ((L ++ [B]) ++ [C]) := by simpa using h
  have h2 := h1.swapOne m (by rw [List.length_append]; omega)
  rw [List.set_append_left _ _ hm] at h2
  exact h2.swapOne n (by rw [List.length_set]; exact hn)
structure Make13R (w0 : World) (P : Nat) (pl pw : Value) (i m : Nat) (Y : List Ob) (e : Ending) (w' : World) : Prop where
  ex : e = .returned (.bool true) ∧ ∃ x', Env w0 w' (WM P pl pw x' ++ Y) ∧ OK13 i m x'
theorem WM_len {P : Nat} {pl pw : Value} {x : St13} : (WM P pl pw x).length = 12 := rfl
theorem newMP_env {w0 w : World} {obs : List Ob} (h : Env w0 w obs) (i : Nat) {q : Value} {o : Option (List Rn)} (hi : obs[i]? = some (obP q o)) (hb : Lots o) {u : Value} {key : List UInt8} (hu : Src w0 w obs i u key) (hk : RightLen key.length) :
    Calls Try.prog 10 #[q, u] w fun e w' => ∃ b c : Nat, e = .returned (.tuple #[.pointer (some ⟨b, 0, none⟩), .int .i64 0]) ∧ Env w0 w' (obs.set i (obP q (noteN o key.length)) ++ [(Pm.live b c key []).oc, (Pm.live b c key []).om]) :=
  newMac_env h i hi (hb.room (Upd.refl o) (by omega) 1 (by omega)) (hb.room (Upd.note o 4 key.length) (by omega) 1 (by omega)) hu hk
set_option maxHeartbeats 4000000 in
theorem make13 {w0 w : World} {P : Nat} {pl pw : Value} {x : St13} {Y : List Ob} (h : Env w0 w (WM P pl pw x ++ Y)) {i m : Nat} (hx : OK13 i m x) (hi : i ≤ 1000) (k : Nat) (hk : k < 2) {u : Value} {key : List UInt8} (hu : Bs w0 u key) (hkl : key.length + 6 ≤ 140737488355328) {jl jw : Nat} {lv qv : Value} {o : Option (List Rn)} (hs : LSel13 pl pw x jl jw lv qv o) :
    Calls Try.prog 35 #[.pointer (some ⟨P, 0, none⟩), .int .i64 (k : Int), u, lv, qv] w (Make13R w0 P pl pw (i + 1) m Y) := by
  have HE := Lib.hid h
  have HX := Lib.hid hx
  have HS := Lib.hid hs
  have HU := Lib.hid hu
  have hjj := hs.j
  have n1 : jl ≠ jw ∧ jl ≠ 5 ∧ jw ≠ 5 ∧ jl < 12 ∧ jw < 12 := by rcases hjj with ⟨rfl, rfl⟩ | ⟨rfl, rfl⟩ <;> decide
  obtain ⟨n1, n2, n3, n6, n7⟩ := n1
  have hlots := Lib.hid ((hs.lotl hx hi).lots (Upd.refl o) (by omega))
  have hlotl := Lib.hid (hs.lotl hx hi)
  have huo := h.old hu
  obtain ⟨ao, cap, rfl, hc1, hc2, _⟩ := hu.form
  have HUO := Lib.hid huo
  clear h hx hs hu huo
  go_enter Try.func35, Try.ntmps35
  go_wp2_with fail
  refine (lent_env HE.out HUO.out hkl).mono ?_
  rintro e w1 ⟨g, gc, rfl, h5⟩
  rw [lent_length] at h5
  rw [lent_length]
  rw [List.append_assoc] at h5
  obtain ⟨N, hN⟩ : ∃ N, 12 + Y.length = N := ⟨_, rfl⟩
  have hNj : N ≠ jl ∧ N ≠ jw := by omega
  have hat : ∀ (x : St13) (y : List UInt8), (WM P pl pw x ++ (Y ++ [obB (.slice (some ⟨g, 0, none⟩) (key.length + 6) gc) y]))[N]? = some (obB (.slice (some ⟨g, 0, none⟩) (key.length + 6) gc) y) := by
    intro x y
    rw [← hN, ← List.append_assoc]
    have := at_r (A := WM P pl pw x ++ Y) (L := [obB (.slice (some ⟨g, 0, none⟩) (key.length + 6) gc) y]) (n := 12 + Y.length) (by rw [List.length_append, WM_len]) 0
    exact this
  have HAT := Lib.hid hat
  have HN := Lib.hid (And.intro hN hNj)
  have H1 := Lib.hid h5
  have hgl := (H1.out.bytes N (hat x (lent key)))
  have hgc : key.length + 6 ≤ gc ∧ gc ≤ 9223372036854775807 := by
    obtain ⟨ao', cap', he, q1, q2, _⟩ := hgl.rd.form
    injection he with _ _ he
    subst he
    rw [lent_length] at q1
    exact ⟨q1, q2⟩
  obtain ⟨hgc1, hgc2⟩ := hgc
  have bk : 0 ≤ (k : Int) ∧ (k : Int) < 2 := by omega
  have hsrc : Src w0 w1 (WM P pl pw x ++ (Y ++ [obB (.slice (some ⟨g, 0, none⟩) (key.length + 6) gc) (lent key)])) jl (.slice (some ⟨g, 0, none⟩) key.length gc) key := Src.lent H1.out jl N (by omega) (by rw [lent_length]; exact hat x _)
  have HSRC := Lib.hid hsrc
  clear h5 hgl HE hN hNj hat hsrc
  by_cases hr : RightLen key.length
  · go_wp2_with fail
    refine (newMP_env H1.out jl (q := lv) (o := o) HS.out.l hlots.out HSRC.out hr).mono ?_
    rintro e w2 ⟨b, c, rfl, h5⟩
    have H2 := Lib.hid h5
    clear h5
    go_wp2_with fail
    refine (rmNew_env H2.out 5 jw (by omega) (r := x.R0) (s := x.R1) (q := qv) (o := o) (by rw [List.getElem?_append_left (by rw [List.length_set, List.length_append, WM_len]; omega), List.getElem?_set_ne (by omega)]; rfl) (by rw [List.getElem?_append_left (by rw [List.length_set, List.length_append, WM_len]; omega), List.getElem?_set_ne (by omega)]; exact HS.out.w) (hlots.out.room (Upd.refl o) (by omega) 1 (by omega)) k hk HU.out hr (hlots.out.room (Upd.note o 4 key.length) (by omega) 1 (by omega))).mono ?_
    rintro e w3 ⟨R, he, hRm, hRk, hRg, h5⟩
    have hv : R.v = .pointer (some ⟨R.b, 0, none⟩) := rfl
    rw [hv] at he
    subst he
    rw [times_noted _ key.length 1 1 rfl] at h5
    rw [List.set_append_left _ _ (by rw [List.length_set, List.length_append, WM_len]; omega), List.set_append_left _ _ (by rw [List.length_set, List.length_set, List.length_append, WM_len]; omega), List.set_comm _ _ (show (5 : Nat) ≠ jw from by omega)] at h5
    obtain ⟨rs', hset, hok⟩ := HS.out.note (P := P) (upd_N o key.length) (by omega) HX.out
    have h5 : Env w0 w3 ((WM P pl pw (x.led rs') ++ (Y ++ [obB (.slice (some ⟨g, 0, none⟩) (key.length + 6) gc) (lent key)])).set 5 (obM2 (mpt1 k x.R0 (some R)) (mpt2 k x.R1 (some R))) ++ [(Pm.live b c key []).oc, (Pm.live b c key []).om]) := by
      rw [← hset]
      exact h5
    have hrel : relM (.live b c key []) (some R) := ⟨hRm, hRk, hRg, hr⟩
    have HOK := Lib.hid (hok.set k hk hrel (Nat.le_refl m) (Nat.zero_le _))
    have H3 := Lib.hid h5
    clear h5 hset hok hrel hRm hRk hRg H2 hv HSRC
    go_upto_region 4 with fail
    have c10 : ∀ y : List UInt8, ((WM P pl pw (x.led rs') ++ (Y ++ [obB (.slice (some ⟨g, 0, none⟩) (key.length + 6) gc) y])).set 5 (obM2 (mpt1 k x.R0 (some R)) (mpt2 k x.R1 (some R))) ++ [(Pm.live b c key []).oc, (Pm.live b c key []).om])[N]? = some (obB (.slice (some ⟨g, 0, none⟩) (key.length + 6) gc) y) := fun y => by
      have hN := HN.out.1
      rw [List.getElem?_append_left (by rw [List.length_set, List.length_append, WM_len, List.length_append, List.length_singleton]; omega), List.getElem?_set_ne (by omega)]
      exact HAT.out _ y
    have C10 := Lib.hid c10
    have HRD := Lib.hid (And.intro (H3.out.bytes N (c10 (lent key))).rd (H3.out.old HU.out))
    clear c10
    go_wp2_with fail
    refine (kept_env H3.out HRD.out.1 HRD.out.2 hkl).mono ?_
    rintro e w4 ⟨he, h5⟩
    rw [decide_eq_true rfl] at he
    subst he
    have H4 := Lib.hid h5
    clear h5 H3 HRD
    go_wp2_with fail
    refine (over_env H4.out N (C10.out (lent key)) (by rw [lent_length]; omega)).mono ?_
    rintro e w5 ⟨rfl, h5⟩
    have h6 : Env w0 w5 ((WM P pl pw (x.led rs') ++ (Y ++ [obB (.slice (some ⟨g, 0, none⟩) (key.length + 6) gc) (over (lent key).length)])).set 5 (obM2 (mpt1 k x.R0 (some R)) (mpt2 k x.R1 (some R))) ++ [(Pm.live b c key []).oc, (Pm.live b c key []).om]) := by
      have hN := HN.out.1
      rw [List.set_append_left _ _ (by rw [List.length_set, List.length_append, WM_len, List.length_append, List.length_singleton]; omega), List.set_comm _ _ (show (5 : Nat) ≠ N from by omega), ← List.append_assoc, List.set_append_right _ _ (by rw [List.length_append, WM_len]; omega), List.length_append, WM_len, hN, Nat.sub_self, List.append_assoc] at h5
      exact h5
    obtain ⟨Z, hZ⟩ : ∃ Z, Y ++ [obB (.slice (some ⟨g, 0, none⟩) (key.length + 6) gc) (over (lent key).length)] = Z := ⟨_, rfl⟩
    rw [hZ] at h6
    have hP := h6.blk 0 (b := P) (cs := pairM pl pw x) rfl
    have f0 := hP.unfrozen k
    have d0 := hP.cellAt k (pairM_c k hk)
    have hP2 := hP.set k (.pointer (some ⟨b, 0, none⟩))
    have f1 := hP2.unfrozen (2 + k)
    have d1 : (w5.setCell ⟨P, k, none⟩ (.pointer (some ⟨b, 0, none⟩))).cell? ⟨P, 2 + k, none⟩ = some (rmV (sideM k x.R0 x.R1)) := hP2.cellAt (2 + k) (by rw [Array.getElem?_setIfInBounds_ne (by omega)]; exact pairM_r k hk)
    have hbP := hP.lt
    have h7 : Env w0 ((w5.setCell ⟨P, k, none⟩ (.pointer (some ⟨b, 0, none⟩))).setCell ⟨P, 2 + k, none⟩ (.pointer (some ⟨R.b, 0, none⟩))) ((((WM P pl pw (x.led rs') ++ Z).set 5 (obM2 (mpt1 k x.R0 (some R)) (mpt2 k x.R1 (some R)))).set 0 (obK P 68 (((pairM pl pw x).setIfInBounds k (.pointer (some ⟨b, 0, none⟩))).setIfInBounds (2 + k) R.v))) ++ [(Pm.live b c key []).oc, (Pm.live b c key []).om]) := by
      have h8 := h6.turnBlk 0 (b := P) rfl (hP2.set (2 + k) R.v) (((Only.refl (fun x => x = P) w5).set (p := ⟨P, k, none⟩) (.inl rfl) _).set (p := ⟨P, 2 + k, none⟩) (.inl rfl) _)
      rw [List.set_append_left _ _ (by rw [List.length_set, List.length_append, WM_len]; omega)] at h8
      exact h8
    have h9 := h7.swapTwo (10 + k) (3 + k) (by rw [List.length_set, List.length_set, List.length_append, WM_len]; omega) (by rw [List.length_set, List.length_set, List.length_append, WM_len]; omega)
    have e9 : ((((WM P pl pw (x.led rs') ++ Z).set 5 (obM2 (mpt1 k x.R0 (some R)) (mpt2 k x.R1 (some R)))).set 0 (obK P 68 (((pairM pl pw x).setIfInBounds k (.pointer (some ⟨b, 0, none⟩))).setIfInBounds (2 + k) R.v))).set (10 + k) (Pm.live b c key []).om).set (3 + k) (Pm.live b c key []).oc = WM P pl pw ((x.led rs').setS k (.live b c key []) (some R)) ++ Z := by
      rcases (by omega : k = 0 ∨ k = 1) with rfl | rfl <;> rfl
    rw [e9, ← hZ, ← List.append_assoc] at h9
    have H9 := Lib.hid h9.leftA
    clear h5 h6 h7 h9 e9 hP hP2 H4 H1 hZ
    go_wp2_with fail
    go_ret
    exact ⟨rfl, _, H9.out, HOK.out⟩
  · have HNR := Lib.hid hr
    have hrl : Bs w1 (.slice (some ⟨g, 0, none⟩) key.length gc) key := HSRC.out.1
    have HRL := Lib.hid hrl
    clear hrl hr HSRC
    go_wp2_with fail
    refine (newM_off lv _ key w1 HRL.out HNR.out).mono ?_
    rintro e w2 ⟨rfl, rfl⟩
    have HRD := Lib.hid (And.intro (H1.out.bytes N (HAT.out x _)).rd (H1.out.old HU.out))
    go_wp2_with fail
    refine (rmNew_no (q := qv) HRD.out.2 HNR.out).mono ?_
    rintro e w3 ⟨rfl, rfl⟩
    go_wp2_with fail
    refine (kept_env H1.out HRD.out.1 HRD.out.2 hkl).mono ?_
    rintro e w4 ⟨he, h5⟩
    rw [decide_eq_true rfl] at he
    subst he
    have H4 := Lib.hid h5
    clear h5 H1 HRD
    go_wp2_with fail
    refine (over_env H4.out N (HAT.out x _) (by rw [lent_length]; omega)).mono ?_
    rintro e w5 ⟨rfl, h5⟩
    have h6 : Env w0 w5 (WM P pl pw x ++ Y) := by
      have hN := HN.out.1
      rw [← List.append_assoc, List.set_append_right _ _ (by rw [List.length_append, WM_len]; omega)] at h5
      exact h5.leftA
    have H6 := Lib.hid h6
    clear h5 h6 H4
    go_wp2_with fail
    go_ret
    exact ⟨rfl, x, H6.out, HX.out.up (Nat.le_refl _) (by omega)⟩
end Go.Proofs.Ytpampcokonicfaa
/- The law's pair of Macs: tell. -/
namespace Go.Proofs.Ytpampcokonicfaa
open Go.RowKit
set_option maxRecDepth 100000
set_option linter.unusedVariables false
set_option linter.unusedSimpArgs false
attribute [local go_sem] Oper.semAt_some
def St13.tell (x : St13) (tv wv v v' : Value) (l : List UInt8) : St13 := { x with tv := tv, wv := wv, ts := x.ts ++ [(v, l)], ws := x.ws ++ [(v', l)] }
theorem OK13.tell {i m : Nat} {x : St13} (h : OK13 i m x) (tv wv v v' : Value) {l : List UInt8} (hl : l.length ≤ 400) : OK13 (i + 1) m (x.tell tv wv v v' l) := by
  refine ⟨h.r0, h.r1, h.nn, by have := h.sum; show tot x.rs ≤ _; omega, by have := h.len; show x.rs.length ≤ _; omega, ?_, ?_, fun y hy => ?_, h.m0, h.m1⟩
  · have := h.tl
    show (x.ts ++ [(v, l)]).length ≤ i + 1
    rw [List.length_append, List.length_singleton]
    omega
  · show List.map _ (x.ts ++ [(v, l)]) = List.map _ (x.ws ++ [(v', l)])
    rw [List.map_append, List.map_append, h.same]
    rfl
  · rcases List.mem_append.1 hy with hy | hy
    · exact h.small y hy
    · simp at hy
      subst hy
      exact hl
structure Tell13R (w0 : World) (P : Nat) (pl pw : Value) (x : St13) (v v' : Value) (l : List UInt8) (Y : List Ob) (e : Ending) (w' : World) : Prop where
  ex : e = .returned (.bool true) ∧ ∃ tv wv, Env w0 w' (WM P pl pw (x.tell tv wv v v' l) ++ Y)
set_option maxHeartbeats 4000000 in
theorem tell13 {w0 w : World} {P : Nat} {pl pw : Value} {x : St13} {Y : List Ob} {v v' : Value} {l : List UInt8} (h : Env w0 w (WM P pl pw x ++ Y ++ [obBX v l, obBX v' l])) (hn : x.ts.length ≤ 5000000000) (hw : x.ws.length ≤ 5000000000) (hl : l.length ≤ 400) :
    Calls Try.prog 59 #[.pointer (some ⟨P, 0, none⟩), v, v'] w (Tell13R w0 P pl pw x v v' l Y) := by
  have HE := Lib.hid h.swap2
  have HL := Lib.hid hl
  have q1 := h.bytesX (WM P pl pw x ++ Y).length (v := v) (l := l) (at_r rfl 0)
  have q2 := h.bytesX ((WM P pl pw x ++ Y).length + 1) (v := v') (l := l) (at_r rfl 1)
  obtain ⟨ao, c1, rfl, _⟩ := q1.form
  obtain ⟨bo, c2, rfl, _⟩ := q2.form
  obtain ⟨fo, fc, hfv, hf1, hf2⟩ := AX.obT_form h 6 (u := x.tv) (ts := x.ts) rfl
  obtain ⟨go, gc, hgv, hg1, hg2⟩ := AX.obT_form h 7 (u := x.wv) (ts := x.ws) rfl
  have HFV := Lib.hid (And.intro hfv hgv)
  have hP := h.blk 0 (b := P) rfl
  have d0 : w.cell? ⟨P, 6, none⟩ = some (.slice fo x.ts.length fc) := by rw [← hfv]; exact hP.cellAt 6 rfl
  have df := hP.unfrozen 6
  have dl := hP.lt
  clear q1 q2 hfv hgv hP h hl
  go_enter Try.func59, Try.ntmps59
  obtain ⟨e1, he1⟩ : ∃ y, [obBX (.slice bo l.length c2) l] = y := ⟨_, rfl⟩
  have H1 : Hid (Env w0 w ((WM P pl pw x ++ Y ++ e1) ++ [obBX (.slice ao l.length c1) l])) := by
    rw [← he1]
    have := HE.out
    exact Lib.hid (by simpa using this)
  have HE1 := Lib.hid he1
  clear he1 HE
  go_wp2_with (at_builtin; refine AX.wpList_append_T (obs := WM P pl pw x ++ Y ++ e1) H1.out 6 (u := x.tv) (ts := x.ts) rfl _ _ rfl rfl HFV.out.1.symm rfl (by omega) ?_)
  intro u8 w7 h7
  obtain ⟨uo, uc, hu8, _, _⟩ := AX.obT_form h7 6 (u := u8) (ts := x.ts ++ [(.slice ao l.length c1, l)]) rfl
  rw [List.length_append, List.length_singleton] at hu8
  subst hu8
  obtain ⟨x1, hx1⟩ : ∃ y : St13, { x with tv := (.slice uo (x.ts.length + 1) uc), ts := x.ts ++ [(.slice ao l.length c1, l)] } = y := ⟨_, rfl⟩
  have hP1 := h7.blk 0 (b := P) rfl
  have e6 : w7.cell? ⟨P, 6, none⟩ = some (.slice fo x.ts.length fc) := by rw [← HFV.out.1]; exact hP1.cellAt 6 rfl
  have ef := hP1.unfrozen 6
  have el := hP1.lt
  have h8 : Env w0 (w7.setCell ⟨P, 6, none⟩ (.slice uo (x.ts.length + 1) uc)) (WM P pl pw x1 ++ Y ++ e1) := by
    rw [← hx1]
    exact h7.turnBlk 0 (b := P) rfl (hP1.set 6 (.slice uo (x.ts.length + 1) uc)) ((Only.refl (fun x => x = P) w7).set (p := ⟨P, 6, none⟩) (.inl rfl) _)
  have H8 := Lib.hid h8
  clear h7 h8 hP1 d0 df dl H1
  go_upto_region 2 with fail
  clear e6 ef el
  obtain ⟨w8, hw8⟩ : ∃ y, w7.setCell ⟨P, 6, none⟩ (.slice uo (x.ts.length + 1) uc) = y := ⟨_, rfl⟩
  rw [hw8] at H8 ⊢
  clear hw8
  have eW : x1.wv = x.wv ∧ x1.ws = x.ws := by rw [← hx1]; exact ⟨rfl, rfl⟩
  have d0 : w8.cell? ⟨P, 7, none⟩ = some (.slice go x.ws.length gc) := by rw [← HFV.out.2, ← eW.1]; exact (H8.out.blk 0 (b := P) rfl).cellAt 7 rfl
  have df := (H8.out.blk 0 (b := P) rfl).unfrozen 7
  have dl := (H8.out.blk 0 (b := P) rfl).lt
  have H1 : Hid (Env w0 w8 ((WM P pl pw x1 ++ Y) ++ [obBX (.slice bo l.length c2) l])) := by
    rw [HE1.out]
    exact H8
  have HX1 := Lib.hid (And.intro hx1 eW)
  clear H8 HE1 hx1 eW
  go_wp2_with (at_builtin; refine AX.wpList_append_T (obs := WM P pl pw x1 ++ Y) H1.out 7 (u := x1.wv) (ts := x1.ws) rfl _ _ rfl rfl (by rw [HX1.out.2.1]; exact HFV.out.2.symm) rfl (by rw [HX1.out.2.2]; omega) ?_)
  intro u9 w9 h9
  rw [HX1.out.2.2] at h9
  obtain ⟨vo, vc, hu9, _, _⟩ := AX.obT_form h9 7 (u := u9) (ts := x.ws ++ [(.slice bo l.length c2, l)]) rfl
  rw [List.length_append, List.length_singleton] at hu9
  subst hu9
  have hP1 := h9.blk 0 (b := P) rfl
  have e6 : w9.cell? ⟨P, 7, none⟩ = some (.slice go x.ws.length gc) := by rw [← HFV.out.2, ← HX1.out.2.1]; exact hP1.cellAt 7 rfl
  have ef := hP1.unfrozen 7
  have el := hP1.lt
  have h10 : Env w0 (w9.setCell ⟨P, 7, none⟩ (.slice vo (x.ws.length + 1) vc)) (WM P pl pw (x.tell (.slice uo (x.ts.length + 1) uc) (.slice vo (x.ws.length + 1) vc) (.slice ao l.length c1) (.slice bo l.length c2) l) ++ Y) := by
    have h11 := h9.turnBlk 0 (b := P) rfl (hP1.set 7 (.slice vo (x.ws.length + 1) vc)) ((Only.refl (fun x => x = P) w9).set (p := ⟨P, 7, none⟩) (.inl rfl) _)
    rw [← HX1.out.1] at h11
    exact h11
  have H10 := Lib.hid h10
  clear h9 h10 hP1 d0 df dl H1
  go_upto_region 3 with fail
  clear e6 ef el
  obtain ⟨w10, hw10⟩ : ∃ y, w9.setCell ⟨P, 7, none⟩ (.slice vo (x.ws.length + 1) vc) = y := ⟨_, rfl⟩
  rw [hw10] at H10 ⊢
  clear hw10
  have g1 : (x.ts ++ [((Value.slice ao l.length c1), l)])[x.ts.length]? = some (.slice ao l.length c1, l) := by simp
  have g2 : (x.ws ++ [((Value.slice bo l.length c2), l)])[x.ws.length]? = some (.slice bo l.length c2, l) := by simp
  have HB := Lib.hid (And.intro (AX.obT_get H10.out 6 (u := .slice uo (x.ts.length + 1) uc) (ts := x.ts ++ [(.slice ao l.length c1, l)]) rfl g1) (AX.obT_get H10.out 7 (u := .slice vo (x.ws.length + 1) vc) (ts := x.ws ++ [(.slice bo l.length c2, l)]) rfl g2))
  clear g1 g2
  go_wp2_with fail
  refine (sameBytes_env H10.out HB.out.1 HB.out.2).mono ?_
  rintro e w11 ⟨he, h11⟩
  rw [decide_eq_true rfl] at he
  subst he
  have H11 := Lib.hid h11
  clear h11
  go_wp2_with fail
  go_ret
  exact ⟨rfl, _, _, H11.out⟩
end Go.Proofs.Ytpampcokonicfaa
/- A whole block is read under a guard. No program in sight. -/
namespace Go.Proofs.Ytpampcokonicfaa
open Go.RowKit
section
variable {P : Program} {ops : Array Oper} {rest : List Oper} {a : Act} {w : World} {Q : Exit → Act → World → Prop} {d : Option Tmp} {ot : TypeId} {x : Operand} {pos : String} {aft : Array Edge} {gd : Option (Nat × Bool)}
theorem wpList_load_gd {ty : TypeId} (g : Nat) (hw : Region.wanted ⟨d, .load ty x, ot, pos, aft, gd⟩ (yielded ops a.tmps) = true) (hx : a.eval x = .pointer (some ⟨g, 0, none⟩)) {t : TypeId} {cs : Array Value} {de : TypeDesc} {n : Nat} (hg : Blk w g t cs)
    (hu : P.underlying ty = some de) (hd : (match de with | .struct _ | .array _ _ => true | _ => false) = true) (hi : (P.info? ty).map (·.size) = some n) (hn : cs.size = n)
    (h : wpList P ops Q rest (a.put d (.agg cs)) w) : wpList P ops Q (⟨d, .load ty x, ot, pos, aft, gd⟩ :: rest) a w := by
  refine wpList_value (.agg cs) hw ?_ h
  simp only [execOp, hx, Instr.loadAt, Instr.sureAddr, Sem.run_bind, Sem.run_pure, Result.andThen_ok, run_loadVar_row w g t ty cs (0, 0) de hg hu hd (by rw [hi, hn])]
end
end Go.Proofs.Ytpampcokonicfaa
/- The contract of a law's block: sixteen bytes that begin with a list's. -/
namespace Go.Proofs.Ytpampcokonicfaa
open Go.RowKit
set_option maxRecDepth 100000
set_option linter.unusedVariables false
def blkTo (l : List UInt8) (k : Nat) : List UInt8 := tab 16 fun j => if j < k then l.getD j 0 else 0
def blk (l : List UInt8) : List UInt8 := tab 16 fun j => l.getD j 0
theorem blkTo_length (l : List UInt8) (k : Nat) : (blkTo l k).length = 16 := tab_length _ _
theorem blk_length (l : List UInt8) : (blk l).length = 16 := tab_length _ _
theorem blk_cells (l : List UInt8) : (barr (blk l)).size = 16 := by rw [barr_size, blk_length]
theorem blk_map (l : List UInt8) : ((blk l).map B).length = 16 := by rw [List.length_map, blk_length]
theorem blkTo_zero (l : List UInt8) : blkTo l 0 = List.replicate 16 0 := by
  rw [← tab_zero]
  exact tab_ext _ _ _ fun j _ => by simp
theorem blkTo_succ (l : List UInt8) (k : Nat) : (blkTo l k).set k (l.getD k 0) = blkTo l (k + 1) := by
  unfold blkTo
  rw [tab_set]
  refine tab_ext _ _ _ fun j _ => ?_
  by_cases e : j = k
  · subst e; simp
  · rw [if_neg e]
    by_cases h : j < k
    · rw [if_pos h, if_pos (by omega)]
    · rw [if_neg h, if_neg (by omega)]
theorem blkTo_end (l : List UInt8) (k : Nat) (h : l.length ≤ k ∨ 16 ≤ k) : blkTo l k = blk l := by
  unfold blkTo blk
  refine tab_ext _ _ _ fun j hj => ?_
  by_cases hk : j < k
  · rw [if_pos hk]
  · rw [if_neg hk]
    have hle : l.length ≤ j := by omega
    rw [List.getD_eq_getElem?_getD, List.getElem?_eq_none hle]
    rfl

end Go.Proofs.Ytpampcokonicfaa
/- The document's examples of the block cipher, reckoned. No program in sight. -/
namespace Go.Proofs.Ytpampcokonicfaa
set_option maxRecDepth 100000

def rise (n : Nat) (y : UInt8) : List UInt8 := (List.range n).map fun i => UInt8.ofNat (i * y.toNat % 256)
theorem known1 : enc (sched (rise 16 1)) 10 (rise 16 17) = [0x69, 0xc4, 0xe0, 0xd8, 0x6a, 0x7b, 0x04, 0x30, 0xd8, 0xcd, 0xb7, 0x80, 0x70, 0xb4, 0xc5, 0x5a] := by decide +kernel
theorem known2 : enc (sched (rise 24 1)) 12 (rise 16 17) = [0xdd, 0xa9, 0x7c, 0xa4, 0x86, 0x4c, 0xdf, 0xe0, 0x6e, 0xaf, 0x70, 0xa0, 0xec, 0x0d, 0x71, 0x91] := by decide +kernel
theorem known3 : enc (sched (rise 32 1)) 14 (rise 16 17) = [0x8e, 0xa2, 0xb7, 0xca, 0x51, 0x67, 0x45, 0xbf, 0xea, 0xfc, 0x49, 0x90, 0x4b, 0x49, 0x60, 0x89] := by decide +kernel
def WW1 : List UInt8 := [0x69, 0xc4, 0xe0, 0xd8, 0x6a, 0x7b, 0x04, 0x30, 0xd8, 0xcd, 0xb7, 0x80, 0x70, 0xb4, 0xc5, 0x5a]
def WW2 : List UInt8 := [0xdd, 0xa9, 0x7c, 0xa4, 0x86, 0x4c, 0xdf, 0xe0, 0x6e, 0xaf, 0x70, 0xa0, 0xec, 0x0d, 0x71, 0x91]
def WW3 : List UInt8 := [0x8e, 0xa2, 0xb7, 0xca, 0x51, 0x67, 0x45, 0xbf, 0xea, 0xfc, 0x49, 0x90, 0x4b, 0x49, 0x60, 0x89]
theorem awake_case (k : Nat) (hk : k < 3) : ∃ (n : Nat) (W : List UInt8), (16 : Int) + 8 * (k : Int) = (n : Int) ∧ (n = 16 ∨ n = 24 ∨ n = 32) ∧ n ≤ 32 ∧ 0 < n ∧ enc (sched (rise n 1)) (n / 4 + 6) (rise 16 17) = W ∧ W.length = 16 ∧ ∀ i, i < 16 → (WW1 ++ WW2 ++ WW3)[16 * k + i]? = W[i]? := by
  rcases k with _ | _ | _ | k
  · exact ⟨16, WW1, rfl, .inl rfl, by omega, by omega, known1, rfl, by decide⟩
  · exact ⟨24, WW2, rfl, .inr (.inl rfl), by omega, by omega, known2, rfl, by decide⟩
  · exact ⟨32, WW3, rfl, .inr (.inr rfl), by omega, by omega, known3, rfl, by decide⟩
  · omega
end Go.Proofs.Ytpampcokonicfaa
namespace Go.Proofs.Ytpampcokonicfaa
open Go.RowKit
set_option maxRecDepth 100000
set_option linter.unusedVariables false
set_option linter.unusedSimpArgs false

theorem rise_len (n : Nat) (y : UInt8) : (rise n y).length = n := by simp [rise]
theorem rise_succ (n : Nat) (y : UInt8) : rise (n + 1) y = rise n y ++ [UInt8.ofNat (n * y.toNat % 256)] := by simp [rise, List.range_succ]
theorem rise_zero (y : UInt8) : rise 0 y = [] := rfl
def WWA : List UInt8 := WW1 ++ WW2 ++ WW3
theorem guard16 : Try.prog.eqGuardType Try.prog.depth 31 = false := by kernel_rfl
theorem eqAt16 (l m : List UInt8) (hl : l.length = 16) (hm : m.length = 16) (b : Bool) (hb : (l == m) = b) (w : World) : (Op.equalIn 10000 31 (.agg (barr l)) (.agg (barr m))).run Try.prog w = .ok b w := by
  rw [run_eql_bytes Try.underlying31 (by kernel_rfl : Try.prog.info? 5 = some ((Try.prog.info? 5).getD default)) (by kernel_rfl) Try.underlying5 (by kernel_rfl) l m hl hm w, hb]
theorem blk_self (l : List UInt8) (h : l.length = 16) : blk l = l := tab_self l h
end Go.Proofs.Ytpampcokonicfaa
