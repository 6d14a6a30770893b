/- Some boxes of a law's world have turned in a loop; a range over a function whose two ways out meet. No program in sight but the ledger's events. -/
import Derived.Test.YtmdfmkdhfhbkjaaRows
import Derived.Test.YtmdfmkdhfhbkjaaAll
import Derived.Test.YtmdfmkdhfhbkjaaRound
namespace Go.Proofs.Ytmdfmkdhfhbkjaa
open Go.RowKit
set_option maxRecDepth 100000
set_option linter.unusedVariables false
set_option linter.unusedSimpArgs false
/-- the things of J have turned, each a known block -/
theorem Env.turns {w0 w w' : World} {obs obs' : List Ob} (h : Env w0 w obs) {S : Nat → Prop} (J : Nat → Prop) (ho : Only S w w') (hS : ∀ x, S x → ∃ (j : Nat) (t : TypeId) (cs : Array Value), J j ∧ obs[j]? = some (obK x t cs))
    (hsame : ∀ (i : Nat) (ob : Ob), obs'[i]? = some ob → (¬ J i ∧ obs[i]? = some ob) ∨ (∃ (b : Nat) (t : TypeId) (cs cs' : Array Value), obs[i]? = some (obK b t cs) ∧ ob = obK b t cs' ∧ Blk w' b t cs')) : Env w0 w' obs' := by
  obtain ⟨own, h1, h2⟩ := h
  have hown : ∀ x, S x → ∃ j, J j ∧ own x = j + 1 := by
    intro x hx
    obtain ⟨j, t, cs, hj, hj2⟩ := hS x hx
    obtain ⟨F, ⟨_, rfl⟩, h4⟩ := h2 j _ hj2
    exact ⟨j, hj, (h4 x rfl).1⟩
  refine ⟨fun x => if x < w.heap.size then own x else 0, ⟨h1.below.trans (ho.below0 (fun x hx hs => ?_) h1.below.size), fun x hx => ?_⟩, fun i ob hi => ?_⟩
  · obtain ⟨j, _, hj⟩ := hown x hs
    rw [h1.old x hx] at hj
    omega
  · show (if x < w.heap.size then own x else 0) = 0
    split
    · exact h1.old x hx
    · rfl
  · rcases hsame i ob hi with ⟨hJ, hob⟩ | ⟨b, t, cs, cs', hob, rfl, hb⟩
    · obtain ⟨F, h3, h4⟩ := h2 i ob hob
      refine ⟨F, ob.keep h3 ho (fun x hx hs => ?_), fun x hx => ⟨?_, Nat.lt_of_lt_of_le (h4 x hx).2 ho.size⟩⟩
      · obtain ⟨j, hj, he⟩ := hown x hs
        rw [(h4 x hx).1] at he
        have : i = j := by omega
        exact hJ (this ▸ hj)
      · show (if x < w.heap.size then own x else 0) = i + 1
        rw [if_pos (h4 x hx).2]
        exact (h4 x hx).1
    · obtain ⟨F, ⟨_, rfl⟩, h4⟩ := h2 i _ hob
      refine ⟨fun x => x = b, ⟨hb, rfl⟩, fun x hx => ⟨?_, ?_⟩⟩
      · show (if x < w.heap.size then own x else 0) = i + 1
        rw [if_pos (h4 x hx).2]
        exact (h4 x hx).1
      · rw [hx]; exact hb.lt
/-- a mark that a range over a function left, still to be taken -/
def obD (D : Nat) : Ob := ⟨fun w F => w.heap[D]? = some (.deferred (some [])) ∧ F = fun x => x = D, fun h ho hd => ⟨(ho.block D (Array.getElem?_eq_some_iff.1 h.1).1 (hd D (by rw [h.2]))).trans h.1, h.2⟩, fun h => by rw [h.2]; intro x hx; rw [hx]; exact (Array.getElem?_eq_some_iff.1 h.1).1⟩
/-- a block has turned, and a mark lies above -/
theorem Env.mark {w0 w w' : World} {obs : List Ob} (h : Env w0 w obs) (j : Nat) {b : Nat} {t : TypeId} {cs cs' : Array Value} (hj : obs[j]? = some (obK b t cs)) (hb : Blk w' b t cs') (ho : Only (fun x => x = b) w w') {D : Nat} (hD : w.heap.size ≤ D) (hm : w'.heap[D]? = some (.deferred (some []))) : Env w0 w' (obs.set j (obK b t cs') ++ [obD D]) := by
  obtain ⟨own, h1, h2⟩ := h
  have hlen : j < obs.length := (List.getElem?_eq_some_iff.1 hj).1
  obtain ⟨F, ⟨_, rfl⟩, h4⟩ := h2 j _ hj
  have hown : own b = j + 1 := (h4 b rfl).1
  have hlt : b < w.heap.size := (h4 b rfl).2
  have hbb := h1.below
  have hkeep : ∀ x, x < w.heap.size → (if x = D then obs.length + 1 else if x < w.heap.size then own x else 0) = own x := fun x hx => by
    rw [if_neg (by omega), if_pos hx]
  refine ⟨fun x => if x = D then obs.length + 1 else if x < w.heap.size then own x else 0, ⟨h1.below.trans (ho.below0 (fun x hx hs => ?_) h1.below.size), fun x hx => ?_⟩, fun i ob hi => ?_⟩
  · subst hs
    rw [h1.old x hx] at hown
    omega
  · exact (hkeep x (Nat.lt_of_lt_of_le hx hbb.size)).trans (h1.old x hx)
  · rcases Nat.lt_or_ge i obs.length with hil | hil
    · rw [List.getElem?_append_left (by simpa using hil)] at hi
      by_cases hij : i = j
      · subst hij
        rw [List.getElem?_set_self hil] at hi
        injection hi with hi
        subst hi
        exact ⟨fun x => x = b, ⟨hb, rfl⟩, fun x hx => by rw [hx]; exact ⟨(hkeep b hlt).trans hown, hb.lt⟩⟩
      · rw [List.getElem?_set_ne (fun e => hij e.symm)] at hi
        obtain ⟨F, h5, h6⟩ := h2 i ob hi
        refine ⟨F, ob.keep h5 ho (fun x hx hs => ?_), fun x hx => ⟨(hkeep x (h6 x hx).2).trans (h6 x hx).1, Nat.lt_of_lt_of_le (h6 x hx).2 ho.size⟩⟩
        subst hs
        have := (h6 x hx).1
        omega
    · rw [List.getElem?_append_right (by simpa using hil)] at hi
      rw [List.length_set] at hi
      have hi0 : i - obs.length = 0 := by
        have := (List.getElem?_eq_some_iff.1 hi).1
        simp at this
        omega
      rw [hi0] at hi
      injection hi with hi
      subst hi
      refine ⟨fun x => x = D, ⟨hm, rfl⟩, fun x hx => ?_⟩
      rw [hx]
      refine ⟨?_, (Array.getElem?_eq_some_iff.1 hm).1⟩
      show (if D = D then _ else _) = _
      rw [if_pos rfl]
      omega
/-- things at the end have turned: the others stay -/
theorem Env.exceptB {w0 w w' : World} {A B : List Ob} (h : Env w0 w (A ++ B)) {S : Nat → Prop} (ho : Only S w w') (hS : ∀ x, S x → ∃ (j : Nat) (ob : Ob), B[j]? = some ob ∧ ∀ (W : World) (F : Nat → Prop), ob.at' W F → F x) : Env w0 w' A := by
  obtain ⟨own, h1, h2⟩ := h
  have hown : ∀ x, S x → A.length + 1 ≤ own x := by
    intro x hx
    obtain ⟨j, ob, hj, hob⟩ := hS x hx
    obtain ⟨F, h3, h4⟩ := h2 (A.length + j) _ (by rw [List.getElem?_append_right (by omega), Nat.add_sub_cancel_left]; exact hj)
    rw [(h4 x (hob _ _ h3)).1]
    omega
  have hst : St w0 (fun x => if A.length + 1 ≤ own x then A.length + 1 else own x) w := ⟨h1.below, fun x hx => by
    show (if A.length + 1 ≤ own x then A.length + 1 else own x) = 0
    rw [h1.old x hx, if_neg (by omega)]⟩
  refine ⟨_, hst.step (i := A.length + 1) (by omega) ho (fun x hx => by rw [if_pos (hown x hx)]), fun i ob hi => ?_⟩
  have hlt : i < A.length := (List.getElem?_eq_some_iff.1 hi).1
  obtain ⟨F, h3, h4⟩ := h2 i ob (by rw [List.getElem?_append_left hlt]; exact hi)
  refine ⟨F, ob.keep h3 ho (fun x hx hs => ?_), Own.keep (fun x hx => ⟨?_, (h4 x hx).2⟩) ho.size⟩
  · have := hown x hs
    rw [(h4 x hx).1] at this
    omega
  · show (if A.length + 1 ≤ own x then A.length + 1 else own x) = i + 1
    rw [(h4 x hx).1, if_neg (by omega)]
theorem Env.markAt {w0 w : World} {obs : List Ob} (h : Env w0 w obs) (i : Nat) {D : Nat} (hi : obs[i]? = some (obD D)) : w.heap[D]? = some (.deferred (some [])) := by
  obtain ⟨F, h1, _⟩ := h.get i hi
  exact h1.1
theorem Env.apartDD {w0 w : World} {obs : List Ob} (h : Env w0 w obs) (i j : Nat) (hij : j ≠ i) {D E : Nat} (hi : obs[i]? = some (obD D)) (hj : obs[j]? = some (obD E)) : D ≠ E := by
  obtain ⟨F, ⟨_, rfl⟩, _, h3, _⟩ := h.get i hi
  obtain ⟨F2, h5, h6⟩ := h3 j _ hij hj
  obtain ⟨_, rfl⟩ := h5
  exact fun e => h6 D e rfl
theorem Bx.blk {W w : World} {b : Nat} {t : TypeId} {v u : Value} (hb : Blk w b t #[u]) {S : Nat → Prop} (h : Bx W b v) (hs : ∃ (x : Value) , Blk W b t #[x]) : Blk W b t #[v] := by
  obtain ⟨x, hx⟩ := hs
  have := hx.cellAt 0 rfl
  rw [h.1] at this
  injection this with this
  rw [this]
  exact hx
theorem wp_range_ev2 {P : Program} {g : Operand} (j : Tmp) {k : Tmp} {assign body : Code} {id : Nat} {Q : Exit → Act → World → Prop} {a : Act} {w : World} {gf : Nat} {lb : Array Value} (hg : a.eval g = .func (.func gf) #[] lb) (eg : ∀ args w, (callFunc gf args).run P w = .ok (.enter gf args) w)
    {S : Nat → Prop} {Sx Sp : List (Int × Int) → Prop} {N : Nat} (hseq : SeqStopsK Fence.wide 2 P gf lb enc2 (Kpt S) Sx Sp N w)
    (I : List (Int × Int) → World → Prop) (Ix : Code → List (Int × Int) → World → Prop) (M : World → Prop) (hI : OwnFrom w.heap.size I) (hIx : ∀ c, OwnFrom w.heap.size (Ix c)) (h0 : I [] w)
    (hassign : ∀ (l : Nat) (pre : List (Int × Int)) (x : Int × Int) (W : World) (K : Act → World → Prop), I pre W →
      (∀ (b : Nat) W', KeepsFrom w.heap.size W W' → Kpt S W W' → I pre W' → w.heap.size ≤ b → W'.cell? ⟨b, 0, none⟩ = some (.int .u8 x.1) → W'.cell? ⟨b, 1, none⟩ = some (.int .i64 x.2) → K (evA a j k x b) W') →
      assign.wpIn (Fence.wide.inRound l) 1 P (Exit.then K (fun _ _ _ => False)) { tmps := a.tmps.setIfInBounds k (.agg #[.int .u8 x.1, .int .i64 x.2]), defers := [] } W)
    (hbody : ∀ (l : Nat) (pre : List (Int × Int)) (x : Int × Int) (b : Nat) (W : World), I pre W → w.heap.size ≤ b → W.cell? ⟨b, 0, none⟩ = some (.int .u8 x.1) → W.cell? ⟨b, 1, none⟩ = some (.int .i64 x.2) → pre.length < N →
      body.wpIn (Fence.wide.inRound l) 1 P (ownPostG w.heap.size (Kpt S) I Ix (pre ++ [x]) W) (evA a j k x b) W)
    (hdone : ∀ (xs : List (Int × Int)) (W : World), Sx xs → I xs W → M W)
    (hstop : ∀ (c : Code) (pre : List (Int × Int)) (W : World), Sp pre → Ix c pre W → c = .exit id ∧ M W)
    (hmeet : ∀ (D : Nat) (W : World), w.heap.size ≤ D → M W → W.heap[D]? = some (.deferred (some [])) → Q .normal { a with defers := { target := .collected D, args := #[] } :: a.defers } W) :
    (Code.rangeFunc g #[k] assign body).wp P (Exit.inBlock id Q) a w :=
  wp_range_ev j hg eg hseq I Ix hI hIx h0 hassign hbody (fun D xs W h1 h2 h3 h4 => hmeet D W h1 (hdone xs W h2 h3) h4)
    (fun D c pre W h1 h2 h3 h4 => by
      obtain ⟨rfl, hm⟩ := hstop c pre W h2 h3
      refine wp_exit ?_
      unfold Exit.inBlock
      simp only [if_true]
      exact hmeet D W h1 hm h4)
end Go.Proofs.Ytmdfmkdhfhbkjaa
