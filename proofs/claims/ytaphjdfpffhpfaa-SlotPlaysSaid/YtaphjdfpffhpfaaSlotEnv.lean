/- The contracts of package slot over a law's world; two of the chapter's examples. -/
import Derived.Test.YtaphjdfpffhpfaaRows
import Derived.Test.YtaphjdfpffhpfaaSlot
import Derived.Test.YtaphjdfpffhpfaaReset
import Derived.Test.YtaphjdfpffhpfaaCount
namespace Go.Proofs.Ytaphjdfpffhpfaa
open Go.RowKit
set_option maxRecDepth 100000
set_option linter.unusedVariables false
set_option linter.unusedSimpArgs false

set_option maxHeartbeats 1000000 in
theorem sameM_no1 (q p r : Value) (F : Nat → Prop) (s : Mst) (w : World) (h : MemP w p F s) (hs : s.made = false) : Calls Try.prog 25 #[q, p, r] w fun e w' => e = .returned (.bool false) ∧ w = w' := by
  have H := Lib.hid h
  clear h
  go_enter Try.func25, Try.ntmps25
  go_wp2_with fail
  refine (isM_any p F s _ H.out).mono ?_
  rintro e w' ⟨he, rfl⟩
  rw [hs] at he
  subst he
  go_wp2
  go_ret
  exact ⟨rfl, rfl⟩
set_option maxHeartbeats 1000000 in
theorem sameM_no2 (q p r : Value) (F G : Nat → Prop) (s t : Mst) (w : World) (h : MemP w p F s) (h2 : MemP w r G t) (hs : s.made = true) (ht : t.made = false) : Calls Try.prog 25 #[q, p, r] w fun e w' => e = .returned (.bool false) ∧ w = w' := by
  have H := Lib.hid h
  have H2 := Lib.hid h2
  clear h h2
  go_enter Try.func25, Try.ntmps25
  go_wp2_with fail
  refine (isM_any p F s _ H.out).mono ?_
  rintro e w' ⟨he, rfl⟩
  rw [hs] at he
  subst he
  go_wp2_with fail
  refine (isM_any r G t _ H2.out).mono ?_
  rintro e w' ⟨he, rfl⟩
  rw [ht] at he
  subst he
  go_wp2
  go_ret
  exact ⟨rfl, rfl⟩
set_option maxHeartbeats 1000000 in
theorem sameM_any (q p r : Value) (F G L : Nat → Prop) (o : Option (List Rn)) (a b : List UInt8) (w : World) (h : MemP w p F (.is a)) (h2 : MemP w r G (.is b)) (hq : LgP w q L o) (hb : Room o 1) (hF : ∀ x, F x → ¬ L x) (hG : ∀ x, G x → ¬ L x) :
    Calls Try.prog 25 #[q, p, r] w fun e w' => e = .returned (.bool (decide (pad a = pad b))) ∧ LaidP q L (noteO o 6 1024 1) w w' := by
  have H := Lib.hid h
  have H2 := Lib.hid h2
  obtain ⟨pb, g, rfl, rfl, h1, h3, h4, h5⟩ := h
  obtain ⟨rb, k, rfl, rfl, i1, i3, i4, i5⟩ := h2
  have c0 := h1.cellAt 0 (v := .pointer (some ⟨g, 0, none⟩)) rfl
  have c1 := i1.cellAt 0 (v := .pointer (some ⟨k, 0, none⟩)) rfl
  have hpb := h1.lt
  have hrb := i1.lt
  have hg := h3.lt
  have hk := i3.lt
  have HG := Lib.hid h3
  have HK := Lib.hid i3
  have HL := Lib.hid hq
  have HFF := Lib.hid hF
  have HGG := Lib.hid hG
  clear h1 i1 h3 i3 hq hF hG
  go_enter Try.func25, Try.ntmps25
  go_wp2_with fail
  refine (isM_any _ _ _ _ H.out).mono ?_
  rintro e w' ⟨rfl, rfl⟩
  go_wp2_with fail
  refine (isM_any _ _ _ _ H2.out).mono ?_
  rintro e w' ⟨rfl, rfl⟩
  go_wp2_with fail
  refine wp_region_tame (fun w' => w' = w.drewN 1) 0 13 (by kernel_rfl) (by kernel_rfl) (fun _ _ d _ _ h => (by cases d <;> exact h)) rfl (by decide) ?_
  simp only [List.take_succ_cons, List.take_zero, List.drop_succ_cons, List.drop_zero]
  refine wpPre_nil ?_
  refine wpTame_run (v := ?_) (by decide) rfl (fun w' hS => ?_) ?_
  rotate_left
  focus (subst hS; go_simp; try rfl; done)
  simp only [Act.put, List.setIfInBounds_toArray, List.set_cons_zero, List.set_cons_succ]
  refine wpTame_run (v := ?_) (by decide) rfl (fun w' hS => ?_) ?_
  rotate_left
  focus (subst hS; go_simp; try rfl; done)
  simp only [Act.put, List.setIfInBounds_toArray, List.set_cons_zero, List.set_cons_succ]
  refine wpTame_run (v := ?_) (by decide) rfl (fun w' hS => ?_) ?_
  rotate_left
  focus (subst hS; go_simp; try rfl; done)
  simp only [Act.put, List.setIfInBounds_toArray, List.set_cons_zero, List.set_cons_succ]
  refine wpTame_run (v := ?_) (by decide) rfl (fun w' hS => ?_) ?_
  rotate_left
  focus (subst hS; go_simp; try rfl; done)
  simp only [Act.put, List.setIfInBounds_toArray, List.set_cons_zero, List.set_cons_succ]
  refine wpTame_run (v := ?_) (by decide) rfl (fun w' hS => ?_) ?_
  rotate_left
  focus (subst hS; go_simp; try rfl; done)
  simp only [Act.put, List.setIfInBounds_toArray, List.set_cons_zero, List.set_cons_succ]
  refine wpTame_run (v := ?_) (by decide) rfl (fun w' hS => ?_) ?_
  rotate_left
  focus (subst hS; go_simp; try rfl; done)
  simp only [Act.put, List.setIfInBounds_toArray, List.set_cons_zero, List.set_cons_succ]
  refine wpTame_run (v := ?_) (by decide) rfl (fun w' hS => ?_) ?_
  rotate_left
  focus (subst hS; go_simp; try rfl; done)
  simp only [Act.put, List.setIfInBounds_toArray, List.set_cons_zero, List.set_cons_succ]
  refine wpTame_run (v := ?_) (by decide) rfl (fun w' hS => ?_) ?_
  rotate_left
  focus (subst hS; go_simp; try rfl; done)
  simp only [Act.put, List.setIfInBounds_toArray, List.set_cons_zero, List.set_cons_succ]
  refine wpTame_run (v := ?_) (by decide) rfl (fun w' hS => ?_) ?_
  rotate_left
  focus (subst hS; go_simp; try rfl; done)
  simp only [Act.put, List.setIfInBounds_toArray, List.set_cons_zero, List.set_cons_succ]
  refine wpTame_run (v := ?_) (by decide) rfl (fun w' hS => ?_) ?_
  rotate_left
  focus (subst hS; go_simp; try rfl; done)
  simp only [Act.put, List.setIfInBounds_toArray, List.set_cons_zero, List.set_cons_succ]
  refine wpTame_run (v := ?_) (by decide) rfl (fun w' hS => ?_) ?_
  rotate_left
  focus (subst hS; go_simp; try rfl; done)
  simp only [Act.put, List.setIfInBounds_toArray, List.set_cons_zero, List.set_cons_succ]
  refine wpTame_run (v := ?_) (by decide) rfl (fun w' hS => ?_) ?_
  rotate_left
  focus (subst hS; go_simp; try rfl; done)
  simp only [Act.put, List.setIfInBounds_toArray, List.set_cons_zero, List.set_cons_succ]
  refine wpTame_run (v := ?_) (by decide) rfl (fun w' hS => ?_) ?_
  rotate_left
  focus (subst hS; go_simp; try rfl; done)
  simp only [Act.put, List.setIfInBounds_toArray, List.set_cons_zero, List.set_cons_succ]
  refine wpTame_nil ?_
  intro w5 hw'
  have HL5 : Hid (LgP w5 q L o) := by rw [hw']; exact Lib.hid (HL.out.draw 1)
  have u1 : Bs w5 (.slice (some ⟨g, 0, none⟩) 1024 1024) (pad a) := by
    rw [hw']
    have h := ((HG.out.draw 1).owns (by rw [pad_len a h4]; omega)).rd
    rw [show (pad a).length = 1024 from pad_len a h4] at h
    exact h
  have u2 : Bs w5 (.slice (some ⟨k, 0, none⟩) 1024 1024) (pad b) := by
    rw [hw']
    have h := ((HK.out.draw 1).owns (by rw [pad_len b i4]; omega)).rd
    rw [show (pad b).length = 1024 from pad_len b i4] at h
    exact h
  have U1 := Lib.hid u1
  have U2 := Lib.hid u2
  have hw5 : Hid (w5 = w.drewN 1) := hw'
  clear u1 u2 hw'
  go_wp2_with fail
  refine (equal_any q L o _ _ (pad a) (pad b) w5 HL5.out hb U1.out U2.out (fun _ x hx => ?_) (fun _ x hx => ?_)).mono ?_
  · have e : g = x := by simpa [Value.ownBlock] using hx
    subst e
    exact HFF.out _ (.inr rfl)
  · have e : k = x := by simpa [Value.ownBlock] using hx
    subst e
    exact HGG.out _ (.inr rfl)
  rintro e w6 ⟨rfl, h6⟩
  rw [if_pos (by rw [pad_len a h4, pad_len b i4]), show (pad a).length = 1024 from pad_len a h4] at h6
  have H6 : Hid (LaidP q L (noteO o 6 1024 1) w w6) := LaidP.pre (w1 := w5) (by rw [hw5.out]; exact ⟨rfl, rfl, rfl, Nat.le_refl _, fun _ _ => rfl⟩) h6
  clear h6
  go_wp2
  go_ret
  exact ⟨rfl, H6.out⟩

section
variable {w0 w : World} {obs : List Ob}
theorem Env.mem (h : Env w0 w obs) (i : Nat) {p : Value} {s : Mst} (hi : obs[i]? = some (obM p s)) :
    ∃ F, MemP w p F s ∧ (∀ x, x < w0.heap.size → ¬ F x) ∧ (∀ (j : Nat) (v : Value) (l : List UInt8), j ≠ i → obs[j]? = some (obB v l) → ∀ x, v.ownBlock = some x → ¬ F x) ∧ ∀ w' s', LaidM p F s' w w' → Env w0 w' (obs.set i (obM p s')) := by
  obtain ⟨F, h1, h2, h3, h4⟩ := h.get i hi
  refine ⟨F, h1, h2, fun j v l hj hj2 x hx => ?_, fun w' s' hl => h4 w' F (obM p s') hl.1 hl.2 (fun x hx => .inl hx)⟩
  obtain ⟨F2, h5, h6⟩ := h3 j _ hj hj2
  exact h6 x (by rw [h5.2]; exact hx)
/-- what Put answers, and what the memory is then -/
def putC (s : Mst) (l : List UInt8) : Int := if s.made then (if l.length ≤ 1024 then 0 else 9) else 1
def putS (s : Mst) (l : List UInt8) : Mst := if s.made then (if l.length ≤ 1024 then .is l else s) else s
theorem putM_env (h : Env w0 w obs) (i : Nat) {p : Value} {s : Mst} (hi : obs[i]? = some (obM p s)) {u : Value} {xs : List UInt8} (hu : Src w0 w obs i u xs) :
    Calls Try.prog 12 #[p, u] w fun e w' => e = .returned (.int .i64 (putC s xs)) ∧ Env w0 w' (obs.set i (obM p (putS s xs))) := by
  obtain ⟨F, f1, f2, f3, f4⟩ := h.mem i hi
  unfold putC putS
  cases s with
  | no => exact (putM_no p F .no u w f1 rfl).mono fun e w' ⟨he, hw⟩ => ⟨he, by subst hw; show Env w0 w (obs.set i (obM p .no)); rw [set_same _ _ _ hi]; exact h⟩
  | raw => exact (putM_no p F .raw u w f1 rfl).mono fun e w' ⟨he, hw⟩ => ⟨he, by subst hw; show Env w0 w (obs.set i (obM p .raw)); rw [set_same _ _ _ hi]; exact h⟩
  | is l =>
    by_cases hl : xs.length ≤ 1024
    · simp only [Mst.made, if_true, if_pos hl]
      exact (putM_any p F l u xs w f1 hu.1 hl (hu.apart f2 f3)).mono fun e w' ⟨he, hw⟩ => ⟨he, f4 w' _ hw⟩
    · simp only [Mst.made, if_true, if_neg hl]
      exact (putM_long p F l u xs w f1 hu.1 (by omega)).mono fun e w' ⟨he, hw⟩ => ⟨he, by subst hw; rw [set_same _ _ _ hi]; exact h⟩
theorem lookM_env (h : Env w0 w obs) (i : Nat) {p : Value} {s : Mst} (hi : obs[i]? = some (obM p s)) :
    Calls Try.prog 19 #[p] w fun e w' => e = .returned (.agg (barr (pad s.bs))) ∧ Env w0 w' obs := by
  obtain ⟨F, f1, _⟩ := h.mem i hi
  exact (lookM_any p F s w f1).mono fun e w' ⟨he, hb⟩ => ⟨he, h.below hb⟩
theorem lenM_env (h : Env w0 w obs) (i : Nat) {p : Value} {s : Mst} (hi : obs[i]? = some (obM p s)) :
    Calls Try.prog 21 #[p] w fun e w' => e = .returned (.int .i64 (s.bs.length : Int)) ∧ w = w' := by
  obtain ⟨F, f1, _⟩ := h.mem i hi
  exact lenM_any p F s w f1
theorem bytesM_env (h : Env w0 w obs) (i : Nat) {p : Value} {s : Mst} (hi : obs[i]? = some (obM p s)) :
    Calls Try.prog 16 #[p] w fun e w' => ∃ v, e = .returned v ∧ Env w0 w' (obs ++ [obB v s.bs]) := by
  obtain ⟨F, f1, _⟩ := h.mem i hi
  have hno : ∀ s, Mst.made s = false → s.bs = [] := by intro s hs; cases s <;> first | rfl | cases hs
  have hk : s.made = false ∨ ∃ l, s = .is l := by cases s; exact .inl rfl; exact .inl rfl; exact .inr ⟨_, rfl⟩
  rcases hk with hk | ⟨l, rfl⟩
  · refine (bytesM_no p F s w f1 hk).mono fun e w' ⟨he, hw⟩ => ⟨_, he, ?_⟩
    subst hw
    rw [hno s hk]
    exact h.pushB (OB.nil w) (Below.refl _ _) (fun x hx => by simp [fpv, Value.ownBlock] at hx)
  · exact (bytesM_any p F l w f1).mono fun e w' ⟨v, he, h1, h2, h3⟩ => ⟨v, he, h.pushB h1 h2 h3⟩
def wipeC (s : Mst) : Int := if s.made then 0 else 1
def wipeS (s : Mst) : Mst := if s.made then .is [] else s
def noteC (c : Bool) (o : Option (List Rn)) (k s : Int) : Option (List Rn) := if c then noteO o k s 1 else o
theorem wipeM_env (h : Env w0 w obs) (i j : Nat) (hij : i ≠ j) {p q : Value} {s : Mst} {o : Option (List Rn)} (hi : obs[i]? = some (obM p s)) (hj : obs[j]? = some (obP q o)) (hb : Room o 1) :
    Calls Try.prog 23 #[p, q] w fun e w' => e = .returned (.int .i64 (wipeC s)) ∧ Env w0 w' ((obs.set i (obM p (wipeS s))).set j (obP q (noteC s.made o 8 1024))) := by
  unfold wipeC wipeS noteC
  have hk : s.made = false ∨ ∃ l, s = .is l := by cases s; exact .inl rfl; exact .inl rfl; exact .inr ⟨_, rfl⟩
  rcases hk with hk | ⟨l, rfl⟩
  · obtain ⟨F, f1, _⟩ := h.mem i hi
    refine (wipeM_no p F s q w f1 hk).mono fun e w' ⟨he, hw⟩ => ?_
    subst hw
    simp only [hk, Bool.false_eq_true, if_false]
    refine ⟨he, ?_⟩
    rw [set_same _ _ _ hi, set_same _ _ _ hj]
    exact h
  · obtain ⟨F, G, f1, g1, _, _, fg, hup⟩ := h.get2 i j hij hi hj
    simp only [Mst.made, if_true]
    refine (wipeM_any p F l q G o w f1 g1 hb fg).mono fun e w' ⟨he, h1, G', h2, h3, h4⟩ => ⟨he, hup w' F G' _ _ h1 h2 h3 (fun x hx => .inl hx) h4 (fun x hx hx2 => ?_)⟩
    rcases h4 x hx2 with hh | hh
    · exact fg x hx hh
    · have f5 : MemP w p F (.is l) := f1
      have := f5.lt x hx; omega
theorem wipeM_nil (h : Env w0 w obs) (i : Nat) {p : Value} {s : Mst} (hi : obs[i]? = some (obM p s)) :
    Calls Try.prog 23 #[p, .pointer none] w fun e w' => e = .returned (.int .i64 (wipeC s)) ∧ Env w0 w' (obs.set i (obM p (wipeS s))) := by
  unfold wipeC wipeS
  have hk : s.made = false ∨ ∃ l, s = .is l := by cases s; exact .inl rfl; exact .inl rfl; exact .inr ⟨_, rfl⟩
  obtain ⟨F, f1, f2, f3, f4⟩ := h.mem i hi
  rcases hk with hk | ⟨l, rfl⟩
  · refine (wipeM_no p F s _ w f1 hk).mono fun e w' ⟨he, hw⟩ => ?_
    subst hw
    simp only [hk, Bool.false_eq_true, if_false]
    refine ⟨he, ?_⟩
    rw [set_same _ _ _ hi]
    exact h
  · simp only [Mst.made, if_true]
    refine (wipeM_any p F l _ (fun _ => False) none w f1 (LgP.nil w) (Room.none 1) (fun _ _ h => h)).mono fun e w' ⟨he, h1, G', h2, h3, h4⟩ => ⟨he, f4 w' _ ⟨h1, h3.mono (fun x hx => hx.elim id (fun h => h.elim))⟩⟩
/-- what Same answers -/
def sameC (s t : Mst) : Bool := s.made && t.made && decide (pad s.bs = pad t.bs)
theorem sameM_env (h : Env w0 w obs) (i j k : Nat) (hik : i ≠ k) (hjk : j ≠ k) {p r q : Value} {s t : Mst} {o : Option (List Rn)} (hi : obs[i]? = some (obM p s)) (hj : obs[j]? = some (obM r t)) (hk : obs[k]? = some (obP q o)) (hb : Room o 1) :
    Calls Try.prog 25 #[q, p, r] w fun e w' => e = .returned (.bool (sameC s t)) ∧ Env w0 w' (obs.set k (obP q (noteC (s.made && t.made) o 6 1024))) := by
  unfold sameC noteC
  obtain ⟨F, f1, _⟩ := h.mem i hi
  obtain ⟨G, g1, _⟩ := h.mem j hj
  cases hs : s.made with
  | false =>
    refine (sameM_no1 q p r F s w f1 hs).mono fun e w' ⟨he, hw⟩ => ?_
    subst hw
    simp only [Bool.false_and, Bool.false_eq_true, if_false]
    rw [set_same _ _ _ hk]
    exact ⟨he, h⟩
  | true =>
    cases ht : t.made with
    | false =>
      refine (sameM_no2 q p r F G s t w f1 g1 hs ht).mono fun e w' ⟨he, hw⟩ => ?_
      subst hw
      simp only [Bool.and_false, Bool.false_and, Bool.false_eq_true, if_false]
      rw [set_same _ _ _ hk]
      exact ⟨he, h⟩
    | true =>
      have mk : ∀ s, Mst.made s = true → ∃ l, s = .is l := by intro s hs; cases s; cases hs; cases hs; exact ⟨_, rfl⟩
      obtain ⟨a, rfl⟩ := mk s hs
      obtain ⟨b, rfl⟩ := mk t ht
      obtain ⟨L, l1, _, l3, l4⟩ := h.get k hk
      obtain ⟨F2, f2, f3⟩ := l3 i _ hik hi
      obtain ⟨G2, g2, g3⟩ := l3 j _ hjk hj
      refine (sameM_any q p r F2 G2 L o a b w f2 g2 l1 hb f3 g3).mono fun e w' ⟨he, F', h1, h2, h3⟩ => ?_
      simp only [Mst.made, Bool.true_and, if_true]
      exact ⟨he, l4 w' F' (obP q _) h1 h2 h3⟩
theorem sameM_nil (h : Env w0 w obs) (i j : Nat) {p r : Value} {s t : Mst} (hi : obs[i]? = some (obM p s)) (hj : obs[j]? = some (obM r t)) :
    Calls Try.prog 25 #[.pointer none, p, r] w fun e w' => e = .returned (.bool (sameC s t)) ∧ Env w0 w' obs := by
  unfold sameC
  obtain ⟨F, f1, _⟩ := h.mem i hi
  obtain ⟨G, g1, _⟩ := h.mem j hj
  cases hs : s.made with
  | false =>
    refine (sameM_no1 _ p r F s w f1 hs).mono fun e w' ⟨he, hw⟩ => ?_
    subst hw
    exact ⟨he, h⟩
  | true =>
    cases ht : t.made with
    | false =>
      refine (sameM_no2 _ p r F G s t w f1 g1 hs ht).mono fun e w' ⟨he, hw⟩ => ?_
      subst hw
      exact ⟨he, h⟩
    | true =>
      have mk : ∀ s, Mst.made s = true → ∃ l, s = .is l := by intro s hs; cases s; cases hs; cases hs; exact ⟨_, rfl⟩
      obtain ⟨a, rfl⟩ := mk s hs
      obtain ⟨b, rfl⟩ := mk t ht
      refine (sameM_any _ p r F G (fun _ => False) none a b w f1 g1 (LgP.nil w) (Room.none 1) (fun _ _ h => h) (fun _ _ h => h)).mono fun e w' ⟨he, h1⟩ => ?_
      simp only [Mst.made, Bool.true_and]
      exact ⟨he, h.below h1.nothing⟩
end
end Go.Proofs.Ytaphjdfpffhpfaa
