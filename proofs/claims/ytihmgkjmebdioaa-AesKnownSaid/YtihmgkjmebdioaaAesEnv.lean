/- Ciphers as things of a law's world; the contracts of package aes over it. -/
import Derived.Test.YtihmgkjmebdioaaRows
import Derived.Test.YtihmgkjmebdioaaAesObj
import Derived.Test.YtihmgkjmebdioaaCtLaws
import Derived.Test.YtihmgkjmebdioaaReset
namespace Go.Proofs.Ytihmgkjmebdioaa
open Go.RowKit
set_option maxRecDepth 100000
set_option linter.unusedVariables false
set_option linter.unusedSimpArgs false

abbrev Cst := Option (Nat × List UInt8)
def CipP (w : World) (p : Value) (F : Nat → Prop) : Cst → Prop
  | none => p = .pointer none ∧ F = fun _ => False
  | some (k, K) => ∃ b, p = .pointer (some ⟨b, 0, none⟩) ∧ F = (fun x => x = b) ∧ CipAt w b k K ∧ k ≤ 32
theorem CipP.keep {w w' : World} {p : Value} {F S : Nat → Prop} {c : Cst} (h : CipP w p F c) (ho : Only S w w') (hd : ∀ x, F x → ¬ S x) : CipP w' p F c := by
  match c, h with
  | none, h => exact h
  | some (k, K), ⟨b, h1, h2, h3, h4⟩ => exact ⟨b, h1, h2, h3.only ho (hd b (by rw [h2])), h4⟩
theorem CipP.lt {w : World} {p : Value} {F : Nat → Prop} {c : Cst} (h : CipP w p F c) : ∀ x, F x → x < w.heap.size := by
  match c, h with
  | none, ⟨_, h2⟩ => rw [h2]; exact fun _ h => h.elim
  | some (k, K), ⟨b, h1, h2, h3, h4⟩ => rw [h2]; rintro x rfl; exact h3.lt
def obC (p : Value) (c : Cst) : Ob := ⟨fun w F => CipP w p F c, fun h ho hd => h.keep ho hd, fun h => h.lt⟩
def madeC : Cst → Bool
  | some (k, _) => decide (0 < k)
  | none => false
theorem CipP.made {w : World} {p : Value} {F : Nat → Prop} {c : Cst} (h : CipP w p F c) : Calls Try.prog 32 #[p] w fun e w' => e = .returned (.bool (madeC c)) ∧ w = w' := by
  match c, h with
  | none, ⟨h1, _⟩ => subst h1; exact cmade_nil w
  | some (k, K), ⟨b, h1, _, h3, _⟩ => subst h1; exact cmade_any b k K w h3
section
variable {w0 w : World} {obs : List Ob}
theorem Env.cip (h : Env w0 w obs) (i : Nat) {p : Value} {c : Cst} (hi : obs[i]? = some (obC p c)) : ∃ F, CipP w p F c := by
  obtain ⟨F, h1, _⟩ := h.get i hi
  exact ⟨F, h1⟩
/-! ### what is none -/
theorem encC_no (h : Env w0 w obs) (i : Nat) {p q : Value} {c : Cst} (hi : obs[i]? = some (obC p c)) (hc : madeC c = false) (l : List UInt8) :
    Calls Try.prog 13 #[p, q, .agg (barr l)] w fun e w' => e = .returned (.tuple #[.agg (barr (List.replicate 16 0)), .int .i64 1]) ∧ Env w0 w' obs := by
  obtain ⟨F, f1⟩ := h.cip i hi
  refine (encrypt_no p q l w (fun w' hb => ?_)).mono fun e w' ⟨he, hb⟩ => ⟨he, h.below hb⟩
  have := (f1.keep (Only.nothing hb) (fun _ _ h => h)).made
  rwa [hc] at this
theorem decC_no (h : Env w0 w obs) (i : Nat) {p q : Value} {c : Cst} (hi : obs[i]? = some (obC p c)) (hc : madeC c = false) (l : List UInt8) :
    Calls Try.prog 18 #[p, q, .agg (barr l)] w fun e w' => e = .returned (.tuple #[.agg (barr (List.replicate 16 0)), .int .i64 1]) ∧ Env w0 w' obs := by
  obtain ⟨F, f1⟩ := h.cip i hi
  refine (decrypt_no p q l w (fun w' hb => ?_)).mono fun e w' ⟨he, hb⟩ => ⟨he, h.below hb⟩
  have := (f1.keep (Only.nothing hb) (fun _ _ h => h)).made
  rwa [hc] at this
theorem cloneC_no (h : Env w0 w obs) (i : Nat) {p : Value} {c : Cst} (hi : obs[i]? = some (obC p c)) (hc : madeC c = false) :
    Calls Try.prog 11 #[p] w fun e w' => e = .returned (.tuple #[.pointer none, .int .i64 1]) ∧ w = w' := by
  obtain ⟨F, f1⟩ := h.cip i hi
  have := f1.made
  rw [hc] at this
  exact clone_no p w this
theorem wipeC_no (h : Env w0 w obs) (i : Nat) {p q : Value} {c : Cst} (hi : obs[i]? = some (obC p c)) (hc : madeC c = false) :
    Calls Try.prog 15 #[p, q] w fun e w' => e = .returned (.int .i64 1) ∧ w = w' := by
  obtain ⟨F, f1⟩ := h.cip i hi
  have := f1.made
  rw [hc] at this
  exact wipe_no p q w this
theorem formC_no (h : Env w0 w obs) (i : Nat) {p : Value} {c : Cst} (hi : obs[i]? = some (obC p c)) (hc : madeC c = false) :
    Calls Try.prog 12 #[p] w fun e w' => e = .returned (.slice none 0 0) ∧ w = w' := by
  obtain ⟨F, f1⟩ := h.cip i hi
  have := f1.made
  rw [hc] at this
  exact form_no p w this
def lenC : Cst → Nat
  | some (k, _) => k
  | none => 0
theorem lenC_env (h : Env w0 w obs) (i : Nat) {p : Value} {c : Cst} (hi : obs[i]? = some (obC p c)) :
    Calls Try.prog 20 #[p] w fun e w' => e = .returned (.int .i64 (lenC c : Int)) ∧ w = w' := by
  obtain ⟨F, f1⟩ := h.cip i hi
  match c, f1 with
  | none, ⟨h1, _⟩ => subst h1; exact keyLen_nil w
  | some (k, K), ⟨b, h1, _, h3, _⟩ => subst h1; exact keyLen_any b k K w h3
/-! ### what is made -/
theorem encC_env (h : Env w0 w obs) (i j : Nat) (hij : i ≠ j) {p q : Value} {k : Nat} {K : List UInt8} {o : Option (List Rn)} (hi : obs[i]? = some (obC p (some (k, K)))) (hj : obs[j]? = some (obP q o)) (hb : Room o 1) (hk : 0 < k) (l : List UInt8) (hl : l.length = 16) :
    Calls Try.prog 13 #[p, q, .agg (barr l)] w fun e w' => e = .returned (.tuple #[.agg (barr (enc K (k / 4 + 6) l)), .int .i64 0]) ∧ Env w0 w' (obs.set j (obP q (noteO o 5 k 1))) := by
  obtain ⟨G, g1, g2, g3, g4⟩ := h.get j hj
  obtain ⟨F, ⟨b, rfl, rfl, f3, f4⟩, f5⟩ := g3 i _ hij hi
  exact (encrypt_any b k K l q G o w f3 hl hk f4 g1 hb (f5 b rfl)).mono fun e w' ⟨he, F', h1, h2, h3⟩ => ⟨he, g4 w' F' (obP q _) h1 h2 h3⟩
theorem decC_env (h : Env w0 w obs) (i j : Nat) (hij : i ≠ j) {p q : Value} {k : Nat} {K : List UInt8} {o : Option (List Rn)} (hi : obs[i]? = some (obC p (some (k, K)))) (hj : obs[j]? = some (obP q o)) (hb : Room o 1) (hk : 0 < k) (l : List UInt8) (hl : l.length = 16) :
    Calls Try.prog 18 #[p, q, .agg (barr l)] w fun e w' => e = .returned (.tuple #[.agg (barr (dec K (k / 4 + 6) l)), .int .i64 0]) ∧ Env w0 w' (obs.set j (obP q (noteO o 5 k 1))) := by
  obtain ⟨G, g1, g2, g3, g4⟩ := h.get j hj
  obtain ⟨F, ⟨b, rfl, rfl, f3, f4⟩, f5⟩ := g3 i _ hij hi
  exact (decrypt_any b k K l q G o w f3 hl hk f4 g1 hb (f5 b rfl)).mono fun e w' ⟨he, F', h1, h2, h3⟩ => ⟨he, g4 w' F' (obP q _) h1 h2 h3⟩
theorem encC_nil (h : Env w0 w obs) (i : Nat) {p : Value} {k : Nat} {K : List UInt8} (hi : obs[i]? = some (obC p (some (k, K)))) (hk : 0 < k) (l : List UInt8) (hl : l.length = 16) :
    Calls Try.prog 13 #[p, .pointer none, .agg (barr l)] w fun e w' => e = .returned (.tuple #[.agg (barr (enc K (k / 4 + 6) l)), .int .i64 0]) ∧ Env w0 w' obs := by
  obtain ⟨F, b, rfl, rfl, f3, f4⟩ := h.cip i hi
  exact (encrypt_any b k K l _ (fun _ => False) none w f3 hl hk f4 (LgP.nil w) (Room.none 1) (fun h => h)).mono fun e w' ⟨he, h1⟩ => ⟨he, h.below h1.nothing⟩
theorem formC_env (h : Env w0 w obs) (i : Nat) {p : Value} {k : Nat} {K : List UInt8} (hi : obs[i]? = some (obC p (some (k, K)))) (hk : 0 < k) :
    Calls Try.prog 12 #[p] w fun e w' => ∃ v, e = .returned v ∧ Env w0 w' (obs ++ [obB v (K.take (16 * (k / 4 + 6 + 1)))]) := by
  obtain ⟨F, b, rfl, rfl, f3, f4⟩ := h.cip i hi
  exact (form_any b k K w f3 hk f4).mono fun e w' ⟨v, he, h1, h2, h3⟩ => ⟨v, he, h.pushB h1 h2 h3⟩
theorem cloneC_env (h : Env w0 w obs) (i : Nat) {p : Value} {k : Nat} {K : List UInt8} (hi : obs[i]? = some (obC p (some (k, K)))) (hk : 0 < k) :
    Calls Try.prog 11 #[p] w fun e w' => ∃ b : Nat, e = .returned (.tuple #[.pointer (some ⟨b, 0, none⟩), .int .i64 0]) ∧ Env w0 w' (obs ++ [obC (.pointer (some ⟨b, 0, none⟩)) (some (k, K))]) := by
  obtain ⟨F, b, rfl, rfl, f3, f4⟩ := h.cip i hi
  exact (clone_any b k K w f3 hk).mono fun e w' ⟨he, h1, h2⟩ => ⟨_, he, h.push (F' := fun x => x = w.heap.size) (obC _ (some (k, K))) ⟨_, rfl, rfl, h1, f4⟩ h2 (fun x hx => by rw [hx]; exact Nat.le_refl _)⟩
theorem wipeC_env (h : Env w0 w obs) (i j : Nat) (hij : i ≠ j) {p q : Value} {k : Nat} {K : List UInt8} {o : Option (List Rn)} (hi : obs[i]? = some (obC p (some (k, K)))) (hj : obs[j]? = some (obP q o)) (hb : Room o 1) (hk : 0 < k) :
    Calls Try.prog 15 #[p, q] w fun e w' => e = .returned (.int .i64 0) ∧ Env w0 w' ((obs.set i (obC p (some (0, zeroK)))).set j (obP q (noteO o 8 ((16 * (k / 4 + 6 + 1) : Nat) : Int) 1))) := by
  obtain ⟨F, G, ⟨b, rfl, rfl, f3, f4⟩, g1, f6, g6, fg, hup⟩ := h.get2 i j hij hi hj
  have hbw := f3.lt
  refine (cwipe_any b k K q G o w f3 hk f4 g1 hb (fg b rfl)).mono fun e w' ⟨he, w1, ⟨F', h1, h2, h3⟩, h4, h5⟩ => ⟨he, hup w' (fun x => x = b) F' _ _ ⟨b, rfl, rfl, h4, by omega⟩ (h1.keep h5 (fun x hx hh => ?_)) ?_ (fun x hx => .inl hx) h3 (fun x hx hx2 => ?_)⟩
  · subst hh
    rcases h3 x hx with hh | hh
    · exact fg x rfl hh
    · omega
  · exact (h2.mono (S' := fun x => x = b ∨ G x) (fun x hx => .inr hx)).trans h5 (fun x hx => .inl (.inl hx))
  · subst hx
    rcases h3 x hx2 with hh | hh
    · exact fg x rfl hh
    · omega
theorem wipeC_nil (h : Env w0 w obs) (i : Nat) {p : Value} {k : Nat} {K : List UInt8} (hi : obs[i]? = some (obC p (some (k, K)))) (hk : 0 < k) :
    Calls Try.prog 15 #[p, .pointer none] w fun e w' => e = .returned (.int .i64 0) ∧ Env w0 w' (obs.set i (obC p (some (0, zeroK)))) := by
  obtain ⟨F, ⟨b, rfl, rfl, f3, f4⟩, _, _, g4⟩ := h.get i hi
  refine (cwipe_any b k K _ (fun _ => False) none w f3 hk f4 (LgP.nil w) (Room.none 1) (fun h => h)).mono fun e w' ⟨he, w1, h1, h4, h5⟩ => ⟨he, g4 w' (fun x => x = b) (obC _ (some (0, zeroK))) ⟨b, rfl, rfl, h4, by omega⟩ ?_ (fun x hx => .inl hx)⟩
  exact (Only.of_below h1.nothing (fun x => x = b)).trans h5 (fun x hx => .inl hx)
theorem newC_env (h : Env w0 w obs) (i : Nat) {q : Value} {o : Option (List Rn)} (hi : obs[i]? = some (obP q o)) (hb : Room o 1) {u : Value} {key : List UInt8} (hu : Src w0 w obs i u key) (hk : RightLen key.length) :
    Calls Try.prog 9 #[q, u] w fun e w' => ∃ b : Nat, e = .returned (.tuple #[.pointer (some ⟨b, 0, none⟩), .int .i64 0]) ∧ Env w0 w' (obs.set i (obP q (noteO o 4 key.length 1)) ++ [obC (.pointer (some ⟨b, 0, none⟩)) (some (key.length, sched key))]) := by
  obtain ⟨F, f1, f2, f3, f4⟩ := h.ledP i hi
  refine (newC_any q u F o key w f1 hb hu.1 (hu.apart f2 f3) hk).mono fun e w' ⟨w1, n, h1, he, h2, h3, h4⟩ => ⟨n, he, ?_⟩
  exact (f4 w1 _ h1).push (F' := fun x => x = n) (obC _ (some (key.length, sched key))) ⟨n, rfl, rfl, h2, by rcases hk with h | h | h <;> omega⟩ h3 (fun x hx => by rw [hx]; exact h4)
theorem newC_nil (h : Env w0 w obs) {u : Value} {key : List UInt8} (hu : Bs w u key) (hk : RightLen key.length) :
    Calls Try.prog 9 #[.pointer none, u] w fun e w' => ∃ b : Nat, e = .returned (.tuple #[.pointer (some ⟨b, 0, none⟩), .int .i64 0]) ∧ Env w0 w' (obs ++ [obC (.pointer (some ⟨b, 0, none⟩)) (some (key.length, sched key))]) := by
  refine (newC_any _ u (fun _ => False) none key w (LgP.nil w) (Room.none 1) hu (fun _ _ _ h => h) hk).mono fun e w' ⟨w1, n, h1, he, h2, h3, h4⟩ => ⟨n, he, ?_⟩
  exact (h.below h1.nothing).push (F' := fun x => x = n) (obC _ (some (key.length, sched key))) ⟨n, rfl, rfl, h2, by rcases hk with h | h | h <;> omega⟩ h3 (fun x hx => by rw [hx]; exact h4)
end
end Go.Proofs.Ytihmgkjmebdioaa
