/- Contracts in a world that is a list of things: Reset, Mark, Since, Runs. -/
import Derived.Test.YtmdfmkdhfhbkjaaRows
import Derived.Test.YtmdfmkdhfhbkjaaSince
import Derived.Test.YtmdfmkdhfhbkjaaHeld
namespace Go.Proofs.Ytmdfmkdhfhbkjaa
open Go.RowKit
set_option maxRecDepth 100000
set_option linter.unusedVariables false
set_option linter.unusedSimpArgs false
/-- one of three -/
theorem hd_three {P : Program} {ops : Array Oper} {md : Region.Mode} {Q : Exit → Act → World → Prop} {S : World → Prop} {fuel : Nat} {listed : Array Bool} {a : Act} {w : World} (i j k : Nat) (hr : decide (Region.ready md ops listed = [i, j, k]) = true) (h1 : wpOp P ops Q i (fun a' w' => S w' ∧ wpAnyH P md ops Q S fuel (listed.setIfInBounds i true) a' w') a w)
    (h2 : wpOp P ops Q j (fun a' w' => S w' ∧ wpAnyH P md ops Q S fuel (listed.setIfInBounds j true) a' w') a w)
    (h3 : wpOp P ops Q k (fun a' w' => S w' ∧ wpAnyH P md ops Q S fuel (listed.setIfInBounds k true) a' w') a w) : wpAnyH P md ops Q S (fuel + 1) listed a w := by
  rw [decide_eq_true_eq] at hr
  refine wpAnyH_all hr (by simp) fun m hm => ?_
  have hk2 : m = i ∨ m = j ∨ m = k := by simpa using hm
  rcases hk2 with rfl | rfl | rfl
  · exact h1
  · exact h2
  · exact h3
theorem resetN_any (b : Nat) (v : Value) (rs : List Rn) (w : World) (h : LedP w b v rs) :
    Calls Try.prog 18 #[.pointer (some ⟨b, 0, none⟩)] w fun e w' => e = .returned (.tuple #[]) ∧ LedP w' b (.slice none 0 0) [] ∧ Only (fun x => x = b) w w' := by
  have c0 := h.blk.cellAt 0 (v := v) rfl
  have c1 := h.blk.cellAt 1 (v := .int .i64 (tot rs)) rfl
  have f0 := h.blk.unfrozen 0
  have f1 := h.blk.unfrozen 1
  have hb := h.blk.lt
  have H := Lib.hid h
  clear h
  go_enter Try.func18, Try.ntmps18
  go_wp2
  refine bodyPost_end (results_none rfl _ _ _) rfl ?_
  refine ⟨rfl, ⟨?_, RunsAt.nil _, fun h => by simp [fp, Value.ownBlock] at h, Posi.nil⟩, ((Only.refl (fun x => x = b) w).set (.inl rfl) _).set (.inl rfl) _⟩
  exact (H.out.blk.set 0 (.slice none 0 0)).set 1 (.int .i64 0)
theorem mark_any (b : Nat) (v : Value) (rs : List Rn) (w : World) (h : LedP w b v rs) : Calls Try.prog 21 #[.pointer (some ⟨b, 0, none⟩)] w fun e w' => e = .returned (.int .i64 (tot rs)) ∧ w = w' := by
  have H := Lib.hid h
  clear h
  go_enter Try.func21, Try.ntmps21
  go_wp2_with (refine (lenP_any b v rs w H.out).mono ?_; rintro e w' ⟨rfl, rfl⟩)
  go_ret
  exact ⟨rfl, rfl⟩
section
variable {w0 w : World} {obs : List Ob}
theorem resetN_env (h : Env w0 w obs) (i : Nat) {p : Value} {rs : List Rn} (hi : obs[i]? = some (obP p (some rs))) :
    Calls Try.prog 18 #[p] w fun e w' => e = .returned (.tuple #[]) ∧ Env w0 w' (obs.set i (obP p (some []))) := by
  obtain ⟨F, f1, _, f4⟩ := h.lgP i hi
  obtain ⟨b, v, rfl, rfl, f2⟩ := f1
  exact (resetN_any b v rs w f2).mono fun e w' ⟨he, h1, h2⟩ => ⟨he, f4 w' (some []) ⟨lfp b (.slice none 0 0), ⟨b, _, rfl, rfl, h1⟩, h2.mono (fun x hx => .inl hx), fun x hx => by
    rcases hx with hx | hx
    · exact .inl (.inl hx)
    · simp [fp, Value.ownBlock] at hx⟩⟩
theorem markN_env (h : Env w0 w obs) (i : Nat) {p : Value} {rs : List Rn} (hi : obs[i]? = some (obP p (some rs))) :
    Calls Try.prog 21 #[p] w fun e w' => e = .returned (.int .i64 (tot rs)) ∧ w = w' := by
  obtain ⟨F, f1, _⟩ := h.lgP i hi
  obtain ⟨b, v, rfl, rfl, f2⟩ := f1
  exact mark_any b v rs w f2
theorem sinceN_env (h : Env w0 w obs) (i : Nat) {p : Value} {rs : List Rn} (hi : obs[i]? = some (obP p (some rs))) (m : Int) (hl : rs.length ≤ 5497558138880) (ht : tot rs < 9223372036854775808) (m1 : -9223372036854775808 ≤ m) (m2 : m ≤ 9223372036854775807) :
    Calls Try.prog 23 #[p, .int .i64 m] w fun e w' => ∃ v, e = .returned v ∧ Env w0 w' obs ∧ RunsRd w' v (sinceL rs m) ∧ Below w.heap.size w w' := by
  obtain ⟨F, f1, _⟩ := h.lgP i hi
  obtain ⟨b, v, rfl, rfl, f2⟩ := f1
  exact (since_any b v rs m w f2 hl ht m1 m2).mono fun e w' ⟨v, he, h1, h2, _⟩ => ⟨v, he, h.below h2, Knd.O.rd h1, h2⟩
theorem sinceE_env (h : Env w0 w obs) (i : Nat) {p : Value} {rs : List Rn} (hi : obs[i]? = some (obP p (some rs))) (m : Int) (hl : rs.length ≤ 5497558138880) (ht : tot rs < 9223372036854775808) (m1 : -9223372036854775808 ≤ m) (m2 : m ≤ 9223372036854775807) (hm : tot rs ≤ m) :
    Calls Try.prog 23 #[p, .int .i64 m] w fun e w' => ∃ ao cap, e = .returned (.slice ao 0 cap) ∧ Env w0 w' obs := by
  obtain ⟨F, f1, _⟩ := h.lgP i hi
  obtain ⟨b, v, rfl, rfl, f2⟩ := f1
  exact (since_off b v rs m w f2 hm).mono fun e w' ⟨he, h2⟩ => ⟨none, 0, he, by rw [← h2]; exact h⟩
theorem runsN_env (h : Env w0 w obs) (i : Nat) {p : Value} {rs : List Rn} (hi : obs[i]? = some (obP p (some rs))) (hl : rs.length ≤ 5497558138880) :
    Calls Try.prog 22 #[p] w fun e w' => ∃ v, e = .returned v ∧ Env w0 w' obs ∧ RunsRd w' v rs ∧ Below w.heap.size w w' := by
  obtain ⟨F, f1, _⟩ := h.lgP i hi
  obtain ⟨b, v, rfl, rfl, f2⟩ := f1
  exact (runsP_any b v rs w f2 hl).mono fun e w' ⟨v, he, h1, h2, _⟩ => ⟨v, he, h.below h2, RunsAt.rd h1, h2⟩
end
/-- a list that is written in the text -/
theorem lit_rd (rs : List Rn) (w : World) (h : rs.length ≤ 1000) : RunsRd (w.alloc (.cells (KN.fl rs).toArray KN.e)) (.slice (some ⟨w.heap.size, 0, none⟩) rs.length rs.length) rs := by
  obtain ⟨v, hv, h1, _⟩ := Knd.New.lit KN rs w h
  injection hv with hv
  subst hv
  exact Knd.O.rd h1
end Go.Proofs.Ytmdfmkdhfhbkjaa
