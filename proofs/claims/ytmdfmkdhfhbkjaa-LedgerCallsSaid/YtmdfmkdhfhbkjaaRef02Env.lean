/- The document's ledger over a law's world. -/
import Derived.Test.YtmdfmkdhfhbkjaaRows
import Derived.Test.YtmdfmkdhfhbkjaaRef02
import Derived.Test.YtmdfmkdhfhbkjaaSinceEnv
namespace Go.Proofs.Ytmdfmkdhfhbkjaa
open Go.RowKit
set_option maxRecDepth 100000
set_option linter.unusedVariables false
set_option linter.unusedSimpArgs false
theorem gtimesR_any (p : Value) (F : Nat → Prop) (o : Option (List Rn)) (k s n : Int) (w : World) (h : LgR w p F o) (hb : Room o n) :
    Calls Try.prog 37 #[p, .agg #[.int .u8 k, .int .i64 s], .int .i64 n] w fun e w' => e = .returned (.tuple #[]) ∧ LaidR p F (timesO o k s n) w w' := by
  unfold timesO
  cases o with
  | none =>
    obtain ⟨rfl, rfl⟩ := h
    refine (rnoteTimes_nil k s n w).mono ?_
    rintro e w' ⟨rfl, hb⟩
    refine ⟨rfl, fun _ => False, ?_, Only.of_below hb _, fun _ h => h.elim⟩
    split <;> exact ⟨rfl, rfl⟩
  | some rs =>
    obtain ⟨b, v, rfl, rfl, hl⟩ := h
    by_cases hn : n < 1
    · rw [if_pos hn]
      refine (rnoteTimes_off b k s n w hn).mono ?_
      rintro e w' ⟨rfl, hb⟩
      exact ⟨rfl, lfp b v, ⟨b, v, rfl, rfl, hl.keep (Only.nothing hb) (fun _ _ h => h)⟩, Only.of_below hb _, fun x hx => .inl hx⟩
    · rw [if_neg hn]
      obtain ⟨b1, b2⟩ := hb rs rfl
      refine (rnoteTimes_any b v rs k s n w hl (by omega) b1 b2).mono ?_
      rintro e w' ⟨rfl, v', h1, h2, h3⟩
      refine ⟨rfl, lfp b v', ⟨b, v', rfl, rfl, h1⟩, h2, fun x hx => ?_⟩
      rcases hx with hx | hx
      · exact .inl (.inl hx)
      · exact (h3 x hx).imp .inr id
section
variable {w0 w : World} {obs : List Ob}
theorem newR_env' (h : Env w0 w obs) : Calls Try.prog 10 #[] w fun e w' => ∃ b : Nat, e = .returned (.pointer (some ⟨b, 0, none⟩)) ∧ Env w0 w' (obs ++ [obR (.pointer (some ⟨b, 0, none⟩)) (some [])]) :=
  (newR_any w).mono fun e w' ⟨he, h1, h2⟩ => ⟨_, he, h.pushR h1 h2⟩
theorem newP_envB (h : Env w0 w obs) : Calls Try.prog 9 #[] w fun e w' => ∃ b : Nat, e = .returned (.pointer (some ⟨b, 0, none⟩)) ∧ Env w0 w' (obs ++ [obP (.pointer (some ⟨b, 0, none⟩)) (some [])]) :=
  (newP_any w).mono fun e w' ⟨he, h1, h2⟩ => ⟨_, he, h.pushP h1 h2⟩
theorem noteR_env' (h : Env w0 w obs) (i : Nat) {p : Value} {o : Option (List Rn)} (hi : obs[i]? = some (obR p o)) (k s : Int) (hb : Room o 1) :
    Calls Try.prog 36 #[p, .agg #[.int .u8 k, .int .i64 s]] w fun e w' => e = .returned (.tuple #[]) ∧ Env w0 w' (obs.set i (obR p (noteO o k s 1))) := by
  obtain ⟨F, f1, _, f4⟩ := h.lgR i hi
  exact (gnoteR_any p F o k s w f1 hb).mono fun e w' ⟨he, h1⟩ => ⟨he, f4 w' _ h1⟩
theorem timesR_env (h : Env w0 w obs) (i : Nat) {p : Value} {o : Option (List Rn)} (hi : obs[i]? = some (obR p o)) (k s n : Int) (hb : Room o n) :
    Calls Try.prog 37 #[p, .agg #[.int .u8 k, .int .i64 s], .int .i64 n] w fun e w' => e = .returned (.tuple #[]) ∧ Env w0 w' (obs.set i (obR p (timesO o k s n))) := by
  obtain ⟨F, f1, _, f4⟩ := h.lgR i hi
  exact (gtimesR_any p F o k s n w f1 hb).mono fun e w' ⟨he, h1⟩ => ⟨he, f4 w' _ h1⟩
theorem runsR_env' (h : Env w0 w obs) (i : Nat) {p : Value} {rs : List Rn} (hi : obs[i]? = some (obR p (some rs))) (hl : rs.length ≤ 5497558138880) :
    Calls Try.prog 39 #[p] w fun e w' => ∃ v, e = .returned v ∧ Env w0 w' (obs ++ [obRuns v rs]) := by
  obtain ⟨F, f1, _⟩ := h.lgR i hi
  obtain ⟨b, v, rfl, rfl, f2⟩ := f1
  exact (runsR_any b v rs w f2 hl).mono fun e w' ⟨v, he, h1, h2, h3⟩ => ⟨v, he, h.pushRuns h1 h2 h3⟩
theorem lenR_env (h : Env w0 w obs) (i : Nat) {p : Value} {rs : List Rn} (hi : obs[i]? = some (obR p (some rs)))  (hl : rs.length ≤ 5497558138880) (ht : tot rs < 9223372036854775808) :
    Calls Try.prog 35 #[p] w fun e w' => e = .returned (.int .i64 (tot rs)) ∧ w = w' := by
  obtain ⟨F, f1, _⟩ := h.lgR i hi
  obtain ⟨b, v, rfl, rfl, f2⟩ := f1
  exact lenR_any b v rs w f2 hl ht
theorem markR_env (h : Env w0 w obs) (i : Nat) {p : Value} {rs : List Rn} (hi : obs[i]? = some (obR p (some rs)))  (hl : rs.length ≤ 5497558138880) (ht : tot rs < 9223372036854775808) :
    Calls Try.prog 44 #[p] w fun e w' => e = .returned (.int .i64 (tot rs)) ∧ w = w' := by
  obtain ⟨F, f1, _⟩ := h.lgR i hi
  obtain ⟨b, v, rfl, rfl, f2⟩ := f1
  exact markR_any b v rs w f2 hl ht
theorem countR_env (h : Env w0 w obs) (i : Nat) {p : Value} {rs : List Rn} (hi : obs[i]? = some (obR p (some rs))) (k : Int) (hl : rs.length ≤ 5497558138880) (ht : tot rs < 9223372036854775808) :
    Calls Try.prog 41 #[p, .int .u8 k] w fun e w' => e = .returned (.int .i64 (cnt rs k)) ∧ w = w' := by
  obtain ⟨F, f1, _⟩ := h.lgR i hi
  obtain ⟨b, v, rfl, rfl, f2⟩ := f1
  exact countR_any b v rs k w f2 hl ht
theorem resetR_env (h : Env w0 w obs) (i : Nat) {p : Value} {rs : List Rn} (hi : obs[i]? = some (obR p (some rs))) :
    Calls Try.prog 43 #[p] w fun e w' => e = .returned (.tuple #[]) ∧ Env w0 w' (obs.set i (obR p (some []))) := by
  obtain ⟨F, f1, _, f4⟩ := h.lgR i hi
  obtain ⟨b, v, rfl, rfl, f2⟩ := f1
  exact (resetR_any b v rs w f2).mono fun e w' ⟨he, h1, h2⟩ => ⟨he, f4 w' (some []) ⟨lfp b (.slice none 0 0), ⟨b, _, rfl, rfl, h1⟩, h2.mono (fun x hx => .inl hx), fun x hx => by
    rcases hx with hx | hx
    · exact .inl (.inl hx)
    · simp [fp, Value.ownBlock] at hx⟩⟩
theorem sinceR_env (h : Env w0 w obs) (i : Nat) {p : Value} {rs : List Rn} (hi : obs[i]? = some (obR p (some rs))) (m : Int) (hl : rs.length ≤ 5497558138880) (ht : tot rs < 9223372036854775808) (m1 : -9223372036854775808 ≤ m) (m2 : m ≤ 9223372036854775807) :
    Calls Try.prog 40 #[p, .int .i64 m] w fun e w' => ∃ v, e = .returned v ∧ Env w0 w' (obs ++ [obRuns v (sinceL rs m)]) := by
  obtain ⟨F, f1, _⟩ := h.lgR i hi
  obtain ⟨b, v, rfl, rfl, f2⟩ := f1
  exact (sinceR_any b v rs m w f2 hl ht m1 m2).mono fun e w' ⟨v, he, h1, h2, h3⟩ => ⟨v, he, h.pushRuns h1 h2 h3⟩
theorem sinceP_env (h : Env w0 w obs) (i : Nat) {p : Value} {rs : List Rn} (hi : obs[i]? = some (obP p (some rs))) (m : Int) (hl : rs.length ≤ 5497558138880) (ht : tot rs < 9223372036854775808) (m1 : -9223372036854775808 ≤ m) (m2 : m ≤ 9223372036854775807) :
    Calls Try.prog 23 #[p, .int .i64 m] w fun e w' => ∃ v, e = .returned v ∧ Env w0 w' (obs ++ [obRuns v (sinceL rs m)]) := by
  obtain ⟨F, f1, _⟩ := h.lgP i hi
  obtain ⟨b, v, rfl, rfl, f2⟩ := f1
  refine (since_any b v rs m w f2 hl ht m1 m2).mono fun e w' hh => ?_
  obtain ⟨v, he, h1, h2, h3⟩ := hh
  exact ⟨v, he, h.pushRuns h1 h2 h3⟩
end
end Go.Proofs.Ytmdfmkdhfhbkjaa
