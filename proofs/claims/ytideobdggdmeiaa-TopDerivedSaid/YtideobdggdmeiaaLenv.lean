/- Ledgers as things of a law's world. -/
import Derived.Test.YtideobdggdmeiaaRows
import Derived.Test.YtideobdggdmeiaaLg
namespace Go.Proofs.Ytideobdggdmeiaa
open Go.RowKit
set_option maxRecDepth 100000
set_option linter.unusedVariables false

def obP (p : Value) (o : Option (List Rn)) : Ob := ⟨fun w F => LgP w p F o, fun h ho hd => h.keep ho hd, fun h => h.lt⟩
def obRuns (v : Value) (rs : List Rn) : Ob := ⟨fun w F => RunsAt w v rs ∧ F = fp v, fun h ho hd => ⟨h.1.keep ho (by rw [← h.2]; exact hd), h.2⟩, fun h => by rw [h.2]; exact h.1.lt⟩
theorem Env.lgP {w0 w : World} {obs : List Ob} (h : Env w0 w obs) (i : Nat) {p : Value} {o : Option (List Rn)} (hi : obs[i]? = some (obP p o)) :
    ∃ F, LgP w p F o ∧ (∀ x, x < w0.heap.size → ¬ F x) ∧ ∀ w' o', LaidP p F o' w w' → Env w0 w' (obs.set i (obP p o')) := by
  obtain ⟨F, h1, h2, h3, h4⟩ := h.get i hi
  refine ⟨F, h1, h2, fun w' o' hl => ?_⟩
  obtain ⟨F', g1, g2, g3⟩ := hl
  exact h4 w' F' (obP p o') g1 g2 g3
theorem Env.runs {w0 w : World} {obs : List Ob} (h : Env w0 w obs) (i : Nat) {v : Value} {l : List Rn} (hi : obs[i]? = some (obRuns v l)) : RunsAt w v l := by
  obtain ⟨F, h1, _⟩ := h.get i hi
  exact h1.1
theorem Env.pushRuns {w0 w w' : World} {obs : List Ob} (h : Env w0 w obs) {v : Value} {l : List Rn} (hb : RunsAt w' v l) (hw : Below w.heap.size w w') (hn : ∀ x, fp v x → w.heap.size ≤ x) : Env w0 w' (obs ++ [obRuns v l]) :=
  h.push (obRuns v l) ⟨hb, rfl⟩ hw hn
theorem Env.pushP {w0 w w' : World} {obs : List Ob} (h : Env w0 w obs) (hb : LedP w' w.heap.size (.slice none 0 0) []) (hw : Below w.heap.size w w') : Env w0 w' (obs ++ [obP (.pointer (some ⟨w.heap.size, 0, none⟩)) (some [])]) :=
  h.push (F' := lfp w.heap.size (.slice none 0 0)) (obP _ (some [])) ⟨_, _, rfl, rfl, hb⟩ hw (fun x hx => by
    rcases hx with rfl | hx
    · exact Nat.le_refl _
    · simp [fp, Value.ownBlock] at hx)
/-! ### the contracts over a law's world -/
/-- so many notes -/
def timesO (o : Option (List Rn)) (k s n : Int) : Option (List Rn) := if n < 1 then o else noteO o k s n
section
variable {w0 w : World} {obs : List Ob}
theorem noteP_env (h : Env w0 w obs) (i : Nat) {p : Value} {o : Option (List Rn)} (hi : obs[i]? = some (obP p o)) (k s : Int) (hb : Room o 1) :
    Calls Try.prog 47 #[p, .agg #[.int .u8 k, .int .i64 s]] w fun e w' => e = .returned (.tuple #[]) ∧ Env w0 w' (obs.set i (obP p (noteO o k s 1))) := by
  obtain ⟨F, f1, _, f4⟩ := h.lgP i hi
  exact (gnoteP_any p F o k s w f1 hb).mono fun e w' ⟨he, h1⟩ => ⟨he, f4 w' _ h1⟩
theorem gtimesP_any (p : Value) (F : Nat → Prop) (o : Option (List Rn)) (k s n : Int) (w : World) (h : LgP w p F o) (hb : Room o n) :
    Calls Try.prog 55 #[p, .agg #[.int .u8 k, .int .i64 s], .int .i64 n] w fun e w' => e = .returned (.tuple #[]) ∧ LaidP p F (timesO o k s n) w w' := by
  unfold timesO
  cases o with
  | none =>
    obtain ⟨rfl, rfl⟩ := h
    refine (noteTimes_nil k s n w).mono ?_
    rintro e w' ⟨rfl, hb⟩
    refine ⟨rfl, fun _ => False, ?_, Only.of_below hb _, fun _ h => h.elim⟩
    split <;> exact ⟨rfl, rfl⟩
  | some rs =>
    obtain ⟨b, v, rfl, rfl, hl⟩ := h
    by_cases hn : n < 1
    · rw [if_pos hn]
      refine (noteTimes_off b k s n w hn).mono ?_
      rintro e w' ⟨rfl, hb⟩
      exact ⟨rfl, lfp b v, ⟨b, v, rfl, rfl, hl.keep (Only.nothing hb) (fun _ _ h => h)⟩, Only.of_below hb _, fun x hx => .inl hx⟩
    · rw [if_neg hn]
      obtain ⟨b1, b2⟩ := hb rs rfl
      refine (noteTimes_any b v rs k s n w hl (by omega) b1 b2).mono ?_
      rintro e w' ⟨rfl, v', h1, h2, h3⟩
      refine ⟨rfl, lfp b v', ⟨b, v', rfl, rfl, h1⟩, h2, fun x hx => ?_⟩
      rcases hx with hx | hx
      · exact .inl (.inl hx)
      · exact (h3 x hx).imp .inr id
theorem timesP_env (h : Env w0 w obs) (i : Nat) {p : Value} {o : Option (List Rn)} (hi : obs[i]? = some (obP p o)) (k s n : Int) (hb : Room o n) :
    Calls Try.prog 55 #[p, .agg #[.int .u8 k, .int .i64 s], .int .i64 n] w fun e w' => e = .returned (.tuple #[]) ∧ Env w0 w' (obs.set i (obP p (timesO o k s n))) := by
  obtain ⟨F, f1, _, f4⟩ := h.lgP i hi
  exact (gtimesP_any p F o k s n w f1 hb).mono fun e w' ⟨he, h1⟩ => ⟨he, f4 w' _ h1⟩
end
end Go.Proofs.Ytideobdggdmeiaa
