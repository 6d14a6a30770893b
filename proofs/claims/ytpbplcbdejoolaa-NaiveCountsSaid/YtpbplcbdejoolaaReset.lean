/- The contract of Ledger.Reset; runs that are written in the text. -/
import Derived.Test.YtpbplcbdejoolaaRows
import Derived.Test.YtpbplcbdejoolaaCtLaws
namespace Go.Proofs.Ytpbplcbdejoolaa
open Go.RowKit
set_option maxRecDepth 100000
set_option linter.unusedVariables false

set_option maxHeartbeats 1000000 in
theorem resetP_any (b : Nat) (v : Value) (rs : List Rn) (w : World) (h : LedP w b v rs) :
    Calls Try.prog 18 #[.pointer (some ⟨b, 0, none⟩)] w fun e w' => e = .returned (.tuple #[]) ∧ LedP w' b (.slice none 0 0) [] ∧ Only (fun x => x = b) w w' := by
  have c0 := h.blk.cellAt 0 (v := v) rfl
  have c1 := h.blk.cellAt 1 (v := .int .i64 (tot rs)) rfl
  have f0 := h.blk.unfrozen 0
  have f1 := h.blk.unfrozen 1
  have hb := h.blk.lt
  have H := Lib.hid h
  clear h
  go_enter Try.func18, Try.ntmps18
  go_wp2
  refine bodyPost_end (results_none rfl _ _ _) rfl ?_
  refine ⟨rfl, ⟨?_, RunsAt.nil _, fun h => by simp [fp, Value.ownBlock] at h, Posi.nil⟩, ((Only.refl (fun x => x = b) w).set (.inl rfl) _).set (.inl rfl) _⟩
  exact (H.out.blk.set 0 (.slice none 0 0)).set 1 (.int .i64 0)
theorem resetP_env {w0 w : World} {obs : List Ob} (h : Env w0 w obs) (i : Nat) {p : Value} {rs : List Rn} (hi : obs[i]? = some (obP p (some rs))) :
    Calls Try.prog 18 #[p] w fun e w' => e = .returned (.tuple #[]) ∧ Env w0 w' (obs.set i (obP p (some []))) := by
  obtain ⟨F, f1, _, _, f4⟩ := h.ledP i hi
  obtain ⟨b, v, rfl, rfl, f2⟩ := f1
  exact (resetP_any b v rs w f2).mono fun e w' ⟨he, h1, h2⟩ => ⟨he, f4 w' (some []) ⟨lfp b (.slice none 0 0), ⟨b, _, rfl, rfl, h1⟩, h2.mono (fun x hx => .inl hx), fun x hx => by
    rcases hx with hx | hx
    · exact .inl (.inl hx)
    · simp [fp, Value.ownBlock] at hx⟩⟩
theorem Env.litRuns {w0 w : World} {obs : List Ob} (h : Env w0 w obs) (g : Nat) (hg : g = w.heap.size) (rs : List Rn) (hl : rs.length ≤ 1000) :
    Env w0 (w.alloc (.cells (flatR rs).toArray 33)) (obs ++ [obRuns (.slice (some ⟨g, 0, none⟩) rs.length rs.length) rs]) := by
  subst hg
  refine h.pushRuns ?_ ((Below.refl _ _).alloc (Nat.le_refl _) _) (fun x hx => ?_)
  · have := World.ownsRow_lit (base := 0) (e := 33) (size := 3) w (flatR rs).toArray rs.length (Nat.zero_le _) (by unfold maxLen; omega) (by simp [flatR_length])
    simpa [RunsAt] using this
  · have e : w.heap.size = x := by simpa [fp, Value.ownBlock] using hx
    omega
end Go.Proofs.Ytpbplcbdejoolaa
