/- A nil ledger: All, Len, Mark, Count, Since, Reset, Note. -/
import Derived.Test.YtmdfmkdhfhbkjaaRows
import Derived.Test.YtmdfmkdhfhbkjaaLives
import Derived.RangeFuncNested
import Derived.RangeFuncBound
import Derived.RangeFuncCalls
import Derived.RangeFuncLeaves
import Derived.Shelf.Abstract
import Derived.Shelf.RegionOpen
import Derived.WalkKit
import Derived.OwnWalkIn
import Derived.TacticsInMore
import Derived.LoopNIn
import Derived.LoopIn
namespace Go.Proofs.Ytmdfmkdhfhbkjaa
open Go.RowKit
set_option maxRecDepth 100000
set_option linter.unusedVariables false
set_option linter.unusedSimpArgs false
theorem reset_nil (w : World) : Calls Try.prog 18 #[.pointer none] w fun e w' => (∃ v, e = .returned v) ∧ w = w' := by
  go_enter Try.func18, Try.ntmps18
  go_wp2
  go_end0
  exact ⟨⟨_, rfl⟩, rfl⟩
theorem len_nil (w : World) : Calls Try.prog 20 #[.pointer none] w fun e w' => e = .returned (.int .i64 0) ∧ w = w' := by
  go_enter Try.func20, Try.ntmps20
  go_wp2
  go_ret
  exact ⟨rfl, rfl⟩
theorem mark_nil (w : World) : Calls Try.prog 21 #[.pointer none] w fun e w' => e = .returned (.int .i64 0) ∧ w = w' := by
  go_enter Try.func21, Try.ntmps21
  go_wp2_with (refine (len_nil w).mono ?_; rintro e w' ⟨rfl, rfl⟩)
  go_ret
  exact ⟨rfl, rfl⟩
theorem since_nil (n : Int) (w : World) : Calls Try.prog 23 #[.pointer none, .int .i64 n] w fun e w' => e = .returned (.slice none 0 0) ∧ w = w' := by
  go_enter Try.func23, Try.ntmps23
  go_wp2
  go_ret
  exact ⟨rfl, rfl⟩
theorem count_nil (k : Int) (w : World) : Calls Try.prog 24 #[.pointer none, .int .u8 k] w fun e w' => e = .returned (.int .i64 0) ∧ w = w' := by
  go_enter Try.func24, Try.ntmps24
  go_wp2_with (refine (runsP_nil w).mono ?_; rintro e w' ⟨rfl, rfl⟩)
  go_loopw [5, 11] (fun n i w2 => i = .int .i64 0 ∧ n = .int .i64 0 ∧ w = w2) (fun _ _ _ => 0)
  case atStart => exact ⟨rfl, rfl, rfl⟩
  case round =>
    obtain ⟨rfl, rfl, rfl⟩ := hrel
    go_wp2
    go_ret
    exact ⟨rfl, rfl⟩
theorem all_nil (w : World) : Calls Try.prog 19 #[.pointer none] w fun e w' => e = .returned (.func (.func 46) #[] #[.pointer (some ⟨w.heap.size, 0, none⟩)]) ∧ w'.cell? ⟨w.heap.size, 0, none⟩ = some (.slice none 0 0) ∧ Below w.heap.size w w' := by
  go_enter Try.func19, Try.ntmps19
  go_wp2_with (refine (runsP_nil w).mono ?_; rintro e w' ⟨rfl, rfl⟩)
  go_ret
  exact ⟨rfl, by rw [World.cell?_alloc_new]; rfl, (Below.refl _ _).alloc (Nat.le_refl _) _⟩
theorem all1_nil (l : Nat) (B : Nat) (W : World) (hB : W.cell? ⟨B, 0, none⟩ = some (.slice none 0 0)) : Calls Try.prog 46 #[.func (.yield l) #[] #[], .pointer (some ⟨B, 0, none⟩)] W fun e W' => (∃ v, e = .returned v) ∧ W = W' := by
  go_enter Try.func46, Try.ntmps46
  go_wp2
  go_loopw [7] (fun i w2 => i = .int .i64 0 ∧ W = w2) (fun _ _ => 0)
  case atStart => exact ⟨rfl, rfl⟩
  case round =>
    obtain ⟨rfl, rfl⟩ := hrel
    go_wp2
    go_end0
    exact ⟨⟨_, rfl⟩, rfl⟩
theorem run_eq_func_nil {P : Program} (d : Nat) (t : TypeId) {ps rs : Array TypeId} {v : Bool} (f : Fn) (b c : Array Value) (h : P.underlying t = some (.func ps rs v)) (w : World) : (Op.equalIn (d + 1) t (.func f b c) .nilFunc).run P w = .ok false w := by
  simp [Op.equalIn, run_underlying h]
theorem all_not_nil (f : Fn) (b c : Array Value) (w : World) : (binOp .eql 49 (.func f b c) .nilFunc).run Try.prog w = .ok (.bool false) w := by
  have h := run_eq_func_nil 9999 49 f b c Try.underlying49 w
  simp only [binOp, Op.equal, Op.maxDepth, Sem.run_bind, h, Result.andThen_ok, Sem.run_pure]
/-- the iterator of a nil ledger's events: no round -/
theorem all1_stops {α : Type} (n : Nat) (B : Nat) (w : World) (hB : w.cell? ⟨B, 0, none⟩ = some (.slice none 0 0)) (hlt : B < w.heap.size) (encs : α → Array Value) (Kp : World → World → Prop) :
    SeqStopsK Fence.wide n Try.prog 46 #[.pointer (some ⟨B, 0, none⟩)] encs Kp (fun xs => xs = []) (fun _ => False) 0 w := by
  intro l J Jx W hW _ _ _ h0
  refine callsIn_wide.2 ?_
  refine Calls.mono (all1_nil l B W ((hW.cell (p := ⟨B, 0, none⟩) hlt).trans hB)) ?_
  rintro e W' ⟨he, rfl⟩
  exact ⟨he, .inl ⟨[], rfl, h0⟩⟩
/-- a range over an iterator that gives nothing -/
theorem wp_range_none {P : Program} {g : Operand} {ps : Array Tmp} {body : Code} {Q : Exit → Act → World → Prop} {a : Act} {w : World} {gf : Nat} {lb : Array Value} (hg : a.eval g = .func (.func gf) #[] lb) (eg : ∀ args w, (callFunc gf args).run P w = .ok (.enter gf args) w)
    (hps : ps.size = 1) (hseq : SeqStopsK Fence.wide 2 P gf lb (fun _ : Unit => #[undef]) (fun _ _ => True) (fun xs => xs = []) (fun _ => False) 0 w)
    (hdone : ∀ (D : Nat) (W : World), w.heap.size ≤ D → Below w.heap.size w W → W.heap[D]? = some (.deferred (some [])) → Q .normal { a with defers := { target := .collected D, args := #[] } :: a.defers } W) :
    (Code.rangeFunc g ps .skip body).wp P Q a w := by
  refine wpIn_wide.1 (wpIn_rangeFunc_ownF (n := 3) (α := Unit) rfl (by omega) (gf := gf) (lb := lb) hg trivial eg hseq (fun _ _ => trivial) (fun _ _ _ _ _ _ _ _ => trivial) (Below.refl _ _) (fun _ => by rw [hps]; rfl)
    (fun _ W => Below w.heap.size w W) (fun _ _ _ => False) (ownFrom_below (Nat.le_refl _) (Nat.le_refl _)) (fun _ _ _ _ _ h _ _ => h) (Below.refl _ _)
    (fun x => { tmps := (ps.zip #[undef]).foldl (fun t (p, v) => t.setIfInBounds p v) a.tmps, defers := [] }) ?assign ?body ?done ?stop)
  case assign =>
    intro l x W K hK
    gi_wp2
    simpa [hps] using hK
  case body => exact fun _ _ _ _ _ h => absurd h (Nat.not_lt_zero _)
  case done => exact fun D xs W hD _ hb hK => hdone D W hD hb hK
  case stop => exact fun _ _ _ _ _ h _ _ => h.elim
end Go.Proofs.Ytmdfmkdhfhbkjaa
