/- The contracts of both ledgers' New, Runs, Len, and of the kit's SameRuns. Conditions: at most 2^40 runs; counts in their kind. -/
import Derived.Test.YtfielodchoghlaaLedNoteR
import Derived.Test.YtfielodchoghlaaSl
namespace Go.Proofs.Ytfielodchoghlaa
open Go.RowKit
set_option maxRecDepth 100000

theorem flatR_one' (rs : List Rn) : ∀ u ∈ flatR rs, u.oneCell' = true := by
  intro u hu
  obtain ⟨r, _, hr⟩ := List.mem_flatMap.1 hu
  exact three_cells r.k r.s r.c u hr
/-- a slice of runs that is read -/
def RunsRd (w : World) (v : Value) (rs : List Rn) : Prop := Sl w 3 v rs.length (flatR rs)
theorem RunsAt.rd {w : World} {v : Value} {rs : List Rn} (h : RunsAt w v rs) : RunsRd w v rs := Sl.of_own h (flatR_one' rs)
theorem RunsRd.cells {w : World} {ao : Option Addr} {cap : Nat} {rs : List Rn} (h : RunsRd w (.slice ao rs.length cap) rs) (i : Nat) (r : Rn) (hr : rs[i]? = some r) :
    ∃ b off, ao = some ⟨b, off, none⟩ ∧ w.cell? ⟨b, off + i * 3, none⟩ = some (.int .u8 r.k) ∧ w.cell? ⟨b, off + i * 3 + 1, none⟩ = some (.int .i64 r.s) ∧ w.cell? ⟨b, off + i * 3 + 2, none⟩ = some (.int .i64 r.c) := by
  obtain ⟨ao', cap', hv, _, _, _, h4⟩ := h.form
  obtain ⟨h1, h2, h3⟩ := flatR_at rs i r hr
  injection hv with e1 e2 e3
  subst e1
  obtain ⟨b, off, hao, c1⟩ := h4 _ _ h1
  obtain ⟨b2, off2, hao2, c2⟩ := h4 _ _ h2
  obtain ⟨b3, off3, hao3, c3⟩ := h4 _ _ h3
  rw [hao] at hao2 hao3
  injection hao2 with e2; injection e2 with e4 e5; subst e4; subst e5
  injection hao3 with e3; injection e3 with e6 e7; subst e6; subst e7
  exact ⟨b, off, hao, c1, by rw [Nat.add_assoc]; exact c2, by rw [Nat.add_assoc]; exact c3⟩

theorem maxl0 {n : Nat} (h : n ≤ 5497558138880) : 0 + n ≤ maxLen := by unfold maxLen; omega
theorem byt0 {n : Nat} (h : n ≤ 5497558138880) : (0 + n) * 24 ≤ 140737488355328 := by omega
theorem newP_any (w : World) : Calls Try.prog 33 #[] w fun e w' => e = .returned (.pointer (some ⟨w.heap.size, 0, none⟩)) ∧ LedP w' w.heap.size (.slice none 0 0) [] ∧ Below w.heap.size w w' := by
  go_enter Try.func33, Try.ntmps33
  go_wp2
  go_ret
  exact ⟨rfl, ⟨Blk.at rfl rfl, RunsAt.nil _, fun h => by simp [fp, Value.ownBlock] at h, Posi.nil⟩, (Below.refl _ _).alloc (Nat.le_refl _) _⟩
/-- runs told in new memory -/
def NewRuns (rs : List Rn) (w : World) (e : Ending) (w' : World) : Prop :=
  ∃ v, e = .returned v ∧ RunsAt w' v rs ∧ Below w.heap.size w w' ∧ ∀ x, fp v x → w.heap.size ≤ x
set_option maxHeartbeats 400000 in
theorem runsP_any (b : Nat) (v : Value) (rs : List Rn) (w : World) (h : LedP w b v rs) (hl : rs.length ≤ 5497558138880) : Calls Try.prog 35 #[.pointer (some ⟨b, 0, none⟩)] w (NewRuns rs w) := by
  obtain ⟨i0, hi, hz0, hz1, hz2⟩ := info_parts infoRun
  have HI := Lib.hid (And.intro hi (And.intro hz0 (And.intro hz1 hz2)))
  clear hi hz0 hz1 hz2
  have c0 := h.blk.cellAt 0 (v := v) rfl
  have hb := h.blk.lt
  have H := Lib.hid h
  clear h
  go_enter Try.func35, Try.ntmps35
  have hown0 : (w.alloc (.cells #[] 51)).ownsRow 0 51 3 (.slice (some ⟨w.heap.size, 0, none⟩) 0 0) 0 [] := World.ownsRow_lit w #[] 0 (Nat.zero_le _) (by decide) rfl
  have hy : Sl (w.alloc (.cells #[] 51)) 3 v rs.length (flatR rs) := H.out.row.rd.grow ((Below.refl _ _).alloc (Nat.le_refl _) _)
  obtain ⟨hi, hz0, hz1, hz2⟩ := HI.out
  go_wp2_with (at_builtin; refine wpList_append_sl _ rfl _ _ 32 rfl 51 i0 _ 3 24 Try.underlying32 hi hz0 hz1 hz2 rfl (by decide) (.slice (some ⟨w.heap.size, 0, none⟩) 0 0) 0 [] rfl hown0 v rs.length (flatR rs) rfl hy (maxl0 hl) (byt0 hl) ?_)
  intro v' w1 hown hgrow hat _
  have HN : Hid (NewRuns rs w (.returned v') w1) := by
    refine ⟨v', rfl, ?_, ?_, ?_⟩
    · unfold RunsAt
      simpa using hown
    · exact ((Below.refl w.heap.size w).alloc (Nat.le_refl _) _).grown hgrow (by simp) (fun k hk => by simp [Value.ownBlock] at hk; omega)
    · intro x hx
      rcases hat with hat | hat
      · have : fp v' x := hx
        rw [fp, hat] at this
        simp [Value.ownBlock] at this
        omega
      · have : fp v' x := hx
        rw [fp, hat] at this
        simp at this
        omega
  clear hown hgrow hat hown0 hy hi hz0 hz1 hz2
  go_wp2
  go_ret
  exact HN.out

theorem runsP_nil (w : World) : Calls Try.prog 35 #[.pointer none] w fun e w' => e = .returned (.slice none 0 0) ∧ w = w' := by
  go_enter Try.func35, Try.ntmps35
  go_wp2
  go_ret
  exact ⟨rfl, rfl⟩

/-- the document's Runs: one append a run -/
def RunsLoop (rs : List Rn) (w : World) (k : Nat) (v : Value) (w1 : World) : Prop :=
  RunsAt w1 v (rs.take k) ∧ Below w.heap.size w w1 ∧ ∀ x, fp v x → w.heap.size ≤ x
theorem take_succ_get (rs : List Rn) (k : Nat) (r : Rn) (h : rs[k]? = some r) : rs.take (k + 1) = rs.take k ++ [r] := by
  rw [List.take_add_one, h]; rfl
/-! ### SameRuns -/
theorem run_eq_run (r q : Rn) (h : r.k = q.k ∧ r.s = q.s ∧ r.c = q.c) : r = q := by
  obtain ⟨a, b, c⟩ := r; obtain ⟨x, y, z⟩ := q
  simp at h
  simp [h.1, h.2.1, h.2.2]
def sameTo (xs ys : List Rn) : Nat → Nat → Bool
  | 0, _ => true
  | n + 1, k => if xs[k]? = ys[k]? then sameTo xs ys n (k + 1) else false
theorem sameTo_eq (xs ys : List Rn) (hl : xs.length = ys.length) : ∀ n k, k + n = xs.length → (sameTo xs ys n k = true ↔ ∀ j, k ≤ j → xs[j]? = ys[j]?)
  | 0, k, h => by
    simp only [sameTo, true_iff]
    intro j hj
    rw [List.getElem?_eq_none (by omega), List.getElem?_eq_none (by omega)]
  | n + 1, k, h => by
    simp only [sameTo]
    by_cases e : xs[k]? = ys[k]?
    · rw [if_pos e, sameTo_eq xs ys hl n (k + 1) (by omega)]
      constructor
      · intro hh j hj
        by_cases ejk : j = k
        · subst ejk; exact e
        · exact hh j (by omega)
      · intro hh j hj
        exact hh j (by omega)
    · rw [if_neg e]
      simp only [Bool.false_eq_true, false_iff]
      intro hh
      exact e (hh k (Nat.le_refl _))
theorem sameTo_all (xs ys : List Rn) (hl : xs.length = ys.length) : sameTo xs ys xs.length 0 = decide (xs = ys) := by
  rw [Bool.eq_iff_iff, sameTo_eq xs ys hl _ 0 (by omega), decide_eq_true_eq]
  constructor
  · intro h; exact List.ext_getElem? fun j => h j (Nat.zero_le _)
  · rintro rfl _ _; rfl
theorem three_eq (a x b y c z : Int) : ((a == x) = true ∧ (b == y) = true ∧ (c == z) = true ∧ (⟨a, b, c⟩ : Rn) = ⟨x, y, z⟩) ∨ ((a == x) = false ∧ ¬ (⟨a, b, c⟩ : Rn) = ⟨x, y, z⟩) ∨
    ((a == x) = true ∧ (b == y) = false ∧ ¬ (⟨a, b, c⟩ : Rn) = ⟨x, y, z⟩) ∨ ((a == x) = true ∧ (b == y) = true ∧ (c == z) = false ∧ ¬ (⟨a, b, c⟩ : Rn) = ⟨x, y, z⟩) := by
  by_cases h1 : a = x
  · by_cases h2 : b = y
    · by_cases h3 : c = z
      · left; simp [h1, h2, h3]
      · right; right; right; simp [h1, h2, h3]
    · right; right; left; simp [h1, h2]
  · right; left; simp [h1]
set_option maxHeartbeats 1000000 in
theorem sameRuns_any (u v : Value) (xs ys : List Rn) (w : World) (hu : RunsRd w u xs) (hv : RunsRd w v ys) :
    Calls Try.prog 29 #[u, v] w fun e w' => e = .returned (.bool (decide (xs = ys))) ∧ ∃ m, w' = w.drewN m := by
  have HU := Lib.hid hu
  have HV := Lib.hid hv
  obtain ⟨ao, cap, rfl, h1, h2, _, _⟩ := hu.form
  obtain ⟨bo, dap, rfl, h3, h4, _, _⟩ := hv.form
  clear hu hv
  have hla : xs.length ≤ 9223372036854775807 := by omega
  have hlb : ys.length ≤ 9223372036854775807 := by omega
  by_cases hl : xs.length = ys.length
  · have HS := Lib.hid (sameTo_all xs ys hl)
    have hlI : ((xs.length : Int) != (ys.length : Int)) = false := by rw [hl]; simp
    have HL := Lib.hid hl
    clear hl
    go_enter Try.func29, Try.ntmps29
    go_wp2_with fail
    go_loopw [5] (fun i w1 => ∃ k : Nat, k ≤ xs.length ∧ i = .int .i64 (k : Int) ∧ Hid (sameTo xs ys (xs.length - k) k = decide (xs = ys)) ∧ ∃ m, w1 = w.drewN m) (fun i _ => xs.length - (intOf i).toNat)
    case atStart => exact ⟨0, Nat.zero_le _, rfl, HS, 0, rfl⟩
    case round =>
      obtain ⟨k, hk, rfl, HE, m, rfl⟩ := hrel
      by_cases hlt : k < xs.length
      · obtain ⟨r, hrk⟩ : ∃ r, xs[k]? = some r := ⟨_, List.getElem?_eq_getElem hlt⟩
        have hlt2 : k < ys.length := by rw [← HL.out]; exact hlt
        obtain ⟨q, hqk⟩ : ∃ q, ys[k]? = some q := ⟨_, List.getElem?_eq_getElem hlt2⟩
        obtain ⟨g, off, rfl, d1, d2, d3⟩ := RunsRd.cells HU.out k r hrk
        obtain ⟨g2, off2, rfl, e1, e2, e3⟩ := RunsRd.cells HV.out k q hqk
        have HE2 : Hid ((if r = q then sameTo xs ys (xs.length - (k + 1)) (k + 1) else false) = decide (xs = ys)) := by
          have h := HE.out
          rw [show xs.length - k = (xs.length - (k + 1)) + 1 from by omega] at h
          simp only [sameTo, hrk, hqk, Option.some.injEq] at h
          exact h
        clear HE hrk hqk
        obtain ⟨rk, rs, rc⟩ := r
        obtain ⟨qk, qs, qc⟩ := q
        dsimp only at d1 d2 d3 e1 e2 e3
        rcases three_eq rk qk rs qs rc qc with ⟨h1, h2, h3, he⟩ | ⟨h1, hn⟩ | ⟨h1, h2, hn⟩ | ⟨h1, h2, h3, hn⟩
        · have HE3 : Hid (sameTo xs ys (xs.length - (k + 1)) (k + 1) = decide (xs = ys)) := by
            have h := HE2.out
            rw [if_pos he] at h
            exact h
          clear he HE2
          go_wp2_with fail
          go_quiet (fail)
          go_wp2_with fail
          go_roundw
          case rel => exact ⟨k + 1, by omega, by go_num, HE3, m + nq, rfl⟩
          case measure => simp [intOf]; omega
        all_goals
          have HE3 : Hid (decide (xs = ys) = false) := by
            have h := HE2.out
            rw [if_neg hn] at h
            exact h.symm
          clear hn HE2
          go_wp2_with fail
          go_quiet (fail)
          go_wp2
          go_ret
          exact ⟨by rw [HE3.out]; rfl, m + nq, by simp⟩
      · obtain rfl : k = xs.length := by omega
        have HF : Hid (decide (xs = ys) = true) := by
          have h := HE.out
          rw [Nat.sub_self] at h
          exact h.symm
        go_wp2
        go_ret
        exact ⟨by rw [HF.out]; rfl, m, rfl⟩
  · have hlI : ((xs.length : Int) != (ys.length : Int)) = true := by simp; omega
    have HF : Hid (decide (xs = ys) = false) := Lib.hid (by simp; intro h; exact hl (by rw [h]))
    clear hl
    go_enter Try.func29, Try.ntmps29
    go_wp2
    go_ret
    exact ⟨by rw [HF.out]; rfl, 0, rfl⟩
end Go.Proofs.Ytfielodchoghlaa
