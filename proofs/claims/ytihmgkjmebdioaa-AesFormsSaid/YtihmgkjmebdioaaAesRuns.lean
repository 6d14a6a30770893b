/- The contract of the laws' runs: what New and so many blocks record. -/
import Derived.Test.YtihmgkjmebdioaaRows
import Derived.Test.YtihmgkjmebdioaaAesLaws
import Derived.Test.YtihmgkjmebdioaaLoadG
namespace Go.Proofs.Ytihmgkjmebdioaa
open Go.RowKit
set_option maxRecDepth 100000
set_option linter.unusedVariables false
set_option linter.unusedSimpArgs false

/-- one run more, behind its literal -/
theorem RunsAt.more {w w1 w2 : World} {v v' : Value} {rs : List Rn} {r : Rn} {N : Nat} (hN : N = rs.length) (h : RunsAt w1 v rs) (hb : Below w.heap.size w w1) (hf : ∀ x, fp v x → w.heap.size ≤ x) {o : Obj} (hown : w2.ownsRow 0 44 3 v' (N + 1) (flatR rs ++ r.cells)) (hgrow : (w1.alloc o).grownBy w2 v.ownBlock)
    (hat : ∀ x, v'.ownBlock = some x → v.ownBlock = some x ∨ (w1.alloc o).heap.size = x) : RunsAt w2 v' (rs ++ [r]) ∧ Below w.heap.size w w2 ∧ ∀ x, fp v' x → w.heap.size ≤ x := by
  subst hN
  refine ⟨?_, (hb.alloc hb.size o).grown hgrow (by simp; have := hb.size; omega) (fun x hx => hf x hx), fun x hx => ?_⟩
  · unfold RunsAt
    rw [List.length_append, flatR_append, flatR_one]
    exact hown
  · rcases hat x hx with hh | hh
    · exact hf x hh
    · have := hb.size
      simp at hh
      omega
set_option maxHeartbeats 1000000 in
theorem runs5_any (n b : Int) (w : World) (hb : 0 < b) : Calls Try.prog 19 #[.int .i64 n, .int .i64 b] w fun e w' => ∃ v, e = .returned v ∧ RunsAt w' v [⟨4, n, 1⟩, ⟨5, n, b⟩] ∧ Below w.heap.size w w' ∧ ∀ x, fp v x → w.heap.size ≤ x := by
  obtain ⟨i0, hi, hz0, hz1, hz2⟩ := info_parts infoRun
  have hgt : decide (b > 0) = true := by simpa using hb
  have h0 : RunsAt (w.alloc (.cells #[.int .u8 4, .int .i64 n, .int .i64 1] 44)) (.slice (some ⟨w.heap.size, 0, none⟩) 1 1) [⟨4, n, 1⟩] := by
    have := World.ownsRow_lit (base := 0) (e := 44) (size := 3) w #[.int .u8 4, .int .i64 n, .int .i64 1] 1 (Nat.zero_le _) (by decide) rfl
    exact this
  have hb0 : Below w.heap.size w (w.alloc (.cells #[.int .u8 4, .int .i64 n, .int .i64 1] 44)) := (Below.refl _ _).alloc (Nat.le_refl _) _
  have hrow : ((w.alloc (.cells #[.int .u8 4, .int .i64 n, .int .i64 1] 44)).alloc (.cells #[.int .u8 5, .int .i64 n, .int .i64 b] 44)).ownsRow 0 44 3 (.slice (some ⟨w.heap.size, 0, none⟩) 1 1) 1 (flatR [⟨4, n, 1⟩]) := World.ownsRow.alloc h0 _
  have hnews : ∀ j u, ([Value.int .u8 5, .int .i64 n, .int .i64 b] : List Value)[j]? = some u → ((w.alloc (.cells #[.int .u8 4, .int .i64 n, .int .i64 1] 44)).alloc (.cells #[.int .u8 5, .int .i64 n, .int .i64 b] 44)).cell? ((⟨w.heap.size + 1, 0, none⟩ : Addr).add j) = some u := by
    have h := World.news_of_block (cs := #[.int .u8 5, .int .i64 n, .int .i64 b]) (heap_alloc_new (w.alloc (.cells #[.int .u8 4, .int .i64 n, .int .i64 1] 44)) (.cells #[.int .u8 5, .int .i64 n, .int .i64 b] 44))
    have hs : (w.alloc (.cells #[.int .u8 4, .int .i64 n, .int .i64 1] 44)).heap.size = w.heap.size + 1 := by simp
    rw [hs] at h
    exact h
  have H0 := Lib.hid (And.intro h0 hb0)
  have HR := Lib.hid hrow
  have HN := Lib.hid hnews
  clear h0 hb0 hrow hnews
  go_enter Try.func19, Try.ntmps19
  go_wp2_with (at_builtin; refine wpList_append_lies _ rfl _ _ 38 rfl 0 44 i0 _ 3 24 Try.underlying38 hi hz0 hz1 hz2 rfl (by decide) (.slice (some ⟨w.heap.size, 0, none⟩) 1 1) 1 (flatR [⟨4, n, 1⟩]) rfl HR.out ⟨w.heap.size + 1, 0, none⟩ 1 1 [.int .u8 5, .int .i64 n, .int .i64 b] rfl rfl HN.out (three_cells 5 n b) (by decide) (by decide) (by decide) (Nat.zero_le _) _ rfl ?_)
  intro g' cap' w2 hown hgrow hat hlt2
  have HM := Lib.hid (RunsAt.more (w := w) (rs := [⟨4, n, 1⟩]) (r := ⟨5, n, b⟩) rfl H0.out.1 H0.out.2 (fun x hx => by
    have e : w.heap.size = x := by simpa [fp, Value.ownBlock] using hx
    omega) hown hgrow (fun x hx => by
    have e : g' = x := by simpa [Value.ownBlock] using hx
    subst e
    rcases hat with hat | hat
    · exact .inl hat
    · right; rw [hat]; simp))
  clear hown hgrow hat hlt2 hi hz0 hz1 hz2
  go_wp2
  go_ret
  exact ⟨_, rfl, HM.out⟩
end Go.Proofs.Ytihmgkjmebdioaa
