/- The walk of LedgerNone. -/
import Derived.Test.YtmdfmkdhfhbkjaaRows
import Derived.Test.YtmdfmkdhfhbkjaaAllNil
namespace Go.Proofs.Ytmdfmkdhfhbkjaa
open Go.RowKit
set_option maxRecDepth 100000
set_option linter.unusedVariables false
set_option linter.unusedSimpArgs false
set_option maxHeartbeats 2000000 in
theorem ledgerNone.walk (k s n : Int) (hn : (Lit.int .i64 n).wf = true) (w : World) :
    Calls Try.prog 4 #[.agg #[.int .u8 k, .int .i64 s], .int .i64 n] w fun e w' => e = .returned (.bool true) ∧ Below w.heap.size w w' := by
  clear hn
  refine callsIn_wide.1 (callsIn_of_wp_marks (n := 3) Try.func4 rfl trivial (wpIn_wide.2 ?_) rfl)
  simp only [Try.ntmps4, List.size_toArray, List.length_cons, List.length_nil, Nat.reduceAdd, Nat.reduceSub, Array.replicate_succ, Array.replicate_zero, List.push_toArray, List.append_toArray, List.nil_append, List.cons_append]
  go_wp2_with fail
  obtain ⟨w1, hw1⟩ : ∃ w1, w.alloc (.cells #[.int .u8 k, .int .i64 s] 39) = w1 := ⟨_, rfl⟩
  have C1 : w1.cell? ⟨w.heap.size, 0, none⟩ = some (.int .u8 k) := by rw [← hw1, World.cell?_alloc_new]; rfl
  have C2 : w1.cell? ⟨w.heap.size, 1, none⟩ = some (.int .i64 s) := by rw [← hw1, World.cell?_alloc_new]; rfl
  have B1 : Hid (Below w.heap.size w w1) := Lib.hid (by rw [← hw1]; exact (Below.refl _ _).alloc (Nat.le_refl _) _)
  have g1 : w.heap.size < w1.heap.size := World.block_lt_of_cell? w1 _ C1
  rw [hw1]
  clear hw1
  refine (note_nil k s _).mono ?_
  rintro e w2 ⟨rfl, hb⟩
  have D1 : w2.cell? ⟨w.heap.size, 0, none⟩ = some (.int .u8 k) := (hb.cell g1).trans C1
  have D2 : w2.cell? ⟨w.heap.size, 1, none⟩ = some (.int .i64 s) := (hb.cell g1).trans C2
  have g2 : w.heap.size < w2.heap.size := Nat.lt_of_lt_of_le g1 hb.size
  have B2 : Hid (Below w.heap.size w w2) := Lib.hid (B1.out.trans (hb.mono B1.out.size))
  clear hb C1 C2 B1 g1
  go_wp2_with fail
  refine (noteTimes_nil k s n _).mono ?_
  rintro e w3 ⟨rfl, hb⟩
  have C1 : w3.cell? ⟨w.heap.size, 0, none⟩ = some (.int .u8 k) := (hb.cell g2).trans D1
  have C2 : w3.cell? ⟨w.heap.size, 1, none⟩ = some (.int .i64 s) := (hb.cell g2).trans D2
  have g3 : w.heap.size < w3.heap.size := Nat.lt_of_lt_of_le g2 hb.size
  have B3 : Hid (Below w.heap.size w w3) := Lib.hid (B2.out.trans (hb.mono B2.out.size))
  clear hb D1 D2 B2 g2
  go_wp2_with fail
  refine (reset_nil _).mono ?_
  rintro e w4 ⟨⟨v, rfl⟩, rfl⟩
  go_wp2_with fail
  refine (all_nil _).mono ?_
  rintro e w4 ⟨rfl, hc, hb⟩
  have D1 : w4.cell? ⟨w.heap.size, 0, none⟩ = some (.int .u8 k) := (hb.cell g3).trans C1
  have D2 : w4.cell? ⟨w.heap.size, 1, none⟩ = some (.int .i64 s) := (hb.cell g3).trans C2
  have g4 : w.heap.size < w4.heap.size := Nat.lt_of_lt_of_le g3 hb.size
  have B4 : Hid (Below w.heap.size w w4) := Lib.hid (B3.out.trans (hb.mono B3.out.size))
  have g5 : w3.heap.size < w4.heap.size := World.block_lt_of_cell? w4 _ hc
  have HC := Lib.hid hc
  clear hb C1 C2 B3 hc
  generalize w3.heap.size = B at HC g3 g5
  clear g3
  have hnn := fun W => all_not_nil (.func 46) #[] #[.pointer (some ⟨B, 0, none⟩)] W
  go_wp2_with fail
  obtain ⟨w5, hw5⟩ : ∃ w5, w4.alloc (.cells #[.int .i64 0] 3) = w5 := ⟨_, rfl⟩
  have b5 : Below w4.heap.size w4 w5 := by rw [← hw5]; exact (Below.refl _ _).alloc (Nat.le_refl _) _
  have F1 : w5.cell? ⟨w.heap.size, 0, none⟩ = some (.int .u8 k) := (b5.cell g4).trans D1
  have F2 : w5.cell? ⟨w.heap.size, 1, none⟩ = some (.int .i64 s) := (b5.cell g4).trans D2
  have F3 : w5.cell? ⟨w4.heap.size, 0, none⟩ = some (.int .i64 0) := by rw [← hw5, World.cell?_alloc_new]; rfl
  have FB : w5.cell? ⟨B, 0, none⟩ = some (.slice none 0 0) := (b5.cell g5).trans HC.out
  have q1 : w.heap.size < w5.heap.size := World.block_lt_of_cell? w5 _ F1
  have q3 : w4.heap.size < w5.heap.size := World.block_lt_of_cell? w5 _ F3
  have qB : B < w5.heap.size := World.block_lt_of_cell? w5 _ FB
  have B5 : Hid (Below w.heap.size w w5) := Lib.hid (B4.out.trans (b5.mono B4.out.size))
  rw [hw5]
  clear hw5 b5 D1 D2 g4 g5 HC B4 hnn
  refine wp_range_none (gf := 46) (lb := #[.pointer (some ⟨B, 0, none⟩)]) rfl (enters_of Try.func46 (by kernel_rfl) rfl) rfl
    (all1_stops (α := Unit) 2 B w5 FB qB (fun _ => #[undef]) (fun _ _ => True)) ?done
  case done =>
    rintro D w6 hD hb hK
    have D1 : w6.cell? ⟨w.heap.size, 0, none⟩ = some (.int .u8 k) := (hb.cell q1).trans F1
    have D2 : w6.cell? ⟨w.heap.size, 1, none⟩ = some (.int .i64 s) := (hb.cell q1).trans F2
    have D3 : w6.cell? ⟨w4.heap.size, 0, none⟩ = some (.int .i64 0) := (hb.cell q3).trans F3
    have B6 : Hid (Below w.heap.size w w6) := Lib.hid (B5.out.trans (hb.mono B5.out.size))
    have g6 : w.heap.size < w6.heap.size := World.block_lt_of_cell? w6 _ D1
    have g7 : w4.heap.size < w6.heap.size := World.block_lt_of_cell? w6 _ D3
    have g8 : D < w6.heap.size := (Array.getElem?_eq_some_iff.1 hK).1
    have HD := Lib.hid hK
    clear hb hK F1 F2 F3 FB q1 q3 qB
    go_wp2_with fail
    refine (lives_any w6).mono ?_
    rintro e w7 ⟨rfl, hb⟩
    have E1 : w7.cell? ⟨w.heap.size, 0, none⟩ = some (.int .u8 k) := (hb.cell g6).trans D1
    have E2 : w7.cell? ⟨w.heap.size, 1, none⟩ = some (.int .i64 s) := (hb.cell g6).trans D2
    have E3 : w7.cell? ⟨w4.heap.size, 0, none⟩ = some (.int .i64 0) := (hb.cell g7).trans D3
    have B7 : Hid (Below w.heap.size w w7) := Lib.hid (B6.out.trans (hb.mono B6.out.size))
    have HD7 : Hid (w7.heap[D]? = some (.deferred (some []))) := Lib.hid ((hb.block D g8).trans HD.out)
    have HS : Hid (w.heap.size ≤ D) := Lib.hid (by have := B5.out.size; omega)
    have HT : Hid (w.heap.size ≤ w7.heap.size) := Lib.hid B7.out.size
    clear hb D1 D2 D3 B6 HD g6 g7 g8 hD B5
    go_wp2_with fail
    refine (len_nil _).mono ?_
    rintro e w8 ⟨rfl, rfl⟩
    go_wp2_with fail
    refine (mark_nil _).mono ?_
    rintro e w8 ⟨rfl, rfl⟩
    go_wp2_with fail
    refine (runsP_nil _).mono ?_
    rintro e w8 ⟨rfl, rfl⟩
    go_wp2_with fail
    refine (since_nil _ _).mono ?_
    rintro e w8 ⟨rfl, rfl⟩
    go_wp2_with fail
    refine (count_nil _ _).mono ?_
    rintro e w8 ⟨rfl, rfl⟩
    go_wp2_with fail
    refine ⟨by simp, .inl ⟨_, _, rfl, run_takeDeferred HD7.out, ?_⟩⟩
    exact ⟨_, results_tmp rfl _ _ _, rfl, B7.out.trans (belowK_b (w := w) (Nat.le_refl _) _ D _ _ HS.out HD7.out rfl rfl)⟩
end Go.Proofs.Ytmdfmkdhfhbkjaa
