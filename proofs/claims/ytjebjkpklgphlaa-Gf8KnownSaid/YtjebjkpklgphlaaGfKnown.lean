/- The walk of Gf8Known: the document's examples, and every byte met once. -/
import Derived.Test.YtjebjkpklgphlaaGfField
import Derived.WalkSmall
namespace Go.Proofs.Ytjebjkpklgphlaa
open Go.RowKit
set_option maxRecDepth 100000

theorem below_draw {B : Nat} {a w : World} (h : Below B a w) (n : Nat) : Below B a (w.drewN n) := ⟨h.os, h.tape, h.output, h.size, h.block⟩

/-- how often the box has come to j behind the first k bytes -/
def met (k j : Nat) : Nat := if gback j < k then 1 else 0
theorem met_at (k : Nat) (hk : k < 256) : met k (gbox k) = 0 := by unfold met; rw [gback_box k hk, if_neg (by omega)]
theorem met_at' (k : Nat) (hk : k < 256) : met (k + 1) (gbox k) = 1 := by unfold met; rw [gback_box k hk, if_pos (by omega)]
theorem met_off (k j : Nat) (_hk : k < 256) (hj : j < 256) (h : j ≠ gbox k) : met (k + 1) j = met k j := by
  have : gback j ≠ k := fun e => h (by rw [← e, gbox_back j hj])
  unfold met
  by_cases g : gback j < k
  · rw [if_pos (by omega), if_pos g]
  · rw [if_neg (by omega), if_neg g]
theorem met_end (j : Nat) : met 256 j = 1 := by unfold met; rw [if_pos (gback_lt j)]

def Row (w : World) (b k : Nat) : Prop := ∀ j, j < 256 → w.cell? ⟨b, j, none⟩ = some (.int .i64 (met k j : Nat)) ∧ w.frozen? ⟨b, j, none⟩ = false

theorem Row.step {w : World} {b k : Nat} (h : Row w b k) (hk : k < 256) : Row (w.setCell ⟨b, gbox k, none⟩ (.int .i64 1)) b (k + 1) := by
  intro j hj
  refine ⟨?_, by rw [World.frozen?_setCell]; exact (h j hj).2⟩
  by_cases e : j = gbox k
  · subst e
    rw [World.cell?_setCell_same _ _ _ (h _ hj).1, met_at' k hk]
    rfl
  · rw [World.cell?_setCell_other _ _ _ _ (by intro x; injection x with _ x2; exact e x2.symm), met_off k j hk hj e]
    exact (h j hj).1

def z256 : Array Value := (List.replicate 256 (Value.int .i64 0)).toArray
theorem zero256 (w : World) : (zeroValue 28).run Try.prog w = .ok (.agg z256) w := by kernel_rfl
theorem z256_at (j : Nat) (hj : j < 256) : z256[j]? = some (.int .i64 0) := by
  show (List.replicate 256 (Value.int .i64 0)).toArray[j]? = _
  rw [List.getElem?_toArray, List.getElem?_replicate, if_pos hj]
theorem Row.start (w : World) : Row (w.alloc (.cells z256 28)) w.heap.size 0 := by
  intro j hj
  refine ⟨?_, by simp⟩
  rw [World.cell?_alloc_new, z256_at j hj]
  rfl
theorem Row.draw {w : World} {b k : Nat} (h : Row w b k) (n : Nat) : Row (w.drewN n) b k := h

set_option maxHeartbeats 1000000 in
theorem known_any (w : World) :
    Calls Try.prog 7 #[] w fun e w' => e = .returned (.bool true) ∧ Below w.heap.size w w' := by
  go_enter Try.func7, Try.ntmps7
  go_wp2_with fail
  refine (mul_is _ _ 254 (by decide +kernel) _ (by omega) (by omega) (by omega) (by omega)).mono ?_
  rintro e w' ⟨rfl, rfl⟩
  go_wp2_with fail
  refine (mul_is _ _ 0 (by decide +kernel) _ (by omega) (by omega) (by omega) (by omega)).mono ?_
  rintro e w' ⟨rfl, rfl⟩
  go_wp2_with fail
  refine (inv_is _ 0 (by decide +kernel) _ (by omega) (by omega)).mono ?_
  rintro e w' ⟨rfl, rfl⟩
  go_wp2_with fail
  refine (inv_is _ 1 (by decide +kernel) _ (by omega) (by omega)).mono ?_
  rintro e w' ⟨rfl, rfl⟩
  go_wp2_with fail
  refine (inv_is _ 83 (by decide +kernel) _ (by omega) (by omega)).mono ?_
  rintro e w' ⟨rfl, rfl⟩
  go_wp2_with fail
  refine (box_is _ 124 (by decide +kernel) _ (by omega) (by omega)).mono ?_
  rintro e w' ⟨rfl, m1, rfl⟩
  go_wp2_with fail
  refine (box_is _ 22 (by decide +kernel) _ (by omega) (by omega)).mono ?_
  rintro e w' ⟨rfl, m2, rfl⟩
  go_wp2_with fail
  refine (back_is _ 83 (by decide +kernel) _ (by omega) (by omega)).mono ?_
  rintro e w' ⟨rfl, m3, rfl⟩
  have hz := zero256
  go_wp2_with fail
  clear hz
  go_loopw [3] (fun i w1 => ∃ k : Nat, k ≤ 256 ∧ i = .int .i64 (k : Int) ∧ Row w1 w.heap.size k ∧ Below w.heap.size w w1 ∧ w.heap.size < w1.heap.size) (fun i _ => 256 - (intOf i).toNat)
  case atStart =>
    refine ⟨0, by omega, rfl, ?_, ?_, ?_⟩
    · exact Row.start (w.drewN (m1 + m2 + m3))
    · exact (below_draw (Below.refl _ _) _).alloc (Nat.le_refl _) _
    · simp
  case round =>
    obtain ⟨k, hk, rfl, hrow, hbel, hsz⟩ := hrel
    by_cases hlt : k < 256
    · go_wp2_with fail
      refine (box_is _ ((gbox k : Nat) : Int) (by unfold gboxI; rw [Int.toNat_natCast]) _ (by omega) (by omega)).mono ?_
      rintro e w' ⟨rfl, m4, rfl⟩
      have g1 := gbox_lt k
      have g2 : ((gbox k : Nat) : Int) < 256 := by omega
      have hc : wr.cell? ⟨w.heap.size, gbox k, none⟩ = some (.int .i64 0) := by
        rw [(hrow _ g1).1, met_at k hlt]
        rfl
      have hf : wr.frozen? ⟨w.heap.size, gbox k, none⟩ = false := (hrow _ g1).2
      clear g1
      go_wp2
      go_roundw
      case rel =>
        refine ⟨k + 1, by omega, by go_num, ?_, ?_, ?_⟩
        · exact (hrow.draw m4).step hlt
        · exact (below_draw hbel m4).setCell (Nat.le_refl _) _
        · simpa using hsz
      case measure => simp [intOf]; omega
    · have hrow2 : Row wr w.heap.size 256 := by
        have e : k = 256 := by omega
        rw [e] at hrow
        exact hrow
      obtain ⟨wo, rfl⟩ : ∃ wo : World, wo = wr := ⟨_, rfl⟩
      go_wp2_with fail
      go_loopw [4] (fun i w1 => ∃ k : Nat, k ≤ 256 ∧ i = .int .i64 (k : Int) ∧ Row w1 w.heap.size 256 ∧ Below w.heap.size w w1 ∧ w.heap.size < w1.heap.size) (fun i _ => 256 - (intOf i).toNat)
      case atStart => exact ⟨0, by omega, rfl, hrow2, hbel, hsz⟩
      case round =>
        clear hrow hrow2 hbel hsz
        obtain ⟨k2, hk2, rfl, hrow, hbel, hsz⟩ := hrel
        by_cases hlt2 : k2 < 256
        · have hc : wr.cell? ⟨w.heap.size, k2, none⟩ = some (.int .i64 1) := by
            rw [(hrow _ hlt2).1, met_end k2]
            rfl
          go_wp2_with fail
          refine (boxes_any (k2 : Int) _ (by omega) (by omega)).mono ?_
          rintro e w' ⟨rfl, m4, rfl⟩
          go_wp2_with fail
          refine (products_any _ _ _ (by omega) (by omega) (by omega) (by omega)).mono ?_
          rintro e w' ⟨rfl, m5, rfl⟩
          go_wp2
          go_roundw
          case rel => exact ⟨k2 + 1, by omega, by go_num, (hrow.draw _), below_draw hbel _, hsz⟩
          case measure => simp [intOf]; omega
        · obtain rfl : k2 = 256 := by omega
          go_wp2_with fail
          refine (awake_any _).mono ?_
          rintro e w' ⟨rfl, m5, rfl⟩
          go_wp2
          go_ret
          exact ⟨by simp, below_draw hbel _⟩
theorem gf8Known.walk (w : World) :
    Calls Try.prog 7 #[] w fun e w' => e = .returned (.bool true) ∧ Below w.heap.size w w' := known_any w
end Go.Proofs.Ytjebjkpklgphlaa
