/- A row of runs of one's own, ahead of its sort and behind it. -/
import Derived.Test.YtfielodchoghlaaRows
import Derived.Test.YtfielodchoghlaaHistS
import Derived.Test.YtfielodchoghlaaRuns
namespace Go.Proofs.Ytfielodchoghlaa
open Go.RowKit
set_option maxRecDepth 100000
set_option linter.unusedVariables false
set_option linter.unusedSimpArgs false
theorem fl_at (l : List Rn) : ∀ (i c : Nat), i < l.length → c < 3 → (KN.fl l)[i * 3 + c]? = some ((encR l[i]!)[c]!) := by
  intro i c hi hc
  have hx : l[i]? = some l[i] := List.getElem?_eq_getElem hi
  have e : l[i]! = l[i] := getElem!_pos l i hi
  obtain ⟨h0, h1, h2⟩ := flatR_at l i _ hx
  rw [e]
  match c, hc with
  | 0, _ => exact h0
  | 1, _ => exact h1
  | 2, _ => exact h2
theorem fl_len (l : List Rn) : (KN.fl l).length = l.length * 3 := flatR_length l
theorem flatK_R (d : Array Rn) : (Sort.flatK encR 3 d).toList = KN.fl d.toList := by
  apply List.ext_getElem?
  intro t
  by_cases ht : t < d.size * 3
  · have h1 : (Sort.flatK encR 3 d).toList[t]? = some ((encR d[t / 3]!)[t % 3]!) := by
      rw [List.getElem?_eq_getElem (by simpa using ht)]
      have := Sort.get_flatK encR 3 d t ht
      rw [getElem!_pos _ t (by simpa using ht)] at this
      rw [← this]
      simp
    have h2 := fl_at d.toList (t / 3) (t % 3) (by simp; omega) (by omega)
    rw [show t / 3 * 3 + t % 3 = t by omega] at h2
    have h3 : d.toList[t / 3]! = d[t / 3]! := by
      rw [getElem!_pos d.toList (t / 3) (by simp; omega), getElem!_pos d (t / 3) (by omega)]
      simp
    rw [h1, h2, h3]
  · rw [List.getElem?_eq_none (by simp; omega), List.getElem?_eq_none (by rw [fl_len]; simp; omega)]
theorem hold_of_own {w : World} {base g cap : Nat} {l : List Rn} (h : w.ownsRow base 51 3 (.slice (some ⟨g, 0, none⟩) l.length cap) l.length (KN.fl l)) : HoldR w g l.toArray := by
  intro j hj
  have hj' : j < l.length * 3 := by simpa using hj
  refine ⟨?_, by rw [Nat.zero_add]; exact World.ownsRow.frozenAt h j⟩
  rw [Nat.zero_add, World.ownsRow.cellAt h j hj']
  have h2 := fl_at l (j / 3) (j % 3) (by omega) (by omega)
  rw [show j / 3 * 3 + j % 3 = j by omega] at h2
  rw [h2, Sort.get_flatK encR 3 _ j (by simpa using hj')]
  simp
theorem own_of_sq {w w' : World} {base g cap : Nat} {l : List Rn} {d : Array Rn} (h : w.ownsRow base 51 3 (.slice (some ⟨g, 0, none⟩) l.length cap) l.length (KN.fl l)) (hq : SQ w g d w') (hs : d.size = l.length) :
    w'.ownsRow base 51 3 (.slice (some ⟨g, 0, none⟩) l.length cap) l.length (KN.fl d.toList) := by
  have hlen : (KN.fl d.toList).length = l.length * 3 := by rw [fl_len]; simp [hs]
  refine ⟨hlen, ?_⟩
  rcases h.2 with ⟨hv, _⟩ | ⟨g', cap', cur, hv, hb, hg, r1, r2, r3, r4⟩
  · simp at hv
  · injection hv with e1 _ e3
    injection e1 with e1
    injection e1 with e1
    subst e1; subst e3
    have hlt : g < w.heap.size := (Array.getElem?_eq_some_iff.1 hg).1
    refine .inr ⟨g, cap, Sort.putCells id 0 (Sort.flatK encR 3 d) cur, rfl, hb, ?_, r1, r2, by simp [Sort.putCells, r3], ?_⟩
    · rw [Below.block hq g hlt, putR_at, hg]
      rfl
    · rw [← flatK_R]
      apply List.ext_getElem?
      intro t
      by_cases ht : t < l.length * 3
      · rw [List.getElem?_take_of_lt ht]
        have hc : t < cur.size := by rw [r3]; have := Nat.mul_le_mul_right 3 r1; omega
        have hf : t < (Sort.flatK encR 3 d).size := by simp [hs]; exact ht
        simp only [Sort.putCells, Array.getElem?_toList, Array.getElem?_mapIdx, Array.getElem?_eq_getElem hc, Array.getElem?_eq_getElem hf, Option.map_some, Nat.zero_le, true_and, Nat.zero_add, if_pos hf, Nat.sub_zero, id]
        rw [getElem!_pos _ t hf]
      · rw [List.getElem?_eq_none (by simp; omega), List.getElem?_eq_none (by simp [hs]; omega)]
/-- what was collected, sorted -/
theorem IsHist.sorted {rs l : List Rn} {d : Array Rn} (hn : (l.map Rn.ev).Nodup) (hm : ∀ e, e ∈ l.map Rn.ev ↔ hasE rs e) (hc : ∀ x ∈ l, x.c = cntE rs x.ev) (hp : Sort.PermIn 0 l.length l.toArray d) (hs : Sort.SortedIn ltR 0 l.length d) : IsHist rs d.toList := by
  have hsz : d.size = l.length := by simpa using hp.1
  have hperm : l.Perm d.toList := by
    have := hp.2.2
    have e1 : d.extract 0 l.length = d := by rw [← hsz]; simp
    have e2 : l.toArray.extract 0 l.length = l.toArray := by simp
    rw [e1, e2] at this
    simpa using this.symm
  refine IsHist.of_sorted hperm hn hm hc ?_
  rw [List.pairwise_iff_getElem]
  intro i j hi hj hij
  have := hs i j (Nat.zero_le _) hij (by simpa [hsz] using hj)
  rw [getElem!_pos d j (by simpa using hj), getElem!_pos d i (by simpa using hi)] at this
  simpa using this
end Go.Proofs.Ytfielodchoghlaa
