/- The contract of Ledger.Count. Condition: the ledger's events are fewer than 2^63. -/
import Derived.Test.YtmdfmkdhfhbkjaaRows
import Derived.Test.YtmdfmkdhfhbkjaaLenv
namespace Go.Proofs.Ytmdfmkdhfhbkjaa
open Go.RowKit
set_option maxRecDepth 100000
set_option linter.unusedVariables false

/-- how many events of the first j runs have the kind k -/
def cntTo (rs : List Rn) (k : Int) : Nat → Int
  | 0 => 0
  | j + 1 => cntTo rs k j + if (rs.getD j ⟨0, 0, 0⟩).k = k then (rs.getD j ⟨0, 0, 0⟩).c else 0
def cnt (rs : List Rn) (k : Int) : Int := cntTo rs k rs.length
theorem cntTo_bound (rs : List Rn) (k : Int) (h : Posi rs) : ∀ j, j ≤ rs.length → 0 ≤ cntTo rs k j ∧ cntTo rs k j ≤ tot (rs.take j)
  | 0, _ => by simp [cntTo, tot]
  | j + 1, hj => by
    obtain ⟨h1, h2⟩ := cntTo_bound rs k h j (by omega)
    have hg : rs.getD j ⟨0, 0, 0⟩ = rs[j] := by rw [List.getD_eq_getElem?_getD, List.getElem?_eq_getElem (by omega)]; rfl
    have hp := h rs[j] (List.getElem_mem _)
    rw [cntTo, hg, List.take_add_one, List.getElem?_eq_getElem (by omega), tot_append]
    simp only [Option.toList_some, tot_one]
    split <;> omega
theorem tot_take (rs : List Rn) (h : Posi rs) (j : Nat) : tot (rs.take j) ≤ tot rs := by
  have h1 := List.take_append_drop j rs
  have h2 : tot rs = tot (rs.take j) + tot (rs.drop j) := by rw [← tot_append, h1]
  have h3 := tot_nonneg (rs.drop j) (fun r hr => h r (List.mem_of_mem_drop hr))
  omega
set_option maxHeartbeats 1000000 in
theorem countP_any (b : Nat) (v : Value) (rs : List Rn) (k : Int) (w : World) (h : LedP w b v rs) (hl : rs.length ≤ 5497558138880) (ht : tot rs < 9223372036854775808) :
    Calls Try.prog 24 #[.pointer (some ⟨b, 0, none⟩), .int .u8 k] w fun e w' => e = .returned (.int .i64 (cnt rs k)) ∧ Below w.heap.size w w' := by
  have HP := Lib.hid h.posi
  have H := Lib.hid h
  clear h
  go_enter Try.func24, Try.ntmps24
  go_wp2_with fail
  refine (runsP_any b v rs _ H.out hl).mono ?_
  rintro e w1 ⟨v1, rfl, h1, h2, h3⟩
  have HB := Lib.hid h2
  have HR := Lib.hid h1
  obtain ⟨ao, cap, rfl⟩ := h1.any
  clear h1 h2 h3
  go_wp2_with fail
  go_loopw [5, 11] (fun n i w2 => ∃ j : Nat, j ≤ rs.length ∧ i = .int .i64 (j : Int) ∧ n = .int .i64 (cntTo rs k j) ∧ Below w1.heap.size w1 w2) (fun _ i _ => rs.length - (intOf i).toNat)
  case atStart => exact ⟨0, Nat.zero_le _, rfl, rfl, Below.refl _ _⟩
  case round =>
    obtain ⟨j, hj, rfl, rfl, hb⟩ := hrel
    by_cases hlt : j < rs.length
    · obtain ⟨r, hr⟩ : ∃ r, rs[j]? = some r := ⟨_, List.getElem?_eq_getElem hlt⟩
      obtain ⟨g, off, rfl, d1, d2, d3⟩ := RunsRd.cells HR.out.rd j r hr
      have hgl : g < w1.heap.size := World.block_lt_of_cell? w1 _ d1
      have c1 := (hb.cell hgl).trans d1
      have c2 := (hb.cell hgl).trans d2
      have c3 := (hb.cell hgl).trans d3
      have HBB := Lib.hid hb
      have hgr : g < wr.heap.size := Nat.lt_of_lt_of_le hgl hb.size
      obtain ⟨q1, q2⟩ := cntTo_bound rs k HP.out j hj
      obtain ⟨q3, q4⟩ := cntTo_bound rs k HP.out (j + 1) hlt
      have q5 := tot_take rs HP.out (j + 1)
      have q6 := tot_take rs HP.out j
      have HE : Hid (cntTo rs k (j + 1) = cntTo rs k j + if r.k = k then r.c else 0) := by
        rw [cntTo, show rs.getD j ⟨0, 0, 0⟩ = r from by rw [List.getD_eq_getElem?_getD, hr]; rfl]
        exact Lib.hid rfl
      have HRJ := Lib.hid hr
      clear hr hb d1 d2 d3
      have HQ : Hid (0 ≤ cntTo rs k j ∧ cntTo rs k j ≤ tot rs ∧ 0 ≤ cntTo rs k (j + 1) ∧ cntTo rs k (j + 1) ≤ tot rs) := Lib.hid ⟨q1, by omega, q3, by omega⟩
      clear q1 q2 q3 q4 q5 q6
      have HPC := Lib.hid (HP.out r (List.mem_of_getElem? HRJ.out))
      clear HRJ
      by_cases hk : r.k = k
      · have HE2 : Hid (cntTo rs k (j + 1) = cntTo rs k j + r.c) := by
          have h := HE.out
          rw [if_pos hk] at h
          exact Lib.hid h
        have z1 := HQ.out.1
        have z2 : cntTo rs k j + r.c < 9223372036854775808 := by rw [← HE2.out]; have := HQ.out.2.2.2; omega
        have z3 := HPC.out
        have hb1 : (r.k == k) = true := by rw [hk]; simp
        generalize cntTo rs k j = x at z1 z2 HE HE2 HQ
        clear HE
        go_wp2_with fail
        go_roundw
        case rel => exact ⟨j + 1, by omega, by go_num, by rw [HE2.out], (HBB.out.alloc HBB.out.size _)⟩
        case measure => simp [intOf]; omega
      · have HE2 : Hid (cntTo rs k (j + 1) = cntTo rs k j) := by
          have h := HE.out
          rw [if_neg hk, Int.add_zero] at h
          exact Lib.hid h
        have hb1 : (r.k == k) = false := by simpa using hk
        generalize cntTo rs k j = x at HE HE2 HQ
        clear HE
        go_wp2_with fail
        go_roundw
        case rel => exact ⟨j + 1, by omega, by go_num, by rw [HE2.out], (HBB.out.alloc HBB.out.size _)⟩
        case measure => simp [intOf]; omega
    · obtain rfl : j = rs.length := by omega
      have HBB := Lib.hid hb
      clear hb
      go_wp2
      go_ret
      exact ⟨rfl, HB.out.trans (HBB.out.mono HB.out.size)⟩
theorem countP_env {w0 w : World} {obs : List Ob} (h : Env w0 w obs) (i : Nat) {p : Value} {rs : List Rn} (hi : obs[i]? = some (obP p (some rs))) (k : Int) (hl : rs.length ≤ 5497558138880) (ht : tot rs < 9223372036854775808) :
    Calls Try.prog 24 #[p, .int .u8 k] w fun e w' => e = .returned (.int .i64 (cnt rs k)) ∧ Env w0 w' obs ∧ Below w.heap.size w w' := by
  obtain ⟨F, f1, _⟩ := h.lgP i hi
  obtain ⟨b, v, rfl, rfl, f2⟩ := f1
  exact (countP_any b v rs k w f2 hl ht).mono fun e w' ⟨he, h1⟩ => ⟨he, h.below h1, h1⟩
end Go.Proofs.Ytmdfmkdhfhbkjaa
