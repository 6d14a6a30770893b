/- The document's ledger: Len, Mark, Count, Reset, Since; At. -/
import Derived.Test.YtmdfmkdhfhbkjaaRows
import Derived.Test.YtmdfmkdhfhbkjaaSince
import Derived.Test.YtmdfmkdhfhbkjaaCount
import Derived.Test.YtmdfmkdhfhbkjaaAll
import Derived.Test.YtmdfmkdhfhbkjaaSums
import Derived.Deep.DeepCutAuto
import Derived.Deep.CutBlock
namespace Go.Proofs.Ytmdfmkdhfhbkjaa
open Go.RowKit
set_option maxRecDepth 100000
set_option linter.unusedVariables false
set_option linter.unusedSimpArgs false

theorem tot_take_succ (rs : List Rn) (k : Nat) (r : Rn) (h : rs[k]? = some r) : tot (rs.take (k + 1)) = tot (rs.take k) + r.c := by
  rw [take_succ_get rs k r h, tot_append, tot_one]
theorem tot_take_rng (rs : List Rn) (hp : Posi rs) (k : Nat) : 0 ≤ tot (rs.take k) ∧ tot (rs.take k) ≤ tot rs :=
  ⟨by have := tot_nonneg (rs.take k) (fun x hx => hp x (List.mem_of_mem_take hx)); omega, tot_take rs hp k⟩
set_option maxHeartbeats 1000000 in
theorem lenR_any (b : Nat) (v : Value) (rs : List Rn) (w : World) (h : LedR w b v rs) (hl : rs.length ≤ 5497558138880) (ht : tot rs < 9223372036854775808) : Calls Try.prog 35 #[.pointer (some ⟨b, 0, none⟩)] w fun e w' => e = .returned (.int .i64 (tot rs)) ∧ w = w' := by
  have hb := h.blk.lt
  have HRD : Hid (RunsRd w v rs) := h.row.rd
  have HP := Lib.hid h.posi
  obtain ⟨ao, cap, rfl⟩ := h.row.any
  have c0 := h.blk.cellAt 0 (v := .slice ao rs.length cap) rfl
  clear h
  go_enter Try.func35, Try.ntmps35
  go_wp2_with fail
  go_loopw [3, 4] (fun n i w1 => ∃ k : Nat, k ≤ rs.length ∧ i = .int .i64 (k : Int) ∧ n = .int .i64 (tot (rs.take k)) ∧ w = w1) (fun _ i _ => rs.length - (intOf i).toNat)
  case atStart => exact ⟨0, Nat.zero_le _, rfl, rfl, rfl⟩
  case round =>
    obtain ⟨k, hk, rfl, rfl, rfl⟩ := hrel
    by_cases hlt : k < rs.length
    · obtain ⟨r, hrk⟩ : ∃ r, rs[k]? = some r := ⟨_, List.getElem?_eq_getElem hlt⟩
      obtain ⟨g, off, rfl, d1, d2, d3⟩ := RunsRd.cells HRD.out k r hrk
      have hs := tot_take_succ rs k r hrk
      have h1 := tot_take_rng rs HP.out k
      have h2 := tot_take_rng rs HP.out (k + 1)
      obtain ⟨T, hT⟩ : ∃ T, tot (rs.take k) = T := ⟨_, rfl⟩
      rw [hT] at h1 hs ⊢
      have HS : Hid (tot (rs.take (k + 1)) = T + r.c) := Lib.hid hs
      have hw : IntKind.i64.wrap (T + r.c) = T + r.c := IntWalk.i64_in _ (by omega)
      clear hs h1 h2 hT hrk d1 d2
      go_wp2_with fail
      go_roundw
      case rel => exact ⟨k + 1, by omega, by go_num, by rw [HS.out], by first | trivial | rfl⟩
      case measure => simp [intOf]; omega
    · obtain rfl : k = rs.length := by omega
      rw [List.take_length]
      go_wp2
      go_ret
      exact ⟨rfl, rfl⟩
theorem markR_any (b : Nat) (v : Value) (rs : List Rn) (w : World) (h : LedR w b v rs) (hl : rs.length ≤ 5497558138880) (ht : tot rs < 9223372036854775808) : Calls Try.prog 44 #[.pointer (some ⟨b, 0, none⟩)] w fun e w' => e = .returned (.int .i64 (tot rs)) ∧ w = w' := by
  have H := Lib.hid h
  clear h
  go_enter Try.func44, Try.ntmps44
  go_wp2_with (refine (lenR_any b v rs w H.out hl ht).mono ?_; rintro e w' ⟨rfl, rfl⟩)
  go_ret
  exact ⟨rfl, rfl⟩
theorem resetR_any (b : Nat) (v : Value) (rs : List Rn) (w : World) (h : LedR w b v rs) :
    Calls Try.prog 43 #[.pointer (some ⟨b, 0, none⟩)] w fun e w' => e = .returned (.tuple #[]) ∧ LedR w' b (.slice none 0 0) [] ∧ Only (fun x => x = b) w w' := by
  have c0 := h.blk.cellAt 0 (v := v) rfl
  have f0 := h.blk.unfrozen 0
  have hb := h.blk.lt
  have H := Lib.hid h
  clear h
  go_enter Try.func43, Try.ntmps43
  go_wp2
  refine bodyPost_end (results_none rfl _ _ _) rfl ?_
  exact ⟨rfl, ⟨H.out.blk.set 0 (.slice none 0 0), RunsAt.nil _, fun h => by simp [fp, Value.ownBlock] at h, Posi.nil⟩, (Only.refl (fun x => x = b) w).set (.inl rfl) _⟩
set_option maxHeartbeats 1000000 in
theorem countR_any (b : Nat) (v : Value) (rs : List Rn) (k : Int) (w : World) (h : LedR w b v rs) (hl : rs.length ≤ 5497558138880) (ht : tot rs < 9223372036854775808) :
    Calls Try.prog 41 #[.pointer (some ⟨b, 0, none⟩), .int .u8 k] w fun e w' => e = .returned (.int .i64 (cnt rs k)) ∧ w = w' := by
  have hb := h.blk.lt
  have HRD : Hid (RunsRd w v rs) := h.row.rd
  have HP := Lib.hid h.posi
  obtain ⟨ao, cap, rfl⟩ := h.row.any
  have c0 := h.blk.cellAt 0 (v := .slice ao rs.length cap) rfl
  clear h
  go_enter Try.func41, Try.ntmps41
  go_wp2_with fail
  go_loopw [5, 6] (fun n i w1 => ∃ j : Nat, j ≤ rs.length ∧ i = .int .i64 (j : Int) ∧ n = .int .i64 (cntTo rs k j) ∧ w = w1) (fun _ i _ => rs.length - (intOf i).toNat)
  case atStart => exact ⟨0, Nat.zero_le _, rfl, rfl, rfl⟩
  case round =>
    obtain ⟨j, hj, rfl, rfl, rfl⟩ := hrel
    by_cases hlt : j < rs.length
    · obtain ⟨r, hr⟩ : ∃ r, rs[j]? = some r := ⟨_, List.getElem?_eq_getElem hlt⟩
      obtain ⟨g, off, rfl, d1, d2, d3⟩ := RunsRd.cells HRD.out j r hr
      have q1 := (cntTo_bound rs k HP.out j hj).1
      have q2 := cntTo_bound rs k HP.out (j + 1) hlt
      have q3 := tot_take rs HP.out (j + 1)
      have hE : cntTo rs k (j + 1) = cntTo rs k j + if r.k = k then r.c else 0 := by
        rw [cntTo, show rs.getD j ⟨0, 0, 0⟩ = r from by rw [List.getD_eq_getElem?_getD, hr]; rfl]
      obtain ⟨C, hC⟩ : ∃ C, cntTo rs k j = C := ⟨_, rfl⟩
      rw [hC] at q1 hE ⊢
      by_cases hk : r.k = k
      · rw [if_pos hk] at hE
        have HE := Lib.hid hE
        have hw : IntKind.i64.wrap (C + r.c) = C + r.c := IntWalk.i64_in _ (by omega)
        have hb1 : (r.k == k) = true := by rw [hk]; simp
        clear hE q1 q2 q3 hC hr hk d2
        go_wp2_with fail
        go_roundw
        case rel => exact ⟨j + 1, by omega, by go_num, by rw [HE.out], by first | trivial | rfl⟩
        case measure => simp [intOf]; omega
      · rw [if_neg hk, Int.add_zero] at hE
        have HE := Lib.hid hE
        have hb1 : (r.k == k) = false := by simpa using hk
        clear hE q1 q2 q3 hC hr hk d2 d3
        go_wp2_with fail
        go_roundw
        case rel => exact ⟨j + 1, by omega, by go_num, by rw [HE.out], by first | trivial | rfl⟩
        case measure => simp [intOf]; omega
    · obtain rfl : j = rs.length := by omega
      go_wp2
      go_ret
      exact ⟨rfl, rfl⟩
/-- what At tells -/
def atE2 (rs : List Rn) (n : Nat) : Value := match (evs rs)[n]? with | some x => .tuple #[.agg #[.int .u8 x.1, .int .i64 x.2], .bool true] | none => .tuple #[.agg #[.int .u8 0, .int .i64 0], .bool false]
theorem evs_len (rs : List Rn) (hp : Posi rs) : ((evs rs).length : Int) = tot rs := by
  induction rs with
  | nil => simp [evs, tot]
  | cons r rs ih =>
    have h1 := ih (fun x hx => hp x (List.mem_cons_of_mem _ hx))
    have h2 := hp r (by simp)
    have e : (evs (r :: rs)).length = r.c.toNat + (evs rs).length := by simp [evs]
    rw [e, tot_cons]
    omega
theorem atE2_in (rs : List Rn) (hp : Posi rs) (k : Nat) (r : Rn) (hr : rs[k]? = some r) (n : Nat) (h1 : tot (rs.take k) ≤ n) (h2 : (n : Int) - tot (rs.take k) < r.c) : atE2 rs n = .tuple #[.agg #[.int .u8 r.k, .int .i64 r.s], .bool true] := by
  have hl := evs_len (rs.take k) (fun x hx => hp x (List.mem_of_mem_take hx))
  have e : (evs rs)[n]? = some (r.k, r.s) := by
    rw [evs_split rs k, evs_drop rs k r hr, List.getElem?_append_right (by omega), List.getElem?_append_left (by simp; omega)]
    rw [List.getElem?_replicate, if_pos (by omega)]
  unfold atE2
  rw [e]
theorem atE2_out (rs : List Rn) (hp : Posi rs) (n : Nat) (h : tot rs ≤ n) : atE2 rs n = .tuple #[.agg #[.int .u8 0, .int .i64 0], .bool false] := by
  have hl := evs_len rs hp
  unfold atE2
  rw [List.getElem?_eq_none (by omega)]
set_option maxHeartbeats 1000000 in
theorem at_any (u : Value) (rs : List Rn) (n : Nat) (w : World) (hu : RunsRd w u rs) (hp : Posi rs) (hl : rs.length ≤ 5497558138880) (ht : tot rs < 9223372036854775808) (hn : (n : Int) ≤ 9223372036854775807) :
    Calls Try.prog 53 #[u, .int .i64 (n : Int)] w fun e w' => e = .returned (atE2 rs n) ∧ Below w.heap.size w w' := by
  obtain ⟨ao, cap, rfl, _⟩ := hu.form
  have HRD := Lib.hid hu
  have HP := Lib.hid hp
  clear hu hp
  go_enter Try.func53, Try.ntmps53
  go_wp2_with fail
  go_loopw [1, 6] (fun m i w1 => ∃ k : Nat, k ≤ rs.length ∧ i = .int .i64 (k : Int) ∧ m = .int .i64 ((n : Int) - tot (rs.take k)) ∧ tot (rs.take k) ≤ n ∧ Hid (Blk w1 w.heap.size 39 #[.int .u8 0, .int .i64 0] ∧ Below w.heap.size w w1)) (fun _ i _ => rs.length - (intOf i).toNat)
  case atStart => exact ⟨0, Nat.zero_le _, rfl, by simp [tot], by simp [tot], Lib.hid ⟨Blk.new w _ _, (Below.refl _ _).alloc (Nat.le_refl _) _⟩⟩
  case round =>
    obtain ⟨k, hk, rfl, rfl, hle, HB⟩ := hrel
    by_cases hlt : k < rs.length
    · obtain ⟨r, hrk⟩ : ∃ r, rs[k]? = some r := ⟨_, List.getElem?_eq_getElem hlt⟩
      obtain ⟨g, off, rfl, d1, d2, d3⟩ := RunsRd.cells (Sl.grow HRD.out HB.out.2) k r hrk
      have hs := tot_take_succ rs k r hrk
      have h1 := tot_take_rng rs HP.out k
      have h2 := tot_take_rng rs HP.out (k + 1)
      have hrc := HP.out r (List.mem_of_getElem? hrk)
      by_cases hin : (n : Int) - tot (rs.take k) < r.c
      · have HE := Lib.hid (atE2_in rs HP.out k r hrk n hle hin)
        obtain ⟨T, hT⟩ : ∃ T, tot (rs.take k) = T := ⟨_, rfl⟩
        rw [hT] at hin hle ⊢
        have t1 : decide ((n : Int) - T < r.c) = true := by rw [decide_eq_true_eq]; exact hin
        have t2 : decide (T ≤ (n : Int)) = true := by rw [decide_eq_true_eq]; omega
        have b0 := HB.out.1.cellAt 0 rfl
        have b1 := HB.out.1.cellAt 1 rfl
        have f0 := HB.out.1.unfrozen 0
        have f1 := HB.out.1.unfrozen 1
        clear hs h1 h2 hrk hT hin hle
        have h3 := HB.out.1.set 0 (.int .u8 r.k)
        have h4 := h3.set 1 (.int .i64 r.s)
        have h5 : Below w.heap.size w ((wr.setCell ⟨w.heap.size, 0, none⟩ (.int .u8 r.k)).setCell ⟨w.heap.size, 1, none⟩ (.int .i64 r.s)) := (HB.out.2.setCell (p := ⟨w.heap.size, 0, none⟩) (Nat.le_refl _) _).setCell (p := ⟨w.heap.size, 1, none⟩) (Nat.le_refl _) _
        have HB5 := Lib.hid (And.intro h4 h5)
        clear h3 h4 h5
        go_wp2_with fail
        have c0 := HB5.out.1.cellAt 0 rfl
        have c1 := HB5.out.1.cellAt 1 rfl
        exact bodyPost_ret (v := .tuple #[.agg #[.int .u8 r.k, .int .i64 r.s], .bool true]) (by simp [results, Try.results53, go_sem, c0, c1]) rfl ⟨by rw [HE.out], HB5.out.2⟩
      · have HS := Lib.hid hs
        have t1 : decide ((n : Int) - tot (rs.take k) < r.c) = false := by rw [decide_eq_false_iff_not]; exact hin
        have hw : IntKind.i64.wrap ((n : Int) - tot (rs.take k) - r.c) = (n : Int) - tot (rs.take k) - r.c := IntWalk.i64_in _ (by omega)
        have HQ : Hid (tot (rs.take (k + 1)) ≤ n ∧ (n : Int) - tot (rs.take k) - r.c = (n : Int) - tot (rs.take (k + 1))) := Lib.hid (by omega)
        obtain ⟨T, hT⟩ : ∃ T, tot (rs.take k) = T := ⟨_, rfl⟩
        rw [hT] at t1 hw HQ ⊢
        clear hs h1 h2 hrk hT hin hle d1 d2 HS
        go_wp2_with fail
        go_roundw
        case rel => exact ⟨k + 1, by omega, by go_num, by rw [HQ.out.2], HQ.out.1, HB⟩
        case measure => simp [intOf]; omega
    · obtain rfl : k = rs.length := by omega
      have HE := Lib.hid (atE2_out rs HP.out n (by rw [List.take_length] at hle; exact hle))
      have b0 := HB.out.1.cellAt 0 rfl
      have b1 := HB.out.1.cellAt 1 rfl
      have f0 := HB.out.1.unfrozen 0
      have f1 := HB.out.1.unfrozen 1
      have h3 := HB.out.1.set 0 (.int .u8 0)
      have h4 := h3.set 1 (.int .i64 0)
      have h5 : Below w.heap.size w ((wr.setCell ⟨w.heap.size, 0, none⟩ (.int .u8 0)).setCell ⟨w.heap.size, 1, none⟩ (.int .i64 0)) := (HB.out.2.setCell (p := ⟨w.heap.size, 0, none⟩) (Nat.le_refl _) _).setCell (p := ⟨w.heap.size, 1, none⟩) (Nat.le_refl _) _
      have HB5 := Lib.hid (And.intro h4 h5)
      clear h3 h4 h5 hle
      go_wp2_with fail
      have c0 := HB5.out.1.cellAt 0 rfl
      have c1 := HB5.out.1.cellAt 1 rfl
      exact bodyPost_ret (v := .tuple #[.agg #[.int .u8 0, .int .i64 0], .bool false]) (by simp [results, Try.results53, go_sem, c0, c1]) rfl ⟨by rw [HE.out], HB5.out.2⟩
/-- one run more behind -/
theorem sinceS : ∀ (l : List Rn) (r : Rn) (m : Int), Posi (l ++ [r]) → 0 ≤ m → sinceL (l ++ [r]) m = if tot l + r.c ≤ m then [] else (if tot l < m then [⟨r.k, r.s, tot l + r.c - m⟩] else sinceL l m ++ [r])
  | [], r, m, hp, hm => by
    have h1 := hp r (by simp)
    simp only [List.nil_append, sinceL, show tot [] = 0 from rfl, Int.zero_add]
    by_cases h : m ≤ 0
    · rw [if_pos h, if_neg (by omega), if_neg (by omega)]
    · rw [if_neg h]
      by_cases h2 : m < r.c
      · rw [if_pos h2, if_neg (by omega), if_pos (by omega)]
      · rw [if_neg h2, if_pos (by omega)]
  | x :: l, r, m, hp, hm => by
    have h1 := hp x (by simp)
    have h2 := hp r (by simp)
    have hpl : Posi (l ++ [r]) := fun y hy => hp y (by simp at hy ⊢; rcases hy with hy | hy <;> simp [hy])
    have h3 := tot_nonneg l (fun y hy => hp y (by simp [hy]))
    rw [List.cons_append, sinceL, sinceL, tot_cons]
    by_cases h : m ≤ 0
    · rw [if_pos h, if_pos h, if_neg (by omega), if_neg (by omega)]
      rfl
    · rw [if_neg h, if_neg h]
      by_cases h4 : m < x.c
      · rw [if_pos h4, if_pos h4, if_neg (by omega), if_neg (by omega)]
        rfl
      · rw [if_neg h4, if_neg h4, sinceS l r (m - x.c) hpl (by omega)]
        by_cases h5 : tot l + r.c ≤ m - x.c
        · rw [if_pos h5, if_pos (show x.c + tot l + r.c ≤ m by omega)]
        · rw [if_neg h5, if_neg (show ¬ x.c + tot l + r.c ≤ m by omega)]
          by_cases h6 : tot l < m - x.c
          · rw [if_pos h6, if_pos (show x.c + tot l < m by omega), show tot l + r.c - (m - x.c) = x.c + tot l + r.c - m by omega]
          · rw [if_neg h6, if_neg (show ¬ x.c + tot l < m by omega)]
theorem since_max (rs : List Rn) (m : Int) : sinceL rs m = sinceL rs (if m < 0 then 0 else m) := by
  by_cases h : m < 0
  · rw [if_pos h, since_low rs m (by omega), since_low rs 0 (Int.le_refl _)]
  · rw [if_neg h]
theorem sinceL_len : ∀ (rs : List Rn) (m : Int), (sinceL rs m).length ≤ rs.length
  | [], _ => Nat.le_refl _
  | r :: rs, m => by
    rw [sinceL]
    split
    · exact Nat.le_refl _
    · split
      · exact Nat.le_refl _
      · have := sinceL_len rs (m - r.c); simp; omega
set_option maxHeartbeats 4000000 in
theorem sinceR_any (b : Nat) (v : Value) (rs : List Rn) (m : Int) (w : World) (h : LedR w b v rs) (hl : rs.length ≤ 5497558138880) (ht : tot rs < 9223372036854775808) (m1 : -9223372036854775808 ≤ m) (m2 : m ≤ 9223372036854775807) :
    Calls Try.prog 40 #[.pointer (some ⟨b, 0, none⟩), .int .i64 m] w (KN.New (sinceL rs m) w) := by
  obtain ⟨i0, hi, hz0, hz1, hz2⟩ := info_parts infoN
  have HI := Lib.hid (And.intro hi (And.intro hz0 (And.intro hz1 hz2)))
  clear hi hz0 hz1 hz2
  have hb := h.blk.lt
  have HRD : Hid (RunsRd w v rs) := h.row.rd
  have HP := Lib.hid h.posi
  obtain ⟨ao, cap, rfl⟩ := h.row.any
  have c0 := h.blk.cellAt 0 (v := .slice ao rs.length cap) rfl
  have C0 := Lib.hid c0
  rw [since_max]
  clear h c0
  go_enter Try.func40, Try.ntmps40
  obtain ⟨M, hMM⟩ : ∃ M, (if m < 0 then 0 else m) = M := ⟨_, rfl⟩
  rw [hMM]
  have HMM := Lib.hid hMM
  clear hMM
  go_upto_if 11 with fail
  go_cut [1] from 11 to 11 (fun v wx => wx = w ∧ v = .int .i64 M)
  case first =>
    by_cases hm : m < 0
    · have t1 : decide (m < 0) = true := by rw [decide_eq_true_eq]; exact hm
      obtain rfl : M = 0 := by rw [← HMM.out, if_pos hm]
      clear hm HMM
      simp only [t1]
      go_wp2_with fail
      go_meet
      exact ⟨rfl, rfl⟩
    · have t1 : decide (m < 0) = false := by rw [decide_eq_false_iff_not]; exact hm
      obtain rfl : M = m := by rw [← HMM.out, if_neg hm]
      clear hm HMM
      simp only [t1]
      go_wp2_with fail
      go_meet
      exact ⟨rfl, rfl⟩
  case rest =>
    obtain ⟨rfl, rfl⟩ := hcut
    have hM0 : 0 ≤ M ∧ M ≤ 9223372036854775807 := by rw [← HMM.out]; split <;> omega
    clear HMM
    go_wp2_with fail
    go_loopw [5, 6, 7] (fun o t i w1 => ∃ (k : Nat) (oo : Option Addr) (oc : Nat), k ≤ rs.length ∧ i = .int .i64 (k : Int) ∧ t = .int .i64 (tot (rs.take k)) ∧ o = .slice oo (sinceL (rs.take k) M).length oc ∧ Hid (KN.Mk (sinceL (rs.take k) M) wc o w1)) (fun _ _ i _ => rs.length - (intOf i).toNat)
    case atStart => exact ⟨0, none, 0, Nat.zero_le _, rfl, by simp [tot], by simp [sinceL], Lib.hid (by rw [List.take_zero]; exact Knd.Mk.nil KN wc)⟩
    case round =>
      obtain ⟨k, oo, oc, hk, rfl, rfl, rfl, HMK⟩ := hrel
      have c1 : wr.cell? ⟨b, 0, none⟩ = some (.slice ao rs.length cap) := (HMK.out.2.1.cell hb).trans C0.out
      by_cases hlt : k < rs.length
      · obtain ⟨r, hrk⟩ : ∃ r, rs[k]? = some r := ⟨_, List.getElem?_eq_getElem hlt⟩
        obtain ⟨g, off, rfl, d1, d2, d3⟩ := RunsRd.cells (Sl.grow HRD.out HMK.out.2.1) k r hrk
        have hs := tot_take_succ rs k r hrk
        have h1 := tot_take_rng rs HP.out k
        have h2 := tot_take_rng rs HP.out (k + 1)
        have hrc := HP.out r (List.mem_of_getElem? hrk)
        have hsn := sinceS (rs.take k) r M (by rw [← take_succ_get rs k r hrk]; exact fun x hx => HP.out x (List.mem_of_mem_take hx)) hM0.1
        rw [← take_succ_get rs k r hrk] at hsn
        have hll := sinceL_len (rs.take k) M
        have HLL : Hid ((sinceL (rs.take k) M).length ≤ k) := Lib.hid (by rw [List.length_take] at hll; omega)
        have HS := Lib.hid hs
        have hzero : tot (rs.take k) ≤ M → sinceL (rs.take k) M = [] := fun hh => since_high _ _ (fun x hx => HP.out x (List.mem_of_mem_take hx)) hh
        have HZ := Lib.hid hzero
        have HSN := Lib.hid hsn
        obtain ⟨T, hT⟩ : ∃ T, tot (rs.take k) = T := ⟨_, rfl⟩
        rw [hT] at hs h1 HZ HSN HS ⊢
        have hw1 : IntKind.i64.wrap (T + r.c) = T + r.c := IntWalk.i64_in _ (by omega)
        have hw2 : IntKind.i64.wrap (T + r.c - M) = T + r.c - M := IntWalk.i64_in _ (by omega)
        obtain ⟨L, hL⟩ : ∃ L, sinceL (rs.take k) M = L := ⟨_, rfl⟩
        rw [hL] at HMK HLL HZ HSN ⊢
        clear hs h2 hrk hT hsn hll hzero hL
        by_cases hend : M < T + r.c
        · have t1 : decide (M < T + r.c) = true := by rw [decide_eq_true_eq]; exact hend
          by_cases hcut2 : T < M
          · have t2 : decide (T < M) = true := by rw [decide_eq_true_eq]; exact hcut2
            have HCT := Lib.hid hcut2
            have hb8 : Below wr.heap.size wr (wr.alloc (.cells #[.int .u8 r.k, .int .i64 r.s, .int .i64 (T + r.c - M)] 61)) := (Below.refl _ _).alloc (Nat.le_refl _) _
            have hbk := Blk.new wr 61 #[.int .u8 r.k, .int .i64 r.s, .int .i64 (T + r.c - M)]
            go_upto_region 13 with fail
            have hmb := HMK.out.below hb8
            have g0 := hbk.cellAt 0 rfl
            have g1 := hbk.cellAt 1 rfl
            have g2 := hbk.cellAt 2 rfl
            have HMB := Lib.hid hmb
            clear hb8 hbk hmb HMK c1 d1 d2 d3
            generalize wr.alloc (.cells #[.int .u8 r.k, .int .i64 r.s, .int .i64 (T + r.c - M)] 61) = wb at HMB g0 g1 g2 ⊢
            obtain ⟨hi, hz0, hz1, hz2⟩ := HI.out
            have HOWN : (wb.alloc (.cells #[.int .u8 r.k, .int .i64 r.s, .int .i64 (T + r.c - M)] 61)).ownsRow 0 61 3 (.slice oo L.length oc) L.length (KN.fl L) := HMB.out.alloc _ rfl
            have b1 : L.length + 1 ≤ maxLen := by have := HLL.out; unfold maxLen; omega
            have b2 : (L.length + 1) * 24 ≤ 140737488355328 := by have := HLL.out; omega
            have HBB := Lib.hid (And.intro b1 b2)
            clear b1 b2
            go_wp2_with (at_builtin; refine wpList_append_lies _ rfl _ _ 32 rfl 0 61 i0 _ 3 24 Try.underlying32 hi hz0 hz1 hz2 rfl (by decide) (.slice oo L.length oc) L.length (KN.fl L) rfl HOWN ⟨wb.heap.size, 0, none⟩ 1 1 [.int .u8 r.k, .int .i64 r.s, .int .i64 (T + r.c - M)] rfl rfl (World.news_of_block (heap_alloc_new _ _)) (KN.one ⟨r.k, r.s, (T + r.c - M)⟩) (by decide) HBB.out.1 HBB.out.2 (Nat.zero_le _) _ rfl ?_)
            intro g' cap' w2 hown hgrow hat hlt2
            have hn := Knd.Mk.more (K := KN) (x := ⟨r.k, r.s, (T + r.c - M)⟩) HMB.out (N := L.length) rfl (cs := KN.fl L ++ [.int .u8 r.k, .int .i64 r.s, .int .i64 (T + r.c - M)]) rfl hown hgrow (by
              rcases hat with hat | hat
              · exact .inl (by rw [hat]; rfl)
              · exact .inr (by rw [hat]; simp [Value.ownBlock]))
            have hlen : (L ++ [(⟨r.k, r.s, (T + r.c - M)⟩ : Rn)]).length = L.length + 1 := by simp
            have HN : Hid (KN.Mk (sinceL (rs.take (k + 1)) M) wc (.slice (some ⟨g', 0, none⟩) (L.length + 1) cap') w2) := by
              rw [HSN.out, if_neg (by omega), if_pos (by have := HCT.out; omega)]
              have hz := HZ.out (by omega)
              rw [hz] at hn ⊢
              exact Lib.hid hn
            have HLN : Hid (L.length + 1 = (sinceL (rs.take (k + 1)) M).length) := Lib.hid (by rw [HSN.out, if_neg (by omega), if_pos (by have := HCT.out; omega), HZ.out (by omega)]; rfl)
            clear hn hown hgrow hat hlt2 HOWN hi hz0 hz1 hz2 g0 g1 g2 hlen
            go_wp2
            go_roundw
            case rel => exact ⟨k + 1, _, _, by omega, by go_num, by rw [HS.out], by rw [HLN.out], HN⟩
            case measure => simp [intOf]; omega
          · have t2 : decide (T < M) = false := by rw [decide_eq_false_iff_not]; exact hcut2
            have HCT := Lib.hid hcut2
            have hb8 : Below wr.heap.size wr (wr.alloc (.cells #[.int .u8 r.k, .int .i64 r.s, .int .i64 r.c] 61)) := (Below.refl _ _).alloc (Nat.le_refl _) _
            have hbk := Blk.new wr 61 #[.int .u8 r.k, .int .i64 r.s, .int .i64 r.c]
            go_upto_region 13 with fail
            have hmb := HMK.out.below hb8
            have g0 := hbk.cellAt 0 rfl
            have g1 := hbk.cellAt 1 rfl
            have g2 := hbk.cellAt 2 rfl
            have HMB := Lib.hid hmb
            clear hb8 hbk hmb HMK c1 d1 d2 d3
            generalize wr.alloc (.cells #[.int .u8 r.k, .int .i64 r.s, .int .i64 r.c] 61) = wb at HMB g0 g1 g2 ⊢
            obtain ⟨hi, hz0, hz1, hz2⟩ := HI.out
            have HOWN : (wb.alloc (.cells #[.int .u8 r.k, .int .i64 r.s, .int .i64 r.c] 61)).ownsRow 0 61 3 (.slice oo L.length oc) L.length (KN.fl L) := HMB.out.alloc _ rfl
            have b1 : L.length + 1 ≤ maxLen := by have := HLL.out; unfold maxLen; omega
            have b2 : (L.length + 1) * 24 ≤ 140737488355328 := by have := HLL.out; omega
            have HBB := Lib.hid (And.intro b1 b2)
            clear b1 b2
            go_wp2_with (at_builtin; refine wpList_append_lies _ rfl _ _ 32 rfl 0 61 i0 _ 3 24 Try.underlying32 hi hz0 hz1 hz2 rfl (by decide) (.slice oo L.length oc) L.length (KN.fl L) rfl HOWN ⟨wb.heap.size, 0, none⟩ 1 1 [.int .u8 r.k, .int .i64 r.s, .int .i64 r.c] rfl rfl (World.news_of_block (heap_alloc_new _ _)) (KN.one ⟨r.k, r.s, r.c⟩) (by decide) HBB.out.1 HBB.out.2 (Nat.zero_le _) _ rfl ?_)
            intro g' cap' w2 hown hgrow hat hlt2
            have hn := Knd.Mk.more (K := KN) (x := ⟨r.k, r.s, r.c⟩) HMB.out (N := L.length) rfl (cs := KN.fl L ++ [.int .u8 r.k, .int .i64 r.s, .int .i64 r.c]) rfl hown hgrow (by
              rcases hat with hat | hat
              · exact .inl (by rw [hat]; rfl)
              · exact .inr (by rw [hat]; simp [Value.ownBlock]))
            have hlen : (L ++ [(⟨r.k, r.s, r.c⟩ : Rn)]).length = L.length + 1 := by simp
            have HN : Hid (KN.Mk (sinceL (rs.take (k + 1)) M) wc (.slice (some ⟨g', 0, none⟩) (L.length + 1) cap') w2) := by
              rw [HSN.out, if_neg (by omega), if_neg (by have := HCT.out; omega)]
              exact Lib.hid hn
            have HLN : Hid (L.length + 1 = (sinceL (rs.take (k + 1)) M).length) := Lib.hid (by rw [HSN.out, if_neg (by omega), if_neg (by have := HCT.out; omega), List.length_append]; rfl)
            clear hn hown hgrow hat hlt2 HOWN hi hz0 hz1 hz2 g0 g1 g2 hlen
            go_wp2
            go_roundw
            case rel => exact ⟨k + 1, _, _, by omega, by go_num, by rw [HS.out], by rw [HLN.out], HN⟩
            case measure => simp [intOf]; omega
        · have t1 : decide (M < T + r.c) = false := by rw [decide_eq_false_iff_not]; exact hend
          have HN : Hid (KN.Mk (sinceL (rs.take (k + 1)) M) wc (.slice oo L.length oc) (wr.alloc (.cells #[.int .u8 r.k, .int .i64 r.s, .int .i64 r.c] 61))) := by
            have hz := HZ.out (by omega)
            rw [HSN.out, if_pos (by omega), ← hz]
            exact Lib.hid (HMK.out.below ((Below.refl _ _).alloc (Nat.le_refl _) _))
          have HLN : Hid (L.length = (sinceL (rs.take (k + 1)) M).length) := Lib.hid (by rw [HSN.out, if_pos (by omega), HZ.out (by omega)])
          go_wp2_with fail
          go_roundw
          case rel => exact ⟨k + 1, _, _, by omega, by go_num, by rw [HS.out], by rw [HLN.out], HN⟩
          case measure => simp [intOf]; omega
      · obtain rfl : k = rs.length := by omega
        have HN : Hid (KN.New (sinceL rs M) wc (.returned (.slice oo (sinceL rs M).length oc)) wr) := by
          have := HMK.out
          rw [List.take_length] at this
          exact Lib.hid this.new
        rw [List.take_length]
        clear HMK
        go_wp2
        go_ret
        exact HN.out
end Go.Proofs.Ytmdfmkdhfhbkjaa
