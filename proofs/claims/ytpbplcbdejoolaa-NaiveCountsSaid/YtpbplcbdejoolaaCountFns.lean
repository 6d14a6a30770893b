/- sized and pairs: what the law NaiveCounts counts by. -/
import Derived.Test.YtpbplcbdejoolaaRows
import Derived.Test.YtpbplcbdejoolaaCountPlain
import Derived.Test.YtpbplcbdejoolaaEqArr
import Derived.BigQuiet
namespace Go.Proofs.Ytpbplcbdejoolaa
open Go.RowKit
set_option maxRecDepth 100000
set_option linter.unusedVariables false
set_option linter.unusedSimpArgs false

theorem szd_cons (r : Rn) (rs : List Rn) : szd (r :: rs) = (if r.k = 9 ∧ r.s = 1 then r.c else 0) + szd rs := by simp [szd]
theorem szd_bounds : ∀ rs : List Rn, Posi rs → 0 ≤ szd rs ∧ szd rs ≤ tot rs
  | [], _ => by simp [szd, tot]
  | r :: rs, h => by
    have h1 := h r (by simp)
    have h2 := szd_bounds rs (fun x hx => h x (by simp [hx]))
    have e : tot (r :: rs) = r.c + tot rs := by simp [tot]
    rw [szd_cons, e]
    split <;> omega
set_option maxHeartbeats 2000000 in
theorem sized_env {w0 w : World} {obs : List Ob} (h : Env w0 w obs) (i : Nat) {p : Value} {rs : List Rn} (hi : obs[i]? = some (obP p (some rs))) {N : Nat} (hf : Few rs N) (hN : N ≤ 1000000) :
    Calls Try.prog 20 #[p] w fun e w' => e = .returned (.int .i64 (szd rs)) ∧ Env w0 w' obs := by
  have hpos : Posi rs := by
    obtain ⟨F, f1, _⟩ := h.ledP i hi
    obtain ⟨b, v, _, _, f2⟩ := f1
    exact f2.posi
  have hbd := szd_bounds rs hpos
  have htot : tot rs ≤ 1000000 := by have := hf.1; omega
  have HT := Lib.hid (And.intro hpos (And.intro hbd htot))
  have H := Lib.hid h
  have hlen := hf.len hN
  clear h hpos hbd htot
  go_enter Try.func20, Try.ntmps20
  go_wp2_with fail
  refine (runsP_env H.out i hi hlen).mono ?_
  rintro e w1 ⟨v, rfl, h5⟩
  have hV := (h5.runs obs.length (v := v) (l := rs) (by simp)).rd
  obtain ⟨ao, cap, rfl, k1, k2, _, _⟩ := hV.form
  have HV := Lib.hid hV
  have H1 := Lib.hid (Env.drop h5)
  have hla : rs.length ≤ 9223372036854775807 := by omega
  clear hV h5 H hlen
  go_wp2_with fail
  go_loopw [3, 5] (fun n i w2 => ∃ (k : Nat) (z : Int), k ≤ rs.length ∧ i = .int .i64 (k : Int) ∧ n = .int .i64 z ∧ Hid (z + szd (rs.drop k) = szd rs) ∧ Hid (w2 = w1)) (fun _ i _ => rs.length - (intOf i).toNat)
  case atStart => exact ⟨0, 0, Nat.zero_le _, rfl, rfl, Lib.hid (by simp), Lib.hid rfl⟩
  case round =>
    obtain ⟨k, z, hk, rfl, rfl, HZ, HW⟩ := hrel
    by_cases hlt : k < rs.length
    · obtain ⟨r, hr⟩ : ∃ r, rs[k]? = some r := ⟨_, List.getElem?_eq_getElem hlt⟩
      have hd : rs.drop k = r :: rs.drop (k + 1) := by
        rw [List.drop_eq_getElem_cons hlt]
        rw [List.getElem?_eq_getElem hlt] at hr
        injection hr with hr
        rw [hr]
      have hv : RunsRd wr (.slice ao rs.length cap) rs := by rw [HW.out]; exact HV.out
      obtain ⟨g, off, rfl, d1, d2, d3⟩ := RunsRd.cells hv k r hr
      have hz := HZ.out
      rw [hd, szd_cons] at hz
      have hp2 := szd_bounds (rs.drop (k + 1)) (fun x hx => HT.out.1 x (List.mem_of_mem_drop hx))
      have hr0 := HT.out.1 r (List.mem_of_getElem? hr)
      have hzb : 0 ≤ z ∧ z ≤ 1000000 ∧ 0 ≤ (if r.k = 9 ∧ r.s = 1 then r.c else 0) ∧ z + (if r.k = 9 ∧ r.s = 1 then r.c else 0) ≤ 1000000 := by
        have hb := szd_bounds (rs.take k) (fun x hx => HT.out.1 x (List.mem_of_mem_take hx))
        have e : szd (rs.take k) + szd (rs.drop k) = szd rs := by rw [← szd_append, List.take_append_drop]
        have := HZ.out
        have := HT.out.2
        have h9 : 0 ≤ (if r.k = 9 ∧ r.s = 1 then r.c else 0) := by split <;> omega
        omega
      have HZ2 := Lib.hid hz
      have HB := Lib.hid hzb
      clear hz hp2 hr0 hzb hd hv hr HZ
      obtain ⟨rk, rsz, rc⟩ := r
      dsimp only at d1 d2 d3 HZ2 HB
      by_cases h1 : rk = 9
      · by_cases h2 : rsz = 1
        · have t1 : (rk == 9) = true := by simp [h1]
          have t2 : (rsz == 1) = true := by simp [h2]
          have hz := HZ2.out
          have hb := HB.out
          rw [if_pos ⟨h1, h2⟩] at hz hb
          have HZ3 := Lib.hid hz
          have e1 : IntKind.i64.wrap (z + rc) = z + rc := by rw [IntKind.wrap_i64]; omega
          clear h1 h2 hz hb HZ2 HB
          go_wp2_with fail
          go_roundw
          case rel => exact ⟨k + 1, z + rc, by omega, by go_num, rfl, Lib.hid (by have := HZ3.out; omega), HW⟩
          case measure => simp [intOf]; omega
        · have t1 : (rk == 9) = true := by simp [h1]
          have t2 : (rsz == 1) = false := by simp [h2]
          have hz := HZ2.out
          rw [if_neg (fun hh => h2 hh.2)] at hz
          have HZ3 := Lib.hid hz
          clear h1 h2 hz HZ2 HB
          go_wp2_with fail
          go_roundw
          case rel => exact ⟨k + 1, z, by omega, by go_num, rfl, Lib.hid (by have := HZ3.out; omega), HW⟩
          case measure => simp [intOf]; omega
      · have t1 : (rk == 9) = false := by simp [h1]
        have hz := HZ2.out
        rw [if_neg (fun hh => h1 hh.1)] at hz
        have HZ3 := Lib.hid hz
        clear h1 hz HZ2 HB
        go_wp2_with fail
        go_roundw
        case rel => exact ⟨k + 1, z, by omega, by go_num, rfl, Lib.hid (by have := HZ3.out; omega), HW⟩
        case measure => simp [intOf]; omega
    · obtain rfl : k = rs.length := by omega
      have hz := HZ.out
      rw [List.drop_of_length_le (Nat.le_refl _)] at hz
      have HZ3 : Hid (z = szd rs) := Lib.hid (by simpa [szd] using hz)
      clear hz HZ
      go_wp2_with fail
      go_ret
      exact ⟨by rw [HZ3.out]; rfl, by rw [HW.out]; exact H1.out⟩
theorem less_cons (x a : UInt8) (q : List UInt8) : less x (a :: q) = (if a < x then 1 else 0) + less x q := by
  unfold less
  rw [List.countP_cons]
  by_cases h : a < x
  · simp [h]; omega
  · simp [h]
theorem pairsN_cons (a : UInt8) (l : List UInt8) : pairsN (a :: l) = less a l + pairsN l := rfl
theorem drop_at (xs : List UInt8) (k : Nat) (h : k < xs.length) : xs.drop k = xs.getD k 0 :: xs.drop (k + 1) := by
  rw [List.drop_eq_getElem_cons h, List.getD_eq_getElem?_getD, List.getElem?_eq_getElem h]
  rfl
set_option maxHeartbeats 2000000 in
theorem pairs_any (u : Value) (xs : List UInt8) (w : World) (hu : Bs w u xs) (hx : xs.length ≤ 200) :
    Calls Try.prog 23 #[u] w fun e w' => e = .returned (.int .i64 (pairsN xs : Int)) ∧ ∃ m, w' = w.drewN m := by
  have hpl : pairsN xs ≤ 40000 := Nat.le_trans (pairsN_le xs) (Nat.le_trans (Nat.mul_le_mul hx hx) (by omega))
  have HU := Lib.hid hu
  obtain ⟨ao, cap, rfl, h1, h2, _, _⟩ := hu.form
  have hla : xs.length ≤ 9223372036854775807 := by omega
  have HPL := Lib.hid hpl
  clear hu hpl
  go_enter Try.func23, Try.ntmps23
  go_wp2_with fail
  go_loopw [3, 4] (fun nv iv w1 => ∃ (n i : Nat), i ≤ xs.length ∧ nv = .int .i64 (n : Int) ∧ iv = .int .i64 (i : Int) ∧ Hid (n + pairsN (xs.drop i) = pairsN xs) ∧ Hid (∃ m, w1 = w.drewN m)) (fun _ i _ => xs.length - (intOf i).toNat)
  case atStart => exact ⟨0, 0, Nat.zero_le _, rfl, rfl, Lib.hid (by simp), Lib.hid ⟨0, rfl⟩⟩
  case round =>
    obtain ⟨n, i, hi, rfl, rfl, HN, HW⟩ := hrel
    by_cases hlt : i < xs.length
    · have hn := HN.out
      rw [drop_at xs i hlt, pairsN_cons] at hn
      obtain ⟨x, hx1⟩ : ∃ x, xs.getD i 0 = x := ⟨_, rfl⟩
      rw [hx1] at hn
      have HX := Lib.hid hx1
      have HN2 : Hid (n + less x (xs.drop (i + 1)) + pairsN (xs.drop (i + 1)) = pairsN xs) := Lib.hid (by omega)
      clear hn hx1 HN
      have e1 : IntKind.i64.wrap ((i : Int) + 1) = ((i + 1 : Nat) : Int) := by rw [IntKind.wrap_i64]; omega
      go_wp2_with fail
      go_loopw [3, 5] (fun nv kv w2 => ∃ (n k : Nat), i + 1 ≤ k ∧ k ≤ xs.length ∧ nv = .int .i64 (n : Int) ∧ kv = .int .i64 (k : Int) ∧ Hid (n + less x (xs.drop k) + pairsN (xs.drop (i + 1)) = pairsN xs) ∧ Hid (∃ m, w2 = w.drewN m)) (fun _ k _ => xs.length - (intOf k).toNat)
      case atStart => exact ⟨n, i + 1, Nat.le_refl _, by omega, rfl, rfl, HN2, HW⟩
      case round =>
        obtain ⟨n2, k, hk1, hk2, rfl, rfl, HN3, HW2⟩ := hrel
        by_cases hlt2 : k < xs.length
        · have U : Bs wr (.slice ao xs.length cap) xs := by
            obtain ⟨m, hm⟩ := HW2.out
            rw [hm]
            exact HU.out.grow ⟨rfl, rfl, rfl, Nat.le_refl _, fun _ _ => rfl⟩
          obtain ⟨ao', cap', hv1, _, _, _, C1⟩ := U.form
          injection hv1 with e2 _ e3
          subst e2; subst e3
          obtain ⟨g, off, rfl, d1⟩ := C1 i hlt
          obtain ⟨g2, off2, hg, d2⟩ := C1 k hlt2
          injection hg with hg
          injection hg with hg1 hg2 _
          subst hg1; subst hg2
          have hn := HN3.out
          rw [drop_at xs k hlt2, less_cons] at hn
          rw [HX.out] at d1
          generalize xs.getD k 0 = y at d2 hn
          have HN4 := Lib.hid hn
          have hnb : n2 ≤ 40000 := by have := HPL.out; omega
          clear hn U C1 HN3
          have bi : 0 ≤ (i : Int) ∧ (i : Int) < (xs.length : Int) := by omega
          have bk : 0 ≤ (k : Int) ∧ (k : Int) < (xs.length : Int) := by omega
          by_cases hc : y < x
          · have t1 : decide (y.toNat < x.toNat) = true := by simpa using UInt8.lt_iff_toNat_lt.1 hc
            have hn := HN4.out
            rw [if_pos hc] at hn
            have HN5 := Lib.hid hn
            clear hn HN4 hc
            go_wp2_with fail
            go_region
            obtain ⟨w5, hw5⟩ : ∃ w5, w5 = wr.drew := ⟨_, rfl⟩
            rw [← hw5]
            have HW5 : Hid (∃ m, w5 = w.drewN m) := by
              obtain ⟨m, hm⟩ := HW2.out
              rw [hw5, hm]
              exact Lib.hid ⟨m + 1, rfl⟩
            clear hw5
            go_wp2_with fail
            go_roundw
            case rel => exact ⟨n2 + 1, k + 1, by omega, by omega, by go_num, by go_num, Lib.hid (by have := HN5.out; omega), HW5⟩
            case measure => simp [intOf]; omega
          · have t1 : decide (y.toNat < x.toNat) = false := by
              rw [decide_eq_false_iff_not]
              exact fun hh => hc (UInt8.lt_iff_toNat_lt.2 hh)
            have hn := HN4.out
            rw [if_neg hc] at hn
            have HN5 := Lib.hid hn
            clear hn HN4 hc
            go_wp2_with fail
            go_region
            obtain ⟨w5, hw5⟩ : ∃ w5, w5 = wr.drew := ⟨_, rfl⟩
            rw [← hw5]
            have HW5 : Hid (∃ m, w5 = w.drewN m) := by
              obtain ⟨m, hm⟩ := HW2.out
              rw [hw5, hm]
              exact Lib.hid ⟨m + 1, rfl⟩
            clear hw5
            go_wp2_with fail
            go_roundw
            case rel => exact ⟨n2, k + 1, by omega, by omega, by go_num, by go_num, Lib.hid (by have := HN5.out; omega), HW5⟩
            case measure => simp [intOf]; omega
        · obtain rfl : k = xs.length := by omega
          have hn := HN3.out
          rw [List.drop_of_length_le (Nat.le_refl _)] at hn
          have HN5 : Hid (n2 + pairsN (xs.drop (i + 1)) = pairsN xs) := Lib.hid (by simpa [less] using hn)
          clear hn HN3
          go_wp2_with fail
          go_roundw
          case rel => exact ⟨n2, i + 1, by omega, rfl, by go_num, HN5, HW2⟩
          case measure => simp [intOf]; omega
    · obtain rfl : i = xs.length := by omega
      have hn := HN.out
      rw [List.drop_of_length_le (Nat.le_refl _)] at hn
      have HN5 : Hid (n = pairsN xs) := Lib.hid (by simpa [pairsN] using hn)
      clear hn HN
      go_wp2_with fail
      go_ret
      exact ⟨by rw [HN5.out]; rfl, HW.out⟩
end Go.Proofs.Ytpbplcbdejoolaa
