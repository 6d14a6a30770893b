/- The contracts of the document's answer for gf8: each call returns the plain number; the world is as it was but for draws. Conditions: the arguments are bytes. -/
import Derived.Test.YtpbplcbdejoolaaGf
namespace Go.Proofs.Ytpbplcbdejoolaa
open Go.RowKit
set_option maxRecDepth 100000

theorem ofInt64 (a : Nat) (ha : a < 9223372036854775808) : (BitVec.ofInt 64 (a : Int)).toNat = a := by
  rw [BitVec.ofInt_natCast, BitVec.toNat_ofNat]; exact Nat.mod_eq_of_lt (by omega)
theorem bx64 (a b : Nat) (ha : a < 9223372036854775808) (hb : b < 9223372036854775808) : bits .xor .i64 (a : Int) (b : Int) = ((a ^^^ b : Nat) : Int) := by
  have hx : a ^^^ b < 2 ^ 63 := Nat.xor_lt_two_pow (by omega) (by omega)
  show IntKind.i64.wrap ((BitVec.ofInt 64 (a : Int) ^^^ BitVec.ofInt 64 (b : Int)).toNat : Int) = _
  rw [BitVec.toNat_xor, ofInt64 a ha, ofInt64 b hb, IntKind.wrap_i64]
  omega
theorem wrap_small (n : Nat) (h : n < 9223372036854775808) : wrap64 (n : Int) = (n : Int) := by unfold wrap64; omega

theorem tmod_two (p j : Nat) : ((p : Int) / 2 ^ j).tmod 2 = ((p / 2 ^ j % 2 : Nat) : Int) := by
  have : (p : Int) / 2 ^ j = ((p / 2 ^ j : Nat) : Int) := by rw [Int.natCast_ediv, Int.natCast_pow]; rfl
  rw [this]; rfl

theorem bit_mul_lt (x y n : Nat) (hx : x < 2) (hy : y < 2) (hn : n ≤ 14) : x * y < 2 ∧ x * y * 2 ^ n ≤ 16384 := by
  have hxy : x * y ≤ 1 * 1 := Nat.mul_le_mul (by omega) (by omega)
  have hp : 2 ^ n ≤ 2 ^ 14 := Nat.pow_le_pow_right (by omega) hn
  have hp2 : x * y * 2 ^ n ≤ 1 * 2 ^ 14 := Nat.mul_le_mul (by omega) hp
  exact ⟨by omega, by simpa using hp2⟩
theorem pow_cast (n : Nat) : (2 : Int) ^ n = ((2 ^ n : Nat) : Int) := by rw [Int.natCast_pow]; rfl
theorem bit_form (x y n : Nat) (hx : x < 2) (hy : y < 2) (hn : n ≤ 14) : wrap64 (wrap64 ((x : Int) * (y : Int)) * 2 ^ n) = ((x * y * 2 ^ n : Nat) : Int) := by
  have h := bit_mul_lt x y n hx hy hn
  have e3 : wrap64 ((x : Int) * (y : Int)) = ((x * y : Nat) : Int) := by rw [← Int.natCast_mul]; exact wrap_small _ (by omega)
  rw [e3, pow_cast, ← Int.natCast_mul]
  exact wrap_small _ (by omega)
theorem rin_form (a b k j q : Nat) (hk : k < 8) (hj : j < 8) (hq : q < 32768) :
    bits .xor .i64 (q : Int) (wrap64 (wrap64 (((a : Int) / 2 ^ k).tmod 2 * ((b : Int) / 2 ^ j).tmod 2) * 2 ^ (k + j))) = ((q ^^^ (a / 2 ^ k % 2 * (b / 2 ^ j % 2) * 2 ^ (k + j)) : Nat) : Int) := by
  have b1 : a / 2 ^ k % 2 < 2 := Nat.mod_lt _ (by omega)
  have b2 : b / 2 ^ j % 2 < 2 := Nat.mod_lt _ (by omega)
  have h := bit_mul_lt _ _ (k + j) b1 b2 (by omega)
  rw [tmod_two, tmod_two, bit_form _ _ _ b1 b2 (by omega)]
  exact bx64 q _ (by omega) (by omega)
theorem rin_lt (c b k j q : Nat) (hc : c < 2) (hk : k < 8) (hj : j < 8) (hq : q < 32768) : q ^^^ (c * (b / 2 ^ j % 2) * 2 ^ (k + j)) < 32768 := by
  have b2 : b / 2 ^ j % 2 < 2 := Nat.mod_lt _ (by omega)
  generalize b / 2 ^ j % 2 = y at *
  have hxy : c * y ≤ 1 * 1 := Nat.mul_le_mul (by omega) (by omega)
  have hp : 2 ^ (k + j) ≤ 2 ^ 14 := Nat.pow_le_pow_right (by omega) (by omega)
  have hp2 : c * y * 2 ^ (k + j) ≤ 1 * 2 ^ 14 := Nat.mul_le_mul (by omega) hp
  exact Nat.xor_lt_two_pow (n := 15) hq (by omega)
theorem red_form (p i : Nat) (hi : i < 8) (hp : p < 32768) :
    bits .xor .i64 (p : Int) (wrap64 (283 * 2 ^ i)) = ((p ^^^ (283 * 2 ^ i) : Nat) : Int) := by
  have h : 2 ^ i ≤ 2 ^ 7 := Nat.pow_le_pow_right (by omega) (by omega)
  have e : wrap64 (283 * 2 ^ i) = ((283 * 2 ^ i : Nat) : Int) := by
    rw [show (283 : Int) * 2 ^ i = ((283 * 2 ^ i : Nat) : Int) from by rw [Int.natCast_mul, Int.natCast_pow]; rfl]
    exact wrap_small _ (by omega)
  rw [e]
  exact bx64 p _ (by omega) (by omega)
theorem red_lt (p i : Nat) (hi : i < 7) (hp : p < 32768) : p ^^^ (283 * 2 ^ i) < 32768 := by
  have h : 2 ^ i ≤ 2 ^ 6 := Nat.pow_le_pow_right (by omega) (by omega)
  exact Nat.xor_lt_two_pow (n := 15) hp (by omega)
set_option maxHeartbeats 1000000 in
theorem rmul_nat (a b : Nat) (w : World) (ha : a < 256) (hb : b < 256) :
    Calls Try.prog 56 #[.int .u8 (a : Int), .int .u8 (b : Int)] w fun e w' => e = .returned (.int .u8 (rm a b : Nat)) ∧ ∃ m, w' = w.drewN m := by
  have H0 : Hid (rred 7 14 (rout a b 8 0 0) % 256 = rm a b) := rfl
  go_enter Try.func56, Try.ntmps56
  go_wp2
  go_loopw [5, 6, 7] (fun p i _ w1 => ∃ k q : Nat, k ≤ 8 ∧ q < 32768 ∧ Hid (rred 7 14 (rout a b (8 - k) k q) % 256 = rm a b) ∧ p = .int .i64 (q : Int) ∧ i = .int .i64 (k : Int) ∧ ∃ n, w1 = w.drewN n) (fun _ i _ _ => 8 - (intOf i).toNat)
  case atStart => exact ⟨0, 0, by omega, by omega, H0, rfl, rfl, 0, rfl⟩
  case round =>
    clear H0
    obtain ⟨k, q, hk, h6, H1, rfl, rfl, n, rfl⟩ := hrel
    by_cases hlt : k < 8
    · have H2 : Hid (rred 7 14 (rout a b (8 - (k + 1)) (k + 1) (rin (a / 2 ^ k % 2) b k 8 0 q)) % 256 = rm a b) := by
        have h := H1.out
        rw [show 8 - k = (8 - (k + 1)) + 1 from by omega] at h
        exact h
      go_wp2
      go_loopw [5, 7] (fun p i w1 => ∃ j q : Nat, j ≤ 8 ∧ q < 32768 ∧ Hid (rred 7 14 (rout a b (8 - (k + 1)) (k + 1) (rin (a / 2 ^ k % 2) b k (8 - j) j q)) % 256 = rm a b) ∧ p = .int .i64 (q : Int) ∧ i = .int .i64 (j : Int) ∧ ∃ n, w1 = w.drewN n) (fun _ i _ => 8 - (intOf i).toNat)
      case atStart => exact ⟨0, q, by omega, by omega, H2, rfl, rfl, n, rfl⟩
      case round =>
        clear H1 H2
        obtain ⟨j, q1, hj, g6, H3, rfl, rfl, n1, rfl⟩ := hrel
        by_cases hlt2 : j < 8
        · go_wp2
          go_quiet (fail)
          go_wp2
          go_roundw
          case rel =>
            refine ⟨j + 1, q1 ^^^ (a / 2 ^ k % 2 * (b / 2 ^ j % 2) * 2 ^ (k + j)), by omega, rin_lt _ b k j q1 (Nat.mod_lt _ (by omega)) hlt hlt2 g6, ?_, ?_, by go_num, n1 + nq, rfl⟩
            · have h := H3.out
              rw [show 8 - j = (8 - (j + 1)) + 1 from by omega] at h
              exact h
            · rw [rin_form a b k j q1 hlt hlt2 g6]
          case measure => simp [intOf]; omega
        · obtain rfl : j = 8 := by omega
          go_wp2
          go_roundw
          case rel => exact ⟨k + 1, q1, by omega, g6, H3, rfl, by go_num, n1, rfl⟩
          case measure => simp [intOf]; omega
    · obtain rfl : k = 8 := by omega
      have H2 : Hid (rred 7 14 q % 256 = rm a b) := H1.out
      clear H1
      go_wp2
      go_loop [5, 8] (fun p i => ∃ j q : Nat, j ≤ 7 ∧ q < 32768 ∧ Hid (rred j (7 + j) q % 256 = rm a b) ∧ p = .int .i64 (q : Int) ∧ i = .int .i64 ((7 + j : Nat) : Int)) (fun _ i => (intOf i).toNat)
      case atStart => exact ⟨7, q, by omega, by omega, H2, rfl, rfl⟩
      case round =>
        clear H2
        obtain ⟨j, q1, hj, g6, H3, rfl, rfl⟩ := hrel
        have ec : ((7 + j : Nat) : Int) = 7 + (j : Int) := by omega
        by_cases hlt2 : 1 ≤ j
        · have T := Lib.hid (tmod_two q1 (7 + j))
          go_wp2
          · go_round
            case rel =>
              have hb1 : q1 / 2 ^ (7 + j) % 2 = 1 := by
                have h : (((q1 : Int) / 2 ^ (7 + j)).tmod 2 == 1) = true := by assumption
                rw [T.out] at h
                have := eq_of_beq h
                omega
              refine ⟨j - 1, q1 ^^^ (283 * 2 ^ (7 + j - 8)), by omega, red_lt q1 (7 + j - 8) (by omega) g6, ?_, ?_, by go_num⟩
              · have h := H3.out
                rw [show j = (j - 1) + 1 from by omega] at h
                simp only [rred] at h
                rw [show 7 + (j - 1 + 1) = 7 + j from by omega, if_pos hb1, show 7 + j - 1 = 7 + (j - 1) from by omega] at h
                exact h
              · rw [red_form q1 (7 + j - 8) (by omega) g6]
            case measure => simp [intOf]; omega
          · go_round
            case rel =>
              have hb1 : ¬ q1 / 2 ^ (7 + j) % 2 = 1 := by
                have h : (((q1 : Int) / 2 ^ (7 + j)).tmod 2 == 1) = false := by assumption
                rw [T.out] at h
                intro hh
                rw [hh] at h
                exact absurd h (by decide)
              refine ⟨j - 1, q1, by omega, g6, ?_, rfl, by go_num⟩
              have h := H3.out
              rw [show j = (j - 1) + 1 from by omega] at h
              simp only [rred] at h
              rw [show 7 + (j - 1 + 1) = 7 + j from by omega, if_neg hb1, show 7 + j - 1 = 7 + (j - 1) from by omega] at h
              exact h
            case measure => simp [intOf]; omega
        · obtain rfl : j = 0 := by omega
          go_wp2
          go_ret
          have h : q1 % 256 = rm a b := H3.out
          rw [← h]
          refine ⟨?_, n, rfl⟩
          simp
def rmI (a b : Int) : Int := (rm a.toNat b.toNat : Nat)
theorem rmul_any (a b : Int) (w : World) (ha : 0 ≤ a) (ha' : a < 256) (hb : 0 ≤ b) (hb' : b < 256) :
    Calls Try.prog 56 #[.int .u8 a, .int .u8 b] w fun e w' => e = .returned (.int .u8 (gmI a b)) ∧ ∃ m, w' = w.drewN m := by
  obtain ⟨x, rfl⟩ := Int.eq_ofNat_of_zero_le ha
  obtain ⟨y, rfl⟩ := Int.eq_ofNat_of_zero_le hb
  have e : gmI (x : Int) (y : Int) = (rm x y : Nat) := by unfold gmI; rw [Int.toNat_natCast, Int.toNat_natCast, rm_eq x y (by omega) (by omega)]
  rw [e]
  exact rmul_nat x y w (by omega) (by omega)

set_option maxHeartbeats 400000 in
theorem rinv_any (a : Int) (w : World) (ha : 0 ≤ a) (ha' : a < 256) :
    Calls Try.prog 52 #[.int .u8 a] w fun e w' => e = .returned (.int .u8 (giI a)) ∧ ∃ m, w' = w.drewN m := by
  obtain ⟨x, rfl⟩ := Int.eq_ofNat_of_zero_le ha
  have hx : x < 256 := by omega
  have H0 : Hid (rinvN x 255 1 = gi x) := Lib.hid (rinv_eq x hx)
  go_enter Try.func52, Try.ntmps52
  go_wp2
  go_loopw [3] (fun i w1 => ∃ k : Nat, 1 ≤ k ∧ k ≤ 256 ∧ Hid (rinvN x (256 - k) k = gi x) ∧ i = .int .i64 (k : Int) ∧ ∃ n, w1 = w.drewN n) (fun i _ => 256 - (intOf i).toNat)
  case atStart => exact ⟨1, by omega, by omega, H0, rfl, 0, rfl⟩
  case round =>
    clear H0
    obtain ⟨k, hk1, hk, H1, rfl, n, rfl⟩ := hrel
    by_cases hlt : k < 256
    · have E : Hid ((if rm x k = 1 then k else rinvN x (256 - (k + 1)) (k + 1)) = gi x) := by
        have h := H1.out
        rw [show 256 - k = (256 - (k + 1)) + 1 from by omega] at h
        exact h
      clear H1
      go_wp2_with fail
      refine (rmul_nat x k _ hx hlt).mono ?_
      rintro e w' ⟨rfl, m, rfl⟩
      by_cases h1 : rm x k = 1
      · have e := E.out
        rw [if_pos h1] at e
        clear E
        have E := Lib.hid e
        clear e
        have hb : (((rm x k : Nat) : Int) == 1) = true := by rw [h1]; rfl
        clear h1
        go_wp2
        go_ret
        refine ⟨?_, n + m, by simp⟩
        unfold giI
        rw [Int.toNat_natCast, ← E.out]
        simp
      · have e := E.out
        rw [if_neg h1] at e
        clear E
        have E := Lib.hid e
        clear e
        have hb : (((rm x k : Nat) : Int) == 1) = false := by
          rw [beq_eq_false_iff_ne]; omega
        clear h1
        go_wp2
        go_roundw
        case rel => exact ⟨k + 1, by omega, by omega, E, by go_num, n + m, by simp⟩
        case measure => simp [intOf]; omega
    · obtain rfl : k = 256 := by omega
      go_wp2
      go_ret
      have h : 0 = gi x := H1.out
      unfold giI
      rw [Int.toNat_natCast, ← h]
      exact ⟨rfl, n, rfl⟩

set_option maxHeartbeats 400000 in
theorem bit_nat (a i : Nat) (w : World) (ha : a < 256) (hi : i < 1000) :
    Calls Try.prog 53 #[.int .u8 (a : Int), .int .i64 (i : Int)] w fun e w' => e = .returned (.int .i64 (rbit a i : Nat)) ∧ w = w' := by
  have E : Hid (((a : Int) / 2 ^ (i % 8)).tmod 2 = ((rbit a i : Nat) : Int)) := Lib.hid (tmod_two a (i % 8))
  go_enter Try.func53, Try.ntmps53
  go_wp2
  go_ret
  refine ⟨?_, rfl⟩
  rw [← E.out]
  simp
theorem rbit_lt (a i : Nat) : rbit a i < 2 := Nat.mod_lt _ (by omega)
theorem bit_any (a i : Int) (w : World) (ha : 0 ≤ a) (ha' : a < 256) (hi : 0 ≤ i) (hi' : i < 1000) :
    Calls Try.prog 53 #[.int .u8 a, .int .i64 i] w fun e w' => e = .returned (.int .i64 (rbit a.toNat i.toNat : Nat)) ∧ w = w' := by
  obtain ⟨x, rfl⟩ := Int.eq_ofNat_of_zero_le ha
  obtain ⟨y, rfl⟩ := Int.eq_ofNat_of_zero_le hi
  exact bit_nat x y w (by omega) (by omega)
theorem sum_form (s i o : Nat) (ho : o < 2 ^ i) : o + s % 2 * 2 ^ i < 2 ^ (i + 1) := by
  have h : s % 2 * 2 ^ i ≤ 1 * 2 ^ i := Nat.mul_le_mul (by omega) (Nat.le_refl _)
  have e : 2 ^ (i + 1) = 2 ^ i * 2 := Nat.pow_succ ..
  omega
theorem bit_ex (a i : Int) (w : World) (ha : 0 ≤ a) (ha' : a < 256) (hi : 0 ≤ i) (hi' : i < 1000) :
    Calls Try.prog 53 #[.int .u8 a, .int .i64 i] w fun e w' => ∃ v : Nat, v < 2 ∧ Hid (v = rbit a.toNat i.toNat) ∧ e = .returned (.int .i64 (v : Int)) ∧ w = w' :=
  (bit_any a i w ha ha' hi hi').mono fun _ _ ⟨he, hw⟩ => ⟨_, rbit_lt _ _, rfl, he, hw⟩

theorem box_step (s i o : Nat) (hi : i < 8) (ho : o < 2 ^ i) : wrap64 ((o : Int) + wrap64 ((s : Int) % 2 * 2 ^ i)) = ((o + s % 2 * 2 ^ i : Nat) : Int) := by
  have h1 := sum_form s i o ho
  have h2 : 2 ^ (i + 1) ≤ 2 ^ 8 := Nat.pow_le_pow_right (by omega) (by omega)
  have e : wrap64 ((s : Int) % 2 * 2 ^ i) = ((s % 2 * 2 ^ i : Nat) : Int) := by
    rw [pow_cast, show (s : Int) % 2 = ((s % 2 : Nat) : Int) from rfl, ← Int.natCast_mul]
    exact wrap_small _ (by omega)
  rw [e, ← Int.natCast_add]
  exact wrap_small _ (by omega)

set_option maxHeartbeats 1000000 in
theorem rbox_any (a : Int) (w : World) (ha : 0 ≤ a) (ha' : a < 256) :
    Calls Try.prog 45 #[.int .u8 a] w fun e w' => e = .returned (.int .u8 (gboxI a)) ∧ ∃ m, w' = w.drewN m := by
  have g1 := giI_lo a
  have g2 := giI_hi a
  have H0 : Hid (rboxN (giI a).toNat 8 0 0 = gbox a.toNat) := by
    have h := rbox_eq a.toNat (by omega)
    unfold rbox at h
    rw [rinv_eq a.toNat (by omega)] at h
    unfold giI
    rw [Int.toNat_natCast]
    exact h
  go_enter Try.func45, Try.ntmps45
  go_wp2_with fail
  refine (rinv_any _ _ ha ha').mono ?_
  rintro e w' ⟨rfl, m, rfl⟩
  go_wp2
  go_loop [4, 5, 6] (fun o i _ => ∃ k q : Nat, k ≤ 8 ∧ Hid (q < 2 ^ k) ∧ Hid (rboxN (giI a).toNat (8 - k) k q = gbox a.toNat) ∧ o = .int .i64 (q : Int) ∧ i = .int .i64 (k : Int)) (fun _ i _ => 8 - (intOf i).toNat)
  case atStart => exact ⟨0, 0, by omega, Lib.hid (by omega), H0, rfl, rfl⟩
  case round =>
    clear H0
    obtain ⟨k, q, hk, hq, H1, rfl, rfl⟩ := hrel
    by_cases hlt : k < 8
    · go_wp2_with fail
      refine (bit_ex _ _ _ g1 g2 (by omega) (by omega)).mono ?_
      rintro e w' ⟨v1, b1, V1, rfl, rfl⟩
      go_wp2_with fail
      refine (bit_ex _ _ _ g1 g2 (by omega) (by omega)).mono ?_
      rintro e w' ⟨v2, b2, V2, rfl, rfl⟩
      go_wp2_with fail
      refine (bit_ex _ _ _ g1 g2 (by omega) (by omega)).mono ?_
      rintro e w' ⟨v3, b3, V3, rfl, rfl⟩
      go_wp2_with fail
      refine (bit_ex _ _ _ g1 g2 (by omega) (by omega)).mono ?_
      rintro e w' ⟨v4, b4, V4, rfl, rfl⟩
      go_wp2_with fail
      refine (bit_ex _ _ _ g1 g2 (by omega) (by omega)).mono ?_
      rintro e w' ⟨v5, b5, V5, rfl, rfl⟩
      go_wp2_with fail
      refine (bit_ex _ _ _ (by omega) (by omega) (by omega) (by omega)).mono ?_
      rintro e w' ⟨v6, b6, V6, rfl, rfl⟩
      go_wp2
      go_round
      case rel =>
        have es : v1 + v2 + v3 + v4 + v5 + v6 = rsum (giI a).toNat k := by
          unfold rsum
          rw [V1.out, V2.out, V3.out, V4.out, V5.out, V6.out]
          rw [show ((k : Int) + 4).toNat = k + 4 from by omega, show ((k : Int) + 5).toNat = k + 5 from by omega, show ((k : Int) + 6).toNat = k + 6 from by omega, show ((k : Int) + 7).toNat = k + 7 from by omega]
          rfl
        refine ⟨k + 1, q + rsum (giI a).toNat k % 2 * 2 ^ k, by omega, Lib.hid (sum_form _ _ _ hq.out), ?_, ?_, by go_num⟩
        · have h := H1.out
          rw [show 8 - k = (8 - (k + 1)) + 1 from by omega] at h
          exact h
        · rw [← es, show (v1 : Int) + v2 + v3 + v4 + v5 + v6 = ((v1 + v2 + v3 + v4 + v5 + v6 : Nat) : Int) from by omega, box_step _ k q hlt hq.out]
      case measure => simp [intOf]; omega
    · obtain rfl : k = 8 := by omega
      go_wp2
      go_ret
      have h : q = gbox a.toNat := H1.out
      have h2 := gbox_lt a.toNat
      refine ⟨?_, m, rfl⟩
      unfold gboxI
      rw [← h] at h2 ⊢
      have e : (q : Int) % 256 = (q : Int) := by omega
      simp [e]

end Go.Proofs.Ytpbplcbdejoolaa
