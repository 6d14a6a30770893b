/- The walk of NaivePowers. -/
import Derived.Test.YtpbplcbdejoolaaRows
import Derived.Test.YtpbplcbdejoolaaNaiveLives
import Derived.Test.YtpbplcbdejoolaaPower
namespace Go.Proofs.Ytpbplcbdejoolaa
open Go.RowKit
set_option linter.unusedVariables false
set_option linter.unusedSimpArgs false
set_option maxRecDepth 100000

theorem powO_none (e : Nat) : ∀ k, powO e k none = none
  | 0 => rfl
  | k + 1 => powO_none e k
theorem power_nil (base ex m : Nat) (w0 w : World) (hb : base < 18446744073709551616) (he : ex < 18446744073709551616) (hm : m < 18446744073709551616) (h0 : 0 < m) (H : Below w0.heap.size w0 w) :
    Calls Try.prog 14 #[.pointer none, .int .u64 (base : Int), .int .u64 (ex : Int), .int .u64 (m : Int)] w fun e w' => e = .returned (.tuple #[.int .u64 ((base ^ ex % m : Nat) : Int), .int .i64 0]) ∧ Below w0.heap.size w0 w' := by
  refine (power_any (.pointer none) (fun _ => False) none base ex m 0 w (LgP.nil w) (fun _ h => by cases h) (by omega) hb he hm h0).mono ?_
  rintro e w' ⟨he, hl⟩
  refine ⟨he, H.trans (hl.only.below0 (fun _ _ h => h) H.size)⟩
theorem powers_plain (base ex m : Nat) : base ^ (2 * ex) % m = (base ^ ex % m) * (base ^ ex % m) % m ∧ base ^ (ex + 1) % m = (base ^ ex % m) * (base % m) % m ∧ (base % m) ^ ex % m = base ^ ex % m :=
  ⟨(pow_two base ex m).symm, (pow_more base ex m).symm, (Nat.pow_mod base ex m).symm⟩
theorem prodN (a b m c : Nat) (ha : a < 4294967296) (hb : b < 4294967296) (hc : c = a * b % m) : ∃ P : Nat, IntKind.u64.wrap ((a : Int) * (b : Int)) = (P : Int) ∧ (P : Int) % (m : Int) = (c : Int) := by
  have : a * b ≤ 4294967295 * 4294967295 := Nat.mul_le_mul (by omega) (by omega)
  exact ⟨a * b, by rw [Mul64.mulN, Mul64.wrapN _ (by omega)], by rw [hc, Int.natCast_emod]⟩
set_option maxHeartbeats 2000000 in
theorem powers_core (base ex md : Nat) (w : World) (hb : base < 18446744073709551616) (he : ex < 4294967296) (hmd : md < 4294967296) :
    Calls Try.prog 4 #[.int .u64 (base : Int), .int .u32 (ex : Int), .int .u32 (md : Int)] w fun e w' => e = .returned (.bool true) ∧ Below w.heap.size w w' := by
  have HB := Lib.hid (And.intro hb (And.intro he hmd))
  have c1 : IntKind.u64.wrap (ex : Int) = (ex : Int) := by rw [IntKind.wrap_u64]; omega
  have c2 : IntKind.u64.wrap (md : Int) = (md : Int) := by rw [IntKind.wrap_u64]; omega
  have c3 : IntKind.u64.wrap (2 * (ex : Int)) = ((2 * ex : Nat) : Int) := by rw [IntKind.wrap_u64]; omega
  have c4 : IntKind.u64.wrap ((ex : Int) + 1) = ((ex + 1 : Nat) : Int) := by rw [IntKind.wrap_u64]; omega
  clear hb he hmd
  go_enter Try.func4, Try.ntmps4
  go_wp2_with fail
  refine (naiveLives_any w).mono ?_
  rintro e w1 ⟨rfl, h1⟩
  have H1 := Lib.hid h1
  clear h1
  go_upto_if 21 with fail
  go_cut [7] from 20 to 21 (fun v wx => wx = w1 ∧ ∃ m : Nat, v = .int .u64 (m : Int) ∧ 0 < m ∧ m ≤ 4294967296)
  case first =>
    by_cases h0 : md = 0
    · have b0 : ((md : Int) == 0) = true := by simp [h0]
      clear h0
      go_wp2_with fail
      go_meet
      exact ⟨rfl, 4294967296, rfl, by omega, by omega⟩
    · have b1 : ((md : Int) == 0) = false := by simp; omega
      go_wp2_with fail
      go_meet
      exact ⟨rfl, md, rfl, by omega, by have := HB.out.2.2; omega⟩
  case rest =>
    obtain ⟨rfl, m, rfl, m0, m1⟩ := hcut
    have HM := Lib.hid (And.intro m0 m1)
    have hal := Nat.mod_lt (base ^ ex) m0
    have hbl := Nat.mod_lt base m0
    obtain ⟨p1, p2, p3⟩ := powers_plain base ex m
    obtain ⟨a, ha⟩ : ∃ a, base ^ ex % m = a := ⟨_, rfl⟩
    obtain ⟨bm, hbm⟩ : ∃ bm, base % m = bm := ⟨_, rfl⟩
    rw [ha] at p1 p2 p3 hal
    rw [hbm] at p2 p3 hbl
    obtain ⟨b, hb⟩ : ∃ b, base ^ (2 * ex) % m = b := ⟨_, rfl⟩
    obtain ⟨c, hc⟩ : ∃ c, base ^ (ex + 1) % m = c := ⟨_, rfl⟩
    obtain ⟨P1, f1, f6⟩ := prodN a a m b (by omega) (by omega) (hb.symm.trans p1)
    obtain ⟨P2, f2, f7⟩ := prodN a bm m c (by omega) (by omega) (hc.symm.trans p2)
    have HBb := Lib.hid hb
    have HC := Lib.hid hc
    have f3 : (base : Int) % (m : Int) = (bm : Int) := by rw [← hbm, Int.natCast_emod]
    have f4 : decide (a < m) = true := by simp; omega
    have f5 : (m : Int) ≠ 0 := by omega
    have HA := Lib.hid ha
    have HBM := Lib.hid hbm
    have HP := Lib.hid p3
    clear p1 p2 p3 hb hc ha hbm hbl m0 m1
    go_wp2_with fail
    refine (power_nil base ex m w _ HB.out.1 (by have := HB.out.2.1; omega) (by have := HM.out; omega) HM.out.1 H1.out).mono ?_
    rintro e w2 ⟨rfl, h2⟩
    rw [HA.out]
    have H2 := Lib.hid h2
    clear h2
    go_wp2_with fail
    refine (power_nil base (2 * ex) m w _ HB.out.1 (by have := HB.out.2.1; omega) (by have := HM.out; omega) HM.out.1 H2.out).mono ?_
    rintro e w3 ⟨rfl, h2⟩
    have H3 := Lib.hid h2
    clear h2
    rw [HBb.out]
    go_wp2_with fail
    refine (power_nil base (ex + 1) m w _ HB.out.1 (by have := HB.out.2.1; omega) (by have := HM.out; omega) HM.out.1 H3.out).mono ?_
    rintro e w4 ⟨rfl, h2⟩
    have H4 := Lib.hid h2
    clear h2
    rw [HC.out]
    go_wp2_with fail
    refine (power_nil bm ex m w _ (by have := HBM.out; have := HB.out.1; have := Nat.mod_le base m; omega) (by have := HB.out.2.1; omega) (by have := HM.out; omega) HM.out.1 H4.out).mono ?_
    rintro e w5 ⟨rfl, h2⟩
    rw [HP.out]
    have H5 := Lib.hid h2
    clear h2
    go_wp2_with fail
    go_ret
    exact ⟨rfl, H5.out⟩
theorem naivePowers.walk (a0 : Int) (w0 : (Lit.int .u64 a0).wf = true) (a1 : Int) (w1 : (Lit.int .u32 a1).wf = true) (a2 : Int) (w2 : (Lit.int .u32 a2).wf = true) (w : World) :
    Calls Try.prog 4 #[.int .u64 a0, .int .u32 a1, .int .u32 a2] w fun e w' => e = .returned (.bool true) ∧ Below w.heap.size w w' := by
  have h0 := bounds_u64 w0
  have h1 := bounds_u32 w1
  have h2 := bounds_u32 w2
  obtain ⟨b, rfl⟩ : ∃ b : Nat, a0 = (b : Int) := ⟨a0.toNat, by omega⟩
  obtain ⟨x, rfl⟩ : ∃ x : Nat, a1 = (x : Int) := ⟨a1.toNat, by omega⟩
  obtain ⟨m, rfl⟩ : ∃ m : Nat, a2 = (m : Int) := ⟨a2.toNat, by omega⟩
  exact powers_core b x m w (by omega) (by omega) (by omega)
end Go.Proofs.Ytpbplcbdejoolaa
