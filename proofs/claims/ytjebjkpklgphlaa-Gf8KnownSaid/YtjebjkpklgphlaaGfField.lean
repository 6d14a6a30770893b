/- The walks of Gf8Field and Gf8Takes. Conditions: the arguments are bytes. -/
import Derived.Test.YtjebjkpklgphlaaGfProductsWalk
namespace Go.Proofs.Ytjebjkpklgphlaa
open Go.RowKit
set_option maxRecDepth 100000

theorem mul_is (a b c : Int) (h : gmI a b = c) (w : World) (ha : 0 ≤ a) (ha' : a < 256) (hb : 0 ≤ b) (hb' : b < 256) :
    Calls Try.prog 8 #[.int .u8 a, .int .u8 b] w fun e w' => e = .returned (.int .u8 c) ∧ w = w' := h ▸ mul_any a b w ha ha' hb hb'
theorem inv_is (a c : Int) (h : giI a = c) (w : World) (ha : 0 ≤ a) (ha' : a < 256) :
    Calls Try.prog 10 #[.int .u8 a] w fun e w' => e = .returned (.int .u8 c) ∧ w = w' := h ▸ inv_any a w ha ha'
theorem box_is (a c : Int) (h : gboxI a = c) (w : World) (ha : 0 ≤ a) (ha' : a < 256) :
    Calls Try.prog 12 #[.int .u8 a] w fun e w' => e = .returned (.int .u8 c) ∧ ∃ m, w' = w.drewN m := h ▸ box_any a w ha ha'
theorem back_is (a c : Int) (h : gbackI a = c) (w : World) (ha : 0 ≤ a) (ha' : a < 256) :
    Calls Try.prog 14 #[.int .u8 a] w fun e w' => e = .returned (.int .u8 c) ∧ ∃ m, w' = w.drewN m := h ▸ back_any a w ha ha'

set_option maxHeartbeats 400000 in
theorem awake_any (w : World) :
    Calls Try.prog 16 #[] w fun e w' => e = .returned (.bool true) ∧ ∃ m, w' = w.drewN m := by
  go_enter Try.func16, Try.ntmps16
  go_wp2_with fail
  refine (mul_is _ _ 193 (by decide +kernel) _ (by omega) (by omega) (by omega) (by omega)).mono ?_
  rintro e w' ⟨rfl, rfl⟩
  go_wp2_with fail
  refine (mul_is _ _ 27 (by decide +kernel) _ (by omega) (by omega) (by omega) (by omega)).mono ?_
  rintro e w' ⟨rfl, rfl⟩
  go_wp2_with fail
  refine (inv_is _ 202 (by decide +kernel) _ (by omega) (by omega)).mono ?_
  rintro e w' ⟨rfl, rfl⟩
  go_wp2_with fail
  refine (box_is _ 99 (by decide +kernel) _ (by omega) (by omega)).mono ?_
  rintro e w' ⟨rfl, m1, rfl⟩
  go_wp2_with fail
  refine (box_is _ 237 (by decide +kernel) _ (by omega) (by omega)).mono ?_
  rintro e w' ⟨rfl, m2, rfl⟩
  go_wp2_with fail
  refine (back_is _ 0 (by decide +kernel) _ (by omega) (by omega)).mono ?_
  rintro e w' ⟨rfl, m3, rfl⟩
  go_wp2
  go_ret
  exact ⟨rfl, m1 + m2 + m3, by simp⟩

theorem gmI_comm (a b : Int) (ha' : a < 256) (hb' : b < 256) : gmI b a = gmI a b := by
  unfold gmI; rw [gm_comm _ _ (by omega) (by omega)]
theorem gmI_assoc (a b c : Int) (ha' : a < 256) (hb' : b < 256) (hc' : c < 256) : gmI a (gmI b c) = gmI (gmI a b) c := by
  unfold gmI; rw [Int.toNat_natCast, Int.toNat_natCast, gm_assoc _ _ _ (by omega) (by omega) (by omega)]
theorem gmI_xor (a b c : Int) (ha' : a < 256) (hb : 0 ≤ b) (hb' : b < 256) (hc : 0 ≤ c) (hc' : c < 256) : gmI a (bits .xor .u8 b c) = bits .xor .u8 (gmI a b) (gmI a c) := by
  have e1 := bx b c hb hb' hc hc'
  have e2 := bx (gmI a b) (gmI a c) (gmI_lo a b) (gmI_hi a b ha') (gmI_lo a c) (gmI_hi a c ha')
  rw [e1, e2]
  unfold gmI
  simp only [Int.toNat_natCast]
  rw [gm_right]
theorem gmI_one (a : Int) (ha : 0 ≤ a) (ha' : a < 256) : gmI a 1 = a := by
  have := gm_one a.toNat (by omega)
  unfold gmI
  rw [show (1 : Int).toNat = 1 from rfl, this]
  omega
theorem gmI_zero (a : Int) (ha' : a < 256) : gmI a 0 = 0 := by
  have := gm_zero a.toNat (by omega)
  unfold gmI
  rw [show (0 : Int).toNat = 0 from rfl, this]
  rfl
theorem giI_giI (a : Int) (ha : 0 ≤ a) (ha' : a < 256) : giI (giI a) = a := by
  have := gi_gi a.toNat (by omega)
  unfold giI
  rw [Int.toNat_natCast, this]
  omega
theorem gmI_inv (a : Int) (ha : 0 ≤ a) (ha' : a < 256) (h0 : ¬ a = 0) : gmI a (giI a) = 1 := by
  have := gi_mul a.toNat (by omega) (by omega)
  unfold gmI giI
  rw [Int.toNat_natCast, this]
  rfl
theorem gmI_none (a b : Int) (ha : 0 ≤ a) (ha' : a < 256) (hb : 0 ≤ b) (hb' : b < 256) : gmI a b = 0 ↔ (a = 0 ∨ b = 0) := by
  have := gm_eq_zero a.toNat b.toNat (by omega) (by omega)
  unfold gmI
  omega

set_option maxHeartbeats 1000000 in
theorem field_zero (a b c : Int) (w : World) (ha : 0 ≤ a) (ha' : a < 256) (hb : 0 ≤ b) (hb' : b < 256) (hc : 0 ≤ c) (hc' : c < 256) (h0 : a = 0) :
    Calls Try.prog 5 #[.int .u8 a, .int .u8 b, .int .u8 c] w fun e w' => e = .returned (.bool true) ∧ ∃ m, w' = w.drewN m := by
  have l1 := bits_lo_u8 .xor b c
  have l2 := bits_hi_u8 .xor b c
  have k1 := gmI_lo a b
  have k2 := gmI_hi a b ha'
  have k3 := gmI_lo b c
  have k4 := gmI_hi b c hb'
  have k5 := giI_lo a
  have k6 := giI_hi a
  have hb1 : (a == 0) = true := by simpa using h0
  have hb2 : (a != 0) = false := by simpa using h0
  have Z := Lib.hid ((gmI_none a b ha ha' hb hb').2 (.inl h0))
  have I : Hid (giI a = 0) := Lib.hid (by rw [h0]; decide +kernel)
  clear h0
  go_enter Try.func5, Try.ntmps5
  go_wp2_with fail
  refine (awake_any _).mono ?_
  rintro e w' ⟨rfl, m1, rfl⟩
  go_wp2_with fail
  refine (mul_any _ _ _ (by omega) (by omega) (by omega) (by omega)).mono ?_
  rintro e w' ⟨rfl, rfl⟩
  go_wp2_with fail
  refine (mul_is _ _ (gmI a b) (gmI_comm a b ha' hb') _ (by omega) (by omega) (by omega) (by omega)).mono ?_
  rintro e w' ⟨rfl, rfl⟩
  go_wp2_with fail
  refine (mul_any _ _ _ (by omega) (by omega) (by omega) (by omega)).mono ?_
  rintro e w' ⟨rfl, rfl⟩
  go_wp2_with fail
  refine (mul_any _ _ _ (by omega) (by omega) (by omega) (by omega)).mono ?_
  rintro e w' ⟨rfl, rfl⟩
  go_wp2_with fail
  refine (mul_any _ _ _ (by omega) (by omega) (by omega) (by omega)).mono ?_
  rintro e w' ⟨rfl, rfl⟩
  go_wp2_with fail
  refine (mul_is _ _ (gmI (gmI a b) c) (gmI_assoc a b c ha' hb' hc') _ (by omega) (by omega) (by omega) (by omega)).mono ?_
  rintro e w' ⟨rfl, rfl⟩
  go_wp2_with fail
  refine (mul_is _ _ (bits .xor .u8 (gmI a b) (gmI a c)) (gmI_xor a b c ha' hb hb' hc hc') _ (by omega) (by omega) (by omega) (by omega)).mono ?_
  rintro e w' ⟨rfl, rfl⟩
  go_wp2_with fail
  refine (mul_any _ _ _ (by omega) (by omega) (by omega) (by omega)).mono ?_
  rintro e w' ⟨rfl, rfl⟩
  go_wp2_with fail
  refine (mul_any _ _ _ (by omega) (by omega) (by omega) (by omega)).mono ?_
  rintro e w' ⟨rfl, rfl⟩
  go_wp2_with fail
  refine (mul_is _ _ a (gmI_one a ha ha') _ (by omega) (by omega) (by omega) (by omega)).mono ?_
  rintro e w' ⟨rfl, rfl⟩
  go_wp2_with fail
  refine (mul_is _ _ 0 (gmI_zero a ha') _ (by omega) (by omega) (by omega) (by omega)).mono ?_
  rintro e w' ⟨rfl, rfl⟩
  go_wp2_with fail
  refine (inv_any _ _ (by omega) (by omega)).mono ?_
  rintro e w' ⟨rfl, rfl⟩
  go_wp2_with fail
  refine (inv_is _ a (giI_giI a ha ha') _ (by omega) (by omega)).mono ?_
  rintro e w' ⟨rfl, rfl⟩
  go_wp2_with fail
  refine (inv_is _ 0 I.out _ (by omega) (by omega)).mono ?_
  rintro e w' ⟨rfl, rfl⟩
  go_wp2_with fail
  refine (mul_is _ _ 0 Z.out _ (by omega) (by omega) (by omega) (by omega)).mono ?_
  rintro e w' ⟨rfl, rfl⟩
  go_wp2
  go_ret
  exact ⟨by simp, m1, by simp⟩

set_option maxHeartbeats 1000000 in
theorem field_some (a b c : Int) (w : World) (ha : 0 ≤ a) (ha' : a < 256) (hb : 0 ≤ b) (hb' : b < 256) (hc : 0 ≤ c) (hc' : c < 256) (h0 : ¬ a = 0) (h1 : b = 0) :
    Calls Try.prog 5 #[.int .u8 a, .int .u8 b, .int .u8 c] w fun e w' => e = .returned (.bool true) ∧ ∃ m, w' = w.drewN m := by
  have l1 := bits_lo_u8 .xor b c
  have l2 := bits_hi_u8 .xor b c
  have k1 := gmI_lo a b
  have k2 := gmI_hi a b ha'
  have k3 := gmI_lo b c
  have k4 := gmI_hi b c hb'
  have k5 := giI_lo a
  have k6 := giI_hi a
  have hb1 : (a == 0) = false := by simpa using h0
  have hb2 : (a != 0) = true := by simpa using h0
  have I := Lib.hid (gmI_inv a ha ha' h0)
  have hb3 : (b == 0) = true := by simpa using h1
  have Z := Lib.hid ((gmI_none a b ha ha' hb hb').2 (.inr h1))
  clear h0 h1
  go_enter Try.func5, Try.ntmps5
  go_wp2_with fail
  refine (awake_any _).mono ?_
  rintro e w' ⟨rfl, m1, rfl⟩
  go_wp2_with fail
  refine (mul_any _ _ _ (by omega) (by omega) (by omega) (by omega)).mono ?_
  rintro e w' ⟨rfl, rfl⟩
  go_wp2_with fail
  refine (mul_is _ _ (gmI a b) (gmI_comm a b ha' hb') _ (by omega) (by omega) (by omega) (by omega)).mono ?_
  rintro e w' ⟨rfl, rfl⟩
  go_wp2_with fail
  refine (mul_any _ _ _ (by omega) (by omega) (by omega) (by omega)).mono ?_
  rintro e w' ⟨rfl, rfl⟩
  go_wp2_with fail
  refine (mul_any _ _ _ (by omega) (by omega) (by omega) (by omega)).mono ?_
  rintro e w' ⟨rfl, rfl⟩
  go_wp2_with fail
  refine (mul_any _ _ _ (by omega) (by omega) (by omega) (by omega)).mono ?_
  rintro e w' ⟨rfl, rfl⟩
  go_wp2_with fail
  refine (mul_is _ _ (gmI (gmI a b) c) (gmI_assoc a b c ha' hb' hc') _ (by omega) (by omega) (by omega) (by omega)).mono ?_
  rintro e w' ⟨rfl, rfl⟩
  go_wp2_with fail
  refine (mul_is _ _ (bits .xor .u8 (gmI a b) (gmI a c)) (gmI_xor a b c ha' hb hb' hc hc') _ (by omega) (by omega) (by omega) (by omega)).mono ?_
  rintro e w' ⟨rfl, rfl⟩
  go_wp2_with fail
  refine (mul_any _ _ _ (by omega) (by omega) (by omega) (by omega)).mono ?_
  rintro e w' ⟨rfl, rfl⟩
  go_wp2_with fail
  refine (mul_any _ _ _ (by omega) (by omega) (by omega) (by omega)).mono ?_
  rintro e w' ⟨rfl, rfl⟩
  go_wp2_with fail
  refine (mul_is _ _ a (gmI_one a ha ha') _ (by omega) (by omega) (by omega) (by omega)).mono ?_
  rintro e w' ⟨rfl, rfl⟩
  go_wp2_with fail
  refine (mul_is _ _ 0 (gmI_zero a ha') _ (by omega) (by omega) (by omega) (by omega)).mono ?_
  rintro e w' ⟨rfl, rfl⟩
  go_wp2_with fail
  refine (inv_any _ _ (by omega) (by omega)).mono ?_
  rintro e w' ⟨rfl, rfl⟩
  go_wp2_with fail
  refine (inv_is _ a (giI_giI a ha ha') _ (by omega) (by omega)).mono ?_
  rintro e w' ⟨rfl, rfl⟩
  go_wp2_with fail
  refine (inv_any _ _ (by omega) (by omega)).mono ?_
  rintro e w' ⟨rfl, rfl⟩
  go_wp2_with fail
  refine (mul_is _ _ 1 I.out _ (by omega) (by omega) (by omega) (by omega)).mono ?_
  rintro e w' ⟨rfl, rfl⟩
  go_wp2_with fail
  refine (mul_is _ _ 0 Z.out _ (by omega) (by omega) (by omega) (by omega)).mono ?_
  rintro e w' ⟨rfl, rfl⟩
  go_wp2
  go_ret
  exact ⟨by simp, m1, by simp⟩

set_option maxHeartbeats 1000000 in
theorem field_most (a b c : Int) (w : World) (ha : 0 ≤ a) (ha' : a < 256) (hb : 0 ≤ b) (hb' : b < 256) (hc : 0 ≤ c) (hc' : c < 256) (h0 : ¬ a = 0) (h1 : ¬ b = 0) :
    Calls Try.prog 5 #[.int .u8 a, .int .u8 b, .int .u8 c] w fun e w' => e = .returned (.bool true) ∧ ∃ m, w' = w.drewN m := by
  have l1 := bits_lo_u8 .xor b c
  have l2 := bits_hi_u8 .xor b c
  have k1 := gmI_lo a b
  have k2 := gmI_hi a b ha'
  have k3 := gmI_lo b c
  have k4 := gmI_hi b c hb'
  have k5 := giI_lo a
  have k6 := giI_hi a
  have hb1 : (a == 0) = false := by simpa using h0
  have hb2 : (a != 0) = true := by simpa using h0
  have I := Lib.hid (gmI_inv a ha ha' h0)
  have hb3 : (b == 0) = false := by simpa using h1
  have hb4 : (gmI a b == 0) = false := by
    rw [beq_eq_false_iff_ne]
    intro h
    rcases (gmI_none a b ha ha' hb hb').1 h with h | h
    · exact h0 h
    · exact h1 h
  clear h0 h1
  go_enter Try.func5, Try.ntmps5
  go_wp2_with fail
  refine (awake_any _).mono ?_
  rintro e w' ⟨rfl, m1, rfl⟩
  go_wp2_with fail
  refine (mul_any _ _ _ (by omega) (by omega) (by omega) (by omega)).mono ?_
  rintro e w' ⟨rfl, rfl⟩
  go_wp2_with fail
  refine (mul_is _ _ (gmI a b) (gmI_comm a b ha' hb') _ (by omega) (by omega) (by omega) (by omega)).mono ?_
  rintro e w' ⟨rfl, rfl⟩
  go_wp2_with fail
  refine (mul_any _ _ _ (by omega) (by omega) (by omega) (by omega)).mono ?_
  rintro e w' ⟨rfl, rfl⟩
  go_wp2_with fail
  refine (mul_any _ _ _ (by omega) (by omega) (by omega) (by omega)).mono ?_
  rintro e w' ⟨rfl, rfl⟩
  go_wp2_with fail
  refine (mul_any _ _ _ (by omega) (by omega) (by omega) (by omega)).mono ?_
  rintro e w' ⟨rfl, rfl⟩
  go_wp2_with fail
  refine (mul_is _ _ (gmI (gmI a b) c) (gmI_assoc a b c ha' hb' hc') _ (by omega) (by omega) (by omega) (by omega)).mono ?_
  rintro e w' ⟨rfl, rfl⟩
  go_wp2_with fail
  refine (mul_is _ _ (bits .xor .u8 (gmI a b) (gmI a c)) (gmI_xor a b c ha' hb hb' hc hc') _ (by omega) (by omega) (by omega) (by omega)).mono ?_
  rintro e w' ⟨rfl, rfl⟩
  go_wp2_with fail
  refine (mul_any _ _ _ (by omega) (by omega) (by omega) (by omega)).mono ?_
  rintro e w' ⟨rfl, rfl⟩
  go_wp2_with fail
  refine (mul_any _ _ _ (by omega) (by omega) (by omega) (by omega)).mono ?_
  rintro e w' ⟨rfl, rfl⟩
  go_wp2_with fail
  refine (mul_is _ _ a (gmI_one a ha ha') _ (by omega) (by omega) (by omega) (by omega)).mono ?_
  rintro e w' ⟨rfl, rfl⟩
  go_wp2_with fail
  refine (mul_is _ _ 0 (gmI_zero a ha') _ (by omega) (by omega) (by omega) (by omega)).mono ?_
  rintro e w' ⟨rfl, rfl⟩
  go_wp2_with fail
  refine (inv_any _ _ (by omega) (by omega)).mono ?_
  rintro e w' ⟨rfl, rfl⟩
  go_wp2_with fail
  refine (inv_is _ a (giI_giI a ha ha') _ (by omega) (by omega)).mono ?_
  rintro e w' ⟨rfl, rfl⟩
  go_wp2_with fail
  refine (inv_any _ _ (by omega) (by omega)).mono ?_
  rintro e w' ⟨rfl, rfl⟩
  go_wp2_with fail
  refine (mul_is _ _ 1 I.out _ (by omega) (by omega) (by omega) (by omega)).mono ?_
  rintro e w' ⟨rfl, rfl⟩
  go_wp2_with fail
  refine (mul_any _ _ _ (by omega) (by omega) (by omega) (by omega)).mono ?_
  rintro e w' ⟨rfl, rfl⟩
  go_wp2
  go_ret
  exact ⟨by simp, m1, by simp⟩

theorem gf8Field.walk (a : Int) (wa : (Lit.int .u8 a).wf = true) (b : Int) (wb : (Lit.int .u8 b).wf = true) (c : Int) (wc : (Lit.int .u8 c).wf = true) (w : World) :
    Calls Try.prog 5 #[.int .u8 a, .int .u8 b, .int .u8 c] w fun e w' => e = .returned (.bool true) ∧ Below w.heap.size w w' := by
  have h1 := bounds_u8 wa
  have h2 := bounds_u8 wb
  have h3 := bounds_u8 wc
  by_cases g0 : a = 0
  · exact (field_zero a b c w (by omega) (by omega) (by omega) (by omega) (by omega) (by omega) g0).mono fun e w' ⟨he, m, hm⟩ => ⟨he, hm ▸ below_drewN' m⟩
  · by_cases g1 : b = 0
    · exact (field_some a b c w (by omega) (by omega) (by omega) (by omega) (by omega) (by omega) g0 g1).mono fun e w' ⟨he, m, hm⟩ => ⟨he, hm ▸ below_drewN' m⟩
    · exact (field_most a b c w (by omega) (by omega) (by omega) (by omega) (by omega) (by omega) g0 g1).mono fun e w' ⟨he, m, hm⟩ => ⟨he, hm ▸ below_drewN' m⟩

theorem gbox_same (a b : Int) (ha : 0 ≤ a) (ha' : a < 256) (hb : 0 ≤ b) (hb' : b < 256) : gboxI a = gboxI b ↔ a = b := by
  have := gbox_inj a.toNat b.toNat (by omega) (by omega)
  constructor
  · intro h; unfold gboxI at h; have := this (by omega); omega
  · rintro rfl; rfl
theorem gbackI_box (a : Int) (ha : 0 ≤ a) (ha' : a < 256) : gbackI (gboxI a) = a := by
  have := gback_box a.toNat (by omega)
  unfold gbackI gboxI
  rw [Int.toNat_natCast, this]
  omega
theorem gboxI_back (a : Int) (ha : 0 ≤ a) (ha' : a < 256) : gboxI (gbackI a) = a := by
  have := gbox_back a.toNat (by omega)
  unfold gbackI gboxI
  rw [Int.toNat_natCast, this]
  omega
theorem gboxI_ne (a : Int) (ha : 0 ≤ a) (ha' : a < 256) : ¬ gboxI a = a := by
  have := gbox_ne a.toNat (by omega)
  unfold gboxI
  omega
theorem gboxI_ne_not (a : Int) (ha : 0 ≤ a) (ha' : a < 256) : ¬ gboxI a = 255 - a := by
  have := gbox_ne_not a.toNat (by omega)
  unfold gboxI
  omega
theorem takes_any (a b : Int) (w : World) (ha : 0 ≤ a) (ha' : a < 256) (hb : 0 ≤ b) (hb' : b < 256) (h : Bool) (h1 : (gboxI a == gboxI b) = h) (h2 : (a == b) = h) :
    Calls Try.prog 6 #[.int .u8 a, .int .u8 b] w fun e w' => e = .returned (.bool true) ∧ ∃ m, w' = w.drewN m := by
  have k1 := gboxI_lo a
  have k2 := gboxI_hi a
  have k3 := gbackI_lo a
  have k4 := gbackI_hi a
  have n1 : (gboxI a != a) = true := by simpa using gboxI_ne a ha ha'
  have N2 : Hid ((gboxI a != bits .xor .u8 255 a) = true) := by
    refine Lib.hid ?_
    have e : bits .xor .u8 255 a = 255 - a := by
      have h1 := bx 255 a (by omega) (by omega) ha ha'
      have h2 : ∀ x, x < 256 → 255 ^^^ x = 255 - x := by decide +kernel
      rw [h1, show (255 : Int).toNat = 255 from rfl, h2 _ (by omega)]
      omega
    rw [e, bne_iff_ne]
    exact gboxI_ne_not a ha ha'
  go_enter Try.func6, Try.ntmps6
  go_wp2_with fail
  refine (awake_any _).mono ?_
  rintro e w' ⟨rfl, m1, rfl⟩
  go_wp2_with fail
  refine (box_any _ _ (by omega) (by omega)).mono ?_
  rintro e w' ⟨rfl, m2, rfl⟩
  go_wp2_with fail
  refine (box_any _ _ (by omega) (by omega)).mono ?_
  rintro e w' ⟨rfl, m3, rfl⟩
  go_wp2_with fail
  refine (back_is _ a (gbackI_box a ha ha') _ (by omega) (by omega)).mono ?_
  rintro e w' ⟨rfl, m4, rfl⟩
  go_wp2_with fail
  refine (back_any _ _ (by omega) (by omega)).mono ?_
  rintro e w' ⟨rfl, m5, rfl⟩
  go_wp2_with fail
  refine (box_is _ a (gboxI_back a ha ha') _ (by omega) (by omega)).mono ?_
  rintro e w' ⟨rfl, m6, rfl⟩
  go_wp2
  go_ret
  refine ⟨?_, m1 + m2 + m3 + m4 + m5 + m6, rfl⟩
  rw [show IntKind.u8.max = 255 from rfl]
  show Ending.returned (.bool (gboxI a != bits .xor .u8 255 a)) = _
  rw [N2.out]

theorem gf8Takes.walk (a : Int) (wa : (Lit.int .u8 a).wf = true) (b : Int) (wb : (Lit.int .u8 b).wf = true) (w : World) :
    Calls Try.prog 6 #[.int .u8 a, .int .u8 b] w fun e w' => e = .returned (.bool true) ∧ Below w.heap.size w w' := by
  have h1 := bounds_u8 wa
  have h2 := bounds_u8 wb
  have h := gbox_same a b (by omega) (by omega) (by omega) (by omega)
  refine (takes_any a b w (by omega) (by omega) (by omega) (by omega) (a == b) ?_ rfl).mono fun e w' ⟨he, m, hm⟩ => ⟨he, hm ▸ below_drewN' m⟩
  by_cases e : a = b
  · subst e; rw [beq_self_eq_true, beq_self_eq_true]
  · rw [beq_eq_false_iff_ne.2 e, beq_eq_false_iff_ne.2 (fun x => e (h.1 x))]
end Go.Proofs.Ytjebjkpklgphlaa
