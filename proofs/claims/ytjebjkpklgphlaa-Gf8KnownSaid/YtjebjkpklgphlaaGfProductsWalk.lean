/- The walks of the laws of chapter 4: each returns true. Conditions: the arguments are bytes. -/
import Derived.Test.YtjebjkpklgphlaaGfRef
import Derived.OpenShut
namespace Go.Proofs.Ytjebjkpklgphlaa
open Go.RowKit
set_option maxRecDepth 100000

theorem below_drewN' {w : World} (n : Nat) : Below w.heap.size w (w.drewN n) := ⟨rfl, rfl, rfl, Nat.le_refl _, fun _ _ => rfl⟩

set_option maxHeartbeats 400000 in
theorem products_any (a b : Int) (w : World) (ha : 0 ≤ a) (ha' : a < 256) (hb : 0 ≤ b) (hb' : b < 256) :
    Calls Try.prog 3 #[.int .u8 a, .int .u8 b] w fun e w' => e = .returned (.bool true) ∧ ∃ m, w' = w.drewN m := by
  go_enter Try.func3, Try.ntmps3
  go_wp2_with fail
  refine (mul_any _ _ _ ha ha' hb hb').mono ?_
  rintro e w' ⟨rfl, rfl⟩
  go_wp2_with fail
  refine (rmul_any _ _ _ ha ha' hb hb').mono ?_
  rintro e w' ⟨rfl, m1, rfl⟩
  go_wp2_with fail
  refine (inv_any _ _ ha ha').mono ?_
  rintro e w' ⟨rfl, rfl⟩
  go_wp2_with fail
  refine (rinv_any _ _ ha ha').mono ?_
  rintro e w' ⟨rfl, m2, rfl⟩
  go_wp2
  go_ret
  exact ⟨by simp, m1 + m2, by simp⟩

set_option maxHeartbeats 400000 in
theorem boxes_any (a : Int) (w : World) (ha : 0 ≤ a) (ha' : a < 256) :
    Calls Try.prog 4 #[.int .u8 a] w fun e w' => e = .returned (.bool true) ∧ ∃ m, w' = w.drewN m := by
  go_enter Try.func4, Try.ntmps4
  go_wp2_with fail
  refine (box_any _ _ ha ha').mono ?_
  rintro e w' ⟨rfl, m1, rfl⟩
  go_wp2_with fail
  refine (rbox_any _ _ ha ha').mono ?_
  rintro e w' ⟨rfl, m2, rfl⟩
  go_wp2_with fail
  refine (back_any _ _ ha ha').mono ?_
  rintro e w' ⟨rfl, m3, rfl⟩
  go_wp2_with fail
  refine (rback_any _ _ ha ha').mono ?_
  rintro e w' ⟨rfl, m4, rfl⟩
  go_wp2
  go_ret
  exact ⟨by simp, m1 + m2 + m3 + m4, by simp⟩

theorem gf8Products.walk (a : Int) (wa : (Lit.int .u8 a).wf = true) (b : Int) (wb : (Lit.int .u8 b).wf = true) (w : World) :
    Calls Try.prog 3 #[.int .u8 a, .int .u8 b] w fun e w' => e = .returned (.bool true) ∧ Below w.heap.size w w' := by
  have h1 := bounds_u8 wa
  have h2 := bounds_u8 wb
  exact (products_any a b w (by omega) (by omega) (by omega) (by omega)).mono fun e w' ⟨he, m, hm⟩ => ⟨he, hm ▸ below_drewN' m⟩
theorem gf8Boxes.walk (a : Int) (wa : (Lit.int .u8 a).wf = true) (w : World) :
    Calls Try.prog 4 #[.int .u8 a] w fun e w' => e = .returned (.bool true) ∧ Below w.heap.size w w' := by
  have h1 := bounds_u8 wa
  exact (boxes_any a w (by omega) (by omega)).mono fun e w' ⟨he, m, hm⟩ => ⟨he, hm ▸ below_drewN' m⟩
end Go.Proofs.Ytjebjkpklgphlaa
