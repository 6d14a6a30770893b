/- The contract of naive.Find. -/
import Derived.Test.YtpbplcbdejoolaaRows
import Derived.Test.YtpbplcbdejoolaaNaive
namespace Go.Proofs.Ytpbplcbdejoolaa
open Go.RowKit
set_option maxRecDepth 100000
set_option linter.unusedVariables false
set_option linter.unusedSimpArgs false

/-- what Find answers, and records: from place i on -/
def fdN (c : UInt8) : List UInt8 → Nat → Option (List Rn) → Int × Option (List Rn)
  | [], _, o => (-1, o)
  | a :: l, i, o => if a = c then ((i : Int), noteB o true) else fdN c l (i + 1) (noteB o false)
theorem fdN_at (c : UInt8) (xs : List UInt8) (k i : Nat) (h1 : k < xs.length) (o : Option (List Rn)) : fdN c (xs.drop k) i o = if xs.getD k 0 = c then ((i : Int), noteB o true) else fdN c (xs.drop (k + 1)) (i + 1) (noteB o false) := by
  rw [List.drop_eq_getElem_cons h1]
  simp only [fdN, List.getD_eq_getElem?_getD, List.getElem?_eq_getElem h1, Option.getD_some]
theorem fdN_end (c : UInt8) (xs : List UInt8) (i : Nat) (o : Option (List Rn)) : fdN c (xs.drop xs.length) i o = (-1, o) := by
  rw [List.drop_of_length_le (Nat.le_refl _)]
  rfl
set_option maxHeartbeats 2000000 in
theorem nFind_any (p : Value) (F : Nat → Prop) (o : Option (List Rn)) (u : Value) (xs : List UInt8) (c : UInt8) (N : Nat) (w : World) (h : LgP w p F o) (hb : FewO o N) (hN : N + xs.length ≤ 1000000) (hu : Bs w u xs)
    (du : xs ≠ [] → ∀ b, u.ownBlock = some b → ¬ F b) :
    Calls Try.prog 19 #[p, u, .int .u8 (c.toNat : Int)] w fun e w' => e = .returned (.int .i64 (fdN c xs 0 o).1) ∧ LaidP p F (fdN c xs 0 o).2 w w' := by
  have H := Lib.hid h
  have HU := Lib.hid hu
  have DU := Lib.hid du
  obtain ⟨ao, cap, rfl, h1, h2, _, _⟩ := hu.form
  have hla : xs.length ≤ 9223372036854775807 := by omega
  clear h hu du
  go_enter Try.func19, Try.ntmps19
  go_wp2_with fail
  go_loopw [11] (fun i w1 => ∃ (k : Nat) (o1 : Option (List Rn)), k ≤ xs.length ∧ i = .int .i64 (k : Int) ∧ Hid (fdN c (xs.drop k) k o1 = fdN c xs 0 o) ∧ Hid (FewO o1 (N + k)) ∧ Hid (LaidP p F o1 w w1)) (fun i _ => xs.length - (intOf i).toNat)
  case atStart => exact ⟨0, o, Nat.zero_le _, rfl, Lib.hid rfl, hb, Lib.hid (LaidP.same H.out 0 rfl)⟩
  case round =>
    obtain ⟨k, o1, hk, rfl, HE, HF, HLd⟩ := hrel
    by_cases hlt : k < xs.length
    · have U := HU.out.only' HLd.out.only DU.out
      obtain ⟨ao', cap', hv1, _, _, _, C1⟩ := U.form
      injection hv1 with e1 _ e3
      subst e1; subst e3
      obtain ⟨g, off, rfl, d1⟩ := C1 k hlt
      have he := HE.out
      rw [fdN_at c xs k k hlt] at he
      have HE2 := Lib.hid he
      clear he HE U C1
      generalize xs.getD k 0 = x at d1 HE2
      obtain ⟨b, hbb⟩ : ∃ b : Bool, decide (x = c) = b := ⟨_, rfl⟩
      have hxy : ((x.toNat : Int) == (c.toNat : Int)) = b := by rw [u8_eq_iff]; exact hbb
      have HBB := Lib.hid hbb
      clear hbb
      obtain ⟨F1, l1, l2, l3⟩ := HLd.out
      have L1 := Lib.hid l1
      have L2 := Lib.hid (And.intro l2 l3)
      clear l1 l2 l3
      go_wp2_with fail
      refine (branch_any p F1 o1 b _ L1.out (HF.out.room (by omega))).mono ?_
      rintro e w6 ⟨rfl, h6⟩
      have H6 : Hid (LaidP p F (noteB o1 b) w w6) := Lib.hid (LaidP.step L2.out.1 L2.out.2 h6)
      clear h6
      cases b with
      | true =>
        have hx : x = c := by simpa using HBB.out
        have HE3 := HE2.out
        rw [if_pos hx] at HE3
        have HR : Hid ((fdN c xs 0 o).1 = (k : Int) ∧ (fdN c xs 0 o).2 = noteB o1 true) := by rw [← HE3]; exact Lib.hid ⟨rfl, rfl⟩
        clear HE3 HE2
        go_wp2
        go_ret
        rw [HR.out.1, HR.out.2]
        exact ⟨rfl, H6.out⟩
      | false =>
        have hx : ¬ x = c := by simpa using HBB.out
        have HE3 := HE2.out
        rw [if_neg hx] at HE3
        have HE4 := Lib.hid HE3
        have HF2 : Hid (FewO (noteB o1 false) (N + (k + 1))) := HF.out.note 9 0
        clear HE3 HE2
        go_wp2
        go_roundw
        case rel => exact ⟨k + 1, _, by omega, by go_num, HE4, HF2, H6⟩
        case measure => simp [intOf]; omega
    · obtain rfl : k = xs.length := by omega
      have he := HE.out
      rw [fdN_end] at he
      have HR : Hid ((fdN c xs 0 o).1 = -1 ∧ (fdN c xs 0 o).2 = o1) := by rw [← he]; exact Lib.hid ⟨rfl, rfl⟩
      clear he HE
      go_wp2
      go_ret
      rw [HR.out.1, HR.out.2]
      exact ⟨rfl, HLd.out⟩
end Go.Proofs.Ytpbplcbdejoolaa
