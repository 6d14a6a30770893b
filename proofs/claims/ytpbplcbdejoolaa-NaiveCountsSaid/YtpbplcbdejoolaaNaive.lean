/- The contracts of package naive: branch, Equal, Box. -/
import Derived.Test.YtpbplcbdejoolaaRows
import Derived.Test.YtpbplcbdejoolaaLenv
import Derived.Test.YtpbplcbdejoolaaBytes
import Derived.Test.YtpbplcbdejoolaaGf
import Derived.Test.YtpbplcbdejoolaaCtLaws
import Derived.Test.YtpbplcbdejoolaaReset
import Derived.Test.YtpbplcbdejoolaaAp
namespace Go.Proofs.Ytpbplcbdejoolaa
open Go.RowKit
set_option maxRecDepth 100000
set_option linter.unusedVariables false
set_option linter.unusedSimpArgs false

theorem LaidP.step {p : Value} {F F1 : Nat → Prop} {o2 : Option (List Rn)} {w w1 w2 : World} (ho : Only F w w1) (hx : ∀ x, F1 x → F x ∨ w.heap.size ≤ x) (h : LaidP p F1 o2 w1 w2) : LaidP p F o2 w w2 := by
  obtain ⟨F2, a1, a2, a3⟩ := h
  exact ⟨F2, a1, ho.trans a2 hx, fun x h2 => (a3 x h2).elim (hx x) (fun hh => .inr (Nat.le_trans ho.size hh))⟩
def yesI (b : Bool) : Int := if b then 1 else 0
def noteB (o : Option (List Rn)) (b : Bool) : Option (List Rn) := noteO o 9 (yesI b) 1
set_option maxHeartbeats 1000000 in
theorem branch_any (p : Value) (F : Nat → Prop) (o : Option (List Rn)) (b : Bool) (w : World) (h : LgP w p F o) (hb : Room o 1) :
    Calls Try.prog 40 #[p, .bool b] w fun e w' => e = .returned (.bool b) ∧ LaidP p F (noteB o b) w w' := by
  have H := Lib.hid h
  clear h
  cases b with
  | false =>
    have hb1 : Below w.heap.size w (w.alloc (.cells #[.int .u8 9, .int .i64 0] 31)) := (Below.refl _ _).alloc (Nat.le_refl _) _
    go_enter Try.func40, Try.ntmps40
    go_wp2_with fail
    refine (gnoteP_any p F o 9 0 _ (H.out.keep (Only.nothing hb1) (fun _ _ h => h)) hb).mono ?_
    rintro e w2 ⟨rfl, hl⟩
    have HL := Lib.hid (LaidP.pre hb1 hl)
    clear hl
    go_wp2
    go_ret
    exact ⟨rfl, HL.out⟩
  | true =>
    have hb1 : Below w.heap.size w (w.alloc (.cells #[.int .u8 9, .int .i64 0] 31)) := (Below.refl _ _).alloc (Nat.le_refl _) _
    have hb2 : Below w.heap.size w (w.alloc (.cells #[.int .u8 9, .int .i64 1] 31)) := (Below.refl _ _).alloc (Nat.le_refl _) _
    go_enter Try.func40, Try.ntmps40
    go_wp2_with fail
    refine (gnoteP_any p F o 9 1 _ (H.out.keep (Only.nothing hb2) (fun _ _ h => h)) hb).mono ?_
    rintro e w2 ⟨rfl, hl⟩
    have HL := Lib.hid (LaidP.pre hb2 hl)
    clear hl
    go_wp2
    go_ret
    exact ⟨rfl, HL.out⟩
theorem nBox_any (p : Value) (F : Nat → Prop) (o : Option (List Rn)) (a : Int) (w : World) (h : LgP w p F o) (hb : Room o 1) (ha : 0 ≤ a) (ha' : a < 256) :
    Calls Try.prog 9 #[p, .int .u8 a] w fun e w' => e = .returned (.int .u8 (gboxI a)) ∧ LaidP p F (noteO o 10 a 1) w w' := by
  have H := Lib.hid h
  clear h
  go_enter Try.func9, Try.ntmps9
  go_wp2_with fail
  refine (gnoteP_any p F o 10 a _ H.out hb).mono ?_
  rintro e w2 ⟨rfl, hl⟩
  have HL := Lib.hid hl
  clear hl
  go_wp2_with fail
  refine (box_any a w2 ha ha').mono ?_
  rintro e w3 ⟨rfl, m, rfl⟩
  go_wp2
  go_ret
  exact ⟨rfl, HL.out.draw m⟩
/-- what Equal answers of two lists of one length, and records -/
def eqN : List UInt8 → List UInt8 → Option (List Rn) → Bool × Option (List Rn)
  | a :: l, b :: m, o => if a = b then eqN l m (noteB o true) else (false, noteB o false)
  | _, _, o => (true, o)
def nEq (xs ys : List UInt8) (o : Option (List Rn)) : Bool × Option (List Rn) := if xs.length = ys.length then eqN xs ys o else (false, o)
theorem eqN_at (xs ys : List UInt8) (k : Nat) (h1 : k < xs.length) (h2 : k < ys.length) (o : Option (List Rn)) : eqN (xs.drop k) (ys.drop k) o = if xs.getD k 0 = ys.getD k 0 then eqN (xs.drop (k + 1)) (ys.drop (k + 1)) (noteB o true) else (false, noteB o false) := by
  rw [List.drop_eq_getElem_cons h1, List.drop_eq_getElem_cons h2]
  simp only [eqN, List.getD_eq_getElem?_getD, List.getElem?_eq_getElem h1, List.getElem?_eq_getElem h2, Option.getD_some]
theorem eqN_end (xs ys : List UInt8) (o : Option (List Rn)) : eqN (xs.drop xs.length) ys o = (true, o) := by
  rw [List.drop_of_length_le (Nat.le_refl _)]
  rfl
/-- at most n events, in at most n runs -/
def FewO (o : Option (List Rn)) (n : Nat) : Prop := ∀ rs, o = Option.some rs → Few rs n
theorem FewO.note {o : Option (List Rn)} {n : Nat} (h : FewO o n) (k s : Int) : FewO (noteO o k s 1) (n + 1) := by
  cases o with
  | none => intro rs hh; cases hh
  | some r => intro rs hh; cases hh; exact (h r rfl).note k s
theorem FewO.room {o : Option (List Rn)} {n : Nat} (h : FewO o n) (hn : n ≤ 1000000) : Room o 1 := by
  cases o with
  | none => exact Room.none 1
  | some r => exact (h r rfl).room hn
theorem FewO.of {rs : List Rn} {n : Nat} (h : Few rs n) : FewO (some rs) n := by intro r hh; cases hh; exact h
set_option maxHeartbeats 2000000 in
theorem nEqual_any (p : Value) (F : Nat → Prop) (o : Option (List Rn)) (u v : Value) (xs ys : List UInt8) (N : Nat) (w : World) (h : LgP w p F o) (hb : FewO o N) (hN : N + xs.length ≤ 1000000) (hu : Bs w u xs) (hv : Bs w v ys)
    (du : xs ≠ [] → ∀ b, u.ownBlock = some b → ¬ F b) (dv : ys ≠ [] → ∀ b, v.ownBlock = some b → ¬ F b) :
    Calls Try.prog 16 #[p, u, v] w fun e w' => e = .returned (.bool (nEq xs ys o).1) ∧ LaidP p F (nEq xs ys o).2 w w' := by
  have H := Lib.hid h
  have HU := Lib.hid hu
  have HV := Lib.hid hv
  have DU := Lib.hid du
  have DV := Lib.hid dv
  obtain ⟨ao, cap, rfl, h1, h2, _, _⟩ := hu.form
  obtain ⟨bo, dap, rfl, h3, h4, _, _⟩ := hv.form
  have hla : xs.length ≤ 9223372036854775807 := by omega
  have hlb : ys.length ≤ 9223372036854775807 := by omega
  clear h hu hv du dv
  unfold nEq
  by_cases hl : xs.length = ys.length
  · rw [if_pos hl]
    have hlI : ((xs.length : Int) != (ys.length : Int)) = false := by rw [hl]; simp
    have HL := Lib.hid hl
    clear hl
    go_enter Try.func16, Try.ntmps16
    go_wp2_with fail
    go_loopw [15] (fun i w1 => ∃ (k : Nat) (o1 : Option (List Rn)), k ≤ xs.length ∧ i = .int .i64 (k : Int) ∧ Hid (eqN (xs.drop k) (ys.drop k) o1 = eqN xs ys o) ∧ Hid (FewO o1 (N + k)) ∧ Hid (LaidP p F o1 w w1)) (fun i _ => xs.length - (intOf i).toNat)
    case atStart => exact ⟨0, o, Nat.zero_le _, rfl, Lib.hid rfl, hb, Lib.hid (LaidP.same H.out 0 rfl)⟩
    case round =>
      obtain ⟨k, o1, hk, rfl, HE, HF, HLd⟩ := hrel
      by_cases hlt : k < xs.length
      · have hlt2 : k < ys.length := by rw [← HL.out]; exact hlt
        have U := HU.out.only' HLd.out.only DU.out
        have V := HV.out.only' HLd.out.only DV.out
        obtain ⟨ao', cap', hv1, _, _, _, C1⟩ := U.form
        injection hv1 with e1 _ e3
        subst e1; subst e3
        obtain ⟨bo', dap', hv2, _, _, _, C2⟩ := V.form
        injection hv2 with e1 _ e3
        subst e1; subst e3
        obtain ⟨g, off, rfl, d1⟩ := C1 k hlt
        obtain ⟨g2, off2, rfl, d2⟩ := C2 k hlt2
        have he := HE.out
        rw [eqN_at xs ys k hlt hlt2] at he
        have HE2 := Lib.hid he
        clear he HE U V C1 C2
        generalize xs.getD k 0 = x at d1 HE2
        generalize ys.getD k 0 = y at d2 HE2
        obtain ⟨b, hbb⟩ : ∃ b : Bool, decide (x = y) = b := ⟨_, rfl⟩
        have hxy : ((x.toNat : Int) == (y.toNat : Int)) = b := by rw [u8_eq_iff]; exact hbb
        have HBB := Lib.hid hbb
        clear hbb
        obtain ⟨F1, l1, l2, l3⟩ := HLd.out
        have L1 := Lib.hid l1
        have L2 := Lib.hid (And.intro l2 l3)
        clear l1 l2 l3
        go_wp2_with fail
        refine wp_region_call (fun w' => w' = wr.drewN 1) 10 11 _ (by kernel_rfl) (by kernel_rfl) rfl rfl (by decide) ?_
        simp only [List.take_succ_cons, List.take_zero, List.drop_succ_cons, List.drop_zero]
        refine wpTame_run (v := ?_) (by decide) rfl (fun w' hS => ?_) ?_
        rotate_left
        focus (subst hS; go_simp; try rfl; done)
        simp only [Act.put, List.setIfInBounds_toArray, List.set_cons_zero, List.set_cons_succ]
        refine wpTame_run (v := ?_) (by decide) rfl (fun w' hS => ?_) ?_
        rotate_left
        focus (subst hS; go_simp; try rfl; done)
        simp only [Act.put, List.setIfInBounds_toArray, List.set_cons_zero, List.set_cons_succ]
        refine wpTame_run (v := ?_) (by decide) rfl (fun w' hS => ?_) ?_
        rotate_left
        focus (subst hS; go_simp; try rfl; done)
        simp only [Act.put, List.setIfInBounds_toArray, List.set_cons_zero, List.set_cons_succ]
        refine wpTame_run (v := ?_) (by decide) rfl (fun w' hS => ?_) ?_
        rotate_left
        focus (subst hS; go_simp; try rfl; done)
        simp only [Act.put, List.setIfInBounds_toArray, List.set_cons_zero, List.set_cons_succ]
        refine wpTame_run (v := ?_) (by decide) rfl (fun w' hS => ?_) ?_
        rotate_left
        focus (subst hS; go_simp; try rfl; done)
        simp only [Act.put, List.setIfInBounds_toArray, List.set_cons_zero, List.set_cons_succ]
        refine wpTame_run (v := ?_) (by decide) rfl (fun w' hS => ?_) ?_
        rotate_left
        focus (subst hS; go_simp; try rfl; done)
        simp only [Act.put, List.setIfInBounds_toArray, List.set_cons_zero, List.set_cons_succ]
        refine wpTame_run (v := ?_) (by decide) rfl (fun w' hS => ?_) ?_
        rotate_left
        focus (subst hS; go_simp; try rfl; done)
        simp only [Act.put, List.setIfInBounds_toArray, List.set_cons_zero, List.set_cons_succ]
        refine wpTame_run (v := ?_) (by decide) rfl (fun w' hS => ?_) ?_
        rotate_left
        focus (subst hS; go_simp; try rfl; done)
        simp only [Act.put, List.setIfInBounds_toArray, List.set_cons_zero, List.set_cons_succ]
        refine wpTame_run (v := ?_) (by decide) rfl (fun w' hS => ?_) ?_
        rotate_left
        focus (subst hS; go_simp; try rfl; done)
        simp only [Act.put, List.setIfInBounds_toArray, List.set_cons_zero, List.set_cons_succ]
        refine wpTame_run (v := ?_) (by decide) rfl (fun w' hS => ?_) ?_
        rotate_left
        focus (subst hS; go_simp; try rfl; done)
        simp only [Act.put, List.setIfInBounds_toArray, List.set_cons_zero, List.set_cons_succ]
        refine wpTame_nil ?_
        intro w5 hw'
        refine wp_mid_call (by go_simp; first | exact ⟨rfl, rfl⟩ | rfl) ?_
        refine (branch_any p F1 o1 b w5 (by rw [hw']; exact L1.out.draw 1) (HF.out.room (by omega))).mono ?_
        rintro e w6 ⟨rfl, h6⟩
        refine ⟨_, rfl, (fun w' => w' = w6), rfl, ?_⟩
        simp only [Act.put, List.setIfInBounds_toArray, List.set_cons_zero, List.set_cons_succ]
        refine wpTame_nil ?_
        intro w' hw'
        rw [hw']
        clear hw'
        have H6 : Hid (LaidP p F (noteB o1 b) w w6) := by
          have h7 := LaidP.pre (w := wr) (w1 := w5) (by rw [hw']; exact ⟨rfl, rfl, rfl, Nat.le_refl _, fun _ _ => rfl⟩) h6
          exact Lib.hid (LaidP.step L2.out.1 L2.out.2 h7)
        clear h6
        cases b with
        | true =>
          have hx : x = y := by simpa using HBB.out
          have HE3 := HE2.out
          rw [if_pos hx] at HE3
          have HE4 := Lib.hid HE3
          have HF2 : Hid (FewO (noteB o1 true) (N + (k + 1))) := HF.out.note 9 1
          clear HE3 HE2
          go_wp2
          go_roundw
          case rel => exact ⟨k + 1, _, by omega, by go_num, HE4, HF2, H6⟩
          case measure => simp [intOf]; omega
        | false =>
          have hx : ¬ x = y := by simpa using HBB.out
          have HE3 := HE2.out
          rw [if_neg hx] at HE3
          have HR : Hid ((eqN xs ys o).1 = false ∧ (eqN xs ys o).2 = noteB o1 false) := by rw [← HE3]; exact Lib.hid ⟨rfl, rfl⟩
          clear HE3 HE2
          go_wp2
          go_ret
          rw [HR.out.1, HR.out.2]
          exact ⟨rfl, H6.out⟩
      · obtain rfl : k = xs.length := by omega
        have he := HE.out
        rw [eqN_end] at he
        have HR : Hid ((eqN xs ys o).1 = true ∧ (eqN xs ys o).2 = o1) := by rw [← he]; exact Lib.hid ⟨rfl, rfl⟩
        clear he HE
        go_wp2
        go_ret
        rw [HR.out.1, HR.out.2]
        exact ⟨rfl, HLd.out⟩
  · rw [if_neg hl]
    have hlI : ((xs.length : Int) != (ys.length : Int)) = true := by simp; omega
    clear hl
    go_enter Try.func16, Try.ntmps16
    go_wp2
    go_ret
    exact ⟨rfl, LaidP.same H.out 0 rfl⟩
end Go.Proofs.Ytpbplcbdejoolaa
