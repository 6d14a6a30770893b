/- The contracts of package aes: KeyLen, Form, Clone, Wipe. -/
import Derived.Test.YtihmgkjmebdioaaRows
import Derived.Test.YtihmgkjmebdioaaAesNew
import Derived.Test.YtihmgkjmebdioaaScript
namespace Go.Proofs.Ytihmgkjmebdioaa
open Go.RowKit
set_option maxRecDepth 100000
set_option linter.unusedVariables false
set_option linter.unusedSimpArgs false
set_option linter.unusedSimpArgs false

theorem keyLen_any (b k : Nat) (K : List UInt8) (w : World) (h : CipAt w b k K) : Calls Try.prog 20 #[.pointer (some ⟨b, 0, none⟩)] w fun e w' => e = .returned (.int .i64 (k : Int)) ∧ w = w' := by
  have H := Lib.hid h
  have c0 := h.key
  have hb := h.lt
  clear h
  go_enter Try.func20, Try.ntmps20
  go_wp2_with fail
  refine (cmade_any b k K w H.out).mono ?_
  rintro e w' ⟨he, rfl⟩
  by_cases hk : 0 < k
  · rw [show decide (0 < k) = true from by simpa using hk] at he
    subst he
    go_wp2
    go_ret
    exact ⟨rfl, rfl⟩
  · obtain rfl : k = 0 := by omega
    rw [show decide (0 < 0) = false from rfl] at he
    subst he
    go_wp2
    go_ret
    exact ⟨rfl, rfl⟩
theorem keyLen_nil (w : World) : Calls Try.prog 20 #[.pointer none] w fun e w' => e = .returned (.int .i64 0) ∧ w = w' := by
  go_enter Try.func20, Try.ntmps20
  go_wp2_with fail
  refine (cmade_nil w).mono ?_
  rintro e w' ⟨rfl, rfl⟩
  go_wp2
  go_ret
  exact ⟨rfl, rfl⟩
theorem size241 : (Try.prog.info? 68).map (·.size) = some 241 := by kernel_rfl
theorem zero241 (w : World) : (zeroValue 68).run Try.prog w = .ok (.agg (cipC 0 (List.replicate 240 0))) w := by kernel_rfl
theorem cipC241 (k : Nat) (K : List UInt8) (h : K.length = 240) : (cipC k K).size = 241 := by rw [cipC_size, h]
theorem clone_no (p : Value) (w : World) (hm : Calls Try.prog 32 #[p] w fun e w' => e = .returned (.bool false) ∧ w = w') :
    Calls Try.prog 11 #[p] w fun e w' => e = .returned (.tuple #[.pointer none, .int .i64 1]) ∧ w = w' := by
  have HM := Lib.hid hm
  clear hm
  go_enter Try.func11, Try.ntmps11
  go_wp2_with fail
  refine HM.out.mono ?_
  rintro e w' ⟨rfl, rfl⟩
  go_wp2
  go_ret2
  exact ⟨rfl, rfl⟩
set_option maxHeartbeats 1000000 in
theorem clone_any (b k : Nat) (K : List UInt8) (w : World) (h : CipAt w b k K) (hk : 0 < k) :
    Calls Try.prog 11 #[.pointer (some ⟨b, 0, none⟩)] w fun e w' => e = .returned (.tuple #[.pointer (some ⟨w.heap.size, 0, none⟩), .int .i64 0]) ∧ CipAt w' w.heap.size k K ∧ Below w.heap.size w w' := by
  have H := Lib.hid h
  have hb := h.lt
  have hs := cipC241 k K h.2
  have hone := cipC_one k K
  have hz := zero241
  have hzs := cipC241 0 (List.replicate 240 0) (by simp)
  obtain ⟨C, hC⟩ : ∃ C, C = cipC k K := ⟨_, rfl⟩
  rw [← hC] at hs hone
  have HC := Lib.hid hC
  have G : Hid (Blk w b 68 C) := by rw [hC]; exact Lib.hid h.1
  clear hC
  generalize hZ : cipC 0 (List.replicate 240 0) = Z at hz hzs
  clear hZ h
  go_enter Try.func11, Try.ntmps11
  go_wp2_with fail
  refine (cmade_any b k K w H.out).mono ?_
  rintro e w' ⟨he, rfl⟩
  rw [show decide (0 < k) = true from by simpa using hk] at he
  subst he
  have b1 : Blk (w.alloc (.cells Z 68)) w.heap.size 68 Z := Blk.new _ _ _
  go_wp2_with (first | ((with_reducible change wpList _ _ _ (Oper.mk _ (Op.load 68 _) _ _ _ _ :: _) _ _); refine wpList_load_blk (ty := 68) b rfl G.out Try.underlying68 rfl size241 hs ?_) | ((with_reducible change wpList _ _ _ (Oper.mk _ (Op.store 68 _ _) _ _ _ _ :: _) _ _); refine wpList_store_blk (ty := 68) w.heap.size C rfl rfl b1 size241 hs hzs hone ?_))
  go_ret2
  refine ⟨rfl, ⟨?_, H.out.2⟩, below_row ((Below.refl _ _).alloc (Nat.le_refl _) _) (Nat.le_refl _) _⟩
  rw [← HC.out]
  exact b1.row _
set_option maxHeartbeats 1000000 in
theorem wipe_no (p q : Value) (w : World) (hm : Calls Try.prog 32 #[p] w fun e w' => e = .returned (.bool false) ∧ w = w') :
    Calls Try.prog 15 #[p, q] w fun e w' => e = .returned (.int .i64 1) ∧ w = w' := by
  have HM := Lib.hid hm
  clear hm
  go_enter Try.func15, Try.ntmps15
  go_wp2_with fail
  refine HM.out.mono ?_
  rintro e w' ⟨rfl, rfl⟩
  go_wp2
  go_ret
  exact ⟨rfl, rfl⟩
def zeroK : List UInt8 := List.replicate 240 0
theorem zeroK_len : zeroK.length = 240 := by simp [zeroK]
set_option maxHeartbeats 1000000 in
theorem cwipe_any (b k : Nat) (K : List UInt8) (q : Value) (G : Nat → Prop) (o : Option (List Rn)) (w : World) (h : CipAt w b k K) (hk0 : 0 < k) (hk : k ≤ 32) (hq : LgP w q G o) (hr : Room o 1) (hG : ¬ G b) :
    Calls Try.prog 15 #[.pointer (some ⟨b, 0, none⟩), q] w fun e w' => e = .returned (.int .i64 0) ∧ ∃ w1, LaidP q G (noteO o 8 ((16 * (k / 4 + 6 + 1) : Nat) : Int) 1) w w1 ∧ CipAt w' b 0 zeroK ∧ Only (fun x => x = b) w1 w' := by
  have H := Lib.hid h
  have HQ := Lib.hid hq
  obtain ⟨R, hR⟩ : ∃ R, k / 4 + 6 = R := ⟨_, rfl⟩
  have hR14 : R ≤ 14 := by omega
  have hz := zero241
  have hzs := cipC241 0 (List.replicate 240 0) (by simp)
  have hzo := cipC_one 0 (List.replicate 240 0)
  obtain ⟨Z, hZ⟩ : ∃ Z, Z = cipC 0 (List.replicate 240 0) := ⟨_, rfl⟩
  rw [← hZ] at hz hzs hzo
  have HZ := Lib.hid hZ
  have hs := cipC241 k K h.2
  have hmul : 16 * ((R : Int) + 1) = ((16 * (R + 1) : Nat) : Int) := by omega
  have HMUL := Lib.hid hmul
  have HR := Lib.hid hR
  have hne : ¬ Z = #[] := by intro hh; rw [hh] at hzs; simp at hzs
  clear h hq hZ hR hmul
  go_enter Try.func15, Try.ntmps15
  go_wp2_with fail
  refine (cmade_any b k K w H.out).mono ?_
  rintro e w' ⟨he, rfl⟩
  rw [show decide (0 < k) = true from by simpa using hk0] at he
  subst he
  go_wp2_with fail
  refine (rounds_any b k K w H.out hk).mono ?_
  rintro e w' ⟨he, rfl⟩
  rw [HR.out] at he
  subst he
  go_wp2_with fail
  refine (gnoteP_any q G o 8 (16 * ((R : Int) + 1)) w HQ.out hr).mono ?_
  rintro e w2 ⟨rfl, hl⟩
  have HL := Lib.hid hl
  have H2 := Lib.hid (H.out.only hl.only hG)
  have hb2 := H2.out.lt
  clear hl
  go_wp2_with ((with_reducible change wpList _ _ _ (Oper.mk _ (Op.store 68 _ _) _ _ _ _ :: _) _ _); refine wpList_store_blk (ty := 68) b Z rfl rfl H2.out.1 size241 hzs hs hzo ?_)
  go_ret
  refine ⟨rfl, w2, ?_, ⟨?_, zeroK_len⟩, Only.row (S := fun x => x = b) (Only.refl _ _) (.inl rfl) _⟩
  · rw [HR.out, ← HMUL.out]
    exact HL.out
  · have := H2.out.1.row Z
    rw [HZ.out] at this ⊢
    exact this
theorem form_no (p : Value) (w : World) (hm : Calls Try.prog 32 #[p] w fun e w' => e = .returned (.bool false) ∧ w = w') :
    Calls Try.prog 12 #[p] w fun e w' => e = .returned (.slice none 0 0) ∧ w = w' := by
  have HM := Lib.hid hm
  clear hm
  go_enter Try.func12, Try.ntmps12
  go_wp2_with fail
  refine HM.out.mono ?_
  rintro e w' ⟨rfl, rfl⟩
  go_wp2
  go_ret
  exact ⟨rfl, rfl⟩
set_option maxHeartbeats 2000000 in
theorem form_any (b k : Nat) (K : List UInt8) (w : World) (h : CipAt w b k K) (hk0 : 0 < k) (hk : k ≤ 32) :
    Calls Try.prog 12 #[.pointer (some ⟨b, 0, none⟩)] w (NewBytes (K.take (16 * (k / 4 + 6 + 1))) w) := by
  have H := Lib.hid h
  obtain ⟨R, hR⟩ : ∃ R, k / 4 + 6 = R := ⟨_, rfl⟩
  have hR14 : R ≤ 14 := by omega
  rw [hR]
  have HR := Lib.hid hR
  have hKl := h.2
  have hb := h.lt
  clear h hR
  go_enter Try.func12, Try.ntmps12
  go_wp2_with fail
  refine (cmade_any b k K w H.out).mono ?_
  rintro e w' ⟨he, rfl⟩
  rw [show decide (0 < k) = true from by simpa using hk0] at he
  subst he
  have hsl : ∀ w', (Instr.sliceAt 66 (.pointer (some ⟨b, 1, none⟩)) none (some (.int .i64 ((R : Int) + 1))) none).run Try.prog w' = .ok (.slice (some ⟨b, 1, none⟩) (R + 1) 15) w' := fun w' => by
    have hal : Try.prog.arrayLen 66 = 15 := by kernel_rfl
    rw [run_sliceAt_array_h w' 66 ⟨b, 1, none⟩ (by simp [Program.arrayLen, Program.elem, Try.underlying66]) .i64 ((R : Int) + 1) (by omega) (by rw [hal]; omega)]
    have hsz : (sizeOf (Try.prog.elem 66)).run Try.prog w' = .ok 16 w' := by kernel_rfl
    rw [hsz, Result.andThen_ok, hal]
    unfold slicedAt
    rw [if_neg (by omega), add_lit, show ((R : Int) + 1).toNat = R + 1 from by omega]
    simp
  have hW1 : IntKind.i64.wrap ((R : Int) + 1) = (R : Int) + 1 := IntWalk.i64_in _ (by omega)
  go_wp2_with fail
  refine wp_region_script [(0, true), (1, true), (2, true), (3, true), (8, true), (4, false), (5, true), (6, true), (7, true)] (by kernel_rfl) (by kernel_rfl) (fun _ _ d _ _ h => (by cases d <;> exact h)) ?_
  intro w5 hw'
  refine scr_pure (v := ?_) rfl rfl (fun w' => ?_) ?_
  rotate_left
  focus (go_simp; try rfl; done)
  simp only [List.getElem_toArray, List.getElem_cons_succ, List.getElem_cons_zero, Act.put, List.setIfInBounds_toArray, List.set_cons_zero, List.set_cons_succ]
  refine scr_pure (v := ?_) rfl rfl (fun w' => ?_) ?_
  rotate_left
  focus (go_simp; try rfl; done)
  simp only [List.getElem_toArray, List.getElem_cons_succ, List.getElem_cons_zero, Act.put, List.setIfInBounds_toArray, List.set_cons_zero, List.set_cons_succ]
  refine scr_pure (v := ?_) rfl rfl (fun w' => ?_) ?_
  rotate_left
  focus (go_simp; try rfl; done)
  simp only [List.getElem_toArray, List.getElem_cons_succ, List.getElem_cons_zero, Act.put, List.setIfInBounds_toArray, List.set_cons_zero, List.set_cons_succ]
  refine scr_pure (v := ?_) rfl rfl (fun w' => ?_) ?_
  rotate_left
  focus (go_simp; try rfl; done)
  simp only [List.getElem_toArray, List.getElem_cons_succ, List.getElem_cons_zero, Act.put, List.setIfInBounds_toArray, List.set_cons_zero, List.set_cons_succ]
  refine scr_pure (v := ?_) rfl rfl (fun w' => ?_) ?_
  rotate_left
  focus (go_simp; try rfl; done)
  simp only [List.getElem_toArray, List.getElem_cons_succ, List.getElem_cons_zero, Act.put, List.setIfInBounds_toArray, List.set_cons_zero, List.set_cons_succ]
  have H5 : Hid (CipAt w5 b k K) := by rw [hw']; exact Lib.hid (H.out.below (drew_below w 1))
  have hb5 : Hid (Below w.heap.size w w5) := by rw [hw']; exact Lib.hid (drew_below w 1)
  clear hw'
  refine scr_call rfl rfl (by go_simp; first | exact ⟨rfl, rfl⟩ | rfl) ?_
  refine (rounds_any b k K w5 H5.out hk).mono ?_
  rintro e w6 ⟨he, hww⟩
  rw [HR.out] at he
  subst he
  subst hww
  refine ⟨_, rfl, ?_⟩
  simp only [List.getElem_toArray, List.getElem_cons_succ, List.getElem_cons_zero, Act.put, List.setIfInBounds_toArray, List.set_cons_zero, List.set_cons_succ]
  refine scr_pure (v := ?_) rfl rfl (fun w' => ?_) ?_
  rotate_left
  focus (go_simp; try rfl; done)
  simp only [List.getElem_toArray, List.getElem_cons_succ, List.getElem_cons_zero, Act.put, List.setIfInBounds_toArray, List.set_cons_zero, List.set_cons_succ]
  refine scr_pure (v := ?_) rfl rfl (fun w' => ?_) ?_
  rotate_left
  focus (go_simp; try rfl; done)
  simp only [List.getElem_toArray, List.getElem_cons_succ, List.getElem_cons_zero, Act.put, List.setIfInBounds_toArray, List.set_cons_zero, List.set_cons_succ]
  refine scr_pure (v := ?_) rfl rfl (fun w' => ?_) ?_
  rotate_left
  focus (go_simp; try rfl; done)
  simp only [List.getElem_toArray, List.getElem_cons_succ, List.getElem_cons_zero, Act.put, List.setIfInBounds_toArray, List.set_cons_zero, List.set_cons_succ]
  unfold wpScript
  go_wp2_with fail
  go_loopw [3, 17] (fun v i w1 => ∃ j : Nat, j ≤ R + 1 ∧ i = .int .i64 (j : Int) ∧ Hid (OB w1 v (K.take (16 * j)) ∧ Below w.heap.size w w1 ∧ (∀ x, fpv v x → w.heap.size ≤ x))) (fun _ i _ => R + 1 - (intOf i).toNat)
  case atStart => exact ⟨0, by omega, rfl, Lib.hid ⟨by rw [show 16 * 0 = 0 from rfl, List.take_zero]; exact OB.nil w5, hb5.out, fun x hx => by simp [fpv, Value.ownBlock] at hx⟩⟩
  case round =>
    obtain ⟨j, hj, rfl, HV⟩ := hrel
    by_cases hlt : j < R + 1
    · have HC := Lib.hid (H.out.below HV.out.2.1)
      obtain ⟨X, hX⟩ : ∃ X, X = (K.drop (16 * j)).take 16 := ⟨_, rfl⟩
      have hXl : X.length = 16 := by rw [hX]; simp; omega
      have rng := HC.out.round j (by omega)
      rw [← hX] at rng
      have RNG := Lib.hid rng
      have hXm : (X.map B).length = 16 := by rw [List.length_map]; exact hXl
      have hXs : (barr X).size = 16 := by rw [barr_size]; exact hXl
      have hz16 : (barr (List.replicate 16 (0 : UInt8))).size = 16 := by rw [barr_size]; rfl
      have b0 : Blk (wr.alloc (.cells (barr (List.replicate 16 0)) 31)) wr.heap.size 31 (barr (List.replicate 16 0)) := Blk.new _ _ _
      have hKt : (K.take (16 * j)).length = 16 * j := by rw [List.length_take]; omega
      have HX := Lib.hid hX
      clear rng hX
      obtain ⟨i0, hi, hz0, hz1, hz2⟩ := info_parts info8
      have hsl2 : ∀ w', (Instr.sliceAt 31 (.pointer (some ⟨wr.heap.size, 0, none⟩)) none none none).run Try.prog w' = .ok (.slice (some ⟨wr.heap.size, 0, none⟩) 16 16) w' := fun w' => by
        have hal : Try.prog.arrayLen 31 = 16 := by kernel_rfl
        rw [run_sliceAt_array_all w' 31 ⟨wr.heap.size, 0, none⟩ (by simp [Program.arrayLen, Program.elem, Try.underlying31])]
        have hsz : (sizeOf (Try.prog.elem 31)).run Try.prog w' = .ok 1 w' := by kernel_rfl
        rw [hsz, Result.andThen_ok, hal]
        unfold slicedAt
        rw [if_neg (by omega), add_lit]
      obtain ⟨v, hv⟩ : ∃ v, v = u3 := ⟨_, rfl⟩
      go_wp2_with (first | ((with_reducible change wpList _ _ _ (Oper.mk _ (Op.load 31 _) _ _ _ _ :: _) _ _); refine wpList_load_mid rfl 31 _ rfl b (1 + j * 16) rfl (X.map B) _ RNG.out Try.underlying31 rfl (size16.trans (by rw [hXm])) ?_) | ((with_reducible change wpList _ _ _ (Oper.mk _ (Op.store 31 _ _) _ _ _ _ :: _) _ _); refine wpList_store_var wr.heap.size (barr X) rfl rfl b0 size16 hXs hz16 (barr_one _) ?_; intro w3 B3 O3; have HB3 := Lib.hid B3; have O4 := Lib.hid O3; clear B3 O3; have hown3 : w3.ownsRow 0 5 1 u3 (16 * j) ((K.take (16 * j)).map B) := (by have h := (HV.out.1.keep ((Only.refl (fun _ => False) wr).alloc (.cells (barr (List.replicate 16 0)) 31)) (fun _ _ h => h)).keep O4.out (fun x hx hh => by have := HV.out.1.lt x hx; omega); unfold OB at h; rw [hKt] at h; exact h); have hy3 : Sl w3 1 (.slice (some ⟨wr.heap.size, 0, none⟩) 16 16) 16 (X.map B) := (by have h := (HB3.out.owns (by omega)).rd; rw [hXl] at h; have h2 := Sl.of_bytes h; rw [hXl] at h2; exact h2)) | (at_builtin; refine wpList_append_sl w3 rfl _ _ 22 rfl 5 i0 _ 1 1 Try.underlying22 hi hz0 hz1 hz2 rfl (by decide) u3 (16 * j) ((K.take (16 * j)).map B) rfl hown3 (.slice (some ⟨wr.heap.size, 0, none⟩) 16 16) 16 (X.map B) rfl hy3 (by unfold maxLen; omega) (by omega) ?_))
      intro v' w4 hown hgrow hat _
      have hb3 : Below w.heap.size w w3 := (HV.out.2.1.alloc HV.out.2.1.size _).trans (O4.out.below0 (fun x hx hh => by have := HV.out.2.1.size; omega) (by have := HV.out.2.1.size; simp; omega))
      have HN : Hid (OB w4 v' (K.take (16 * (j + 1))) ∧ Below w.heap.size w w4 ∧ (∀ x, fpv v' x → w.heap.size ≤ x)) := by
        refine Lib.hid ⟨?_, hb3.grown hgrow hb3.size (fun x hx => HV.out.2.2 x hx), fun x hx => ?_⟩
        · unfold OB
          rw [show 16 * (j + 1) = 16 * j + 16 from by omega, List.take_add, ← HX.out, List.length_append, hKt, hXl, List.map_append]
          rw [← List.map_take] at hown
          exact hown
        · have hx' : v'.ownBlock = some x := hx
          rcases hat with hat | hat
          · exact HV.out.2.2 x (show u3.ownBlock = some x by rw [← hat]; exact hx')
          · rw [hat] at hx'
            have := hb3.size
            simp at hx'
            omega
      clear hown hgrow hat hb3 hown3 hy3 hi hz0 hz1 hz2
      go_wp2
      go_roundw
      case rel => exact ⟨j + 1, by omega, by go_num, HN⟩
      case measure => simp [intOf]; omega
    · obtain rfl : j = R + 1 := by omega
      go_wp2
      go_ret
      exact ⟨_, rfl, HV.out.1, HV.out.2.1, HV.out.2.2⟩
end Go.Proofs.Ytihmgkjmebdioaa
