/- The statement CmacForms: for every input turnkey/turnkeylaw13.CmacForms returns true, and each argument reads as it did. Its walk is proved in MacForms; here is the step from the walk to the row. -/
import Derived.Test.YtpampcokonicfaaRows
import Derived.SizedLaws
import Derived.Test.YtpampcokonicfaaQB2
import Derived.Test.YtpampcokonicfaaQB5
/- The walk of CmacForms. Condition: the list has at most 2^47 - 4096 bytes (the form's own reach). -/
namespace Go.Proofs.Ytpampcokonicfaa
open Go.RowKit
set_option maxRecDepth 100000
set_option linter.unusedVariables false
set_option linter.unusedSimpArgs false
set_option linter.unusedSimpArgs false
theorem newC_both {w0 w : World} {obs : List Ob} (h : Env w0 w obs) {u : Value} {key : List UInt8} (hu : Bs w u key) :
    Calls Try.prog 11 #[.pointer none, u] w fun e w' => (RightLen key.length ∧ ∃ b : Nat, e = .returned (.tuple #[.pointer (some ⟨b, 0, none⟩), .int .i64 0]) ∧ Env w0 w' (obs ++ [mcC b key])) ∨
      (¬ RightLen key.length ∧ e = .returned (.tuple #[.pointer none, .int .i64 7]) ∧ Env w0 w' obs) := by
  by_cases hk : RightLen key.length
  · exact (newC_nil h hu hk).mono fun e w' hh => .inl ⟨hk, hh⟩
  · exact (newC_off _ u key w hu ⟨fun h => hk (.inl h), fun h => hk (.inr (.inl h)), fun h => hk (.inr (.inr h))⟩).mono fun e w' ⟨he, hw⟩ => .inr ⟨hk, he, by rw [← hw]; exact h⟩
theorem scr_wp {P : Program} {ops : Array Oper} {Q : Exit → Act → World → Prop} {r : List (Nat × Bool)} {a : Act} {w : World} {o : Oper} {i : Nat} (ho : ops[i]? = some o) (hw : Region.wanted o (yielded ops a.tmps) = true) (h : o.wp P a w (wpScript P ops Q r) Q) : wpScript P ops Q ((i, false) :: r) a w := ⟨o, ho, .inl ⟨hw, h⟩⟩
/-- an array of sixteen bytes, all of it as a slice -/
theorem slice16 (g : Nat) (w' : World) : (Instr.sliceAt 31 (.pointer (some ⟨g, 0, none⟩)) none none none).run Try.prog w' = .ok (.slice (some ⟨g, 0, none⟩) 16 16) w' := by
  have hal : Try.prog.arrayLen 31 = 16 := by kernel_rfl
  rw [run_sliceAt_array_all w' 31 ⟨g, 0, none⟩ (by simp [Program.arrayLen, Program.elem, Try.underlying31])]
  have hsz : (sizeOf (Try.prog.elem 31)).run Try.prog w' = .ok 1 w' := by kernel_rfl
  rw [hsz, Result.andThen_ok, hal]
  unfold slicedAt
  rw [if_neg (by omega), add_lit]
set_option maxHeartbeats 8000000 in
theorem cmacForms_walk (vk : Value) (key : List UInt8) (w : World) (hk : Bs w vk key) :
    Calls Try.prog 3 #[vk] w fun e w' => e = .returned (.bool true) ∧ Below w.heap.size w w' := by
  have HK := Lib.hid hk
  obtain ⟨ao, cap, rfl, _⟩ := hk.form
  clear hk
  go_enter Try.func3, Try.ntmps3
  go_wp2_with fail
  refine (macAwake_any w).mono ?_
  rintro e w1 ⟨rfl, hb⟩
  have h5 := (Env.start w).below hb
  clear hb
  have H1 := Lib.hid h5
  clear h5
  go_wp2_with fail
  refine (newM_both H1.out (Src.old H1.out _ HK.out)).mono ?_
  rintro e w2 (⟨hR, b, c, rfl, h5⟩ | ⟨hR, rfl, h5⟩)
  · have H2 : Hid (Env w w2 [mcC c key, mcB b c (stM key []).1]) := Lib.hid h5
    have HR := Lib.hid hR
    clear h5 hR H1
    go_wp2_with fail
    refine (newC_both H2.out (HK.out.grow H2.out.base)).mono ?_
    rintro e w3 (⟨_, d, rfl, h5⟩ | ⟨hR2, rfl, h5⟩)
    · have H3 : Hid (Env w w3 [mcC c key, mcB b c (stM key []).1, mcC d key]) := Lib.hid h5
      clear h5 H2
      have E2 : Value.agg #[.int .u8 0, .int .u8 0, .int .u8 0, .int .u8 0, .int .u8 0, .int .u8 0, .int .u8 0, .int .u8 0, .int .u8 0, .int .u8 0, .int .u8 0, .int .u8 0, .int .u8 0, .int .u8 0, .int .u8 0, .int .u8 0] = .agg (barr zB) := rfl
      have HE2 := Lib.hid E2
      clear E2
      go_wp2_with fail
      rw [HE2.out]
      refine (encC_nil H3.out 2 rfl HR.out.bd.1 zB rfl).mono ?_
      rintro e w4 ⟨rfl, h5⟩
      have H4 := Lib.hid h5
      clear h5 H3
      obtain ⟨T, hT⟩ : ∃ T, enc (sched key) (key.length / 4 + 6) zB = T := ⟨_, rfl⟩
      rw [hT]
      have HT : Hid (topOf key = T) := Lib.hid hT
      have hTl : T.length = 16 := by rw [← hT]; exact enc_len _ _ _
      have hTs : (barr T).size = 16 := by rw [barr_size, hTl]
      clear hT
      have b4 : Blk (w4.alloc (.cells (barr zB) 31)) w4.heap.size 31 (barr zB) := Blk.new _ _ _
      go_upto_region 9 with ((with_reducible change wpList _ _ _ (Oper.mk _ (Op.store 31 _ _) _ _ _ _ :: _) _ _); refine wpList_store_var w4.heap.size (barr T) rfl rfl b4 size16 hTs rfl (barr_one _) ?_; intro w5 B4 O4; have H5 := Lib.hid ((H4.out.newK 31 (barr zB)).turnBlk 3 rfl B4 O4); clear B4 O4)
      clear b4 H4
      generalize w4.heap.size = g8 at H5 ⊢
      have b5 := H5.out.blk 3 rfl
      go_wp2_with ((with_reducible change wpList _ _ _ (Oper.mk _ (Op.load 31 _) _ _ _ _ :: _) _ _); refine wpList_load_blk (ty := 31) g8 rfl b5 Try.underlying31 rfl size16 hTs ?_)
      refine (dbl_any T hTl w5).mono ?_
      rintro e w6 ⟨rfl, hb⟩
      have H6 := Lib.hid (H5.out.below hb)
      obtain ⟨D, hD⟩ : ∃ D, dbl T = D := ⟨_, rfl⟩
      rw [hD]
      have HD := Lib.hid hD
      have hDl : D.length = 16 := by rw [← hD]; exact dbl_length _
      have hDs : (barr D).size = 16 := by rw [barr_size, hDl]
      clear hb hD H5 b5
      have b6 : Blk (w6.alloc (.cells (barr zB) 31)) w6.heap.size 31 (barr zB) := Blk.new _ _ _
      go_upto_region 10 with ((with_reducible change wpList _ _ _ (Oper.mk _ (Op.store 31 _ _) _ _ _ _ :: _) _ _); refine wpList_store_var w6.heap.size (barr D) rfl rfl b6 size16 hDs rfl (barr_one _) ?_; intro w7 B4 O4; have H7 := Lib.hid ((H6.out.newK 31 (barr zB)).turnBlk 4 rfl B4 O4); clear B4 O4)
      clear b6 H6
      generalize w6.heap.size = g10 at H7 ⊢
      have b7 := H7.out.blk 4 rfl
      go_wp2_with ((with_reducible change wpList _ _ _ (Oper.mk _ (Op.load 31 _) _ _ _ _ :: _) _ _); refine wpList_load_blk (ty := 31) g10 rfl b7 Try.underlying31 rfl size16 hDs ?_)
      refine (dbl_any D hDl w7).mono ?_
      rintro e w8 ⟨rfl, hb⟩
      have H8 := Lib.hid (H7.out.below hb)
      obtain ⟨D2, hD2⟩ : ∃ D2, dbl D = D2 := ⟨_, rfl⟩
      rw [hD2]
      have HD2 := Lib.hid hD2
      have hD2l : D2.length = 16 := by rw [← hD2]; exact dbl_length _
      have hD2s : (barr D2).size = 16 := by rw [barr_size, hD2l]
      clear hb hD2 H7 b7
      have b8 : Blk (w8.alloc (.cells (barr zB) 31)) w8.heap.size 31 (barr zB) := Blk.new _ _ _
      go_upto_region 11 with ((with_reducible change wpList _ _ _ (Oper.mk _ (Op.store 31 _ _) _ _ _ _ :: _) _ _); refine wpList_store_var w8.heap.size (barr D2) rfl rfl b8 size16 hD2s rfl (barr_one _) ?_; intro w9 B4 O4; have H9 := Lib.hid ((H8.out.newK 31 (barr zB)).turnBlk 5 rfl B4 O4); clear B4 O4)
      clear b8 H8
      generalize w8.heap.size = g11 at H9 ⊢
      have H9 : Hid (Env w w9 [mcC c key, mcB b c (stM key []).1, mcC d key, mcT g8 T, mcT g10 D, mcT g11 D2]) := H9
      have HSL := Lib.hid slice16
      refine wp_region_script [(0, true), (2, true), (1, false), (3, false), (4, true)] (by kernel_rfl) (by kernel_rfl) (fun _ _ d _ _ h => (by cases d <;> exact h)) ?_
      intro w10 hw'
      have H10 := Lib.hid (H9.out.draw 1)
      rw [← hw'] at H10
      clear hw' H9
      refine scr_pure (v := ?_) rfl rfl (fun w' => ?_) ?_
      rotate_left
      focus (go_simp; try rfl; done)
      simp only [List.getElem_toArray, List.getElem_cons_succ, List.getElem_cons_zero, Act.put, List.setIfInBounds_toArray, List.set_cons_zero, List.set_cons_succ]
      refine scr_pure (v := .slice (some ⟨g10, 0, none⟩) 16 16) rfl rfl (fun w' => ?_) ?_
      · have q := HSL.out g10 w'
        go_simp
      simp only [List.getElem_toArray, List.getElem_cons_succ, List.getElem_cons_zero, Act.put, List.setIfInBounds_toArray, List.set_cons_zero, List.set_cons_succ]
      refine scr_call rfl rfl (by go_simp; first | exact ⟨rfl, rfl⟩ | rfl) ?_
      refine (formC_env H10.out 2 rfl HR.out.bd.1).mono ?_
      rintro e w11 ⟨v, rfl, h5⟩
      have H11 := Lib.hid h5
      clear h5 H10
      refine ⟨_, rfl, ?_⟩
      simp only [List.getElem_toArray, List.getElem_cons_succ, List.getElem_cons_zero, Act.put, List.setIfInBounds_toArray, List.set_cons_zero, List.set_cons_succ]
      obtain ⟨F, hF⟩ : ∃ F, (sched key).take (16 * (key.length / 4 + 6 + 1)) = F := ⟨_, rfl⟩
      have H11b : Hid (Env w w11 [mcC c key, mcB b c (stM key []).1, mcC d key, mcT g8 T, mcT g10 D, mcT g11 D2, obB v F]) := by rw [← hF]; exact H11
      have hFl : F.length ≤ 240 := by rw [← hF, List.length_take, sched_len key (by have := HR.out.bd; omega)]; omega
      have HF := Lib.hid hF
      clear hF H11
      refine scr_wp rfl rfl ?_
      refine wp_append_env H11b.out 6 rfl (.tmp 53) (.tmp 54) rfl rfl rfl (H11b.out.tagB 4 hDl rfl) (by rw [hDl]; omega) ?_
      intro v1 w12 h5
      have H12 : Hid (Env w w12 [mcC c key, mcB b c (stM key []).1, mcC d key, mcT g8 T, mcT g10 D, mcT g11 D2, obB v1 (F ++ D)]) := Lib.hid h5
      clear h5 H11b
      simp only [List.getElem_toArray, List.getElem_cons_succ, List.getElem_cons_zero, Act.put, List.setIfInBounds_toArray, List.set_cons_zero, List.set_cons_succ]
      refine scr_pure (v := ?_) rfl rfl (fun w' => ?_) ?_
      rotate_left
      focus (go_simp; try rfl; done)
      simp only [List.getElem_toArray, List.getElem_cons_succ, List.getElem_cons_zero, Act.put, List.setIfInBounds_toArray, List.set_cons_zero, List.set_cons_succ]
      unfold wpScript
      have q11 := HSL.out g11
      go_upto_region 13 with (at_builtin; refine wpList_append_env H12.out 6 rfl (.tmp 56) (.tmp 57) rfl rfl rfl rfl (H12.out.tagB 5 hD2l rfl) (by rw [List.length_append, hDl, hD2l]; omega) ?_; intro v2 w13 h5; have H13 : Hid (Env w w13 [mcC c key, mcB b c (stM key []).1, mcC d key, mcT g8 T, mcT g10 D, mcT g11 D2, obB v2 (F ++ D ++ D2)]) := Lib.hid h5; clear h5)
      clear H12 q11
      go_upto_region 14 with (at_builtin; refine wpList_zeros_env H13.out 6 rfl (.tmp 59) (.const (.int .i64 33)) rfl rfl rfl 33 (by omega) rfl (by rw [List.length_append, List.length_append, hDl, hD2l]; omega) ?_; intro v3 w14 h5; have H14 : Hid (Env w w14 [mcC c key, mcB b c (stM key []).1, mcC d key, mcT g8 T, mcT g10 D, mcT g11 D2, obB v3 (F ++ D ++ D2 ++ List.replicate 33 0)]) := Lib.hid h5; clear h5)
      clear H13
      go_wp2_with fail
      refine (formM_env H14.out 0 1 rfl rfl (stM_ok key []) HR.out.bd.1 HR.out.bd.2.1 (sched_len key (by have := HR.out.bd; omega))).mono ?_
      rintro e w15 ⟨v4, rfl, h5⟩
      have hform : formOf (sched key) key.length (stM key []).1 = F ++ D ++ D2 ++ List.replicate 33 0 := by
        unfold formOf MacS.tail MacS.all
        rw [HF.out, stM_nil]
        show F ++ ((dbl (topOf key) ++ (dbl (dbl (topOf key)) ++ (zB ++ zB))) ++ [UInt8.ofNat 0]) = _
        rw [HT.out, HD.out, HD2.out]
        simp only [List.append_assoc]
        rfl
      rw [hform] at h5
      have H15 := Lib.hid h5
      clear h5 H14 hform
      go_wp2_with fail
      refine (sameBytes_env H15.out (H15.out.bytes 7 rfl).rd (H15.out.bytes 6 rfl).rd).mono ?_
      rintro e w16 ⟨he, h5⟩
      rw [decide_eq_true rfl] at he
      subst he
      have H16 := Lib.hid h5
      clear h5 H15
      go_wp2
      go_ret
      exact ⟨rfl, H16.out.base⟩
    · exact absurd HR.out hR2
  · have H2 := Lib.hid h5
    have HR := Lib.hid hR
    clear h5 hR H1
    go_wp2_with fail
    refine (newC_both H2.out (HK.out.grow H2.out.base)).mono ?_
    rintro e w3 (⟨hR2, d, rfl, h5⟩ | ⟨hR2, rfl, h5⟩)
    · exact absurd hR2 HR.out
    · have H3 := Lib.hid h5
      clear h5 hR2 H2
      go_wp2
      go_ret
      exact ⟨rfl, H3.out.base⟩
theorem cmacForms.walk {w : World} (v0 : Value) (a0 : List UInt8) (h0 : In w v0 a0) :
    Calls Try.prog 3 #[v0] w fun e w' => e = .returned (.bool true) ∧ Below w.heap.size w w' := cmacForms_walk v0 a0 w h0.1
end Go.Proofs.Ytpampcokonicfaa
namespace Go.Proofs.Ytpampcokonicfaa.cmacForms
open Go.ChangeShapes Go.WideShapes Go.ChangeAt Go.RowKit
set_option linter.unusedVariables false

set_option maxRecDepth 100000 in
theorem lifted (os : Os) (started : os.Started) (H : Type) (enc : TypeId × Value → H) :
    ReturnsInHanded {} Try.checked os 3 .any (Rows.cmacFormsSpec.pre6 enc Try.prog Try.f3 Rows.cmacFormsRow.domain false) (Rows.cmacFormsSpec.post enc Try.prog Try.f3 false true false false) := by
  refine returnsInHanded_of_change_sized (C := Try.checked) own started (by kernel_rfl) Try.func3
    (ChangeSpec.witness6 (enc := enc) (C := Try.checked) false ⟨#[], #[.slice none 0 0], []⟩ 8 (by kernel_rfl) (by kernel_rfl) (by kernel_rfl) (by kernel_rfl)) ?_
  intro W base args ds gs before hval0 hW hcnd hsz _
  have hval : ∀ (j : Nat) t v, Try.f3.params[j]? = some t → args[j]? = some v → Value.okWide Try.prog W .any base t v := hval0
  have hW' := hW
  obtain ⟨p, q, hA0, hV, rfl, hfz, hnd⟩ := hW
  have hA : DataW.TrodAll enc Try.prog W 0 (fun _ => true) true Try.f3.params.toList args.toList ds p := hA0
  rw [Try.params3] at hA hval
  obtain ⟨v0, vs0, d0, ds0, p0, q0, hargs, rfl, rfl, h0, r0⟩ := trodAll_cons hA
  obtain ⟨rfl, rfl, rfl⟩ := trodAll_nil r0
  obtain rfl : args = #[v0] := by cases args; simp_all
  obtain ⟨rfl, rfl⟩ := trodVars_none hV
  obtain ⟨a0, e0⟩ := openBytesS hsz 0 rfl rfl (hval 0 22 v0 rfl rfl) h0
  clear hA0 hval0
  simp only [List.append_nil] at hW'
  refine (walk v0 a0 e0).mono fun e W' ⟨he, hg⟩ => ?_
  subst he
  exact ⟨_, rfl, law_post laidOut (by kernel_rfl) rfl rfl Try.underlying4 hW' hg rfl rfl rfl⟩

theorem over : Rows.cmacFormsRow.holds Try.pinned (OpenSpec.ofChange Rows.cmacFormsSpec) :=
  OpenClaim.holds_of_wide 3 Try.f3 rfl rfl rfl rfl rfl rfl rfl ⟨rfl, rfl, rfl, rfl, rfl⟩ rfl rfl rfl rfl rfl (by kernel_rfl) Try.func3 (by kernel_rfl)
    (of_decide_eq_true (by kernel_rfl)) (by unfold Func.isWrapper; rw [if_neg (of_decide_eq_false (by kernel_rfl))]; exact ⟨rfl, rfl⟩)
    (fun os started H enc _ => lifted os started H enc)

theorem proved : Rows.CmacFormsSaid := over
end Go.Proofs.Ytpampcokonicfaa.cmacForms
