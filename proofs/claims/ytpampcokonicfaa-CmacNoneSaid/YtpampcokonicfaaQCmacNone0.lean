/- The statement CmacNone: for every input turnkey/turnkeylaw13.CmacNone returns true, and each argument reads as it did. Its walk is proved in MacNone; here is the step from the walk to the row. -/
import Derived.Test.YtpampcokonicfaaRows
import Derived.Lib.SlBytesConst
import Derived.SizedLaws
import Derived.Test.YtpampcokonicfaaQB2
import Derived.Test.YtpampcokonicfaaQB5
/- The walk of CmacNone. Condition: the list has at most 2^47 - 4096 bytes (the form's own reach). -/
namespace Go.Proofs.Ytpampcokonicfaa
open Go.RowKit
set_option maxRecDepth 100000
set_option linter.unusedVariables false
set_option linter.unusedSimpArgs false
theorem Bs.lit_marked (w : World) (l : List UInt8) (e : TypeId) (fr : Nat × Nat) (hl : l.length ≤ 9223372036854775807) : Bs (w.alloc (.cells (barr l) e fr)) (.slice (some ⟨w.heap.size, 0, none⟩) l.length l.length) l := by
  refine ⟨some ⟨w.heap.size, 0, none⟩, l.length, rfl, Nat.le_refl _, hl, (fun h => by cases h), fun j hj => ⟨w.heap.size, 0, rfl, ?_⟩⟩
  rw [Nat.zero_add]
  have := heap_alloc_new w (.cells (barr l) e fr)
  unfold World.cell?
  rw [this]
  exact barr_getD l j hj
def keyT : List UInt8 := [48, 49, 50, 51, 52, 53, 54, 55, 56, 57, 97, 98, 99, 100, 101, 102]
set_option maxHeartbeats 1000000 in
theorem mnone_any (w : World) (p u : Value) (hm : ∀ wx, Below w.heap.size w wx → Calls Try.prog 48 #[p] wx fun e w'' => e = .returned (.bool false) ∧ wx = w'') :
    Calls Try.prog 39 #[p, u] w fun e w' => e = .returned (.bool true) ∧ Below w.heap.size w w' := by
  have H := Lib.hid (Env.start w)
  have HM := Lib.hid hm
  clear hm
  go_enter Try.func39, Try.ntmps39
  go_wp2_with fail
  refine (newP_env' H.out).mono ?_
  rintro e w1 ⟨q, rfl, h5⟩
  have H1 := Lib.hid h5
  have HMM := Lib.hid (HM.out w1 h5.base)
  clear h5 H HM
  go_wp2_with fail
  refine (sumM_no HMM.out).mono ?_
  rintro e w' ⟨rfl, rfl⟩
  go_wp2_with fail
  refine (cloneM_no HMM.out).mono ?_
  rintro e w' ⟨rfl, rfl⟩
  go_wp2_with fail
  refine (writeM_no HMM.out).mono ?_
  rintro e w' ⟨rfl, rfl⟩
  go_wp2_with fail
  refine (resetM_no HMM.out).mono ?_
  rintro e w' ⟨rfl, rfl⟩
  go_wp2_with fail
  refine (formM_no HMM.out).mono ?_
  rintro e w' ⟨rfl, rfl⟩
  go_wp2_with fail
  refine (wipeM_no HMM.out).mono ?_
  rintro e w' ⟨rfl, rfl⟩
  go_wp2_with fail
  refine (lenP_env' H1.out 0 rfl).mono ?_
  rintro e w' ⟨he, rfl⟩
  have he' : e = .returned (.int .i64 0) := he
  subst he'
  go_wp2
  go_ret
  exact ⟨rfl, H1.out.base⟩
set_option maxHeartbeats 1000000 in
theorem cmacNone.walk {w : World} (v : Value) (l : List UInt8) (hl : In w v l) : Calls Try.prog 8 #[v] w fun e w' => e = .returned (.bool true) ∧ Below w.heap.size w w' := by
  have HL := Lib.hid hl.1
  obtain ⟨ao, cap, rfl, _⟩ := hl.1.form
  clear hl
  go_enter Try.func8, Try.ntmps8
  go_wp2_with fail
  refine (macAwake_any w).mono ?_
  rintro e w1 ⟨rfl, hb⟩
  have h5 := (Env.start w).below hb
  clear hb
  have H1 := Lib.hid h5
  clear h5
  have hz := zeroMac
  have HR := Lib.hid (H1.out.newK 76 (macC (.pointer none) zM))
  generalize hZ : macC (.pointer none) zM = Z at hz HR
  have HZ := Lib.hid hZ
  clear hZ H1
  have hcv : (convert 22 22 (.slice (some ⟨w1.heap.size + 1, 0, none⟩) 16 16)).run Try.prog ((w1.alloc (.cells Z 76)).alloc (.cells #[.int .u8 48, .int .u8 49, .int .u8 50, .int .u8 51, .int .u8 52, .int .u8 53, .int .u8 54, .int .u8 55, .int .u8 56, .int .u8 57, .int .u8 97, .int .u8 98, .int .u8 99, .int .u8 100, .int .u8 101, .int .u8 102] 5)) = .ok (.slice (some ⟨w1.heap.size + 1, 0, none⟩) 16 16) ((w1.alloc (.cells Z 76)).alloc (.cells #[.int .u8 48, .int .u8 49, .int .u8 50, .int .u8 51, .int .u8 52, .int .u8 53, .int .u8 54, .int .u8 55, .int .u8 56, .int .u8 57, .int .u8 97, .int .u8 98, .int .u8 99, .int .u8 100, .int .u8 101, .int .u8 102] 5 (16, 17))) := by
    have h := Lib.run_convert_bytes_const (P := Try.prog) (w1.alloc (.cells Z 76)) 22 5 #[.int .u8 48, .int .u8 49, .int .u8 50, .int .u8 51, .int .u8 52, .int .u8 53, .int .u8 54, .int .u8 55, .int .u8 56, .int .u8 57, .int .u8 97, .int .u8 98, .int .u8 99, .int .u8 100, .int .u8 101, .int .u8 102] 16 16 Try.underlying22 Try.underlying5
    have hs : (w1.alloc (.cells Z 76)).heap.size = w1.heap.size + 1 := by simp
    rw [hs] at h
    exact h
  have hbs := Bs.lit_marked (w1.alloc (.cells Z 76)) keyT 5 (16, 17) (by decide)
  have hs : (w1.alloc (.cells Z 76)).heap.size = w1.heap.size + 1 := by simp
  rw [hs] at hbs
  have HBS : Hid (Bs ((w1.alloc (.cells Z 76)).alloc (.cells #[.int .u8 48, .int .u8 49, .int .u8 50, .int .u8 51, .int .u8 52, .int .u8 53, .int .u8 54, .int .u8 55, .int .u8 56, .int .u8 57, .int .u8 97, .int .u8 98, .int .u8 99, .int .u8 100, .int .u8 101, .int .u8 102] 5 (16, 17))) (.slice (some ⟨w1.heap.size + 1, 0, none⟩) 16 16) keyT) := hbs
  have H2 : Hid (Env w ((w1.alloc (.cells Z 76)).alloc (.cells #[.int .u8 48, .int .u8 49, .int .u8 50, .int .u8 51, .int .u8 52, .int .u8 53, .int .u8 54, .int .u8 55, .int .u8 56, .int .u8 57, .int .u8 97, .int .u8 98, .int .u8 99, .int .u8 100, .int .u8 101, .int .u8 102] 5 (16, 17))) [obK w1.heap.size 76 Z]) := Lib.hid (HR.out.below ((Below.refl _ _).alloc (Nat.le_refl _) _))
  clear HR hbs hs
  go_wp2_with fail
  clear hcv hz
  refine (newM_nil (Env.start _) (Src.old (Env.start _) 0 HBS.out) (.inl rfl)).mono ?_
  rintro e w2 ⟨b, c, rfl, h5⟩
  have H3 := Lib.hid h5
  clear h5 HBS
  go_wp2_with fail
  refine (wipeK_nil H3.out 0 1 (by decide) (.inl rfl) rfl rfl).mono ?_
  rintro e w3 ⟨rfl, h5⟩
  have H4 := Lib.hid h5
  have HA := Lib.hid (H2.out.below h5.base)
  clear h5 H3 H2
  go_wp2_with fail
  refine (mnone_any w3 (.pointer none) _ (fun wx _ => mmade_nil wx)).mono ?_
  rintro e w4 ⟨rfl, hb⟩
  have H5 := Lib.hid (H4.out.below hb)
  have HB := Lib.hid (HA.out.below hb)
  clear hb H4 HA
  go_wp2_with fail
  refine (mnone_any w4 _ _ (fun wx hx => mmade_no _ zM _ (by rw [HZ.out]; exact (HB.out.below hx).blk 0 rfl))).mono ?_
  rintro e w5 ⟨rfl, hb⟩
  have H6 := Lib.hid (H5.out.below hb)
  have HC := Lib.hid (HB.out.below hb)
  clear hb H5 HB
  go_wp2_with fail
  refine (mnone_any w5 _ _ (fun wx hx => mmade_no _ zM _ ((H6.out.below hx).blk 1 rfl))).mono ?_
  rintro e w6 ⟨rfl, hb⟩
  have HD := Lib.hid (HC.out.below hb)
  clear hb H6 HC
  go_wp2
  go_ret
  exact ⟨rfl, HD.out.base⟩
end Go.Proofs.Ytpampcokonicfaa
namespace Go.Proofs.Ytpampcokonicfaa.cmacNone
open Go.ChangeShapes Go.WideShapes Go.ChangeAt Go.RowKit
set_option linter.unusedVariables false

set_option maxRecDepth 100000 in
theorem lifted (os : Os) (started : os.Started) (H : Type) (enc : TypeId × Value → H) :
    ReturnsInHanded {} Try.checked os 8 .any (Rows.cmacNoneSpec.pre6 enc Try.prog Try.f8 Rows.cmacNoneRow.domain false) (Rows.cmacNoneSpec.post enc Try.prog Try.f8 false true false false) := by
  refine returnsInHanded_of_change_sized (C := Try.checked) own started (by kernel_rfl) Try.func8
    (ChangeSpec.witness6 (enc := enc) (C := Try.checked) false ⟨#[], #[.slice none 0 0], []⟩ 8 (by kernel_rfl) (by kernel_rfl) (by kernel_rfl) (by kernel_rfl)) ?_
  intro W base args ds gs before hval0 hW hcnd hsz _
  have hval : ∀ (j : Nat) t v, Try.f8.params[j]? = some t → args[j]? = some v → Value.okWide Try.prog W .any base t v := hval0
  have hW' := hW
  obtain ⟨p, q, hA0, hV, rfl, hfz, hnd⟩ := hW
  have hA : DataW.TrodAll enc Try.prog W 0 (fun _ => true) true Try.f8.params.toList args.toList ds p := hA0
  rw [Try.params8] at hA hval
  obtain ⟨v0, vs0, d0, ds0, p0, q0, hargs, rfl, rfl, h0, r0⟩ := trodAll_cons hA
  obtain ⟨rfl, rfl, rfl⟩ := trodAll_nil r0
  obtain rfl : args = #[v0] := by cases args; simp_all
  obtain ⟨rfl, rfl⟩ := trodVars_none hV
  obtain ⟨a0, e0⟩ := openBytesS hsz 0 rfl rfl (hval 0 22 v0 rfl rfl) h0
  clear hA0 hval0
  simp only [List.append_nil] at hW'
  refine (walk v0 a0 e0).mono fun e W' ⟨he, hg⟩ => ?_
  subst he
  exact ⟨_, rfl, law_post laidOut (by kernel_rfl) rfl rfl Try.underlying4 hW' hg rfl rfl rfl⟩

theorem over : Rows.cmacNoneRow.holds Try.pinned (OpenSpec.ofChange Rows.cmacNoneSpec) :=
  OpenClaim.holds_of_wide 8 Try.f8 rfl rfl rfl rfl rfl rfl rfl ⟨rfl, rfl, rfl, rfl, rfl⟩ rfl rfl rfl rfl rfl (by kernel_rfl) Try.func8 (by kernel_rfl)
    (of_decide_eq_true (by kernel_rfl)) (by unfold Func.isWrapper; rw [if_neg (of_decide_eq_false (by kernel_rfl))]; exact ⟨rfl, rfl⟩)
    (fun os started H enc _ => lifted os started H enc)

theorem proved : Rows.CmacNoneSaid := over
end Go.Proofs.Ytpampcokonicfaa.cmacNone
