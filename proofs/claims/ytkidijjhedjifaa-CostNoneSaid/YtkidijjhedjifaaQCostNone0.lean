/- The statement CostNone: for every input turnkey/turnkeylaw22.CostNone returns true, and each argument reads as it did. Its walk is proved in CostNone; here is the step from the walk to the row. -/
import Derived.Test.YtkidijjhedjifaaRows
import Derived.Test.YtkidijjhedjifaaQB9
/- The law CostNone: nil and a zero Public answer that nothing was made. -/
namespace Go.Proofs.Ytkidijjhedjifaa
open Go.RowKit
set_option maxRecDepth 100000
set_option linter.unusedVariables false
set_option linter.unusedSimpArgs false
attribute [local go_sem] Oper.semAt_some
theorem insNone (w : World) : Calls Try.prog 86 #[.slice none 0 0, .int .i64 0, .int .i64 0] w fun e w' => e = .returned (.tuple #[]) ∧ w' = w := by
  go_enter Try.func86, Try.ntmps86
  go_wp2_with fail
  go_loopw [6] (fun iv wx => iv = .int .i64 1 ∧ wx = w) (fun _ _ => 0)
  case atStart => exact ⟨rfl, rfl⟩
  case round =>
    obtain ⟨rfl, rfl⟩ := hrel
    go_wp2_with fail
    first | refine bodyPost_ret (results_none rfl _ _ _) rfl ?_ | refine bodyPost_end (results_none rfl _ _ _) rfl ?_
    exact ⟨rfl, rfl⟩
theorem len64None (w : World) : Calls Try.prog 96 #[.int .u64 0] w fun e w' => ∃ n, e = .returned (.int .i64 n) ∧ w' = w := by
  go_enter Try.func96, Try.ntmps96
  go_wp2_with fail
  go_ret
  exact ⟨_, rfl, rfl⟩
theorem lenNone (w : World) : Calls Try.prog 54 #[.int .u64 0] w fun e w' => ∃ n, e = .returned (.int .i64 n) ∧ w' = w := by
  go_enter Try.func54, Try.ntmps54
  go_wp2_with fail
  refine (len64None w).mono ?_
  rintro e w1 ⟨n, rfl, rfl⟩
  go_wp2_with fail
  go_ret
  exact ⟨n, rfl, rfl⟩
theorem pdqNone (n : Int) (w : World) : Calls Try.prog 53 #[.slice none 0 0, .int .i64 0, .int .i64 0, .int .i64 n] w fun e w' => e = .returned (.tuple #[]) ∧ w' = w := by
  go_enter Try.func53, Try.ntmps53
  go_wp2_with fail
  go_loopw [1, 2] (fun a b wx => a = .int .i64 0 ∧ b = .int .i64 0 ∧ wx = w) (fun _ _ _ => 0)
  case atStart => exact ⟨rfl, rfl, rfl⟩
  case round =>
    obtain ⟨rfl, rfl, rfl⟩ := hrel
    go_wp2_with fail
    refine (insNone _).mono ?_
    rintro e w1 ⟨rfl, rfl⟩
    go_wp2_with fail
    first | refine bodyPost_ret (results_none rfl _ _ _) rfl ?_ | refine bodyPost_end (results_none rfl _ _ _) rfl ?_
    exact ⟨rfl, rfl⟩
theorem sortNone (w : World) : Calls Try.prog 48 #[.slice none 0 0] w fun e w' => e = .returned (.tuple #[]) ∧ w' = w := by
  go_enter Try.func48, Try.ntmps48
  go_wp2_with fail
  refine (lenNone _).mono ?_
  rintro e w1 ⟨n, rfl, rfl⟩
  go_wp2_with fail
  refine (pdqNone n _).mono ?_
  rintro e w1 ⟨rfl, rfl⟩
  go_wp2_with fail
  first | refine bodyPost_ret (results_none rfl _ _ _) rfl ?_ | refine bodyPost_end (results_none rfl _ _ _) rfl ?_
  exact ⟨rfl, rfl⟩
theorem held_none {q : Value} {w : World} (hm : Calls Try.prog 46 #[q] w fun e w' => e = .returned (.bool false) ∧ w = w') :
    Calls Try.prog 29 #[q] w fun e w' => e = .returned (.slice none 0 0) ∧ w' = w := by
  go_enter Try.func29, Try.ntmps29
  go_wp2_with fail
  refine hm.mono ?_
  rintro e w1 ⟨rfl, rfl⟩
  go_wp2_with fail
  refine (sortNone _).mono ?_
  rintro e w1 ⟨rfl, rfl⟩
  go_wp2_with fail
  go_ret
  exact ⟨rfl, rfl⟩
theorem nil_nil : ∀ w : World, (binOp BinOp.neq 57 (.map none) (.map none)).run Try.prog w = .ok (.bool false) w := by
  intro w
  first | kernel_rfl | rfl | simp [binOp]
theorem made_zero {w : World} {b : Nat} (h0 : w.cell? ⟨b, 0, none⟩ = some (.map none)) : Calls Try.prog 46 #[.pointer (some ⟨b, 0, none⟩)] w fun e w' => e = .returned (.bool false) ∧ w = w' := by
  go_enter Try.func46, Try.ntmps46
  have hne := nil_nil
  go_wp2
  go_ret
  exact ⟨rfl, rfl⟩
theorem do_none {q : Value} (s : Sk) {w : World} (hm : ∀ wx, Below w.heap.size w wx → Calls Try.prog 46 #[q] wx fun e w' => e = .returned (.bool false) ∧ wx = w') :
    Calls Try.prog 28 #[q, skV s] w fun e w' => e = .returned (.tuple #[.slice none 0 0, .int .i64 1]) ∧ Below w.heap.size w w' := by
  have HM := Lib.hid hm
  clear hm
  unfold skV
  go_enter Try.func28, Try.ntmps28
  go_wp2_with fail
  refine (HM.out _ ((Below.refl _ _).alloc (Nat.le_refl _) _)).mono ?_
  rintro e w1 ⟨rfl, rfl⟩
  go_wp2
  go_ret2
  exact ⟨rfl, (Below.refl _ _).alloc (Nat.le_refl _) _⟩
namespace costNone
set_option maxHeartbeats 4000000 in
theorem walk (v : Value) (s : Sk) {w : World} (hin : OKsk s ∧ v = .agg (KS.cv s).toArray) :
    Calls Try.prog 7 #[v] w fun e w' => e = .returned (.bool true) ∧ Below w.heap.size w w' := by
  obtain ⟨_, rfl⟩ := hin
  show Calls Try.prog 7 #[.agg #[.int .u8 s.kind, .int .i64 s.handle, .int .u8 s.alg, .int .i64 s.count, .int .i64 s.out, .int .i64 s.data, .int .i64 s.more]] w _
  have hdo : ∀ (q : Value) (w : World), (∀ wx, Below w.heap.size w wx → Calls Try.prog 46 #[q] wx fun e w' => e = .returned (.bool false) ∧ wx = w') → Calls Try.prog 28 #[q, .agg #[.int .u8 s.kind, .int .i64 s.handle, .int .u8 s.alg, .int .i64 s.count, .int .i64 s.out, .int .i64 s.data, .int .i64 s.more]] w fun e w' => e = .returned (.tuple #[.slice none 0 0, .int .i64 1]) ∧ Below w.heap.size w w' := fun q w h => do_none s h
  have HD := Lib.hid hdo
  clear hdo
  go_enter Try.func7, Try.ntmps7
  go_wp2_with fail
  have hb0 : Below w.heap.size w (w.alloc (.cells #[.int .u8 s.kind, .int .i64 s.handle, .int .u8 s.alg, .int .i64 s.count, .int .i64 s.out, .int .i64 s.data, .int .i64 s.more] 43)) := (Below.refl _ _).alloc (Nat.le_refl _) _
  have hk0 := Blk.new w 43 #[.int .u8 s.kind, .int .i64 s.handle, .int .u8 s.alg, .int .i64 s.count, .int .i64 s.out, .int .i64 s.data, .int .i64 s.more]
  obtain ⟨W, hW⟩ : ∃ x, w.alloc (.cells #[.int .u8 s.kind, .int .i64 s.handle, .int .u8 s.alg, .int .i64 s.count, .int .i64 s.out, .int .i64 s.data, .int .i64 s.more] 43) = x := ⟨_, rfl⟩
  obtain ⟨B, hB⟩ : ∃ x, w.heap.size = x := ⟨_, rfl⟩
  rw [hW] at hk0 hb0
  rw [hB] at hk0 hb0 ⊢
  rw [hW]
  clear hW
  refine (awake_any _).mono ?_
  rintro e w1 ⟨rfl, hb1⟩
  have hk1 := hk0.only (Only.nothing hb1) (fun h => h)
  have HB1 := Lib.hid (hb0.trans (hb1.mono (by rw [← hB]; rw [← hB] at hb0; exact hb0.size)))
  clear hk0 hb1 hb0
  go_upto_region 4 with fail
  have hbz : Below w1.heap.size w1 (w1.alloc (.cells #[.map none, .map none] 60)) := (Below.refl _ _).alloc (Nat.le_refl _) _
  have hp2 := Blk.new w1 60 #[.map none, .map none]
  have hk2 := hk1.only (Only.nothing hbz) (fun h => h)
  obtain ⟨w2, hw2⟩ : ∃ x, w1.alloc (.cells #[.map none, .map none] 60) = x := ⟨_, rfl⟩
  obtain ⟨P, hP⟩ : ∃ x, w1.heap.size = x := ⟨_, rfl⟩
  rw [hw2] at hp2 hk2 hbz
  have HB2 := Lib.hid (HB1.out.trans (hbz.mono (by have := HB1.out.size; omega)))
  rw [hP] at hp2
  try rw [hw2]
  try rw [hP]
  clear hk1 hbz hw2 hP HB1
  have c0 := hk2.cellAt 0 rfl
  have c1 := hk2.cellAt 1 rfl
  have c2 := hk2.cellAt 2 rfl
  have c3 := hk2.cellAt 3 rfl
  have c4 := hk2.cellAt 4 rfl
  have c5 := hk2.cellAt 5 rfl
  have c6 := hk2.cellAt 6 rfl
  go_wp2_with fail
  clear c0 c1 c2 c3 c4 c5 c6
  refine (HD.out (.pointer none) w2 (fun wx _ => made_nil wx)).mono ?_
  rintro e w3 ⟨rfl, hb3⟩
  have hk3 := hk2.only (Only.nothing hb3) (fun h => h)
  have hp3 := hp2.only (Only.nothing hb3) (fun h => h)
  have HB3 := Lib.hid (HB2.out.trans (hb3.mono (by have := HB2.out.size; omega)))
  clear hk2 hp2 hb3 HB2
  have c0 := hk3.cellAt 0 rfl
  have c1 := hk3.cellAt 1 rfl
  have c2 := hk3.cellAt 2 rfl
  have c3 := hk3.cellAt 3 rfl
  have c4 := hk3.cellAt 4 rfl
  have c5 := hk3.cellAt 5 rfl
  have c6 := hk3.cellAt 6 rfl
  go_wp2_with fail
  clear c0 c1 c2 c3 c4 c5 c6
  refine (HD.out (.pointer (some ⟨P, 0, none⟩)) w3 (fun wx hbx => made_zero ((hp3.only (Only.nothing hbx) (fun h => h)).cellAt 0 rfl))).mono ?_
  rintro e w4 ⟨rfl, hb4⟩
  have hp4 := hp3.only (Only.nothing hb4) (fun h => h)
  have HB4 := Lib.hid (HB3.out.trans (hb4.mono (by have := HB3.out.size; omega)))
  have HP := Lib.hid (made_zero (hp4.cellAt 0 rfl))
  clear hk3 hp3 hb4 HB3 hp4
  go_wp2_with fail
  refine (held_none (made_nil w4)).mono ?_
  rintro e w5 ⟨rfl, rfl⟩
  go_wp2_with fail
  refine (held_none HP.out).mono ?_
  rintro e w5 ⟨rfl, rfl⟩
  go_wp2_with fail
  go_ret
  rw [hB]
  exact ⟨rfl, HB4.out⟩
end costNone
end Go.Proofs.Ytkidijjhedjifaa
namespace Go.Proofs.Ytkidijjhedjifaa.costNone
open Go.ChangeShapes Go.WideShapes Go.ChangeAt Go.RowKit
set_option linter.unusedVariables false

set_option maxRecDepth 100000 in
theorem lifted (os : Os) (started : os.Started) (H : Type) (enc : TypeId × Value → H) :
    ReturnsInHanded {} Try.checked os 7 .any (Rows.costNoneSpec.pre6 enc Try.prog Try.f7 Rows.costNoneRow.domain false) (Rows.costNoneSpec.post enc Try.prog Try.f7 false true false false) := by
  refine returnsInHanded_of_change (C := Try.checked) own started (by kernel_rfl) Try.func7
    (ChangeSpec.witness6 (enc := enc) (C := Try.checked) false ⟨#[], #[.agg #[.int .u8 0, .int .i64 0, .int .u8 0, .int .i64 0, .int .i64 0, .int .i64 0, .int .i64 0]], []⟩ 8 (by kernel_rfl) (by kernel_rfl) (by kernel_rfl) (by kernel_rfl)) ?_
  intro W base args ds gs before hval0 hW hcnd _
  have hval : ∀ (j : Nat) t v, Try.f7.params[j]? = some t → args[j]? = some v → Value.okWide Try.prog W .any base t v := hval0
  have hW' := hW
  obtain ⟨p, q, hA0, hV, rfl, hfz, hnd⟩ := hW
  have hA : DataW.TrodAll enc Try.prog W 0 (fun _ => true) true Try.f7.params.toList args.toList ds p := hA0
  rw [Try.params7] at hA hval
  obtain ⟨v0, vs0, d0, ds0, p0, q0, hargs, rfl, rfl, h0, r0⟩ := trodAll_cons hA
  obtain ⟨rfl, rfl, rfl⟩ := trodAll_nil r0
  obtain rfl : args = #[v0] := by cases args; simp_all
  obtain ⟨rfl, rfl⟩ := trodVars_none hV
  obtain ⟨n0_0, e0⟩ := openSk (hval 0 43 v0 rfl rfl) h0
  clear hA0 hval0
  simp only [List.append_nil] at hW'
  refine (walk v0 n0_0 e0).mono fun e W' ⟨he, hg⟩ => ?_
  subst he
  exact ⟨_, rfl, law_post laidOut (by kernel_rfl) rfl rfl Try.underlying4 hW' hg rfl rfl rfl⟩

theorem over : Rows.costNoneRow.holds Try.pinned (OpenSpec.ofChange Rows.costNoneSpec) :=
  OpenClaim.holds_of_wide 7 Try.f7 rfl rfl rfl rfl rfl rfl rfl ⟨rfl, rfl, rfl, rfl, rfl⟩ rfl rfl rfl rfl rfl (by kernel_rfl) Try.func7 (by kernel_rfl)
    (of_decide_eq_true (by kernel_rfl)) (by unfold Func.isWrapper; rw [if_neg (of_decide_eq_false (by kernel_rfl))]; exact ⟨rfl, rfl⟩)
    (fun os started H enc _ => lifted os started H enc)

theorem proved : Rows.CostNoneSaid := over
end Go.Proofs.Ytkidijjhedjifaa.costNone
