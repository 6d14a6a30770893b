/- The walk of SlotNames: a closed statement. -/
import Derived.Test.YtaphjdfpffhpfaaRows
import Derived.Test.YtaphjdfpffhpfaaSlotNil
namespace Go.Proofs.Ytaphjdfpffhpfaa
open Go.RowKit
set_option maxRecDepth 100000
set_option linter.unusedVariables false
set_option linter.unusedSimpArgs false
theorem putC_long (s : Mst) (l : List UInt8) (h : s.made = true) (hl : 1024 < l.length) : putC s l = 9 := by unfold putC; rw [h, if_pos rfl, if_neg (by omega)]
theorem putS_long (s : Mst) (l : List UInt8) (h : s.made = true) (hl : 1024 < l.length) : putS s l = s := by unfold putS; rw [h, if_pos rfl, if_neg (by omega)]
theorem putC_fit (s : Mst) (l : List UInt8) (h : s.made = true) (hl : l.length ≤ 1024) : putC s l = 0 := by unfold putC; rw [h, if_pos rfl, if_pos hl]
theorem putS_fit (s : Mst) (l : List UInt8) (h : s.made = true) (hl : l.length ≤ 1024) : putS s l = .is l := by unfold putS; rw [h, if_pos rfl, if_pos hl]
set_option maxHeartbeats 8000000 in
theorem slotNames.walk (w : World) : Calls Try.prog 4 #[] w fun e w' => e = .returned (.bool true) ∧ Below w.heap.size w w' := by
  obtain ⟨i0, hi, hz0, hz1, hz2⟩ := info_parts info8
  have HI := Lib.hid (And.intro hi (And.intro hz0 (And.intro hz1 hz2)))
  clear hi hz0 hz1 hz2
  go_enter Try.func4, Try.ntmps4
  go_wp2_with fail
  refine (newM_env (Env.start w)).mono ?_
  rintro e w1 ⟨p, rfl, h5⟩
  have H1 := Lib.hid h5
  clear h5
  obtain ⟨P, hP⟩ : ∃ P : Value, P = .pointer (some ⟨p, 0, none⟩) := ⟨_, rfl⟩
  rw [← hP] at H1 ⊢
  clear hP
  go_wp2_with fail
  have H2 := Lib.hid (H1.out.lit w1.heap.size rfl [1, 2, 3] (by decide))
  clear H1
  refine (putM_env H2.out 0 rfl (Src.whole H2.out 0 1 (by decide) rfl)).mono ?_
  rintro e w2 ⟨he, h5⟩
  have he' : e = .returned (.int .i64 0) := he
  subst he'
  have H3 : Hid (Env w w2 [obM P (.is [1, 2, 3])]) := Lib.hid (Env.drop (obs := [_]) h5)
  clear h5 he H2
  go_wp2_with fail
  refine (lookM_env H3.out 0 rfl).mono ?_
  rintro e w3 ⟨he, h5⟩
  have he' : e = .returned (.agg (barr (pad [1, 2, 3]))) := he
  subst he'
  have H4 := Lib.hid h5
  clear h5 he H3
  obtain ⟨Z, hz, hne, hzs, hz0, hset, hset3⟩ := slotZ
  have hset' : ((Z.setIfInBounds 0 (.int .u8 1)).setIfInBounds 1 (.int .u8 2)).setIfInBounds 2 (.int .u8 3) = barr (pad [1, 2, 3]) := hset3 1 2 3
  clear hset hz0 hset3
  have hZ1 : ¬ Z.size ≤ 1 := by omega
  have hZ2 : ¬ Z.size ≤ 2 := by omega
  go_wp2_with ((with_reducible change wpList _ _ _ (Oper.mk _ (Op.binOp BinOp.eql 49 _ _ _) _ _ _ _ :: _) _ _); refine wpList_eql_arr (pad [1, 2, 3]) (pad [1, 2, 3]) true rfl rfl rfl slotGuard (eqPad [1, 2, 3] (by decide)) ?_)
  refine (bytesM_env H4.out 0 rfl).mono ?_
  rintro e w4 ⟨v, rfl, h5⟩
  have H5 : Hid (Env w w4 [obM P (.is [1, 2, 3]), obB v [1, 2, 3]]) := Lib.hid h5
  clear h5 H4
  go_wp2_with fail
  have H6 := Lib.hid (H5.out.lit w4.heap.size rfl [1, 2, 3] (by decide))
  clear H5
  refine (sameBytes_env H6.out (H6.out.bytes 1 rfl).rd (H6.out.bytes 2 rfl).rd).mono ?_
  rintro e w5 ⟨he, h5⟩
  rw [decide_eq_true rfl] at he
  subst he
  have H7 : Hid (Env w w5 [obM P (.is [1, 2, 3])]) := Lib.hid (Env.drop (obs := [_]) (Env.drop (obs := [_, _]) h5))
  clear h5 H6
  go_wp2_with fail
  refine (lenM_env H7.out 0 rfl).mono ?_
  rintro e w' ⟨he, rfl⟩
  have he' : e = .returned (.int .i64 3) := he
  subst he'
  clear he hz hne hzs hset' hZ1 hZ2
  obtain ⟨hi, hz0, hz1, hz2⟩ := HI.out
  go_wp2_with (refine wpList_make_full _ rfl _ _ 35 rfl 0 5 i0 _ 1 Try.underlying35 hi hz0 hz1 .i64 .i64 _ _ 1025 rfl rfl rfl rfl (mk48 (by omega) hz2) (mkmax (by omega)) (Nat.zero_le _) ?_)
  intro w6 hown hgrow
  have ho := made_bs hown
  have hb6 := (Below.refl w5.heap.size w5).grown hgrow (Nat.le_refl _) (fun k hk => by cases hk)
  have H8 := Lib.hid (H7.out.pushB ho hb6 (fun x hx => by
    have e : w5.heap.size = x := by simpa [fpv, Value.ownBlock] using hx
    omega))
  clear hown hgrow hi hz0 hz1 hz2 ho hb6 H7
  go_wp2_with fail
  refine (putM_env H8.out 0 rfl (Src.whole H8.out 0 1 (by decide) rfl)).mono ?_
  rintro e w7 ⟨he, h5⟩
  rw [putC_long _ _ rfl (by rw [List.length_replicate]; omega)] at he
  rw [putS_long _ _ rfl (by rw [List.length_replicate]; omega)] at h5
  subst he
  have H9 : Hid (Env w w7 [obM P (.is [1, 2, 3])]) := Lib.hid (Env.drop (obs := [_]) h5)
  clear h5 H8
  obtain ⟨hi, hz0, hz1, hz2⟩ := HI.out
  go_wp2_with (refine wpList_make_full _ rfl _ _ 35 rfl 0 5 i0 _ 1 Try.underlying35 hi hz0 hz1 .i64 .i64 _ _ 1024 rfl rfl rfl rfl (mk48 (by omega) hz2) (mkmax (by omega)) (Nat.zero_le _) ?_)
  intro w8 hown hgrow
  have ho := made_bs hown
  have hb6 := (Below.refl w7.heap.size w7).grown hgrow (Nat.le_refl _) (fun k hk => by cases hk)
  have H10 := Lib.hid (H9.out.pushB ho hb6 (fun x hx => by
    have e : w7.heap.size = x := by simpa [fpv, Value.ownBlock] using hx
    omega))
  clear hown hgrow hi hz0 hz1 hz2 ho hb6 H9
  go_wp2_with fail
  refine (putM_env H10.out 0 rfl (Src.whole H10.out 0 1 (by decide) rfl)).mono ?_
  rintro e w9 ⟨he, h5⟩
  rw [putC_fit _ _ rfl (by rw [List.length_replicate]; omega)] at he
  rw [putS_fit _ _ rfl (by rw [List.length_replicate]; omega)] at h5
  subst he
  have H11 : Hid (Env w w9 [obM P (.is (List.replicate 1024 0))]) := Lib.hid (Env.drop (obs := [_]) h5)
  clear h5 H10
  go_wp2_with fail
  refine (newP_env H11.out).mono ?_
  rintro e w10 ⟨q, rfl, h5⟩
  have H12 := Lib.hid h5
  clear h5 H11
  go_wp2_with fail
  refine (wipeM_env H12.out 0 1 (by decide) rfl rfl (Few.nil.room (by omega))).mono ?_
  rintro e w11 ⟨he, h5⟩
  have he' : e = .returned (.int .i64 0) := he
  subst he'
  clear he
  replace h5 : Env w w11 [obM P (.is []), obP q (some [⟨8, 1024, 1⟩])] := h5
  have H13 := Lib.hid h5
  clear h5 H12
  go_wp2_with fail
  refine (lookM_env H13.out 0 rfl).mono ?_
  rintro e w12 ⟨he, h5⟩
  have he' : e = .returned (.agg (barr (pad []))) := he
  subst he'
  have H14 := Lib.hid h5
  clear h5 he H13
  obtain ⟨Z, hz, hne, hzs, hz0, hset, hset3⟩ := slotZ
  have hz2 : ∀ w, (zeroValue 49).run Try.prog w = .ok (.agg (barr (pad []))) w := by rw [← hz0]; exact hz
  clear hz hne hzs hz0 hset hset3
  go_wp2_with ((with_reducible change wpList _ _ _ (Oper.mk _ (Op.binOp BinOp.eql 49 _ _ _) _ _ _ _ :: _) _ _); refine wpList_eql_arr (pad []) (pad []) true rfl rfl rfl slotGuard (eqPad [] (by decide)) ?_)
  refine (lenM_env H14.out 0 rfl).mono ?_
  rintro e w' ⟨he, rfl⟩
  have he' : e = .returned (.int .i64 0) := he
  subst he'
  clear he hz2
  go_wp2_with fail
  have H15 := Lib.hid (H14.out.lit w12.heap.size rfl [0, 0] (by decide))
  clear H14
  refine (putM_env H15.out 0 rfl (Src.whole H15.out 0 2 (by decide) rfl)).mono ?_
  rintro e w13 ⟨he, h5⟩
  have he' : e = .returned (.int .i64 0) := he
  subst he'
  have H16 : Hid (Env w w13 [obM P (.is [0, 0]), obP q (some [⟨8, 1024, 1⟩])]) := Lib.hid (Env.drop (obs := [_, _]) h5)
  clear h5 he H15
  go_wp2_with fail
  refine (lenM_env H16.out 0 rfl).mono ?_
  rintro e w' ⟨he, rfl⟩
  have he' : e = .returned (.int .i64 2) := he
  subst he'
  clear he
  go_wp2_with fail
  refine (newM_env H16.out).mono ?_
  rintro e w14 ⟨r, rfl, h5⟩
  have H17 := Lib.hid h5
  clear h5 H16
  have hpp : decide (pad (Mst.is [0, 0]).bs = pad (Mst.is []).bs) = true := by
    rw [decide_eq_true_eq]
    show pad [0, 0] = pad []
    rw [pad_nil, rep1024]
    unfold pad
    rw [show 1024 - [(0 : UInt8), 0].length = 1021 + 1 from rfl, List.replicate_succ]
    rfl
  go_wp2_with fail
  refine (sameM_env H17.out 0 2 1 (by decide) (by decide) rfl rfl rfl (Room.some (by decide) (by decide))).mono ?_
  rintro e w15 ⟨he, h5⟩
  unfold sameC at he
  rw [hpp] at he
  have he' : e = .returned (.bool true) := he
  subst he'
  clear he hpp
  replace h5 : Env w w15 [obM P (.is [0, 0]), obP q (some [⟨8, 1024, 1⟩, ⟨6, 1024, 1⟩])] := Env.drop (obs := [_, _]) h5
  have H18 := Lib.hid h5
  clear h5 H17
  go_wp2_with fail
  refine (slotAwake_any _).mono ?_
  rintro e w16 ⟨rfl, hb⟩
  have h5 := H18.out.below hb
  clear hb
  have H19 := Lib.hid h5
  clear h5 H18
  go_wp2_with fail
  refine (runsP_env H19.out 1 rfl (by simp)).mono ?_
  rintro e w17 ⟨vp, rfl, h5⟩
  have H20 := Lib.hid h5
  clear h5 H19
  go_wp2_with fail
  have H21 := Lib.hid (H20.out.litRuns w17.heap.size rfl [⟨8, 1024, 1⟩, ⟨6, 1024, 1⟩] (by decide))
  clear H20
  refine (sameRuns_env H21.out (H21.out.runs 2 rfl).rd (H21.out.runs 3 rfl).rd).mono ?_
  rintro e w18 ⟨he, h5⟩
  rw [decide_eq_true rfl] at he
  subst he
  have H22 := Lib.hid h5
  clear h5 H21
  go_wp2
  go_ret
  exact ⟨rfl, H22.out.base⟩
end Go.Proofs.Ytaphjdfpffhpfaa
