/- The walks of SlotNil and SlotNames. Condition of SlotNil: the list has at most 2^47 - 4096 bytes (the form's own reach). -/
import Derived.Test.YtaphjdfpffhpfaaRows
import Derived.Test.YtaphjdfpffhpfaaSlotEnv
import Derived.Test.YtaphjdfpffhpfaaEqArr
namespace Go.Proofs.Ytaphjdfpffhpfaa
open Go.RowKit
set_option maxRecDepth 100000
set_option linter.unusedVariables false
set_option linter.unusedSimpArgs false

theorem cells8 : Try.prog.cellsOf 5 = 1 := by kernel_rfl
theorem infoU8 : Try.prog.info? 5 = some ((Try.prog.info? 5).getD default) := by kernel_rfl
theorem eq1024 (l m : List UInt8) (hl : l.length = 1024) (hm : m.length = 1024) (w : World) : (Op.equalIn 10000 49 (.agg (barr l)) (.agg (barr m))).run Try.prog w = .ok (l == m) w :=
  run_eql_bytes Try.underlying49 infoU8 cells8 Try.underlying5 (by kernel_rfl) l m hl hm w
theorem slotGuard : Try.prog.eqGuardType Try.prog.depth 49 = false := by kernel_rfl
theorem eqPad (l : List UInt8) (hl : l.length ≤ 1024) (w : World) : (Op.equalIn 10000 49 (.agg (barr (pad l))) (.agg (barr (pad l)))).run Try.prog w = .ok true w := by
  rw [eq1024 (pad l) (pad l) (pad_len l hl) (pad_len l hl) w, beq_self_eq_true]
theorem eqPads (l m : List UInt8) (hl : l.length ≤ 1024) (hm : m.length ≤ 1024) (b : Bool) (hb : (pad l == pad m) = b) (w : World) : (Op.equalIn 10000 49 (.agg (barr (pad l))) (.agg (barr (pad m)))).run Try.prog w = .ok b w := by
  rw [eq1024 (pad l) (pad m) (pad_len l hl) (pad_len m hm) w, hb]
theorem rep1024 : List.replicate 1024 (0 : UInt8) = 0 :: 0 :: 0 :: List.replicate 1021 0 := by
  rw [show (1024 : Nat) = 1021 + 1 + 1 + 1 from rfl, List.replicate_succ, List.replicate_succ, List.replicate_succ]
theorem pad3 (x y z : UInt8) : pad [x, y, z] = x :: y :: z :: List.replicate 1021 0 := by simp [pad]
theorem pad1 (x : UInt8) : pad [x] = x :: 0 :: 0 :: List.replicate 1021 0 := by
  unfold pad
  rw [show 1024 - [x].length = 1021 + 1 + 1 from rfl, List.replicate_succ, List.replicate_succ]
  rfl
/-- what 'api.Slot{..}' is made of -/
theorem slotZ : ∃ Z : Array Value, (∀ w, (zeroValue 49).run Try.prog w = .ok (.agg Z) w) ∧ ¬ Z = #[] ∧ Z.size = 1024 ∧ Z = barr (pad []) ∧
    (∀ x : UInt8, Z.setIfInBounds 0 (.int .u8 (x.toNat : Int)) = barr (pad [x])) ∧
    ∀ x y z : UInt8, ((Z.setIfInBounds 0 (.int .u8 (x.toNat : Int))).setIfInBounds 1 (.int .u8 (y.toNat : Int))).setIfInBounds 2 (.int .u8 (z.toNat : Int)) = barr (pad [x, y, z]) := by
  have hs : (barr (List.replicate 1024 (0 : UInt8))).size = 1024 := by rw [barr_size]; simp
  refine ⟨barr (List.replicate 1024 0), zero1024, fun h => ?_, hs, by rw [pad_nil], fun x => ?_, fun x y z => ?_⟩
  · rw [h] at hs
    simp at hs
  · rw [barr_set, rep1024, pad1]
    rfl
  · rw [barr_set, barr_set, barr_set, rep1024, pad3]
    rfl
set_option maxHeartbeats 1000000 in
theorem slotAwake_any (w : World) : Calls Try.prog 31 #[] w fun e w' => e = .returned (.bool true) ∧ Below w.heap.size w w' := by
  go_enter Try.func31, Try.ntmps31
  go_wp2_with fail
  refine (newM_env (Env.start w)).mono ?_
  rintro e w1 ⟨p, rfl, h5⟩
  have H1 := Lib.hid h5
  clear h5
  go_wp2_with fail
  have H2 := Lib.hid (H1.out.lit w1.heap.size rfl [1, 2, 3] (by decide))
  clear H1
  refine (putM_env H2.out 0 rfl (Src.whole H2.out 0 1 (by decide) rfl)).mono ?_
  rintro e w2 ⟨he, h5⟩
  have he' : e = .returned (.int .i64 0) := he
  subst he'
  have H3 : Hid (Env w w2 [obM (.pointer (some ⟨p, 0, none⟩)) (.is [1, 2, 3])]) := Lib.hid (Env.drop (obs := [_]) h5)
  clear h5 he H2
  go_wp2_with fail
  have H4 := Lib.hid (H3.out.lit w2.heap.size rfl [9] (by decide))
  clear H3
  refine (putM_env H4.out 0 rfl (Src.whole H4.out 0 1 (by decide) rfl)).mono ?_
  rintro e w3 ⟨he, h5⟩
  have he' : e = .returned (.int .i64 0) := he
  subst he'
  have H5 : Hid (Env w w3 [obM (.pointer (some ⟨p, 0, none⟩)) (.is [9])]) := Lib.hid (Env.drop (obs := [_]) h5)
  clear h5 he H4
  go_wp2_with fail
  refine (lookM_env H5.out 0 rfl).mono ?_
  rintro e w4 ⟨he, h5⟩
  have he' : e = .returned (.agg (barr (pad [9]))) := he
  subst he'
  have H6 := Lib.hid h5
  clear h5 he H5
  obtain ⟨Z, hz, hne, hzs, hz0, hset, hset3⟩ := slotZ
  have hset := hset 9
  have hset' : Z.setIfInBounds 0 (.int .u8 9) = barr (pad [9]) := hset
  clear hset hz0 hset3
  go_wp2_with ((with_reducible change wpList _ _ _ (Oper.mk _ (Op.binOp BinOp.eql 49 _ _ _) _ _ _ _ :: _) _ _); refine wpList_eql_arr (pad [9]) (pad [9]) true rfl rfl rfl slotGuard (eqPad [9] (by decide)) ?_)
  refine (lenM_env H6.out 0 rfl).mono ?_
  rintro e w5 ⟨he, rfl⟩
  have he' : e = .returned (.int .i64 1) := he
  subst he'
  go_wp2
  go_ret
  exact ⟨rfl, H6.out.base⟩
theorem slot2 {w0 w : World} {obs : List Ob} (b : Nat) (h : Env w0 w (obs ++ [obM (.pointer none) .no, obM (.pointer (some ⟨b, 0, none⟩)) .raw])) (k : Nat) (hk : k < 2) :
    ∃ p s, (#[Value.pointer none, .pointer (some ⟨b, 0, none⟩)] : Array Value)[k]? = some p ∧ s.made = false ∧ s.bs = [] ∧ (obs ++ [obM (.pointer none) .no, obM (.pointer (some ⟨b, 0, none⟩)) .raw])[obs.length + k]? = some (obM p s) := by
  rcases k with _ | _ | k
  · exact ⟨_, .no, rfl, rfl, rfl, by simp⟩
  · exact ⟨_, .raw, rfl, rfl, rfl, by simp⟩
  · omega
set_option maxHeartbeats 2000000 in
theorem slotNil.walk {w : World} (v : Value) (l : List UInt8) (hl : In w v l) : Calls Try.prog 5 #[v] w fun e w' => e = .returned (.bool true) ∧ Below w.heap.size w w' := by
  obtain ⟨ao, cap, rfl, _⟩ := hl.1.form
  clear hl
  go_enter Try.func5, Try.ntmps5
  go_wp2_with fail
  refine (newP_env (Env.start w)).mono ?_
  rintro e w1 ⟨q, rfl, h5⟩
  have H1 := Lib.hid h5
  clear h5
  go_wp2_with fail
  refine (newM_env H1.out).mono ?_
  rintro e w2 ⟨p, rfl, h5⟩
  have H2 := Lib.hid h5
  clear h5 H1
  go_wp2_with fail
  have H3 : Hid (Env w ((w2.alloc (.cells #[.pointer none, .int .i64 0] 31)).alloc (.cells #[.pointer none, .pointer (some ⟨w2.heap.size, 0, none⟩)] 27))
      ([obP q (some []), obM (.pointer (some ⟨p, 0, none⟩)) (.is []), obK (w2.heap.size + 1) 27 #[.pointer none, .pointer (some ⟨w2.heap.size, 0, none⟩)]] ++ [obM (.pointer none) .no, obM (.pointer (some ⟨w2.heap.size, 0, none⟩)) .raw])) := by
    have h1 := (H2.out.push (F' := fun x => x = w2.heap.size) (w' := w2.alloc (.cells #[.pointer none, .int .i64 0] 31)) (obM (.pointer (some ⟨w2.heap.size, 0, none⟩)) .raw) ⟨w2.heap.size, rfl, rfl, Blk.new _ _ _⟩ ((Below.refl _ _).alloc (Nat.le_refl _) _) (fun x hx => by rw [hx]; exact Nat.le_refl _)).newK 27 #[.pointer none, .pointer (some ⟨w2.heap.size, 0, none⟩)]
    have h2 := h1.push (F' := fun _ => False) (obM (.pointer none) .no) ⟨rfl, rfl⟩ (Below.refl _ _) (fun x hx => hx.elim)
    refine Lib.hid (h2.pick (fun j => if j = 2 then 3 else if j = 3 then 4 else if j = 4 then 2 else j) ?_ ?_)
    · intro i j hi hj
      simp at hi hj
      rcases i with _ | _ | _ | _ | _ | i <;> rcases j with _ | _ | _ | _ | _ | j <;> simp <;> omega
    · intro j ob hj
      rcases j with _ | _ | _ | _ | _ | j
      all_goals simp at hj ⊢
      all_goals exact hj
  clear H2
  obtain ⟨B, hB⟩ : ∃ B, B = w2.heap.size := ⟨_, rfl⟩
  obtain ⟨w3, hw3⟩ : ∃ w3, w3 = ((w2.alloc (.cells #[.pointer none, .int .i64 0] 31)).alloc (.cells #[.pointer none, .pointer (some ⟨w2.heap.size, 0, none⟩)] 27)) := ⟨_, rfl⟩
  rw [← hw3] at H3 ⊢
  rw [← hB] at H3 ⊢
  clear hB hw3
  have HL : ∀ w', Env w w' ([obP q (some []), obM (.pointer (some ⟨p, 0, none⟩)) (.is []), obK (B + 1) 27 #[.pointer none, .pointer (some ⟨B, 0, none⟩)]] ++ [obM (.pointer none) .no, obM (.pointer (some ⟨B, 0, none⟩)) .raw]) → ∀ k, k < 2 → ∃ r s, w'.cell? ⟨B + 1, k, none⟩ = some r ∧ s.made = false ∧ s.bs = [] ∧ ∃ F, MemP w' r F s := by
    intro w' h k hk
    obtain ⟨r, s, h1, h2, h3, h4⟩ := slot2 B h k hk
    obtain ⟨F, f1, _⟩ := h.mem _ h4
    exact ⟨r, s, (h.blk 2 rfl).cellAt k h1, h2, h3, F, f1⟩
  have HL := Lib.hid HL
  obtain ⟨obs, hobs⟩ : ∃ obs, obs = ([obP q (some []), obM (.pointer (some ⟨p, 0, none⟩)) (.is []), obK (B + 1) 27 #[.pointer none, .pointer (some ⟨B, 0, none⟩)]] ++ [obM (.pointer none) .no, obM (.pointer (some ⟨B, 0, none⟩)) .raw]) := ⟨_, rfl⟩
  rw [← hobs] at H3 HL
  have o0 : obs[0]? = some (obP q (some [])) := by rw [hobs]; rfl
  have o1 : obs[1]? = some (obM (.pointer (some ⟨p, 0, none⟩)) (.is [])) := by rw [hobs]; rfl
  have O0 := Lib.hid o0
  have O1 := Lib.hid o1
  clear hobs o0 o1
  go_loopw [6] (fun i w1 => ∃ k : Nat, k ≤ 2 ∧ i = .int .i64 (k : Int) ∧ Hid (Env w w1 obs)) (fun i _ => 2 - (intOf i).toNat)
  case atStart => exact ⟨0, by omega, rfl, H3⟩
  case round =>
    obtain ⟨k, hk, rfl, H⟩ := hrel
    clear H3
    by_cases hlt : k < 2
    · obtain ⟨r, s, c1, hs, hb0, F, f1⟩ := HL.out _ H.out k hlt
      have M := Lib.hid f1
      have HS := Lib.hid hs
      have HB0 := Lib.hid hb0
      have hB1 : B + 1 < wr.heap.size := World.block_lt_of_cell? wr _ c1
      clear f1 hs hb0
      go_wp2_with fail
      refine (putM_no r F s _ _ M.out HS.out).mono ?_
      rintro e w' ⟨rfl, rfl⟩
      go_wp2_with fail
      refine (wipeM_no r F s _ _ M.out HS.out).mono ?_
      rintro e w' ⟨rfl, rfl⟩
      go_wp2_with fail
      refine (lookM_any r F s _ M.out).mono ?_
      rintro e w4 ⟨he, hb⟩
      rw [HB0.out] at he
      subst he
      have M4 : Hid (MemP w4 r F s) := Lib.hid (M.out.keep (Only.nothing hb) (fun _ _ h => h))
      have H4 := Lib.hid (H.out.below hb)
      clear hb M H c1 hB1
      obtain ⟨Z, hz, hne, hzs, hz0, hset, hset3⟩ := slotZ
      have hz2 : ∀ w, (zeroValue 49).run Try.prog w = .ok (.agg (barr (pad []))) w := by rw [← hz0]; exact hz
      clear hz hne hzs hz0 hset hset3
      go_wp2_with ((with_reducible change wpList _ _ _ (Oper.mk _ (Op.binOp BinOp.neq 49 _ _ _) _ _ _ _ :: _) _ _); refine wpList_neq_arr (pad []) (pad []) true rfl rfl rfl slotGuard (eqPad [] (by decide)) ?_)
      refine (bytesM_no r F s _ M4.out HS.out).mono ?_
      rintro e w' ⟨rfl, rfl⟩
      go_wp2_with fail
      refine (lenM_any r F s _ M4.out).mono ?_
      rintro e w' ⟨he, rfl⟩
      rw [HB0.out] at he
      have he' : e = .returned (.int .i64 0) := he
      subst he'
      clear he
      go_wp2_with fail
      refine (sameM_no1 _ r _ F s _ M4.out HS.out).mono ?_
      rintro e w' ⟨rfl, rfl⟩
      go_wp2_with fail
      obtain ⟨G, g1, _⟩ := H4.out.mem 1 O1.out
      refine (sameM_no2 _ _ r G F (.is []) s _ g1 M4.out rfl HS.out).mono ?_
      rintro e w' ⟨rfl, rfl⟩
      clear g1
      go_wp2_with fail
      refine (sameM_no1 _ r r F s _ M4.out HS.out).mono ?_
      rintro e w' ⟨rfl, rfl⟩
      go_wp2
      go_roundw
      case rel => exact ⟨k + 1, by omega, by go_num, H4⟩
      case measure => simp [intOf]; omega
    · obtain rfl : k = 2 := by omega
      go_wp2_with fail
      refine (lenP_env H.out 0 O0.out).mono ?_
      rintro e w' ⟨he, rfl⟩
      have he' : e = .returned (.int .i64 0) := he
      subst he'
      clear he
      go_wp2_with fail
      refine (slotAwake_any _).mono ?_
      rintro e w5 ⟨rfl, hb⟩
      have H5 := Lib.hid (H.out.below hb)
      clear hb H
      go_wp2
      go_ret
      exact ⟨rfl, H5.out.base⟩
end Go.Proofs.Ytaphjdfpffhpfaa
