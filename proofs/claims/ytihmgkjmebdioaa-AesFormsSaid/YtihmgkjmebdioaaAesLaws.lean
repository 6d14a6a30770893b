/- What the laws on ciphers begin with: rising bytes, the document's examples, what is none. -/
import Derived.Test.YtihmgkjmebdioaaRows
import Derived.Test.YtihmgkjmebdioaaBlk10
import Derived.Test.YtihmgkjmebdioaaAesKnow
namespace Go.Proofs.Ytihmgkjmebdioaa
open Go.RowKit
set_option maxRecDepth 100000
set_option linter.unusedVariables false
set_option linter.unusedSimpArgs false

theorem rise_len (n : Nat) (y : UInt8) : (rise n y).length = n := by simp [rise]
theorem rise_succ (n : Nat) (y : UInt8) : rise (n + 1) y = rise n y ++ [UInt8.ofNat (n * y.toNat % 256)] := by simp [rise, List.range_succ]
theorem rise_zero (y : UInt8) : rise 0 y = [] := rfl
set_option maxHeartbeats 1000000 in
theorem rising_any (n : Nat) (y : UInt8) (w : World) (hn : n ≤ 1000) : Calls Try.prog 29 #[.int .i64 (n : Int), .int .u8 (y.toNat : Int)] w (NewBytes (rise n y) w) := by
  obtain ⟨i0, hi, hz0, hz1, hz2⟩ := info_parts info8
  have HI := Lib.hid (And.intro hi (And.intro hz0 (And.intro hz1 hz2)))
  clear hi hz0 hz1 hz2
  go_enter Try.func29, Try.ntmps29
  go_wp2_with fail
  go_loopw [5, 6, 7] (fun v x i w1 => ∃ j : Nat, j ≤ n ∧ i = .int .i64 (j : Int) ∧ x = .int .u8 (((UInt8.ofNat (j * y.toNat % 256)).toNat : Nat) : Int) ∧ Hid (OB w1 v (rise j y) ∧ Below w.heap.size w w1 ∧ (∀ x, fpv v x → w.heap.size ≤ x))) (fun _ _ i _ => n - (intOf i).toNat)
  case atStart => exact ⟨0, by omega, rfl, by simp, Lib.hid ⟨OB.nil w, Below.refl _ _, fun x hx => by simp [fpv, Value.ownBlock] at hx⟩⟩
  case round =>
    obtain ⟨j, hj, rfl, rfl, HV⟩ := hrel
    by_cases hlt : j < n
    · obtain ⟨x, hx⟩ : ∃ x, x = UInt8.ofNat (j * y.toNat % 256) := ⟨_, rfl⟩
      rw [← hx]
      have hxn : ((x.toNat : Int) + (y.toNat : Int)) % 256 = ((UInt8.ofNat ((j + 1) * y.toNat % 256)).toNat : Int) := by
        rw [hx, u8_of _ (by omega), u8_of _ (by omega), Nat.add_mul, Nat.one_mul]
        omega
      have HX := Lib.hid hx
      have HXN := Lib.hid hxn
      clear hx hxn
      have hown : (wr.alloc (.cells #[.int .u8 (x.toNat : Int)] 5)).ownsRow 0 5 1 u5 j ((rise j y).map B) := by
        have h1 := HV.out.1.keep ((Only.refl (fun _ => False) wr).alloc (.cells #[.int .u8 (x.toNat : Int)] 5)) (fun _ _ h => h)
        unfold OB at h1
        rw [rise_len] at h1
        exact h1
      obtain ⟨hi, hz0, hz1, hz2⟩ := HI.out
      go_wp2_with (at_builtin; refine wpList_append_lies _ rfl _ _ 22 rfl 0 5 i0 _ 1 1 Try.underlying22 hi hz0 hz1 hz2 rfl (by decide) u5 j ((rise j y).map B) rfl hown ⟨wr.heap.size, 0, none⟩ 1 1 [.int .u8 (x.toNat : Int)] rfl rfl (World.news_of_block (heap_alloc_new _ _)) (lent_one _) (by decide) (by unfold maxLen; omega) (by omega) (Nat.zero_le _) _ rfl ?_)
      intro g' cap' w2 hown2 hgrow hat hlt2
      have HN : Hid (OB w2 (.slice (some ⟨g', 0, none⟩) (j + 1) cap') (rise (j + 1) y) ∧ Below w.heap.size w w2 ∧ (∀ x, fpv (.slice (some ⟨g', 0, none⟩) (j + 1) cap') x → w.heap.size ≤ x)) := by
        refine Lib.hid ⟨?_, (HV.out.2.1.alloc HV.out.2.1.size _).grown hgrow (by simp; have := HV.out.2.1.size; omega) (fun x hx => HV.out.2.2 x hx), fun z hz => ?_⟩
        · unfold OB
          rw [rise_succ, List.length_append, rise_len, List.map_append, ← HX.out]
          simpa [B] using hown2
        · have e : g' = z := by simpa [fpv, Value.ownBlock] using hz
          subst e
          rcases hat with hat | hat
          · exact HV.out.2.2 g' hat
          · rw [hat]; simp; have := HV.out.2.1.size; omega
      clear hown2 hgrow hat hlt2 hown hi hz0 hz1 hz2
      go_wp2
      go_roundw
      case rel => exact ⟨j + 1, by omega, by go_num, by rw [← HXN.out], HN⟩
      case measure => simp [intOf]; omega
    · obtain rfl : j = n := by omega
      go_wp2
      go_ret
      exact ⟨_, rfl, HV.out.1, HV.out.2.1, HV.out.2.2⟩
def WWA : List UInt8 := WW1 ++ WW2 ++ WW3
theorem guard16 : Try.prog.eqGuardType Try.prog.depth 31 = false := by kernel_rfl
theorem eqAt16 (l m : List UInt8) (hl : l.length = 16) (hm : m.length = 16) (b : Bool) (hb : (l == m) = b) (w : World) : (Op.equalIn 10000 31 (.agg (barr l)) (.agg (barr m))).run Try.prog w = .ok b w := by
  rw [run_eql_bytes Try.underlying31 (by kernel_rfl : Try.prog.info? 5 = some ((Try.prog.info? 5).getD default)) (by kernel_rfl) Try.underlying5 (by kernel_rfl) l m hl hm w, hb]
theorem size48 : (Try.prog.info? 71).map (·.size) = some 48 := by kernel_rfl
theorem blk_self (l : List UInt8) (h : l.length = 16) : blk l = l := tab_self l h
set_option maxHeartbeats 4000000 in
theorem aesAwake_any (w : World) : Calls Try.prog 8 #[] w fun e w' => e = .returned (.bool true) ∧ Below w.heap.size w w' := by
  go_enter Try.func8, Try.ntmps8
  have b0 : Blk (w.alloc (.cells (barr (List.replicate 48 0)) 71)) w.heap.size 71 (barr (List.replicate 48 0)) := Blk.new _ _ _
  have hz48 : ∀ w, (zeroValue 71).run Try.prog w = .ok (.agg (barr (List.replicate 48 0))) w := by intro w; kernel_rfl
  have hz0 : (barr (List.replicate 48 (0 : UInt8))).size = 48 := by rw [barr_size]; rfl
  have hw48 : (barr WWA).size = 48 := by rw [barr_size]; rfl
  have HK := Lib.hid ((Env.start w).newK 71 (barr (List.replicate 48 0)))
  generalize hZ : barr (List.replicate 48 0) = Z at b0 hz48 hz0 HK
  clear hZ
  go_wp2_with (first | ((with_reducible change wpList _ _ _ (Oper.mk (some 7) (Op.build _ _) _ _ _ _ :: _) _ _); refine wpList_value (.agg (barr WW1)) rfl (by kernel_rfl) ?_) | ((with_reducible change wpList _ _ _ (Oper.mk (some 8) (Op.build _ _) _ _ _ _ :: _) _ _); refine wpList_value (.agg (barr WW2)) rfl (by kernel_rfl) ?_) | ((with_reducible change wpList _ _ _ (Oper.mk (some 9) (Op.build _ _) _ _ _ _ :: _) _ _); refine wpList_value (.agg (barr WW3)) rfl (by kernel_rfl) ?_) | ((with_reducible change wpList _ _ _ (Oper.mk (some 10) (Op.build _ _) _ _ _ _ :: _) _ _); refine wpList_value (.agg (barr WWA)) rfl (by kernel_rfl) ?_) | ((with_reducible change wpList _ _ _ (Oper.mk _ (Op.store 71 _ _) _ _ _ _ :: _) _ _); refine wpList_store_var w.heap.size (barr WWA) rfl rfl b0 size48 hw48 hz0 (barr_one _) ?_; intro w1 B1 O1; have H1 := Lib.hid (HK.out.turnBlk 0 rfl B1 O1); clear B1 O1))
  obtain ⟨bw, hbw⟩ : ∃ bw, bw = w.heap.size := ⟨_, rfl⟩
  have H1 : Hid (Env w w1 [obK bw 71 (barr WWA)]) := by rw [hbw]; exact H1
  rw [← hbw]
  clear hbw b0 hz48 hz0 HK
  go_loopw [2] (fun i w1 => ∃ k : Nat, k ≤ 3 ∧ i = .int .i64 (k : Int) ∧ Hid (Env w w1 [obK bw 71 (barr WWA)])) (fun i _ => 3 - (intOf i).toNat)
  case atStart => exact ⟨0, by omega, rfl, H1⟩
  case round =>
    obtain ⟨k, hk, rfl, H⟩ := hrel
    clear H1
    by_cases hlt : k < 3
    · obtain ⟨n, W, hnI, hRL, hn32, hn0, hEnc, hWl, hWat⟩ := awake_case k hlt
      have HENC := Lib.hid hEnc
      have HRL := Lib.hid hRL
      have HWAT := Lib.hid hWat
      clear hEnc hRL hWat
      go_wp2_with fail
      refine (rising_any n 1 wr (by omega)).mono ?_
      rintro e w2 ⟨v, rfl, h1, h2, h3⟩
      have H2 := Lib.hid (H.out.pushB h1 h2 h3)
      clear h1 h2 h3 H
      go_wp2_with fail
      refine (newC_nil H2.out (H2.out.bytes 1 rfl).rd (by rw [rise_len]; exact HRL.out)).mono ?_
      rintro e w3 ⟨p, rfl, h5⟩
      rw [rise_len] at h5
      have H3 : Hid (Env w w3 [obK bw 71 (barr WWA), obB v (rise n 1), obC (.pointer (some ⟨p, 0, none⟩)) (some (n, sched (rise n 1)))]) := Lib.hid h5
      clear h5 H2
      go_wp2_with fail
      refine (rising_any 16 17 w3 (by omega)).mono ?_
      rintro e w4 ⟨v2, rfl, h1, h2, h3⟩
      have H4 := Lib.hid (H3.out.pushB h1 h2 h3)
      clear h1 h2 h3 H3
      go_wp2_with fail
      refine (block_any v2 (rise 16 17) w4 (H4.out.bytes 3 rfl).rd).mono ?_
      rintro e w5 ⟨he, hb⟩
      rw [blk_self _ (rise_len 16 17)] at he
      subst he
      have H5 := Lib.hid (H4.out.below hb)
      clear hb H4
      go_wp2_with fail
      refine (encC_nil H5.out 2 rfl hn0 (rise 16 17) (rise_len 16 17)).mono ?_
      rintro e w6 ⟨he, h5⟩
      rw [HENC.out] at he
      subst he
      have H6 := Lib.hid h5
      clear h5 H5
      have hWs : (barr W).size = 16 := by rw [barr_size]; exact hWl
      have hz16 : (barr (List.replicate 16 (0 : UInt8))).size = 16 := by rw [barr_size]; rfl
      have b6 : Blk (w6.alloc (.cells (barr (List.replicate 16 0)) 31)) w6.heap.size 31 (barr (List.replicate 16 0)) := Blk.new _ _ _
      go_wp2_with ((with_reducible change wpList _ _ _ (Oper.mk _ (Op.store 31 _ _) _ _ _ _ :: _) _ _); refine wpList_store_var w6.heap.size (barr W) rfl rfl b6 size16 hWs hz16 (barr_one _) ?_; intro w7 B7 O7; have HB7 := Lib.hid B7; have H7 := Lib.hid ((H6.out.newK 31 (barr (List.replicate 16 0))).turnBlk 4 rfl B7 O7); clear B7 O7)
      have hkI : (k : Int) < 3 := by omega
      have r1 : w7.rangeAt w6.heap.size 0 (W.map B) := by
        have := HB7.out.range
        rwa [barr_toList] at this
      have r2 : w7.rangeAt bw (k * 16) (W.map B) := by
        intro j v hv
        have hj : j < 16 := by
          have := (List.getElem?_eq_some_iff.1 hv).1
          rwa [List.length_map, hWl] at this
        refine (H7.out.blk 0 rfl).cellAt _ ?_
        have h2 := HWAT.out j hj
        show ((WW1 ++ WW2 ++ WW3).map B).toArray[k * 16 + j]? = some v
        rw [List.getElem?_toArray, List.getElem?_map, Nat.mul_comm k 16, h2, ← List.getElem?_map]
        exact hv
      have R1 := Lib.hid r1
      have R2 := Lib.hid r2
      have hWm : (W.map B).length = 16 := by rw [List.length_map]; exact hWl
      clear r1 r2
      refine wp_region_tame (fun w' => w' = w7.drewN 1) 0 8 (by kernel_rfl) (by kernel_rfl) (fun _ _ d _ _ h => (by cases d <;> exact h)) rfl (by decide) ?_
      simp only [List.take_succ_cons, List.take_zero, List.drop_succ_cons, List.drop_zero]
      refine wpPre_nil ?_
      refine wpTame_run (v := ?_) (by decide) rfl (fun w' hS => ?_) ?_
      rotate_left
      focus (subst hS; go_simp; try rfl; done)
      simp only [Act.put, List.setIfInBounds_toArray, List.set_cons_zero, List.set_cons_succ]
      refine wpTame_run (v := ?_) (by decide) rfl (fun w' hS => ?_) ?_
      rotate_left
      focus (subst hS; go_simp; try rfl; done)
      simp only [Act.put, List.setIfInBounds_toArray, List.set_cons_zero, List.set_cons_succ]
      refine wpTame_run (v := ?_) (by decide) rfl (fun w' hS => ?_) ?_
      rotate_left
      focus (subst hS; go_simp; try rfl; done)
      simp only [Act.put, List.setIfInBounds_toArray, List.set_cons_zero, List.set_cons_succ]
      refine wpTame_load (cs := W.map B) (by decide) rfl rfl rfl Try.underlying31 rfl size16 hWm (fun w' hS => by subst hS; exact R1.out) ?_
      simp only [List.getElem_toArray, List.getElem_cons_succ, List.getElem_cons_zero, Act.put, List.setIfInBounds_toArray, List.set_cons_zero, List.set_cons_succ]
      refine wpTame_run (v := ?_) (by decide) rfl (fun w' hS => ?_) ?_
      rotate_left
      focus (subst hS; go_simp; try rfl; done)
      simp only [Act.put, List.setIfInBounds_toArray, List.set_cons_zero, List.set_cons_succ]
      refine wpTame_run (v := ?_) (by decide) rfl (fun w' hS => ?_) ?_
      rotate_left
      focus (subst hS; go_simp; try rfl; done)
      simp only [Act.put, List.setIfInBounds_toArray, List.set_cons_zero, List.set_cons_succ]
      refine wpTame_load (cs := W.map B) (b := bw) (off := k * 16) (by decide) rfl rfl rfl Try.underlying31 rfl size16 hWm (fun w' hS => by subst hS; exact R2.out) ?_
      simp only [List.getElem_toArray, List.getElem_cons_succ, List.getElem_cons_zero, Act.put, List.setIfInBounds_toArray, List.set_cons_zero, List.set_cons_succ]
      refine wpTame_run (v := .bool (!true)) (by decide) rfl (fun w' hS => exec_neq_arr W W true rfl rfl guard16 (eqAt16 W W hWl hWl true (beq_self_eq_true _))) ?_
      simp only [List.getElem_toArray, List.getElem_cons_succ, List.getElem_cons_zero, Act.put, List.setIfInBounds_toArray, List.set_cons_zero, List.set_cons_succ]
      refine wpTame_nil ?_
      intro w8 hw8
      have H8 : Hid (Env w w8 [obK bw 71 (barr WWA)]) := by
        rw [hw8]
        exact Lib.hid (Env.drop (obs := [_]) (Env.drop (obs := [_, _]) (Env.drop (obs := [_, _, _]) (Env.drop (obs := [_, _, _, _]) (H7.out.draw 1)))))
      clear hw8 H7 R1 R2 HB7
      go_wp2
      go_roundw
      case rel => exact ⟨k + 1, by omega, by go_num, H8⟩
      case measure => simp [intOf]; omega
    · obtain rfl : k = 3 := by omega
      go_wp2
      go_ret
      exact ⟨rfl, H.out.base⟩
end Go.Proofs.Ytihmgkjmebdioaa
