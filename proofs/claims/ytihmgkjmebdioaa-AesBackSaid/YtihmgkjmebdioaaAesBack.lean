/- The walk of AesBack. Condition: each list has at most 2^47 - 4096 bytes (the form's own reach). -/
import Derived.Test.YtihmgkjmebdioaaRows
import Derived.Test.YtihmgkjmebdioaaAesRuns
import Derived.Test.YtihmgkjmebdioaaOpen
namespace Go.Proofs.Ytihmgkjmebdioaa
open Go.RowKit
set_option maxRecDepth 100000
set_option linter.unusedVariables false
set_option linter.unusedSimpArgs false

theorem notes5 (n : Int) : noteL (noteL (noteL (noteL (noteL [⟨4, n, 1⟩] 5 n 1) 5 n 1) 5 n 1) 5 n 1) 5 n 1 = [⟨4, n, 1⟩, ⟨5, n, 5⟩] := by simp [noteL]
theorem tot2 (a b c d e f : Int) : tot [⟨a, b, c⟩, ⟨d, e, f⟩] = c + f := by simp [tot]
set_option maxHeartbeats 8000000 in
theorem aesBack_walk (vk vp vq : Value) (key p q : List UInt8) (w : World) (hk : Bs w vk key) (hp : Bs w vp p) (hq : Bs w vq q) :
    Calls Try.prog 5 #[vk, vp, vq] w fun e w' => e = .returned (.bool true) ∧ Below w.heap.size w w' := by
  have HK := Lib.hid hk
  have HP := Lib.hid hp
  have HQ := Lib.hid hq
  obtain ⟨ao, cap, rfl, k1, k2, _, _⟩ := hk.form
  obtain ⟨bo, bcap, rfl, _, _, _, _⟩ := hp.form
  obtain ⟨co, ccap, rfl, _, _, _, _⟩ := hq.form
  have hla : key.length ≤ 9223372036854775807 := by omega
  obtain ⟨n, hn⟩ : ∃ n, key.length = n := ⟨_, rfl⟩
  have HN := Lib.hid hn
  rw [hn] at hla k1 HK
  rw [hn]
  clear hk hp hq hn
  go_enter Try.func5, Try.ntmps5
  go_wp2_with fail
  refine (aesAwake_any w).mono ?_
  rintro e w1 ⟨rfl, hb⟩
  have h5 := (Env.start w).below hb
  clear hb
  have H1 := Lib.hid h5
  clear h5
  go_wp2_with fail
  refine (newP_env H1.out).mono ?_
  rintro e w2 ⟨l, rfl, h5⟩
  have H2 := Lib.hid h5
  clear h5 H1
  go_wp2_with fail
  by_cases hR : RightLen n
  · have hbs : ((n : Int) != 16) = false ∨ (((n : Int) != 16) = true ∧ ((n : Int) != 24) = false) ∨ (((n : Int) != 16) = true ∧ ((n : Int) != 24) = true ∧ ((n : Int) != 32) = false) := by
      rcases hR with rfl | rfl | rfl
      · left; rfl
      · right; left; exact ⟨rfl, rfl⟩
      · right; right; exact ⟨rfl, rfl, rfl⟩
    have hn32 : n ≤ 32 := by rcases hR with h | h | h <;> omega
    have hn0 : 0 < n := by rcases hR with h | h | h <;> omega
    have hn4 : n % 4 = 0 := by rcases hR with h | h | h <;> omega
    have HN4 := Lib.hid hn4
    refine (newC_env H2.out 0 rfl (Few.nil.room (by omega)) (Src.old H2.out 0 HK.out) (by rw [HN.out]; exact hR)).mono ?_
    rintro e w3 ⟨c, rfl, h5⟩
    rw [HN.out] at h5
    obtain ⟨S, hS⟩ : ∃ S, S = sched key := ⟨_, rfl⟩
    rw [← hS] at h5
    have hSl : S.length = 240 := by rw [hS]; exact sched_len key (by rw [HN.out]; omega)
    have H3 : Hid (Env w w3 [obP l (some [⟨4, n, 1⟩]), obC (.pointer (some ⟨c, 0, none⟩)) (some (n, S))]) := Lib.hid h5
    clear h5 hS H2 hR hn4
    obtain ⟨a, ha⟩ : ∃ a, a = enc S (n / 4 + 6) (blk p) := ⟨_, rfl⟩
    obtain ⟨d, hd⟩ : ∃ d, d = dec S (n / 4 + 6) (blk q) := ⟨_, rfl⟩
    obtain ⟨y, hy⟩ : ∃ y, y = enc S (n / 4 + 6) (blk q) := ⟨_, rfl⟩
    have ha16 : a.length = 16 := by rw [ha]; exact enc_len _ _ _
    have hd16 : d.length = 16 := by rw [hd]; exact dec_len _ _ _
    have hy16 : y.length = 16 := by rw [hy]; exact enc_len _ _ _
    have HAy : Hid (dec S (n / 4 + 6) a = blk p) := by rw [ha]; exact dec_enc _ _ _ (blk_length p)
    have HDy : Hid (enc S (n / 4 + 6) d = blk q) := by rw [hd]; exact enc_dec _ _ _ (blk_length q)
    have HEQ : Hid ((a == y) = (blk p == blk q)) := by
      have h := enc_inj S (n / 4 + 6) (blk p) (blk q) (blk_length p) (blk_length q)
      rw [← ha, ← hy] at h
      rw [Bool.eq_iff_iff, beq_iff_eq, beq_iff_eq]
      exact Lib.hid h
    have HA := Lib.hid ha
    have HD := Lib.hid hd
    have HY := Lib.hid hy
    clear ha hd hy
    obtain ⟨bp, hbp⟩ : ∃ bp, bp = blk p := ⟨_, rfl⟩
    obtain ⟨bq, hbq⟩ : ∃ bq, bq = blk q := ⟨_, rfl⟩
    have hbp16 : bp.length = 16 := by rw [hbp]; exact blk_length p
    have hbq16 : bq.length = 16 := by rw [hbq]; exact blk_length q
    rw [← hbp] at HA HAy HEQ
    rw [← hbq] at HD HDy HY HEQ
    have HBP : Hid (∀ w', Below w.heap.size w w' → Calls Try.prog 22 #[.slice bo p.length bcap] w' fun e w'' => e = .returned (.agg (barr bp)) ∧ Below w'.heap.size w' w'') := by
      rw [hbp]; exact Lib.hid (fun w' hb => block_any _ p w' (HP.out.grow hb))
    have HBQ : Hid (∀ w', Below w.heap.size w w' → Calls Try.prog 22 #[.slice co q.length ccap] w' fun e w'' => e = .returned (.agg (barr bq)) ∧ Below w'.heap.size w' w'') := by
      rw [hbq]; exact Lib.hid (fun w' hb => block_any _ q w' (HQ.out.grow hb))
    clear hbp hbq
    have hz16 : (barr (List.replicate 16 (0 : UInt8))).size = 16 := by rw [barr_size]; rfl
    have has : (barr a).size = 16 := by rw [barr_size]; exact ha16
    have hds : (barr d).size = 16 := by rw [barr_size]; exact hd16
    have hys : (barr y).size = 16 := by rw [barr_size]; exact hy16
    have hps : (barr bp).size = 16 := by rw [barr_size]; exact hbp16
    have hqs : (barr bq).size = 16 := by rw [barr_size]; exact hbq16
    have F0 : Few [(⟨4, n, 1⟩ : Rn)] 1 := ⟨by simp [tot], by simp⟩
    have F1 := F0.note 5 n
    have F2 := F1.note 5 n
    have F3 := F2.note 5 n
    have F4 := F3.note 5 n
    have F5 := F4.note 5 n
    rcases hbs with b1 | ⟨b1, b2⟩ | ⟨b1, b2, b3⟩
    all_goals
      go_wp2_with fail
      refine (HBP.out w3 H3.out.base).mono ?_
      rintro e w4 ⟨rfl, hb⟩
      have H4 := Lib.hid (H3.out.below hb)
      clear hb H3
      go_wp2_with fail
      refine (encC_env H4.out 1 0 (by decide) rfl rfl (F0.room (by omega)) hn0 bp hbp16).mono ?_
      rintro e w5 ⟨he, h5⟩
      rw [← HA.out] at he
      subst he
      have H5 : Hid (Env w w5 [obP l (some (noteL [⟨4, n, 1⟩] 5 n 1)), obC (.pointer (some ⟨c, 0, none⟩)) (some (n, S))]) := Lib.hid h5
      clear h5 H4
      have bw5 : Blk (w5.alloc (.cells (barr (List.replicate 16 0)) 31)) w5.heap.size 31 (barr (List.replicate 16 0)) := Blk.new _ _ _
      go_wp2_with (first | ((with_reducible change wpList _ _ _ (Oper.mk _ (Op.store 31 _ _) _ _ _ _ :: _) _ _); refine wpList_store_var w5.heap.size (barr a) rfl rfl bw5 size16 has hz16 (barr_one _) ?_; intro w6 B4 O4; have H6 := Lib.hid ((H5.out.newK 31 (barr (List.replicate 16 0))).turnBlk 2 rfl B4 O4); have Qw6 := H6.out.blk 2 rfl; clear B4 O4) | ((with_reducible change wpList _ _ _ (Oper.mk _ (Op.load 31 _) _ _ _ _ :: _) _ _); refine wpList_load_blk (ty := 31) w5.heap.size rfl Qw6 Try.underlying31 rfl size16 has ?_))
      clear bw5 Qw6 H5
      generalize w5.heap.size = n1 at H6 ⊢
      refine (decC_env H6.out 1 0 (by decide) rfl rfl (F1.room (by omega)) hn0 a ha16).mono ?_
      rintro e w7 ⟨he, h5⟩
      rw [HAy.out] at he
      subst he
      have H7 : Hid (Env w w7 [obP l (some (noteL (noteL [⟨4, n, 1⟩] 5 n 1) 5 n 1)), obC (.pointer (some ⟨c, 0, none⟩)) (some (n, S)), obK n1 31 (barr a)]) := Lib.hid h5
      clear h5 H6
      have bw7 : Blk (w7.alloc (.cells (barr (List.replicate 16 0)) 31)) w7.heap.size 31 (barr (List.replicate 16 0)) := Blk.new _ _ _
      go_wp2_with (((with_reducible change wpList _ _ _ (Oper.mk _ (Op.store 31 _ _) _ _ _ _ :: _) _ _); refine wpList_store_var w7.heap.size (barr bp) rfl rfl bw7 size16 hps hz16 (barr_one _) ?_; intro w8 B4 O4; have H8 := Lib.hid ((H7.out.newK 31 (barr (List.replicate 16 0))).turnBlk 3 rfl B4 O4); have Qw8 := H8.out.blk 3 rfl; clear B4 O4))
      clear bw7 Qw8 H7
      generalize w7.heap.size = n2 at H8 ⊢
      refine (HBQ.out w8 H8.out.base).mono ?_
      rintro e w9 ⟨rfl, hb⟩
      have H9 := Lib.hid (H8.out.below hb)
      clear hb H8
      go_wp2_with fail
      refine (decC_env H9.out 1 0 (by decide) rfl rfl (F2.room (by omega)) hn0 bq hbq16).mono ?_
      rintro e w10 ⟨he, h5⟩
      rw [← HD.out] at he
      subst he
      have H10 : Hid (Env w w10 [obP l (some (noteL (noteL (noteL [⟨4, n, 1⟩] 5 n 1) 5 n 1) 5 n 1)), obC (.pointer (some ⟨c, 0, none⟩)) (some (n, S)), obK n1 31 (barr a), obK n2 31 (barr bp)]) := Lib.hid h5
      clear h5 H9
      have bw10 : Blk (w10.alloc (.cells (barr (List.replicate 16 0)) 31)) w10.heap.size 31 (barr (List.replicate 16 0)) := Blk.new _ _ _
      go_wp2_with (first | ((with_reducible change wpList _ _ _ (Oper.mk _ (Op.store 31 _ _) _ _ _ _ :: _) _ _); refine wpList_store_var w10.heap.size (barr d) rfl rfl bw10 size16 hds hz16 (barr_one _) ?_; intro w11 B4 O4; have H11 := Lib.hid ((H10.out.newK 31 (barr (List.replicate 16 0))).turnBlk 4 rfl B4 O4); have Qw11 := H11.out.blk 4 rfl; clear B4 O4) | ((with_reducible change wpList _ _ _ (Oper.mk _ (Op.load 31 _) _ _ _ _ :: _) _ _); refine wpList_load_blk (ty := 31) w10.heap.size rfl Qw11 Try.underlying31 rfl size16 hds ?_))
      clear bw10 Qw11 H10
      generalize w10.heap.size = n3 at H11 ⊢
      refine (encC_env H11.out 1 0 (by decide) rfl rfl (F3.room (by omega)) hn0 d hd16).mono ?_
      rintro e w12 ⟨he, h5⟩
      rw [HDy.out] at he
      subst he
      have H12 : Hid (Env w w12 [obP l (some (noteL (noteL (noteL (noteL [⟨4, n, 1⟩] 5 n 1) 5 n 1) 5 n 1) 5 n 1)), obC (.pointer (some ⟨c, 0, none⟩)) (some (n, S)), obK n1 31 (barr a), obK n2 31 (barr bp), obK n3 31 (barr d)]) := Lib.hid h5
      clear h5 H11
      have bw12 : Blk (w12.alloc (.cells (barr (List.replicate 16 0)) 31)) w12.heap.size 31 (barr (List.replicate 16 0)) := Blk.new _ _ _
      go_wp2_with (((with_reducible change wpList _ _ _ (Oper.mk _ (Op.store 31 _ _) _ _ _ _ :: _) _ _); refine wpList_store_var w12.heap.size (barr bq) rfl rfl bw12 size16 hqs hz16 (barr_one _) ?_; intro w13 B4 O4; have H13 := Lib.hid ((H12.out.newK 31 (barr (List.replicate 16 0))).turnBlk 5 rfl B4 O4); have Qw13 := H13.out.blk 5 rfl; clear B4 O4))
      clear bw12 Qw13 H12
      generalize w12.heap.size = n4 at H13 ⊢
      refine (HBQ.out w13 H13.out.base).mono ?_
      rintro e w14 ⟨rfl, hb⟩
      have H14 := Lib.hid (H13.out.below hb)
      clear hb H13
      go_wp2_with fail
      refine (encC_env H14.out 1 0 (by decide) rfl rfl (F4.room (by omega)) hn0 bq hbq16).mono ?_
      rintro e w15 ⟨he, h5⟩
      rw [← HY.out] at he
      subst he
      have H15 : Hid (Env w w15 [obP l (some (noteL (noteL (noteL (noteL (noteL [⟨4, n, 1⟩] 5 n 1) 5 n 1) 5 n 1) 5 n 1) 5 n 1)), obC (.pointer (some ⟨c, 0, none⟩)) (some (n, S)), obK n1 31 (barr a), obK n2 31 (barr bp), obK n3 31 (barr d), obK n4 31 (barr bq)]) := Lib.hid h5
      clear h5 H14
      have bw15 : Blk (w15.alloc (.cells (barr (List.replicate 16 0)) 31)) w15.heap.size 31 (barr (List.replicate 16 0)) := Blk.new _ _ _
      go_wp2_with (((with_reducible change wpList _ _ _ (Oper.mk _ (Op.store 31 _ _) _ _ _ _ :: _) _ _); refine wpList_store_var w15.heap.size (barr y) rfl rfl bw15 size16 hys hz16 (barr_one _) ?_; intro w16 B4 O4; have H16 := Lib.hid ((H15.out.newK 31 (barr (List.replicate 16 0))).turnBlk 6 rfl B4 O4); have Qw16 := H16.out.blk 6 rfl; clear B4 O4))
      clear bw15 Qw16 H15
      generalize w15.heap.size = n5 at H16 ⊢
      have HF : Hid (Env w w16 [obP l (some (noteL (noteL (noteL (noteL (noteL [⟨4, n, 1⟩] 5 n 1) 5 n 1) 5 n 1) 5 n 1) 5 n 1)), obC (.pointer (some ⟨c, 0, none⟩)) (some (n, S)), obK n1 31 (barr a), obK n2 31 (barr bp), obK n3 31 (barr d), obK n4 31 (barr bq), obK n5 31 (barr y)]) := H16
      generalize hbb : (bp == bq) = bb at HEQ
      have HBB := Lib.hid hbb
      clear hbb H16
      refine wp_region_tame (fun w' => Env w w' [obP l (some (noteL (noteL (noteL (noteL (noteL [⟨4, n, 1⟩] 5 n 1) 5 n 1) 5 n 1) 5 n 1) 5 n 1)), obC (.pointer (some ⟨c, 0, none⟩)) (some (n, S)), obK n1 31 (barr a), obK n2 31 (barr bp), obK n3 31 (barr d), obK n4 31 (barr bq), obK n5 31 (barr y)]) 0 40 (by kernel_rfl) (by kernel_rfl) (fun _ _ d _ _ h => (by cases d <;> exact h)) (HF.out.draw 1) (by decide) ?_
      clear HF
      simp only [List.take_succ_cons, List.take_zero, List.drop_succ_cons, List.drop_zero]
      refine wpPre_nil ?_
      refine wpTame_run (v := ?_) (by decide) rfl (fun w' hS => ?_) ?_
      rotate_left
      focus (clear hS; go_simp; try rfl; done)
      simp only [Act.put, List.setIfInBounds_toArray, List.set_cons_zero, List.set_cons_succ]
      refine wpTame_run (v := ?_) (by decide) rfl (fun w' hS => ?_) ?_
      rotate_left
      focus (clear hS; go_simp; try rfl; done)
      simp only [Act.put, List.setIfInBounds_toArray, List.set_cons_zero, List.set_cons_succ]
      refine wpTame_run (v := ?_) (by decide) rfl (fun w' hS => ?_) ?_
      rotate_left
      focus (clear hS; go_simp; try rfl; done)
      simp only [Act.put, List.setIfInBounds_toArray, List.set_cons_zero, List.set_cons_succ]
      refine wpTame_run (v := ?_) (by decide) rfl (fun w' hS => ?_) ?_
      rotate_left
      focus (clear hS; go_simp; try rfl; done)
      simp only [Act.put, List.setIfInBounds_toArray, List.set_cons_zero, List.set_cons_succ]
      refine wpTame_run (v := ?_) (by decide) rfl (fun w' hS => ?_) ?_
      rotate_left
      focus (clear hS; go_simp; try rfl; done)
      simp only [Act.put, List.setIfInBounds_toArray, List.set_cons_zero, List.set_cons_succ]
      refine wpTame_run (v := ?_) (by decide) rfl (fun w' hS => ?_) ?_
      rotate_left
      focus (clear hS; go_simp; try rfl; done)
      simp only [Act.put, List.setIfInBounds_toArray, List.set_cons_zero, List.set_cons_succ]
      refine wpTame_run (v := ?_) (by decide) rfl (fun w' hS => ?_) ?_
      rotate_left
      focus (clear hS; go_simp; try rfl; done)
      simp only [Act.put, List.setIfInBounds_toArray, List.set_cons_zero, List.set_cons_succ]
      refine wpTame_run (v := ?_) (by decide) rfl (fun w' hS => ?_) ?_
      rotate_left
      focus (clear hS; go_simp; try rfl; done)
      simp only [Act.put, List.setIfInBounds_toArray, List.set_cons_zero, List.set_cons_succ]
      refine wpTame_run (v := ?_) (by decide) rfl (fun w' hS => ?_) ?_
      rotate_left
      focus (clear hS; go_simp; try rfl; done)
      simp only [Act.put, List.setIfInBounds_toArray, List.set_cons_zero, List.set_cons_succ]
      refine wpTame_run (v := ?_) (by decide) rfl (fun w' hS => ?_) ?_
      rotate_left
      focus (clear hS; go_simp; try rfl; done)
      simp only [Act.put, List.setIfInBounds_toArray, List.set_cons_zero, List.set_cons_succ]
      refine wpTame_run (v := ?_) (by decide) rfl (fun w' hS => ?_) ?_
      rotate_left
      focus (clear hS; go_simp; try rfl; done)
      simp only [Act.put, List.setIfInBounds_toArray, List.set_cons_zero, List.set_cons_succ]
      refine wpTame_run (v := ?_) (by decide) rfl (fun w' hS => ?_) ?_
      rotate_left
      focus (clear hS; go_simp; try rfl; done)
      simp only [Act.put, List.setIfInBounds_toArray, List.set_cons_zero, List.set_cons_succ]
      refine wpTame_run (v := ?_) (by decide) rfl (fun w' hS => ?_) ?_
      rotate_left
      focus (clear hS; go_simp; try rfl; done)
      simp only [Act.put, List.setIfInBounds_toArray, List.set_cons_zero, List.set_cons_succ]
      refine wpTame_run (v := ?_) (by decide) rfl (fun w' hS => ?_) ?_
      rotate_left
      focus (clear hS; go_simp; try rfl; done)
      simp only [Act.put, List.setIfInBounds_toArray, List.set_cons_zero, List.set_cons_succ]
      refine wpTame_run (v := ?_) (by decide) rfl (fun w' hS => ?_) ?_
      rotate_left
      focus (clear hS; go_simp; try rfl; done)
      simp only [Act.put, List.setIfInBounds_toArray, List.set_cons_zero, List.set_cons_succ]
      refine wpTame_run (v := ?_) (by decide) rfl (fun w' hS => ?_) ?_
      rotate_left
      focus (clear hS; go_simp; try rfl; done)
      simp only [Act.put, List.setIfInBounds_toArray, List.set_cons_zero, List.set_cons_succ]
      refine wpTame_run (v := ?_) (by decide) rfl (fun w' hS => ?_) ?_
      rotate_left
      focus (clear hS; go_simp; try rfl; done)
      simp only [Act.put, List.setIfInBounds_toArray, List.set_cons_zero, List.set_cons_succ]
      refine wpTame_run (v := ?_) (by decide) rfl (fun w' hS => ?_) ?_
      rotate_left
      focus (clear hS; go_simp; try rfl; done)
      simp only [Act.put, List.setIfInBounds_toArray, List.set_cons_zero, List.set_cons_succ]
      refine wpTame_run (v := ?_) (by decide) rfl (fun w' hS => ?_) ?_
      rotate_left
      focus (clear hS; go_simp; try rfl; done)
      simp only [Act.put, List.setIfInBounds_toArray, List.set_cons_zero, List.set_cons_succ]
      refine wpTame_load (cs := (bp).map B) (b := n2) (off := 0) (by decide) rfl rfl rfl Try.underlying31 rfl size16 (by rw [List.length_map]; exact hbp16) (fun w' hS => by have h := (Env.blk hS 3 rfl).range; rwa [barr_toList] at h) ?_
      simp only [List.getElem_toArray, List.getElem_cons_succ, List.getElem_cons_zero, Act.put, List.setIfInBounds_toArray, List.set_cons_zero, List.set_cons_succ]
      refine wpTame_run (v := ?_) (by decide) rfl (fun w' hS => ?_) ?_
      rotate_left
      focus (clear hS; go_simp; try rfl; done)
      simp only [Act.put, List.setIfInBounds_toArray, List.set_cons_zero, List.set_cons_succ]
      refine wpTame_call (by decide) rfl (fun w' hS => by clear hS; go_simp; all_goals first | exact ⟨rfl, rfl⟩ | rfl) (fun w' hS => (HBP.out w' (Env.base hS)).mono fun e w'' ⟨he, hb⟩ => ⟨he, Env.below hS hb⟩) ?_
      simp only [List.getElem_toArray, List.getElem_cons_succ, List.getElem_cons_zero, Act.put, List.setIfInBounds_toArray, List.set_cons_zero, List.set_cons_succ]
      refine wpTame_run (v := .bool (!true)) (by decide) rfl (fun w' hS => exec_neq_arr bp bp true rfl rfl guard16 (eqAt16 bp bp hbp16 hbp16 true (beq_self_eq_true _))) ?_
      simp only [List.getElem_toArray, List.getElem_cons_succ, List.getElem_cons_zero, Act.put, List.setIfInBounds_toArray, List.set_cons_zero, List.set_cons_succ]
      refine wpTame_run (v := ?_) (by decide) rfl (fun w' hS => ?_) ?_
      rotate_left
      focus (clear hS; go_simp; try rfl; done)
      simp only [Act.put, List.setIfInBounds_toArray, List.set_cons_zero, List.set_cons_succ]
      refine wpTame_run (v := ?_) (by decide) rfl (fun w' hS => ?_) ?_
      rotate_left
      focus (clear hS; go_simp; try rfl; done)
      simp only [Act.put, List.setIfInBounds_toArray, List.set_cons_zero, List.set_cons_succ]
      refine wpTame_load (cs := (bq).map B) (b := n4) (off := 0) (by decide) rfl rfl rfl Try.underlying31 rfl size16 (by rw [List.length_map]; exact hbq16) (fun w' hS => by have h := (Env.blk hS 5 rfl).range; rwa [barr_toList] at h) ?_
      simp only [List.getElem_toArray, List.getElem_cons_succ, List.getElem_cons_zero, Act.put, List.setIfInBounds_toArray, List.set_cons_zero, List.set_cons_succ]
      refine wpTame_run (v := ?_) (by decide) rfl (fun w' hS => ?_) ?_
      rotate_left
      focus (clear hS; go_simp; try rfl; done)
      simp only [Act.put, List.setIfInBounds_toArray, List.set_cons_zero, List.set_cons_succ]
      refine wpTame_call (by decide) rfl (fun w' hS => by clear hS; go_simp; all_goals first | exact ⟨rfl, rfl⟩ | rfl) (fun w' hS => (HBQ.out w' (Env.base hS)).mono fun e w'' ⟨he, hb⟩ => ⟨he, Env.below hS hb⟩) ?_
      simp only [List.getElem_toArray, List.getElem_cons_succ, List.getElem_cons_zero, Act.put, List.setIfInBounds_toArray, List.set_cons_zero, List.set_cons_succ]
      refine wpTame_run (v := .bool (!true)) (by decide) rfl (fun w' hS => exec_neq_arr bq bq true rfl rfl guard16 (eqAt16 bq bq hbq16 hbq16 true (beq_self_eq_true _))) ?_
      simp only [List.getElem_toArray, List.getElem_cons_succ, List.getElem_cons_zero, Act.put, List.setIfInBounds_toArray, List.set_cons_zero, List.set_cons_succ]
      refine wpTame_run (v := ?_) (by decide) rfl (fun w' hS => ?_) ?_
      rotate_left
      focus (clear hS; go_simp; try rfl; done)
      simp only [Act.put, List.setIfInBounds_toArray, List.set_cons_zero, List.set_cons_succ]
      refine wpTame_run (v := ?_) (by decide) rfl (fun w' hS => ?_) ?_
      rotate_left
      focus (clear hS; go_simp; try rfl; done)
      simp only [Act.put, List.setIfInBounds_toArray, List.set_cons_zero, List.set_cons_succ]
      refine wpTame_load (cs := (a).map B) (b := n1) (off := 0) (by decide) rfl rfl rfl Try.underlying31 rfl size16 (by rw [List.length_map]; exact ha16) (fun w' hS => by have h := (Env.blk hS 2 rfl).range; rwa [barr_toList] at h) ?_
      simp only [List.getElem_toArray, List.getElem_cons_succ, List.getElem_cons_zero, Act.put, List.setIfInBounds_toArray, List.set_cons_zero, List.set_cons_succ]
      refine wpTame_load (cs := (y).map B) (b := n5) (off := 0) (by decide) rfl rfl rfl Try.underlying31 rfl size16 (by rw [List.length_map]; exact hy16) (fun w' hS => by have h := (Env.blk hS 6 rfl).range; rwa [barr_toList] at h) ?_
      simp only [List.getElem_toArray, List.getElem_cons_succ, List.getElem_cons_zero, Act.put, List.setIfInBounds_toArray, List.set_cons_zero, List.set_cons_succ]
      refine wpTame_run (v := .bool bb) (by decide) rfl (fun w' hS => exec_eql_arr a y bb rfl rfl guard16 (eqAt16 a y ha16 hy16 bb HEQ.out)) ?_
      simp only [List.getElem_toArray, List.getElem_cons_succ, List.getElem_cons_zero, Act.put, List.setIfInBounds_toArray, List.set_cons_zero, List.set_cons_succ]
      refine wpTame_run (v := ?_) (by decide) rfl (fun w' hS => ?_) ?_
      rotate_left
      focus (clear hS; go_simp; try rfl; done)
      simp only [Act.put, List.setIfInBounds_toArray, List.set_cons_zero, List.set_cons_succ]
      refine wpTame_call (by decide) rfl (fun w' hS => by clear hS; go_simp; all_goals first | exact ⟨rfl, rfl⟩ | rfl) (fun w' hS => (HBP.out w' (Env.base hS)).mono fun e w'' ⟨he, hb⟩ => ⟨he, Env.below hS hb⟩) ?_
      simp only [List.getElem_toArray, List.getElem_cons_succ, List.getElem_cons_zero, Act.put, List.setIfInBounds_toArray, List.set_cons_zero, List.set_cons_succ]
      refine wpTame_run (v := ?_) (by decide) rfl (fun w' hS => ?_) ?_
      rotate_left
      focus (clear hS; go_simp; try rfl; done)
      simp only [Act.put, List.setIfInBounds_toArray, List.set_cons_zero, List.set_cons_succ]
      refine wpTame_call (by decide) rfl (fun w' hS => by clear hS; go_simp; all_goals first | exact ⟨rfl, rfl⟩ | rfl) (fun w' hS => (HBQ.out w' (Env.base hS)).mono fun e w'' ⟨he, hb⟩ => ⟨he, Env.below hS hb⟩) ?_
      simp only [List.getElem_toArray, List.getElem_cons_succ, List.getElem_cons_zero, Act.put, List.setIfInBounds_toArray, List.set_cons_zero, List.set_cons_succ]
      refine wpTame_run (v := .bool bb) (by decide) rfl (fun w' hS => exec_eql_arr bp bq bb rfl rfl guard16 (eqAt16 bp bq hbp16 hbq16 bb HBB.out)) ?_
      simp only [List.getElem_toArray, List.getElem_cons_succ, List.getElem_cons_zero, Act.put, List.setIfInBounds_toArray, List.set_cons_zero, List.set_cons_succ]
      refine wpTame_run (v := ?_) (by decide) rfl (fun w' hS => ?_) ?_
      rotate_left
      focus (clear hS; go_simp; try rfl; done)
      simp only [Act.put, List.setIfInBounds_toArray, List.set_cons_zero, List.set_cons_succ]
      refine wpTame_nil ?_
      intro w30 h30
      have G0 := Lib.hid h30
      clear h30
      cases bb
      all_goals
        go_wp2_with fail
        refine (runsP_env G0.out 0 rfl (F5.len (by omega))).mono ?_
        rintro e w31 ⟨u1, rfl, h5⟩
        have G1 := Lib.hid h5
        clear h5 G0
        go_wp2_with fail
        refine (runs5_any n 5 w31 (by decide)).mono ?_
        rintro e w32 ⟨u2, rfl, h1, h2, h3⟩
        have G2 := Lib.hid (G1.out.pushRuns h1 h2 h3)
        clear h1 h2 h3 G1
        go_wp2_with fail
        refine (sameRuns_env G2.out (G2.out.runs 7 rfl).rd (G2.out.runs 8 rfl).rd).mono ?_
        rintro e w33 ⟨he, h5⟩
        rw [decide_eq_true (notes5 n)] at he
        subst he
        have G3 := Lib.hid h5
        clear h5 G2
        go_wp2_with fail
        refine (lenC_env G3.out 1 rfl).mono ?_
        rintro e w' ⟨he, rfl⟩
        have he' : e = .returned (.int .i64 (n : Int)) := he
        subst he'
        clear he
        go_wp2_with fail
        refine (formC_env G3.out 1 rfl hn0).mono ?_
        rintro e w34 ⟨u3, rfl, h5⟩
        have G4 := Lib.hid h5
        clear h5 G3
        obtain ⟨uo, ucap, hu3⟩ := (G4.out.bytes 9 rfl).any
        have hfl : (S.take (16 * (n / 4 + 6 + 1))).length = 4 * n + 112 := by
          rw [List.length_take, hSl]
          have := HN4.out
          omega
        rw [hfl] at hu3
        rw [hu3]
        have hlenI : (((4 * n + 112 : Nat) : Int) == 4 * (n : Int) + 112) = true := by
          rw [beq_iff_eq]; omega
        have G5 := Lib.hid G4.out.base
        clear G4 hu3 hfl
        go_wp2
        go_ret
        exact ⟨rfl, G5.out⟩
  · have b1 : ((n : Int) != 16) = true := by
      have : ¬ n = 16 := fun h => hR (.inl h)
      simp; omega
    have b2 : ((n : Int) != 24) = true := by
      have : ¬ n = 24 := fun h => hR (.inr (.inl h))
      simp; omega
    have b3 : ((n : Int) != 32) = true := by
      have : ¬ n = 32 := fun h => hR (.inr (.inr h))
      simp; omega
    refine (newC_off l _ key w2 (by have h := HK.out; exact h.grow H2.out.base) (by rw [HN.out]; exact ⟨fun h => hR (.inl h), fun h => hR (.inr (.inl h)), fun h => hR (.inr (.inr h))⟩)).mono ?_
    rintro e w' ⟨rfl, rfl⟩
    clear hR
    go_wp2_with fail
    refine (lenP_env H2.out 0 rfl).mono ?_
    rintro e w' ⟨he, rfl⟩
    have he' : e = .returned (.int .i64 0) := he
    subst he'
    clear he
    go_wp2
    go_ret
    exact ⟨rfl, H2.out.base⟩
theorem aesBack.walk {w : World} (v0 : Value) (a0 : List UInt8) (h0 : In w v0 a0) (v1 : Value) (a1 : List UInt8) (h1 : In w v1 a1) (v2 : Value) (a2 : List UInt8) (h2 : In w v2 a2) :
    Calls Try.prog 5 #[v0, v1, v2] w fun e w' => e = .returned (.bool true) ∧ Below w.heap.size w w' := aesBack_walk v0 v1 v2 a0 a1 a2 w h0.1 h1.1 h2.1
end Go.Proofs.Ytihmgkjmebdioaa
