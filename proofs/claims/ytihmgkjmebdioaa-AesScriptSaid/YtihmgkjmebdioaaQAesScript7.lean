/- What the laws on ciphers begin with: rising bytes, the document's examples, what is none. -/
import Derived.Test.YtihmgkjmebdioaaRows
import Derived.Deep.AppendLies
import Derived.Deep.DeepCutAuto
import Derived.Deep.CutBlock
import Derived.Test.YtihmgkjmebdioaaQAesScript0
import Derived.Test.YtihmgkjmebdioaaQAesScript1
import Derived.Test.YtihmgkjmebdioaaQAesScript2
import Derived.Test.YtihmgkjmebdioaaQAesScript5
import Derived.Test.YtihmgkjmebdioaaQAesScript6
/- The contract of ApartBytes. Conditions: at most 5000000000000 lists, each of at most 2^47 - 328 bytes; each lies in a row of its own, apart from the others and from the rest. -/
namespace Go.Proofs.Ytihmgkjmebdioaa
open Go.RowKit
set_option maxRecDepth 100000
set_option linter.unusedVariables false
/-- mark i of list k -/
def mk10 (k i : Nat) : UInt8 := UInt8.ofNat ((7 * (k + 10) + i + 1) % 256)
theorem mk10_form (k i : Nat) : (7 * ((k : Int) + 10) + (i : Int) + 1) % 256 = ((mk10 k i).toNat : Int) := by
  unfold mk10
  rw [u8_of _ (by omega)]
  omega
def MB : Mkr := ⟨22, 5, 1, fun k i => [.int .u8 ((mk10 k i).toNat : Int)], by decide, fun _ _ => rfl, fun k i u hu => by simp at hu; subst hu; rfl⟩
theorem MB_get (k n i : Nat) (h : i < n) : (MB.marks k n)[i]? = some (.int .u8 ((mk10 k i).toNat : Int)) := by
  have := MB.marks_get k 0 (by decide) n i h
  simpa [MB] using this
theorem info8s : (Try.prog.info? 22).map (fun i => (i.zero, i.size, i.bytes)) = some (some (.slice none 0 0), 1, 24) := by kernel_rfl
theorem mark_q (k i : Nat) (w : World) (hk : k ≤ 5000000000000) (hi : i ≤ 1000000000000000) :
    Calls Try.prog 49 #[.int .i64 ((k : Int) + 10), .int .i64 (i : Int)] w fun e w'' => e = .returned (.int .u8 ((mk10 k i).toNat : Int)) ∧ w'' = w :=
  (mark_any ((k : Int) + 10) i w (by omega) (by omega) (by omega) (by omega)).mono fun e w' ⟨he, hw⟩ => ⟨by rw [he, mk10_form], hw.symm⟩
set_option maxHeartbeats 4000000 in
theorem apartBytes_any {w0 w : World} (u : Value) (vs : List Value) (n : Nat → Nat) (c : Nat → List Value) (rest : List Ob) (h : AEnv MB w0 w u vs (fun j => obE MB.e MB.sz (Tv vs j) (n j) (c j)) rest)
    (hn : ∀ j, j < vs.length → n j ≤ 140737488355000) (hl : vs.length ≤ 5000000000000) :
    Calls Try.prog 26 #[u] w fun e w' => e = .returned (.bool true) ∧ Env w0 w' rest := by
  have hc : ∀ j, j < vs.length → (c j).length = n j * MB.sz := fun j hj => (Env.row h (j + 1) (AEnv.at (w0 := w0) (w := w) j hj)).1
  have HC := Lib.hid hc
  have HN := Lib.hid hn
  obtain ⟨ao, capu, rfl, hcu, hcm, hao⟩ := header h.row
  have HAO := Lib.hid hao
  have H0 : Hid (AEnv MB w0 w (.slice ao vs.length capu) vs (T1 MB vs n c 0 0) rest) := Lib.hid (h.same fun j hj => T1_zero vs n c j)
  clear hc hn hao h
  obtain ⟨N, hN⟩ : ∃ N, N = vs.length := ⟨_, rfl⟩
  have HNN := Lib.hid hN
  rw [← hN] at hl hcu H0
  rw [← hN]
  clear hN
  go_enter Try.func26, Try.ntmps26
  go_wp2_with fail
  go_loopw [3] (fun i w1 => ∃ (k : Nat), k ≤ N ∧ i = .int .i64 (k : Int) ∧ Hid (AEnv MB w0 w1 (.slice ao N capu) vs (T1 MB vs n c k 0) rest)) (fun i _ => N - (intOf i).toNat)
  case atStart => exact ⟨0, Nat.zero_le _, rfl, H0⟩
  case round =>
    clear H0
    obtain ⟨k, hk, rfl, H1⟩ := hrel
    by_cases hlt : k < N
    · have hkv : k < vs.length := by rw [← HNN.out]; exact hlt
      have hr1 := Env.row H1.out (k + 1) (by rw [AEnv.at (w0 := w0) (w := wr) k hkv, T1_self])
      obtain ⟨m, hm⟩ : ∃ m, n k = m := ⟨_, rfl⟩
      have hnk := HN.out k hkv
      rw [hm] at hr1 hnk
      obtain ⟨ak, capk, hvk, hck, hcmk, hak⟩ := header hr1
      obtain ⟨gu, rfl⟩ := HAO.out (by rw [← HNN.out]; omega)
      have hu1 := H1.out.row
      rw [← HNN.out] at hu1
      have c0 := World.ownsRow.cellAt hu1 k (by omega)
      rw [Tv_get hkv, hvk] at c0
      have HM := Lib.hid hm
      have HVK := Lib.hid hvk
      have HAK := Lib.hid hak
      have HKV := Lib.hid hkv
      clear hr1 hu1 hm hvk hak hkv
      go_wp2_with fail
      obtain ⟨wx, hwx⟩ : ∃ x, x = wr := ⟨_, rfl⟩
      go_loopw [4] (fun i w1 => ∃ (j : Nat), j ≤ m ∧ i = .int .i64 (j : Int) ∧ Hid (AEnv MB w0 w1 (.slice (some ⟨gu, 0, none⟩) N capu) vs (T1 MB vs n c k j) rest)) (fun i _ => m - (intOf i).toNat)
      case atStart => exact ⟨0, Nat.zero_le _, rfl, H1⟩
      case round =>
        clear c0
        obtain ⟨j, hj, rfl, H2⟩ := hrel
        have hu2 := H2.out.row
        rw [← HNN.out] at hu2
        have c0 := World.ownsRow.cellAt hu2 k (by omega)
        rw [Tv_get HKV.out, HVK.out] at c0
        clear hu2
        by_cases hjn : j < m
        · obtain ⟨g, rfl⟩ := HAK.out (by omega)
          have hr2 := Env.row H2.out (k + 1) (by rw [AEnv.at (w0 := w0) (w := wr) k HKV.out, T1_self])
          rw [HM.out, HVK.out] at hr2
          have c1 := World.ownsRow.cellAt hr2 j (by show j < m * 1; omega)
          have f1 := World.ownsRow.frozenAt hr2 j
          rw [List.getElem?_eq_getElem (by rw [hr2.1]; show j < m * 1; omega)] at c1
          generalize ((MB.to k (c k) j)[j]'_) = z at c1
          clear hr2
          go_wp2_with fail
          have hwk : IntKind.i64.wrap ((k : Int) + 10) = (k : Int) + 10 := IntWalk.i64_in _ (by omega)
          refine wp_region_tame (fun w' => w' = wr.drewN 1) 0 10 (by kernel_rfl) (by kernel_rfl) (fun _ _ d _ _ h => (by cases d <;> exact h)) rfl (by decide) ?_
          simp only [List.take_succ_cons, List.take_zero, List.drop_succ_cons, List.drop_zero]
          refine wpPre_nil ?_
          refine wpTame_run (v := ?_) (by decide) rfl (fun w' hS => ?_) ?_
          rotate_left
          focus (subst hS; go_simp; try rfl; done)
          simp only [Act.put, List.setIfInBounds_toArray, List.set_cons_zero, List.set_cons_succ]
          refine wpTame_run (v := ?_) (by decide) rfl (fun w' hS => ?_) ?_
          rotate_left
          focus (subst hS; go_simp; try rfl; done)
          simp only [Act.put, List.setIfInBounds_toArray, List.set_cons_zero, List.set_cons_succ]
          refine wpTame_run (v := ?_) (by decide) rfl (fun w' hS => ?_) ?_
          rotate_left
          focus (subst hS; go_simp; try rfl; done)
          simp only [Act.put, List.setIfInBounds_toArray, List.set_cons_zero, List.set_cons_succ]
          refine wpTame_run (v := ?_) (by decide) rfl (fun w' hS => ?_) ?_
          rotate_left
          focus (subst hS; go_simp; try rfl; done)
          simp only [Act.put, List.setIfInBounds_toArray, List.set_cons_zero, List.set_cons_succ]
          refine wpTame_run (v := ?_) (by decide) rfl (fun w' hS => ?_) ?_
          rotate_left
          focus (subst hS; go_simp; try rfl; done)
          simp only [Act.put, List.setIfInBounds_toArray, List.set_cons_zero, List.set_cons_succ]
          refine wpTame_run (v := ?_) (by decide) rfl (fun w' hS => ?_) ?_
          rotate_left
          focus (subst hS; go_simp; try rfl; done)
          simp only [Act.put, List.setIfInBounds_toArray, List.set_cons_zero, List.set_cons_succ]
          refine wpTame_run (v := ?_) (by decide) rfl (fun w' hS => ?_) ?_
          rotate_left
          focus (subst hS; go_simp; try rfl; done)
          simp only [Act.put, List.setIfInBounds_toArray, List.set_cons_zero, List.set_cons_succ]
          refine wpTame_run (v := ?_) (by decide) rfl (fun w' hS => ?_) ?_
          rotate_left
          focus (subst hS; go_simp; try rfl; done)
          simp only [Act.put, List.setIfInBounds_toArray, List.set_cons_zero, List.set_cons_succ]
          refine wpTame_call (v := .int .u8 ((mk10 k j).toNat : Int)) (by decide) rfl (fun w' h => ?_) (fun w' h => (mark_any ((k : Int) + 10) j w' (by omega) (by omega) (by omega) (by omega)).mono fun e w'' ⟨he, hw⟩ => ⟨by rw [he, mk10_form], by rw [← hw]; exact h⟩) ?_
          · subst h; go_simp; try rfl
          simp only [Act.put, List.setIfInBounds_toArray, List.set_cons_zero, List.set_cons_succ]
          refine wpTame_run (v := ?_) (by decide) rfl (fun w' hS => ?_) ?_
          rotate_left
          focus (subst hS; go_simp; try rfl; done)
          simp only [Act.put, List.setIfInBounds_toArray, List.set_cons_zero, List.set_cons_succ]
          refine wpTame_nil ?_
          rintro w' rfl
          go_wp2_with fail
          go_roundw
          case rel =>
            have hh := H2.out.mark HKV.out (HC.out k HKV.out) (by rw [HM.out]; exact hjn) HVK.out 1
            rw [show j * MB.sz = j from Nat.mul_one j] at hh
            exact ⟨j + 1, by omega, by go_num, Lib.hid hh⟩
          case measure => simp [intOf]; omega
        · obtain rfl : j = m := by omega
          have H3 : Hid (AEnv MB w0 wr (.slice (some ⟨gu, 0, none⟩) N capu) vs (T1 MB vs n c (k + 1) 0) rest) := by
            have h := H2.out
            rw [← HM.out] at h
            exact Lib.hid (h.next (HC.out k HKV.out))
          go_wp2_with fail
          go_roundw
          case rel => exact ⟨k + 1, by omega, by go_num, H3⟩
          case measure => simp [intOf]; omega
    · obtain rfl : k = N := by omega
      have P0 : Hid (PEnv MB w0 wr (.slice ao k capu) vs n rest 0 none (.slice none 0 0) []) := by
        have h := H1.out
        rw [HNN.out] at h ⊢
        exact Lib.hid (PEnv.start h)
      clear H1
      go_wp2_with fail
      obtain ⟨wq, hwq⟩ : ∃ x, x = wr := ⟨_, rfl⟩
      go_loopw [5, 6] (fun gsv i w1 => ∃ (p : Nat) (gs : List Value), p ≤ k ∧ i = .int .i64 (p : Int) ∧ Hid (gs.length = p) ∧ Hid (PEnv MB w0 w1 (.slice ao k capu) vs n rest p none gsv gs)) (fun _ i _ => k - (intOf i).toNat)
      case atStart => exact ⟨0, [], Nat.zero_le _, rfl, Lib.hid rfl, P0⟩
      case round =>
        clear P0
        obtain ⟨p, gs, hp, rfl, HGS, P⟩ := hrel
        by_cases hlt : p < k
        · have hkv : p < vs.length := by rw [← HNN.out]; exact hlt
          have hd := P.out.hd hkv
          have hr1 := Env.row P.out (p + 1) (by rw [AEnv.at (w0 := w0) (w := wr) p hkv, T2_self])
          obtain ⟨m, hm⟩ : ∃ m, n p = m := ⟨_, rfl⟩
          have hnk := HN.out p hkv
          rw [hm] at hr1 hnk
          obtain ⟨ak, capk, hvk, hck, hcmk, hak⟩ := header hr1
          obtain ⟨gu, rfl⟩ := HAO.out (by rw [← HNN.out]; omega)
          have hu1 := P.out.row
          rw [← HNN.out] at hu1
          have c0 := World.ownsRow.cellAt hu1 p (by omega)
          rw [Tv_get hkv, hvk] at c0
          have PT := P.out.take hkv
          rw [hvk] at PT
          have HM := Lib.hid hm
          have HVK := Lib.hid hvk
          have HKV := Lib.hid hkv
          have HD := Lib.hid hd
          have HPT := Lib.hid PT
          clear hr1 hu1 hm hvk hak hkv hd PT P
          go_wp2_with fail
          obtain ⟨wy, hwy⟩ : ∃ x, x = wr := ⟨_, rfl⟩
          go_loopw [7, 8] (fun g i w1 => ∃ (j : Nat), j ≤ 6 ∧ i = .int .i64 (j : Int) ∧ Hid (PEnv MB w0 w1 (.slice (some ⟨gu, 0, none⟩) k capu) vs n rest p (some (g, j)) u5 gs)) (fun _ i _ => 6 - (intOf i).toNat)
          case atStart => exact ⟨0, by omega, rfl, HPT⟩
          case round =>
            clear HPT c0
            obtain ⟨j, hj, rfl, PJ⟩ := hrel
            have hu1 := PJ.out.row
            rw [← HNN.out] at hu1
            have c0 := World.ownsRow.cellAt hu1 p (by omega)
            rw [Tv_get HKV.out, HVK.out] at c0
            clear hu1
            by_cases hj6 : j < 6
            · have PA := PJ.out.below ((Below.refl wr.heap.size wr).alloc (Nat.le_refl _) (.cells #[.int .u8 ((mk10 p (m + j)).toNat : Int)] 5))
              have HOWN : (wr.alloc (.cells #[.int .u8 ((mk10 p (m + j)).toNat : Int)] 5)).ownsRow 0 5 1 u7 (m + j) (MB.marks p (m + j)) := by
                have h := PA.gone HKV.out
                rw [HM.out] at h
                exact h
              have HPA := Lib.hid PA
              clear PA
              have hwk : IntKind.i64.wrap ((p : Int) + 10) = (p : Int) + 10 := IntWalk.i64_in _ (by omega)
              go_wp2_with fail
              refine (mark_any ((p : Int) + 10) ((m : Int) + j) _ (by omega) (by omega) (by omega) (by omega)).mono ?_
              rintro e w' ⟨he, rfl⟩
              have he' : e = .returned (.int .u8 ((mk10 p (m + j)).toNat : Int)) := by rw [he, ← mk10_form]; simp
              subst he'
              clear he
              obtain ⟨i0, hi, hz0, hz1, hz2⟩ := info_parts info8
              go_wp2_with (at_builtin; refine wpList_append_keep _ rfl _ _ 22 rfl 5 i0 _ 1 1 Try.underlying22 hi hz0 hz1 hz2 rfl (by decide) u7 (m + j) (MB.marks p (m + j)) rfl HOWN ⟨wr.heap.size, 0, none⟩ 1 1 [.int .u8 ((mk10 p (m + j)).toNat : Int)] rfl rfl (World.news_of_block (heap_alloc_new _ _)) (lent_one _) (by unfold maxLen; omega) (by omega) (by decide) ?_)
              intro v' w2 hown hgrow hat hne
              have HP2 : Hid (PEnv MB w0 w2 (.slice (some ⟨gu, 0, none⟩) k capu) vs n rest p (some (v', j + 1)) u5 gs) := by
                have hm := HM.out
                subst hm
                exact Lib.hid (HPA.out.more HKV.out HD.out hown hgrow (by simpa using hat))
              clear hown hgrow hat hne HOWN hi hz0 hz1 hz2 c0
              go_wp2_with fail
              go_roundw
              case rel => exact ⟨j + 1, by omega, by go_num, HP2⟩
              case measure => simp [intOf]; omega
            · obtain rfl : j = 6 := by omega
              have hg := PJ.out.gone HKV.out
              obtain ⟨ag, capg, hug, _, _, _⟩ := header hg
              subst hug
              have HPA := Lib.hid (PJ.out.below ((Below.refl wr.heap.size wr).alloc (Nat.le_refl _) (.cells #[.slice ag (n p + 6) capg] 22)))
              have HROW : (wr.alloc (.cells #[.slice ag (n p + 6) capg] 22)).ownsRow 0 22 1 u5 p gs := by
                have h := HPA.out.gs
                rw [HGS.out] at h
                exact h
              clear hg c0
              obtain ⟨i0, hi, hz0, hz1, hz2⟩ := info_parts info8s
              go_wp2_with (at_builtin; refine wpList_append_keep _ rfl _ _ 57 rfl 22 i0 _ 1 24 Try.underlying57 hi hz0 hz1 hz2 rfl (by decide) u5 p gs rfl HROW ⟨wr.heap.size, 0, none⟩ 1 1 [.slice ag (n p + 6) capg] rfl rfl (World.news_of_block (heap_alloc_new _ _)) (fun u hu => by simp at hu; subst hu; rfl) (by unfold maxLen; omega) (by omega) (by decide) ?_)
              intro v' w2 hown hgrow hat hne
              have HP2 : Hid (PEnv MB w0 w2 (.slice (some ⟨gu, 0, none⟩) k capu) vs n rest (p + 1) none v' (gs ++ [.slice ag (n p + 6) capg])) := by
                refine Lib.hid (HPA.out.kept HGS.out (by rw [HGS.out]; exact hown) hgrow ?_)
                rcases hat with hat | hat
                · exact .inl hat
                · exact .inr (by simpa using hat.1)
              clear hown hgrow hat hne HROW hi hz0 hz1 hz2
              go_wp2_with fail
              go_roundw
              case rel => exact ⟨p + 1, _, by omega, by go_num, Lib.hid (by rw [List.length_append, HGS.out]; rfl), HP2⟩
              case measure => simp [intOf]; omega
        · obtain rfl : p = k := by omega
          have hg := P.out.gs
          rw [HGS.out] at hg
          obtain ⟨ag, capg, hug, hcg, hcmg, hag⟩ := header hg
          subst hug
          have HROW := Lib.hid hg
          have HAG := Lib.hid hag
          have hu1 := P.out.row
          rw [← HNN.out] at hu1
          have HU := Lib.hid hu1
          have HR : Hid (∀ q, q < p → wr.ownsRow 0 5 1 (Tv gs q) (n q + 6) (MB.marks q (n q + 6)) ∧ Sl wr 1 (Tv vs q) (n q) (MB.marks q (n q)) ∧ n q ≤ 140737488355000) := Lib.hid (fun q hq => by
            have h := P.out
            have hq' : q < vs.length := by rw [← HNN.out]; exact hq
            have h2 := h
            rw [HNN.out] at h2
            obtain ⟨h3, h4⟩ := h2.rows q hq'
            exact ⟨h3, h4, HN.out q hq'⟩)
          have HEND : Hid (∀ m, Env w0 (wr.drewN m) rest) := Lib.hid (fun m => P.out.drop.draw m)
          clear hg hag hu1 P
          go_wp2_with fail
          obtain ⟨w3, rfl⟩ : ∃ w3 : World, w3 = wr := ⟨_, rfl⟩
          go_loopw [9] (fun i w1 => ∃ (q d : Nat), q ≤ p ∧ i = .int .i64 (q : Int) ∧ w1 = w3.drewN d) (fun i _ => p - (intOf i).toNat)
          case atStart => exact ⟨0, 0, Nat.zero_le _, rfl, rfl⟩
          case round =>
            obtain ⟨q, d, hq, rfl, rfl⟩ := hrel
            by_cases hlt : q < p
            · obtain ⟨h3, h4, hnq⟩ := HR.out q hlt
              obtain ⟨gu, rfl⟩ := HAO.out (by rw [← HNN.out]; omega)
              obtain ⟨gg, rfl⟩ := HAG.out (by omega)
              obtain ⟨m, hm⟩ : ∃ m, n q = m := ⟨_, rfl⟩
              rw [hm] at h3 h4 hnq
              obtain ⟨a1, cap1, hv1, hc1, hcm1, ha1⟩ := header h3
              obtain ⟨g1, rfl⟩ := ha1 (by omega)
              obtain ⟨a2, cap2, hv2, hc2, hcm2, ha2, ha3⟩ := h4.form
              have d1 := World.ownsRow.cellAt HROW.out q (by omega)
              rw [Tv_get (by rw [HGS.out]; exact hlt), hv1] at d1
              have d2 := World.ownsRow.cellAt HU.out q (by omega)
              rw [Tv_get (by rw [← HNN.out]; exact hlt), hv2] at d2
              rw [hv1] at h3
              have H3 := Lib.hid h3
              have HA3 := Lib.hid ha3
              clear h3 h4 hm hv1 hv2 ha1 ha2 ha3
              go_wp2_with fail
              go_loopw [10] (fun i w1 => ∃ (j d : Nat), j ≤ m + 6 ∧ i = .int .i64 (j : Int) ∧ w1 = w3.drewN d) (fun i _ => m + 6 - (intOf i).toNat)
              case atStart => exact ⟨0, d, Nat.zero_le _, rfl, rfl⟩
              case round =>
                obtain ⟨j, d, hj, rfl, rfl⟩ := hrel
                by_cases hjn : j < m + 6
                · have d3 := World.ownsRow.cellAt H3.out j (by omega)
                  rw [MB_get _ _ _ (by omega)] at d3
                  have hz : (((mk10 q j).toNat : Int) != ((mk10 q j).toNat : Int)) = false := by simp
                  have hwk : IntKind.i64.wrap ((q : Int) + 10) = (q : Int) + 10 := IntWalk.i64_in _ (by omega)
                  by_cases hjm : j < m
                  · obtain ⟨b, off, rfl, d4⟩ := HA3.out j _ (MB_get q m j hjm)
                    go_wp2_with fail
                    go_quiet ((go_at_call 49; exact (mark_q q j _ (by omega) (by omega)).mono fun e w' ⟨he, hw⟩ => ⟨he, _, hw⟩))
                    go_wp2_with fail
                    go_roundw
                    case rel => exact ⟨j + 1, _, by omega, by go_num, rfl⟩
                    case measure => simp [intOf]; omega
                  · have hd : decide ((j : Int) < (m : Int)) = false := by simpa using hjm
                    go_wp2_with fail
                    go_quiet ((go_at_call 49; exact (mark_q q j _ (by omega) (by omega)).mono fun e w' ⟨he, hw⟩ => ⟨he, _, hw⟩))
                    go_wp2_with fail
                    go_roundw
                    case rel => exact ⟨j + 1, _, by omega, by go_num, rfl⟩
                    case measure => simp [intOf]; omega
                · go_wp2_with fail
                  go_roundw
                  case rel => exact ⟨q + 1, d, by omega, by go_num, rfl⟩
                  case measure => simp [intOf]; omega
            · go_wp2_with fail
              go_ret
              exact ⟨rfl, HEND.out _⟩
end Go.Proofs.Ytihmgkjmebdioaa
/- Lists of bytes that were told, kept in a list of lists: one thing of a law's world (obT); another one behind, read one, all of them handed to ApartBytes. No statement's program in sight but the kit's ApartBytes. -/
namespace Go.Proofs.Ytihmgkjmebdioaa
open Go.RowKit
set_option maxRecDepth 100000
set_option linter.unusedVariables false
set_option linter.unusedSimpArgs false

def mkM (p : Value × List UInt8) : Mem1 := ⟨p.1, p.2.length, p.2.map B⟩
def obT (u : Value) (ts : List (Value × List UInt8)) : Ob := obLL 22 5 1 u (ts.map (·.1)) (ts.map mkM)
theorem obT_form {w0 w : World} {obs : List Ob} (h : Env w0 w obs) (i : Nat) {u : Value} {ts : List (Value × List UInt8)} (hi : obs[i]? = some (obT u ts)) : ∃ ao cap, u = .slice ao ts.length cap ∧ ts.length ≤ cap ∧ cap ≤ 9223372036854775807 := by
  have hl := (h.ll i hi).row
  rw [List.length_map] at hl
  rcases hl.2 with ⟨rfl, h0⟩ | ⟨g, cap, cur, rfl, _, hg, hnc, hcm, _, htake⟩
  · exact ⟨none, 0, by rw [h0], by omega, by omega⟩
  · exact ⟨some ⟨g, 0, none⟩, cap, rfl, hnc, hcm⟩
/-- one list more, that was the last thing -/
theorem obT_more {w0 w w' : World} {obs : List Ob} {v : Value} {l : List UInt8} (h : Env w0 w (obs ++ [obB v l])) (hb : Below w.heap.size w w') (i : Nat) {u u' : Value} {ts : List (Value × List UInt8)} (hi : obs[i]? = some (obT u ts)) {w2 : World}
    (hown : w2.ownsRow 0 22 1 u' (ts.length + 1) (ts.map (·.1) ++ [v])) (hg : w'.grownBy w2 u.ownBlock) (hat : u'.ownBlock = u.ownBlock ∨ u'.ownBlock = some w'.heap.size) : Env w0 w2 (obs.set i (obT u' (ts ++ [(v, l)]))) := by
  have h1 : Env w0 w (obs.set i (obLL 22 5 1 u (ts.map (·.1)) (ts.map mkM ++ [mkM (v, l)]))) := Env.llIn (e := 5) (sz := 1) (v := v) (n := l.length) (cs := l.map B) h i hi
  have hil : i < obs.length := (List.getElem?_eq_some_iff.1 hi).1
  have h2 := (h1.below hb).llRow i (u' := u') (vs' := ts.map (·.1) ++ [v]) (List.getElem?_set_self hil) (by rw [List.length_append, List.length_map, List.length_singleton]; exact hown) hg hat
  rw [List.set_set] at h2
  unfold obT
  rw [List.map_append, List.map_append]
  exact h2
theorem one_slice' {ao : Option Addr} {n c : Nat} : ∀ u ∈ [Value.slice ao n c], u.oneCell' = true := by
  intro u hu
  simp at hu
  subst hu
  rfl
theorem wpList_append_T {w0 w1 : World} {obs : List Ob} {ao : Option Addr} {c : Nat} {l : List UInt8} (h : Env w0 w1 (obs ++ [obB (.slice ao l.length c) l])) (i : Nat) {u : Value} {ts : List (Value × List UInt8)} (hi : obs[i]? = some (obT u ts)) {a : Act} {o : Oper} {Q : Exit → Act → World → Prop} {ops : Array Oper} {rest : List Oper}
    (s x : Operand) (hgd : o.guard = none) (ho : o.op = .call { callee := .builtin .append, args := #[s, x], argTypes := #[57, 57] }) (hs : a.eval s = u) (hx : a.eval x = .slice (some ⟨w1.heap.size, 0, none⟩) 1 1) (hn : ts.length ≤ 5000000000000)
    (kk : ∀ u' w', Env w0 w' (obs.set i (obT u' (ts ++ [(.slice ao l.length c, l)]))) → wpList Try.prog ops Q rest (a.put o.dst u') w') : wpList Try.prog ops Q (o :: rest) a (w1.alloc (.cells #[.slice ao l.length c] 22)) := by
  obtain ⟨i0, hi0, hz0, hz1, hz2⟩ := info_parts info8s
  have hb : Below w1.heap.size w1 (w1.alloc (.cells #[.slice ao l.length c] 22)) := (Below.refl _ _).alloc (Nat.le_refl _) _
  have hil : i < obs.length := (List.getElem?_eq_some_iff.1 hi).1
  have hi2 : (obs ++ [obB (.slice ao l.length c) l])[i]? = some (obT u ts) := by rw [List.getElem?_append_left hil]; exact hi
  have hrow := ((h.below hb).ll i hi2).row
  rw [List.length_map] at hrow
  refine wpList_append_lies _ hgd s x 57 ho 0 22 i0 _ 1 24 Try.underlying57 hi0 hz0 hz1 hz2 rfl (by decide) u ts.length (ts.map (·.1)) hs hrow ⟨w1.heap.size, 0, none⟩ 1 1 [.slice ao l.length c] hx rfl (World.news_of_block (heap_alloc_new w1 (.cells #[.slice ao l.length c] 22))) one_slice' (by decide) (by unfold maxLen; omega) (by omega) (Nat.zero_le _) _ rfl ?_
  intro g cap w' h1 h2 h3 h4
  exact kk _ _ (obT_more h hb i hi h1 h2 (by
    rcases h3 with h3 | h3
    · exact .inl (by rw [h3]; rfl)
    · exact .inr (by rw [h3]; rfl)))
theorem obT_get {w0 w : World} {obs : List Ob} (h : Env w0 w obs) (i : Nat) {u : Value} {ts : List (Value × List UInt8)} (hi : obs[i]? = some (obT u ts)) {j : Nat} {v : Value} {l : List UInt8} (hj : ts[j]? = some (v, l)) : Bs w v l := by
  have := (h.ll i hi).mem j (mkM (v, l)) (by rw [List.getElem?_map, hj]; rfl)
  exact OB.rd this
theorem obT_cell {w0 w : World} {obs : List Ob} (h : Env w0 w obs) (i : Nat) {g n c : Nat} {ts : List (Value × List UInt8)} (hi : obs[i]? = some (obT (.slice (some ⟨g, 0, none⟩) n c) ts)) {j : Nat} {v : Value} {l : List UInt8} (hj : ts[j]? = some (v, l)) : w.cell? ⟨g, j, none⟩ = some v := by
  have hr := (h.ll i hi).row
  rcases hr.2 with ⟨hv, _⟩ | ⟨g', cap', cur, hv, _⟩
  · cases hv
  · injection hv with _ e2 _
    have hn : n = ts.length := by rw [e2]; exact List.length_map _
    rw [← e2] at hr
    have hl : j < ts.length := (List.getElem?_eq_some_iff.1 hj).1
    rw [World.ownsRow.cellAt hr j (by omega), List.getElem?_map, hj]
    rfl
theorem obT_slice {w0 w : World} {obs : List Ob} (h : Env w0 w obs) (i : Nat) {u : Value} {ts : List (Value × List UInt8)} (hi : obs[i]? = some (obT u ts)) (h0 : 0 < ts.length) : ∃ g c, u = .slice (some ⟨g, 0, none⟩) ts.length c ∧ ts.length ≤ c ∧ c ≤ 9223372036854775807 := by
  have hr := (h.ll i hi).row
  rw [List.length_map] at hr
  rcases hr.2 with ⟨_, hv⟩ | ⟨g', cap', cur, hv, _, _, h1, h2, _⟩
  · omega
  · exact ⟨g', cap', hv, h1, h2⟩
/-- all of them lie apart, and of other things -/
theorem apart_told {w0 w : World} {u : Value} {ts : List (Value × List UInt8)} {rest : List Ob} (h : Env w0 w (obT u ts :: rest)) (hs : ∀ p ∈ ts, p.2.length ≤ 140737488355000) (hl : ts.length ≤ 5000000000000) :
    Calls Try.prog 26 #[u] w fun e w' => e = .returned (.bool true) ∧ Env w0 w' rest := by
  have h1 := h.llOut (fun j => obE 5 1 (Tv (ts.map (·.1)) j) ((ts[j]?.map (fun p => p.2.length)).getD 0) ((ts[j]?.map (fun p => p.2.map B)).getD [])) (by
    intro j p hp
    rw [List.getElem?_map] at hp
    rcases hq : ts[j]? with _ | q
    · rw [hq] at hp; cases hp
    · rw [hq] at hp
      injection hp with hp
      subst hp
      have e : Tv (ts.map (·.1)) j = q.1 := by unfold Tv; rw [List.getD_eq_getElem?_getD, List.getElem?_map, hq]; rfl
      rw [e]
      rfl)
  rw [show (ts.map mkM).length = ts.length from List.length_map _, show (ts.map (·.1)).length = ts.length from List.length_map _] at h1
  refine apartBytes_any u (ts.map (·.1)) (fun j => (ts[j]?.map (fun p => p.2.length)).getD 0) (fun j => (ts[j]?.map (fun p => p.2.map B)).getD []) rest ?_ ?_ (by simpa using hl)
  · unfold AEnv
    have e : (ts.map (·.1)).length = ts.length := List.length_map _
    rw [e]
    exact h1
  · intro j hj
    have hj2 : j < ts.length := by simpa using hj
    have e : ts[j]? = some ts[j] := List.getElem?_eq_getElem hj2
    rw [e]
    exact hs _ (List.getElem_mem hj2)
end Go.Proofs.Ytihmgkjmebdioaa
/- The law's pair of ciphers: its world, make. -/
namespace Go.Proofs.Ytihmgkjmebdioaa
open Go.RowKit
set_option maxRecDepth 100000
set_option linter.unusedVariables false
set_option linter.unusedSimpArgs false
attribute [local go_sem] Oper.semAt_some
structure St10 where
  c0 : Value
  c1 : Value
  R0 : Option Rc
  R1 : Option Rc
  fv : Value
  wv : Value
  rs : List Rn
  s0 : Cst
  s1 : Cst
  ts : List (Value × List UInt8)
  ws : List (Value × List UInt8)
def pairC (pl pw : Value) (x : St10) : Array Value := #[x.c0, x.c1, rcV x.R0, rcV x.R1, pl, pw, x.fv, x.wv]
def WL (P : Nat) (pl pw : Value) (x : St10) : List Ob :=
  [obK P 59 (pairC pl pw x), obP pl (some x.rs), obR pw (some x.rs), obC x.c0 x.s0, obC x.c1 x.s1, obR2 x.R0 x.R1, obT x.fv x.ts, obT x.wv x.ws, obP (.pointer none) none, obR (.pointer none) none]
structure OK10 (i : Nat) (x : St10) : Prop where
  r0 : rel x.s0 x.R0
  r1 : rel x.s1 x.R1
  nn : 0 ≤ tot x.rs
  sum : tot x.rs ≤ i
  len : x.rs.length ≤ i
  tl : x.ts.length ≤ i
  same : x.ts.map (·.2) = x.ws.map (·.2)
  small : ∀ y ∈ x.ts, y.2.length ≤ 240
theorem OK10.wl {i : Nat} {x : St10} (h : OK10 i x) : x.ws.length = x.ts.length := by
  have := congrArg List.length h.same
  simpa using this.symm
theorem OK10.up {i : Nat} {x : St10} (h : OK10 i x) : OK10 (i + 1) x :=
  ⟨h.r0, h.r1, h.nn, by have := h.sum; omega, by have := h.len; omega, by have := h.tl; omega, h.same, h.small⟩
def sd {α : Type} (k : Nat) (a b : α) : α := if k = 0 then a else b
theorem WL_c {P : Nat} {pl pw : Value} {x : St10} (k : Nat) (hk : k < 2) : (WL P pl pw x)[3 + k]? = some (obC (sd k x.c0 x.c1) (sd k x.s0 x.s1)) := by
  rcases (by omega : k = 0 ∨ k = 1) with rfl | rfl <;> rfl
theorem pair_c {pl pw : Value} {x : St10} (k : Nat) (hk : k < 2) : (pairC pl pw x)[k]? = some (sd k x.c0 x.c1) := by
  rcases (by omega : k = 0 ∨ k = 1) with rfl | rfl <;> rfl
theorem pair_r {pl pw : Value} {x : St10} (k : Nat) (hk : k < 2) : (pairC pl pw x)[2 + k]? = some (rcV (side k x.R0 x.R1)) := by
  rcases (by omega : k = 0 ∨ k = 1) with rfl | rfl <;> rfl
theorem OK10.rk {i : Nat} {x : St10} (h : OK10 i x) (k : Nat) (hk : k < 2) : rel (sd k x.s0 x.s1) (side k x.R0 x.R1) := by
  rcases (by omega : k = 0 ∨ k = 1) with rfl | rfl
  · exact h.r0
  · exact h.r1
/-- the ledgers of a call: the law's, or none -/
def LSel (pl pw : Value) (x : St10) (jl jw : Nat) (lv qv : Value) (o : Option (List Rn)) : Prop := (jl = 1 ∧ jw = 2 ∧ lv = pl ∧ qv = pw ∧ o = some x.rs) ∨ (jl = 8 ∧ jw = 9 ∧ lv = .pointer none ∧ qv = .pointer none ∧ o = none)
section
variable {P : Nat} {pl pw : Value} {x : St10} {jl jw : Nat} {lv qv : Value} {o o' : Option (List Rn)}
theorem LSel.l (h : LSel pl pw x jl jw lv qv o) : (WL P pl pw x)[jl]? = some (obP lv o) := by
  rcases h with ⟨rfl, rfl, rfl, rfl, rfl⟩ | ⟨rfl, rfl, rfl, rfl, rfl⟩ <;> rfl
theorem LSel.w (h : LSel pl pw x jl jw lv qv o) : (WL P pl pw x)[jw]? = some (obR qv o) := by
  rcases h with ⟨rfl, rfl, rfl, rfl, rfl⟩ | ⟨rfl, rfl, rfl, rfl, rfl⟩ <;> rfl
theorem LSel.j (h : LSel pl pw x jl jw lv qv o) : jl ≠ jw ∧ jl ≠ 5 ∧ jw ≠ 5 ∧ jl ≠ 0 ∧ jw ≠ 0 ∧ jl < 10 ∧ jw < 10 ∧ jl ≠ 3 ∧ jl ≠ 4 ∧ jw ≠ 3 ∧ jw ≠ 4 ∧ jl ≠ 6 ∧ jl ≠ 7 ∧ jw ≠ 6 ∧ jw ≠ 7 := by
  rcases h with ⟨rfl, rfl, _⟩ | ⟨rfl, rfl, _⟩ <;> decide
theorem LSel.room (h : LSel pl pw x jl jw lv qv o) {i : Nat} (hx : OK10 i x) (hi : i ≤ 1000) : Room o 1 := by
  rcases h with ⟨_, _, _, _, rfl⟩ | ⟨_, _, _, _, rfl⟩
  · exact Room.some (by have := hx.sum; omega) (by have := hx.len; omega)
  · exact Room.none 1
def upd (o o' : Option (List Rn)) : Prop := o' = o ∨ ∃ k s, o' = noteO o k s 1
theorem upd_E (o : Option (List Rn)) (c : Cst) : upd o (noteE o c) := by
  unfold noteE
  split
  · exact .inr ⟨_, _, rfl⟩
  · exact .inl rfl
theorem upd_W (o : Option (List Rn)) (c : Cst) : upd o (noteW o c) := by
  unfold noteW
  split
  · exact .inr ⟨_, _, rfl⟩
  · exact .inl rfl
def St10.led (x : St10) (rs : List Rn) : St10 := { x with rs := rs }
theorem LSel.note (h : LSel pl pw x jl jw lv qv o) (hu : upd o o') {i : Nat} (hx : OK10 i x) :
    ∃ rs', ((WL P pl pw x).set jl (obP lv o')).set jw (obR qv o') = WL P pl pw (x.led rs') ∧ OK10 (i + 1) (x.led rs') := by
  rcases h with ⟨rfl, rfl, rfl, rfl, rfl⟩ | ⟨rfl, rfl, rfl, rfl, rfl⟩
  · rcases hu with rfl | ⟨k, s, rfl⟩
    · exact ⟨x.rs, rfl, hx.up⟩
    · refine ⟨noteL x.rs k s 1, rfl, ⟨hx.r0, hx.r1, ?_, ?_, ?_, ?_, hx.same, hx.small⟩⟩
      · show 0 ≤ tot (noteL x.rs k s 1)
        rw [tot_note]; have := hx.nn; omega
      · show tot (noteL x.rs k s 1) ≤ _
        rw [tot_note]; have := hx.sum; omega
      · have := noteL_len x.rs k s 1
        have := hx.len
        show (noteL x.rs k s 1).length ≤ i + 1
        omega
      · have := hx.tl
        show x.ts.length ≤ i + 1
        omega
  · rcases hu with rfl | ⟨k, s, rfl⟩
    · exact ⟨x.rs, rfl, hx.up⟩
    · exact ⟨x.rs, rfl, hx.up⟩
end
/-- side k is c and R then -/
def St10.make (x : St10) (k : Nat) (cv : Value) (c : Cst) (R : Rc) : St10 := { x with c0 := if k = 0 then cv else x.c0, c1 := if k = 0 then x.c1 else cv, s0 := if k = 0 then c else x.s0, s1 := if k = 0 then x.s1 else c, R0 := put1 k x.R0 (some R), R1 := put2 k x.R1 (some R) }
theorem OK10.make {i : Nat} {x : St10} (h : OK10 i x) (k : Nat) (hk : k < 2) (cv : Value) {c : Cst} {R : Rc} (hr : rel c (some R)) : OK10 i (x.make k cv c R) := by
  rcases (by omega : k = 0 ∨ k = 1) with rfl | rfl
  · exact ⟨hr, h.r1, h.nn, h.sum, h.len, h.tl, h.same, h.small⟩
  · exact ⟨h.r0, hr, h.nn, h.sum, h.len, h.tl, h.same, h.small⟩
/-- the pair's block and one cipher have turned -/
theorem WL_make {P : Nat} {pl pw : Value} {x : St10} (k : Nat) (hk : k < 2) (cv : Value) (c : Cst) (R : Rc) :
    (((WL P pl pw x).set 0 (obK P 59 (((pairC pl pw x).setIfInBounds k cv).setIfInBounds (2 + k) R.v))).set (3 + k) (obC cv c)).set 5 (obR2 (put1 k x.R0 (some R)) (put2 k x.R1 (some R))) = WL P pl pw (x.make k cv c R) := by
  rcases (by omega : k = 0 ∨ k = 1) with rfl | rfl <;> rfl
end Go.Proofs.Ytihmgkjmebdioaa
/- The law's pair of ciphers: make. -/
namespace Go.Proofs.Ytihmgkjmebdioaa
open Go.RowKit
set_option maxRecDepth 100000
set_option linter.unusedVariables false
set_option linter.unusedSimpArgs false
attribute [local go_sem] Oper.semAt_some
theorem Env.swapIn {w0 w : World} {L : List Ob} {B C : Ob} (h : Env w0 w (L ++ [B, C])) (m : Nat) (hm : m < L.length) : Env w0 w (L.set m C) := by
  refine h.pick (fun j => if j = m then L.length + 1 else j) ?_ ?_
  · intro i j hi hj e
    rw [List.length_set] at hi hj
    by_cases h1 : i = m <;> by_cases h2 : j = m <;> simp only [h1, h2, if_true, if_false] at e <;> omega
  · intro j ob hj
    have hjl : j < L.length := by
      have := (List.getElem?_eq_some_iff.1 hj).1
      rwa [List.length_set] at this
    by_cases h1 : j = m
    · subst h1
      rw [List.getElem?_set_self hjl] at hj
      rw [if_pos rfl, atApp]
      exact hj
    · rw [List.getElem?_set_ne (fun e => h1 e.symm)] at hj
      rw [if_neg h1, List.getElem?_append_left hjl]
      exact hj
structure Make10R (w0 : World) (P : Nat) (pl pw : Value) (i : Nat) (e : Ending) (w' : World) : Prop where
  ex : e = .returned (.bool true) ∧ ∃ x', Env w0 w' (WL P pl pw x') ∧ OK10 i x'
theorem WL_len {P : Nat} {pl pw : Value} {x : St10} : (WL P pl pw x).length = 10 := rfl
set_option maxHeartbeats 4000000 in
theorem make10 {w0 w : World} {P : Nat} {pl pw : Value} {x : St10} (h : Env w0 w (WL P pl pw x)) {i : Nat} (hx : OK10 i x) (hi : i ≤ 1000) (k : Nat) (hk : k < 2) {u : Value} {key : List UInt8} (hu : Bs w0 u key) (hkl : key.length + 6 ≤ 140737488355328) {jl jw : Nat} {lv qv : Value} {o : Option (List Rn)} (hs : LSel pl pw x jl jw lv qv o) :
    Calls Try.prog 24 #[.pointer (some ⟨P, 0, none⟩), .int .i64 (k : Int), u, lv, qv] w (Make10R w0 P pl pw (i + 1)) := by
  have HE := Lib.hid h
  have HX := Lib.hid hx
  have HS := Lib.hid hs
  have HU := Lib.hid hu
  obtain ⟨n1, n2, n3, n4, n5, n6, n7, _⟩ := hs.j
  have hroom := Lib.hid (hs.room hx hi)
  have huo := h.old hu
  obtain ⟨ao, cap, rfl, hc1, hc2, _⟩ := hu.form
  have HUO := Lib.hid huo
  clear h hx hs hu huo
  go_enter Try.func24, Try.ntmps24
  go_wp2_with fail
  refine (lent_env HE.out HUO.out hkl).mono ?_
  rintro e w1 ⟨g, gc, rfl, h5⟩
  rw [lent_length] at h5
  rw [lent_length]
  have H1 := Lib.hid h5
  have hgl := (H1.out.bytes 10 rfl)
  have hgc : key.length + 6 ≤ gc ∧ gc ≤ 9223372036854775807 := by
    obtain ⟨ao', cap', he, q1, q2, _⟩ := hgl.rd.form
    injection he with _ _ he
    subst he
    rw [lent_length] at q1
    exact ⟨q1, q2⟩
  obtain ⟨hgc1, hgc2⟩ := hgc
  have bk : 0 ≤ (k : Int) ∧ (k : Int) < 2 := by omega
  clear h5 hgl HE
  by_cases hr : RightLen key.length
  · go_wp2_with fail
    refine (newC_env H1.out jl (q := lv) (o := o) (by rw [List.getElem?_append_left (by rw [WL_len]; exact n6)]; exact HS.out.l) hroom.out (Src.lent H1.out jl 10 (by omega) (by rw [lent_length]; rfl)) hr).mono ?_
    rintro e w2 ⟨b, rfl, h5⟩
    rw [List.set_append_left _ _ (by rw [WL_len]; exact n6), List.append_assoc] at h5
    have H2 := Lib.hid h5
    clear h5
    go_wp2_with fail
    refine (rcNew_env H2.out 5 jw (by omega) (r := x.R0) (s := x.R1) (q := qv) (o := o) (by rw [List.getElem?_append_left (by rw [List.length_set, WL_len]; omega), List.getElem?_set_ne (by omega)]; rfl) (by rw [List.getElem?_append_left (by rw [List.length_set, WL_len]; exact n7), List.getElem?_set_ne (by omega)]; exact HS.out.w) hroom.out k hk HU.out hr).mono ?_
    rintro e w3 ⟨R, he, hRm, hRk, hRK, h5⟩
    have hv : R.v = .pointer (some ⟨R.b, 0, none⟩) := rfl
    rw [hv] at he
    subst he
    rw [List.set_append_left _ _ (by rw [List.length_set, WL_len]; exact n7), List.set_append_left _ _ (by rw [List.length_set, List.length_set, WL_len]; omega)] at h5
    obtain ⟨rs', hset, hok⟩ := HS.out.note (P := P) (.inr ⟨4, key.length, rfl⟩) HX.out
    rw [hset] at h5
    have hrel : rel (some (key.length, sched key)) (some R) := by
      simp only [rel]
      rw [hRm, if_pos rfl]
      exact ⟨hRk.symm, hRK.symm, hr⟩
    have HOK := Lib.hid (hok.make k hk (.pointer (some ⟨b, 0, none⟩)) hrel)
    have H3 := Lib.hid h5
    clear h5 hset hok hrel hRm hRk hRK H2 hv
    obtain ⟨L, hL⟩ : ∃ L, (WL P pl pw (x.led rs')).set 5 (obR2 (put1 k x.R0 (some R)) (put2 k x.R1 (some R))) = L := ⟨_, rfl⟩
    have HLn : Hid (L.length = 10) := by rw [← hL]; exact Lib.hid rfl
    have HL0 : Hid (L[0]? = some (obK P 59 (pairC pl pw x))) := by rw [← hL]; exact Lib.hid rfl
    rw [hL] at H3
    have HL := Lib.hid hL
    clear hL
    go_upto_region 4 with fail
    have c10 : ∀ y : List UInt8, (L ++ [obB (.slice (some ⟨g, 0, none⟩) (key.length + 6) gc) y, obC (.pointer (some ⟨b, 0, none⟩)) (some (key.length, sched key))])[10]? = some (obB (.slice (some ⟨g, 0, none⟩) (key.length + 6) gc) y) := fun y => by
      have := atApp L [obB (.slice (some ⟨g, 0, none⟩) (key.length + 6) gc) y, obC (.pointer (some ⟨b, 0, none⟩)) (some (key.length, sched key))] 0
      rw [HLn.out] at this
      exact this
    have C10 := Lib.hid c10
    have HRD := Lib.hid (And.intro (H3.out.bytes 10 (c10 (lent key))).rd (H3.out.old HU.out))
    clear c10
    go_wp2_with fail
    refine (kept_env H3.out HRD.out.1 HRD.out.2 hkl).mono ?_
    rintro e w4 ⟨he, h5⟩
    rw [decide_eq_true rfl] at he
    subst he
    have H4 := Lib.hid h5
    clear h5 H3 HRD
    go_wp2_with fail
    refine (over_env H4.out 10 (C10.out (lent key)) (by rw [lent_length]; omega)).mono ?_
    rintro e w5 ⟨rfl, h5⟩
    have h6 : Env w0 w5 (L ++ [obB (.slice (some ⟨g, 0, none⟩) (key.length + 6) gc) (over (lent key).length), obC (.pointer (some ⟨b, 0, none⟩)) (some (key.length, sched key))]) := by
      rw [List.set_append_right _ _ (by rw [HLn.out]; omega), HLn.out, show 10 - 10 = 0 from rfl] at h5
      exact h5
    have hP := h6.blk 0 (b := P) (by rw [List.getElem?_append_left (by rw [HLn.out]; omega)]; exact HL0.out)
    have f0 := hP.unfrozen k
    have d0 := hP.cellAt k (pair_c k hk)
    have hP2 := hP.set k (.pointer (some ⟨b, 0, none⟩))
    have f1 := hP2.unfrozen (2 + k)
    have d1 : (w5.setCell ⟨P, k, none⟩ (.pointer (some ⟨b, 0, none⟩))).cell? ⟨P, 2 + k, none⟩ = some (rcV (side k x.R0 x.R1)) := hP2.cellAt (2 + k) (by rw [Array.getElem?_setIfInBounds_ne (by omega)]; exact pair_r k hk)
    have hbP := hP.lt
    have h7 : Env w0 ((w5.setCell ⟨P, k, none⟩ (.pointer (some ⟨b, 0, none⟩))).setCell ⟨P, 2 + k, none⟩ (.pointer (some ⟨R.b, 0, none⟩))) ((L.set 0 (obK P 59 (((pairC pl pw x).setIfInBounds k (.pointer (some ⟨b, 0, none⟩))).setIfInBounds (2 + k) R.v))) ++ [obB (.slice (some ⟨g, 0, none⟩) (key.length + 6) gc) (over (lent key).length), obC (.pointer (some ⟨b, 0, none⟩)) (some (key.length, sched key))]) := by
      have h8 := h6.turnBlk 0 (b := P) (by rw [List.getElem?_append_left (by rw [HLn.out]; omega)]; exact HL0.out) (hP2.set (2 + k) R.v) (((Only.refl (fun x => x = P) w5).set (p := ⟨P, k, none⟩) (.inl rfl) _).set (p := ⟨P, 2 + k, none⟩) (.inl rfl) _)
      rw [List.set_append_left _ _ (by rw [HLn.out]; omega)] at h8
      exact h8
    have h9 := h7.swapIn (3 + k) (by rw [List.length_set, HLn.out]; omega)
    rw [← HL.out] at h9
    have e9 : ((((WL P pl pw (x.led rs')).set 5 (obR2 (put1 k x.R0 (some R)) (put2 k x.R1 (some R)))).set 0 (obK P 59 (((pairC pl pw x).setIfInBounds k (.pointer (some ⟨b, 0, none⟩))).setIfInBounds (2 + k) R.v))).set (3 + k) (obC (.pointer (some ⟨b, 0, none⟩)) (some (key.length, sched key)))) = WL P pl pw ((x.led rs').make k (.pointer (some ⟨b, 0, none⟩)) (some (key.length, sched key)) R) := by
      rcases (by omega : k = 0 ∨ k = 1) with rfl | rfl <;> rfl
    rw [e9] at h9
    have H9 := Lib.hid h9
    clear h5 h6 h7 h9 e9 hP hP2 H4 H1
    go_wp2_with fail
    go_ret
    exact ⟨rfl, _, H9.out, HOK.out⟩
  · have hnr : ¬ key.length = 16 ∧ ¬ key.length = 24 ∧ ¬ key.length = 32 := by unfold RightLen at hr; omega
    have hrl : Bs w1 (.slice (some ⟨g, 0, none⟩) key.length gc) key := (Src.lent H1.out jl 10 (by omega) (by rw [lent_length]; rfl)).1
    have HRL := Lib.hid hrl
    have HNR := Lib.hid (And.intro hnr hr)
    clear hrl hnr hr
    go_wp2_with fail
    refine (newC_off lv _ key w1 HRL.out HNR.out.1).mono ?_
    rintro e w2 ⟨rfl, rfl⟩
    have HRD := Lib.hid (And.intro (H1.out.bytes 10 rfl).rd (H1.out.old HU.out))
    go_wp2_with fail
    refine (rcNew_no (q := qv) HRD.out.2 HNR.out.2).mono ?_
    rintro e w3 ⟨rfl, rfl⟩
    go_wp2_with fail
    refine (kept_env H1.out HRD.out.1 HRD.out.2 hkl).mono ?_
    rintro e w4 ⟨he, h5⟩
    rw [decide_eq_true rfl] at he
    subst he
    have H4 := Lib.hid h5
    clear h5 H1 HRD
    go_wp2_with fail
    refine (over_env H4.out 10 rfl (by rw [lent_length]; omega)).mono ?_
    rintro e w5 ⟨rfl, h5⟩
    have h6 : Env w0 w5 (WL P pl pw x) := h5.leftA (B := [obB (.slice (some ⟨g, 0, none⟩) (key.length + 6) gc) (over (lent key).length)])
    have H6 := Lib.hid h6
    clear h5 h6 H4
    go_wp2_with fail
    go_ret
    exact ⟨rfl, x, H6.out, HX.out.up⟩
end Go.Proofs.Ytihmgkjmebdioaa
/- A whole block is read under a guard. No program in sight. -/
namespace Go.Proofs.Ytihmgkjmebdioaa
open Go.RowKit
section
variable {P : Program} {ops : Array Oper} {rest : List Oper} {a : Act} {w : World} {Q : Exit → Act → World → Prop} {d : Option Tmp} {ot : TypeId} {x : Operand} {pos : String} {aft : Array Edge} {gd : Option (Nat × Bool)}
theorem wpList_load_gd {ty : TypeId} (g : Nat) (hw : Region.wanted ⟨d, .load ty x, ot, pos, aft, gd⟩ (yielded ops a.tmps) = true) (hx : a.eval x = .pointer (some ⟨g, 0, none⟩)) {t : TypeId} {cs : Array Value} {de : TypeDesc} {n : Nat} (hg : Blk w g t cs)
    (hu : P.underlying ty = some de) (hd : (match de with | .struct _ | .array _ _ => true | _ => false) = true) (hi : (P.info? ty).map (·.size) = some n) (hn : cs.size = n)
    (h : wpList P ops Q rest (a.put d (.agg cs)) w) : wpList P ops Q (⟨d, .load ty x, ot, pos, aft, gd⟩ :: rest) a w := by
  refine wpList_value (.agg cs) hw ?_ h
  simp only [execOp, hx, Instr.loadAt, Instr.sureAddr, Sem.run_bind, Sem.run_pure, Result.andThen_ok, run_loadVar_row w g t ty cs (0, 0) de hg hu hd (by rw [hi, hn])]
end
end Go.Proofs.Ytihmgkjmebdioaa
/- The document's examples of the block cipher, reckoned. No program in sight. -/
namespace Go.Proofs.Ytihmgkjmebdioaa
set_option maxRecDepth 100000

def rise (n : Nat) (y : UInt8) : List UInt8 := (List.range n).map fun i => UInt8.ofNat (i * y.toNat % 256)
theorem known1 : enc (sched (rise 16 1)) 10 (rise 16 17) = [0x69, 0xc4, 0xe0, 0xd8, 0x6a, 0x7b, 0x04, 0x30, 0xd8, 0xcd, 0xb7, 0x80, 0x70, 0xb4, 0xc5, 0x5a] := by decide +kernel
theorem known2 : enc (sched (rise 24 1)) 12 (rise 16 17) = [0xdd, 0xa9, 0x7c, 0xa4, 0x86, 0x4c, 0xdf, 0xe0, 0x6e, 0xaf, 0x70, 0xa0, 0xec, 0x0d, 0x71, 0x91] := by decide +kernel
theorem known3 : enc (sched (rise 32 1)) 14 (rise 16 17) = [0x8e, 0xa2, 0xb7, 0xca, 0x51, 0x67, 0x45, 0xbf, 0xea, 0xfc, 0x49, 0x90, 0x4b, 0x49, 0x60, 0x89] := by decide +kernel
def WW1 : List UInt8 := [0x69, 0xc4, 0xe0, 0xd8, 0x6a, 0x7b, 0x04, 0x30, 0xd8, 0xcd, 0xb7, 0x80, 0x70, 0xb4, 0xc5, 0x5a]
def WW2 : List UInt8 := [0xdd, 0xa9, 0x7c, 0xa4, 0x86, 0x4c, 0xdf, 0xe0, 0x6e, 0xaf, 0x70, 0xa0, 0xec, 0x0d, 0x71, 0x91]
def WW3 : List UInt8 := [0x8e, 0xa2, 0xb7, 0xca, 0x51, 0x67, 0x45, 0xbf, 0xea, 0xfc, 0x49, 0x90, 0x4b, 0x49, 0x60, 0x89]
theorem awake_case (k : Nat) (hk : k < 3) : ∃ (n : Nat) (W : List UInt8), (16 : Int) + 8 * (k : Int) = (n : Int) ∧ (n = 16 ∨ n = 24 ∨ n = 32) ∧ n ≤ 32 ∧ 0 < n ∧ enc (sched (rise n 1)) (n / 4 + 6) (rise 16 17) = W ∧ W.length = 16 ∧ ∀ i, i < 16 → (WW1 ++ WW2 ++ WW3)[16 * k + i]? = W[i]? := by
  rcases k with _ | _ | _ | k
  · exact ⟨16, WW1, rfl, .inl rfl, by omega, by omega, known1, rfl, by decide⟩
  · exact ⟨24, WW2, rfl, .inr (.inl rfl), by omega, by omega, known2, rfl, by decide⟩
  · exact ⟨32, WW3, rfl, .inr (.inr rfl), by omega, by omega, known3, rfl, by decide⟩
  · omega
end Go.Proofs.Ytihmgkjmebdioaa
namespace Go.Proofs.Ytihmgkjmebdioaa
open Go.RowKit
set_option maxRecDepth 100000
set_option linter.unusedVariables false
set_option linter.unusedSimpArgs false

theorem rise_len (n : Nat) (y : UInt8) : (rise n y).length = n := by simp [rise]
theorem rise_succ (n : Nat) (y : UInt8) : rise (n + 1) y = rise n y ++ [UInt8.ofNat (n * y.toNat % 256)] := by simp [rise, List.range_succ]
theorem rise_zero (y : UInt8) : rise 0 y = [] := rfl
set_option maxHeartbeats 1000000 in
theorem rising_any (n : Nat) (y : UInt8) (w : World) (hn : n ≤ 1000) : Calls Try.prog 29 #[.int .i64 (n : Int), .int .u8 (y.toNat : Int)] w (NewBytes (rise n y) w) := by
  obtain ⟨i0, hi, hz0, hz1, hz2⟩ := info_parts info8
  have HI := Lib.hid (And.intro hi (And.intro hz0 (And.intro hz1 hz2)))
  clear hi hz0 hz1 hz2
  go_enter Try.func29, Try.ntmps29
  go_wp2_with fail
  go_loopw [5, 6, 7] (fun v x i w1 => ∃ j : Nat, j ≤ n ∧ i = .int .i64 (j : Int) ∧ x = .int .u8 (((UInt8.ofNat (j * y.toNat % 256)).toNat : Nat) : Int) ∧ Hid (OB w1 v (rise j y) ∧ Below w.heap.size w w1 ∧ (∀ x, fpv v x → w.heap.size ≤ x))) (fun _ _ i _ => n - (intOf i).toNat)
  case atStart => exact ⟨0, by omega, rfl, by simp, Lib.hid ⟨OB.nil w, Below.refl _ _, fun x hx => by simp [fpv, Value.ownBlock] at hx⟩⟩
  case round =>
    obtain ⟨j, hj, rfl, rfl, HV⟩ := hrel
    by_cases hlt : j < n
    · obtain ⟨x, hx⟩ : ∃ x, x = UInt8.ofNat (j * y.toNat % 256) := ⟨_, rfl⟩
      rw [← hx]
      have hxn : ((x.toNat : Int) + (y.toNat : Int)) % 256 = ((UInt8.ofNat ((j + 1) * y.toNat % 256)).toNat : Int) := by
        rw [hx, u8_of _ (by omega), u8_of _ (by omega), Nat.add_mul, Nat.one_mul]
        omega
      have HX := Lib.hid hx
      have HXN := Lib.hid hxn
      clear hx hxn
      have hown : (wr.alloc (.cells #[.int .u8 (x.toNat : Int)] 5)).ownsRow 0 5 1 u5 j ((rise j y).map B) := by
        have h1 := HV.out.1.keep ((Only.refl (fun _ => False) wr).alloc (.cells #[.int .u8 (x.toNat : Int)] 5)) (fun _ _ h => h)
        unfold OB at h1
        rw [rise_len] at h1
        exact h1
      obtain ⟨hi, hz0, hz1, hz2⟩ := HI.out
      go_wp2_with (at_builtin; refine wpList_append_lies _ rfl _ _ 22 rfl 0 5 i0 _ 1 1 Try.underlying22 hi hz0 hz1 hz2 rfl (by decide) u5 j ((rise j y).map B) rfl hown ⟨wr.heap.size, 0, none⟩ 1 1 [.int .u8 (x.toNat : Int)] rfl rfl (World.news_of_block (heap_alloc_new _ _)) (lent_one _) (by decide) (by unfold maxLen; omega) (by omega) (Nat.zero_le _) _ rfl ?_)
      intro g' cap' w2 hown2 hgrow hat hlt2
      have HN : Hid (OB w2 (.slice (some ⟨g', 0, none⟩) (j + 1) cap') (rise (j + 1) y) ∧ Below w.heap.size w w2 ∧ (∀ x, fpv (.slice (some ⟨g', 0, none⟩) (j + 1) cap') x → w.heap.size ≤ x)) := by
        refine Lib.hid ⟨?_, (HV.out.2.1.alloc HV.out.2.1.size _).grown hgrow (by simp; have := HV.out.2.1.size; omega) (fun x hx => HV.out.2.2 x hx), fun z hz => ?_⟩
        · unfold OB
          rw [rise_succ, List.length_append, rise_len, List.map_append, ← HX.out]
          simpa [B] using hown2
        · have e : g' = z := by simpa [fpv, Value.ownBlock] using hz
          subst e
          rcases hat with hat | hat
          · exact HV.out.2.2 g' hat
          · rw [hat]; simp; have := HV.out.2.1.size; omega
      clear hown2 hgrow hat hlt2 hown hi hz0 hz1 hz2
      go_wp2
      go_roundw
      case rel => exact ⟨j + 1, by omega, by go_num, by rw [← HXN.out], HN⟩
      case measure => simp [intOf]; omega
    · obtain rfl : j = n := by omega
      go_wp2
      go_ret
      exact ⟨_, rfl, HV.out.1, HV.out.2.1, HV.out.2.2⟩
def WWA : List UInt8 := WW1 ++ WW2 ++ WW3
theorem guard16 : Try.prog.eqGuardType Try.prog.depth 31 = false := by kernel_rfl
theorem eqAt16 (l m : List UInt8) (hl : l.length = 16) (hm : m.length = 16) (b : Bool) (hb : (l == m) = b) (w : World) : (Op.equalIn 10000 31 (.agg (barr l)) (.agg (barr m))).run Try.prog w = .ok b w := by
  rw [run_eql_bytes Try.underlying31 (by kernel_rfl : Try.prog.info? 5 = some ((Try.prog.info? 5).getD default)) (by kernel_rfl) Try.underlying5 (by kernel_rfl) l m hl hm w, hb]
theorem size48 : (Try.prog.info? 71).map (·.size) = some 48 := by kernel_rfl
theorem blk_self (l : List UInt8) (h : l.length = 16) : blk l = l := tab_self l h
set_option maxHeartbeats 4000000 in
theorem aesAwake_any (w : World) : Calls Try.prog 8 #[] w fun e w' => e = .returned (.bool true) ∧ Below w.heap.size w w' := by
  go_enter Try.func8, Try.ntmps8
  have b0 : Blk (w.alloc (.cells (barr (List.replicate 48 0)) 71)) w.heap.size 71 (barr (List.replicate 48 0)) := Blk.new _ _ _
  have hz48 : ∀ w, (zeroValue 71).run Try.prog w = .ok (.agg (barr (List.replicate 48 0))) w := by intro w; kernel_rfl
  have hz0 : (barr (List.replicate 48 (0 : UInt8))).size = 48 := by rw [barr_size]; rfl
  have hw48 : (barr WWA).size = 48 := by rw [barr_size]; rfl
  have HK := Lib.hid ((Env.start w).newK 71 (barr (List.replicate 48 0)))
  generalize hZ : barr (List.replicate 48 0) = Z at b0 hz48 hz0 HK
  clear hZ
  go_wp2_with (first | ((with_reducible change wpList _ _ _ (Oper.mk (some 7) (Op.build _ _) _ _ _ _ :: _) _ _); refine wpList_value (.agg (barr WW1)) rfl (by kernel_rfl) ?_) | ((with_reducible change wpList _ _ _ (Oper.mk (some 8) (Op.build _ _) _ _ _ _ :: _) _ _); refine wpList_value (.agg (barr WW2)) rfl (by kernel_rfl) ?_) | ((with_reducible change wpList _ _ _ (Oper.mk (some 9) (Op.build _ _) _ _ _ _ :: _) _ _); refine wpList_value (.agg (barr WW3)) rfl (by kernel_rfl) ?_) | ((with_reducible change wpList _ _ _ (Oper.mk (some 10) (Op.build _ _) _ _ _ _ :: _) _ _); refine wpList_value (.agg (barr WWA)) rfl (by kernel_rfl) ?_) | ((with_reducible change wpList _ _ _ (Oper.mk _ (Op.store 71 _ _) _ _ _ _ :: _) _ _); refine wpList_store_var w.heap.size (barr WWA) rfl rfl b0 size48 hw48 hz0 (barr_one _) ?_; intro w1 B1 O1; have H1 := Lib.hid (HK.out.turnBlk 0 rfl B1 O1); clear B1 O1))
  obtain ⟨bw, hbw⟩ : ∃ bw, bw = w.heap.size := ⟨_, rfl⟩
  have H1 : Hid (Env w w1 [obK bw 71 (barr WWA)]) := by rw [hbw]; exact H1
  rw [← hbw]
  clear hbw b0 hz48 hz0 HK
  go_loopw [2] (fun i w1 => ∃ k : Nat, k ≤ 3 ∧ i = .int .i64 (k : Int) ∧ Hid (Env w w1 [obK bw 71 (barr WWA)])) (fun i _ => 3 - (intOf i).toNat)
  case atStart => exact ⟨0, by omega, rfl, H1⟩
  case round =>
    obtain ⟨k, hk, rfl, H⟩ := hrel
    clear H1
    by_cases hlt : k < 3
    · obtain ⟨n, W, hnI, hRL, hn32, hn0, hEnc, hWl, hWat⟩ := awake_case k hlt
      have HENC := Lib.hid hEnc
      have HRL := Lib.hid hRL
      have HWAT := Lib.hid hWat
      clear hEnc hRL hWat
      go_wp2_with fail
      refine (rising_any n 1 wr (by omega)).mono ?_
      rintro e w2 ⟨v, rfl, h1, h2, h3⟩
      have H2 := Lib.hid (H.out.pushB h1 h2 h3)
      clear h1 h2 h3 H
      go_wp2_with fail
      refine (newC_nil H2.out (H2.out.bytes 1 rfl).rd (by rw [rise_len]; exact HRL.out)).mono ?_
      rintro e w3 ⟨p, rfl, h5⟩
      rw [rise_len] at h5
      have H3 : Hid (Env w w3 [obK bw 71 (barr WWA), obB v (rise n 1), obC (.pointer (some ⟨p, 0, none⟩)) (some (n, sched (rise n 1)))]) := Lib.hid h5
      clear h5 H2
      go_wp2_with fail
      refine (rising_any 16 17 w3 (by omega)).mono ?_
      rintro e w4 ⟨v2, rfl, h1, h2, h3⟩
      have H4 := Lib.hid (H3.out.pushB h1 h2 h3)
      clear h1 h2 h3 H3
      go_wp2_with fail
      refine (block_any v2 (rise 16 17) w4 (H4.out.bytes 3 rfl).rd).mono ?_
      rintro e w5 ⟨he, hb⟩
      rw [blk_self _ (rise_len 16 17)] at he
      subst he
      have H5 := Lib.hid (H4.out.below hb)
      clear hb H4
      go_wp2_with fail
      refine (encC_nil H5.out 2 rfl hn0 (rise 16 17) (rise_len 16 17)).mono ?_
      rintro e w6 ⟨he, h5⟩
      rw [HENC.out] at he
      subst he
      have H6 := Lib.hid h5
      clear h5 H5
      have hWs : (barr W).size = 16 := by rw [barr_size]; exact hWl
      have hz16 : (barr (List.replicate 16 (0 : UInt8))).size = 16 := by rw [barr_size]; rfl
      have b6 : Blk (w6.alloc (.cells (barr (List.replicate 16 0)) 31)) w6.heap.size 31 (barr (List.replicate 16 0)) := Blk.new _ _ _
      go_wp2_with ((with_reducible change wpList _ _ _ (Oper.mk _ (Op.store 31 _ _) _ _ _ _ :: _) _ _); refine wpList_store_var w6.heap.size (barr W) rfl rfl b6 size16 hWs hz16 (barr_one _) ?_; intro w7 B7 O7; have HB7 := Lib.hid B7; have H7 := Lib.hid ((H6.out.newK 31 (barr (List.replicate 16 0))).turnBlk 4 rfl B7 O7); clear B7 O7)
      have hkI : (k : Int) < 3 := by omega
      have r1 : w7.rangeAt w6.heap.size 0 (W.map B) := by
        have := HB7.out.range
        rwa [barr_toList] at this
      have r2 : w7.rangeAt bw (k * 16) (W.map B) := by
        intro j v hv
        have hj : j < 16 := by
          have := (List.getElem?_eq_some_iff.1 hv).1
          rwa [List.length_map, hWl] at this
        refine (H7.out.blk 0 rfl).cellAt _ ?_
        have h2 := HWAT.out j hj
        show ((WW1 ++ WW2 ++ WW3).map B).toArray[k * 16 + j]? = some v
        rw [List.getElem?_toArray, List.getElem?_map, Nat.mul_comm k 16, h2, ← List.getElem?_map]
        exact hv
      have R1 := Lib.hid r1
      have R2 := Lib.hid r2
      have hWm : (W.map B).length = 16 := by rw [List.length_map]; exact hWl
      clear r1 r2
      refine wp_region_tame (fun w' => w' = w7.drewN 1) 0 8 (by kernel_rfl) (by kernel_rfl) (fun _ _ d _ _ h => (by cases d <;> exact h)) rfl (by decide) ?_
      simp only [List.take_succ_cons, List.take_zero, List.drop_succ_cons, List.drop_zero]
      refine wpPre_nil ?_
      refine wpTame_run (v := ?_) (by decide) rfl (fun w' hS => ?_) ?_
      rotate_left
      focus (subst hS; go_simp; try rfl; done)
      simp only [Act.put, List.setIfInBounds_toArray, List.set_cons_zero, List.set_cons_succ]
      refine wpTame_run (v := ?_) (by decide) rfl (fun w' hS => ?_) ?_
      rotate_left
      focus (subst hS; go_simp; try rfl; done)
      simp only [Act.put, List.setIfInBounds_toArray, List.set_cons_zero, List.set_cons_succ]
      refine wpTame_run (v := ?_) (by decide) rfl (fun w' hS => ?_) ?_
      rotate_left
      focus (subst hS; go_simp; try rfl; done)
      simp only [Act.put, List.setIfInBounds_toArray, List.set_cons_zero, List.set_cons_succ]
      refine wpTame_load (cs := W.map B) (by decide) rfl rfl rfl Try.underlying31 rfl size16 hWm (fun w' hS => by subst hS; exact R1.out) ?_
      simp only [List.getElem_toArray, List.getElem_cons_succ, List.getElem_cons_zero, Act.put, List.setIfInBounds_toArray, List.set_cons_zero, List.set_cons_succ]
      refine wpTame_run (v := ?_) (by decide) rfl (fun w' hS => ?_) ?_
      rotate_left
      focus (subst hS; go_simp; try rfl; done)
      simp only [Act.put, List.setIfInBounds_toArray, List.set_cons_zero, List.set_cons_succ]
      refine wpTame_run (v := ?_) (by decide) rfl (fun w' hS => ?_) ?_
      rotate_left
      focus (subst hS; go_simp; try rfl; done)
      simp only [Act.put, List.setIfInBounds_toArray, List.set_cons_zero, List.set_cons_succ]
      refine wpTame_load (cs := W.map B) (b := bw) (off := k * 16) (by decide) rfl rfl rfl Try.underlying31 rfl size16 hWm (fun w' hS => by subst hS; exact R2.out) ?_
      simp only [List.getElem_toArray, List.getElem_cons_succ, List.getElem_cons_zero, Act.put, List.setIfInBounds_toArray, List.set_cons_zero, List.set_cons_succ]
      refine wpTame_run (v := .bool (!true)) (by decide) rfl (fun w' hS => exec_neq_arr W W true rfl rfl guard16 (eqAt16 W W hWl hWl true (beq_self_eq_true _))) ?_
      simp only [List.getElem_toArray, List.getElem_cons_succ, List.getElem_cons_zero, Act.put, List.setIfInBounds_toArray, List.set_cons_zero, List.set_cons_succ]
      refine wpTame_nil ?_
      intro w8 hw8
      have H8 : Hid (Env w w8 [obK bw 71 (barr WWA)]) := by
        rw [hw8]
        exact Lib.hid (Env.drop (obs := [_]) (Env.drop (obs := [_, _]) (Env.drop (obs := [_, _, _]) (Env.drop (obs := [_, _, _, _]) (H7.out.draw 1)))))
      clear hw8 H7 R1 R2 HB7
      go_wp2
      go_roundw
      case rel => exact ⟨k + 1, by omega, by go_num, H8⟩
      case measure => simp [intOf]; omega
    · obtain rfl : k = 3 := by omega
      go_wp2
      go_ret
      exact ⟨rfl, H.out.base⟩
end Go.Proofs.Ytihmgkjmebdioaa
