/- The chapter 22's plain law: the document's way to count is the program's; what an operation records is bounded and framed. No program in sight. -/
import Derived.Test.YtkidijjhedjifaaGreatRows
import Derived.OrdersHeld
import Derived.Test.YtkidijjhedjifaaGreatQCostScript0
import Derived.Test.YtkidijjhedjifaaGreatQCostScript1
/- The kit's functions on lists (Runs). Conditions: a list and six more fit into 2^47 bytes. -/
namespace Go.Proofs.YtkidijjhedjifaaGreat
open Go.RowKit
set_option maxRecDepth 100000
set_option linter.unusedVariables false
set_option linter.unusedSimpArgs false
def KN : Knd Rn := ⟨76, 3, fun x => [.int .u8 x.k, .int .i64 x.s, .int .i64 x.c], by decide, fun _ => rfl, fun x u hu => by simp at hu; rcases hu with rfl | rfl | rfl <;> rfl⟩
theorem infoN : (Tryz.prog.info? 76).map (fun i => (i.zero, i.size, i.bytes)) = some (some (.agg #[.int .u8 0, .int .i64 0, .int .i64 0]), 3, 24) := by kernel_rfl
def mkN (k i : Int) : Rn := ⟨0, 0, -1000 * k - i - 7⟩
theorem markN_any (k i : Int) (w : World) (hk : 0 ≤ k) (hk' : k ≤ 1000000) (hi : 0 ≤ i) (hi' : i ≤ 1000000000000000) :
    Calls Tryz.prog 24 #[.int .i64 k, .int .i64 i] w fun e w' => e = .returned (.agg #[.int .u8 (mkN k i).k, .int .i64 (mkN k i).s, .int .i64 (mkN k i).c]) ∧ Below w.heap.size w w' := by
  show Calls _ _ _ _ fun e w' => e = .returned (.agg #[.int .u8 0, .int .i64 0, .int .i64 (-1000 * k - i - 7)]) ∧ Below w.heap.size w w'
  go_enter Tryz.func24, Tryz.ntmps24
  go_wp2
  exact bodyPost_ret (v := .agg #[.int .u8 0, .int .i64 0, .int .i64 (-1000 * k - i - 7)]) (by simp [results, Tryz.results24, go_sem]) rfl ⟨rfl, (Below.refl _ _).alloc (Nat.le_refl _) _⟩
theorem infoNs : (Tryz.prog.info? 33).map (fun i => (i.zero, i.size, i.bytes)) = some (some (.slice none 0 0), 1, 24) := by kernel_rfl
def MN : Mkr := Mkr.ofK KN 33 mkN
theorem MN_get (k n i : Nat) (h : i < n) (c : Nat) (hc : c < 3) : (MN.marks k n)[i * 3 + c]? = (KN.cv (mkN ((k : Int) + 10) (i : Int)))[c]? := MN.marks_get k c hc n i h
set_option maxHeartbeats 4000000 in
theorem apartRuns_any {w0 w : World} (u : Value) (vs : List Value) (n : Nat → Nat) (c : Nat → List Value) (rest : List Ob) (h : AEnv MN w0 w u vs (fun j => obE MN.e MN.sz (Tv vs j) (n j) (c j)) rest)
    (hn : ∀ j, j < vs.length → n j ≤ 5864062014799) (hl : vs.length ≤ 900000) :
    Calls Tryz.prog 13 #[u] w fun e w' => e = .returned (.bool true) ∧ Env w0 w' rest := by
  have hc : ∀ j, j < vs.length → (c j).length = n j * MN.sz := fun j hj => (Env.row h (j + 1) (AEnv.at (w0 := w0) (w := w) j hj)).1
  have HC := Lib.hid hc
  have HN := Lib.hid hn
  obtain ⟨ao, capu, rfl, hcu, hcm, hao⟩ := header h.row
  have HAO := Lib.hid hao
  have H0 : Hid (AEnv MN w0 w (.slice ao vs.length capu) vs (T1 MN vs n c 0 0) rest) := Lib.hid (h.same fun j hj => T1_zero vs n c j)
  clear hc hn hao h
  obtain ⟨N, hN⟩ : ∃ N, N = vs.length := ⟨_, rfl⟩
  have HNN := Lib.hid hN
  rw [← hN] at hl hcu H0
  rw [← hN]
  clear hN
  go_enter Tryz.func13, Tryz.ntmps13
  go_wp2_with fail
  go_loopw [3] (fun i w1 => ∃ (k : Nat), k ≤ N ∧ i = .int .i64 (k : Int) ∧ Hid (AEnv MN w0 w1 (.slice ao N capu) vs (T1 MN vs n c k 0) rest)) (fun i _ => N - (intOf i).toNat)
  case atStart => exact ⟨0, Nat.zero_le _, rfl, H0⟩
  case round =>
    clear H0
    obtain ⟨k, hk, rfl, H1⟩ := hrel
    by_cases hlt : k < N
    · have hkv : k < vs.length := by rw [← HNN.out]; exact hlt
      have hr1 := Env.row H1.out (k + 1) (by rw [AEnv.at (w0 := w0) (w := wr) k hkv, T1_self])
      obtain ⟨m, hm⟩ : ∃ m, n k = m := ⟨_, rfl⟩
      have hnk := HN.out k hkv
      rw [hm] at hr1 hnk
      obtain ⟨ak, capk, hvk, hck, hcmk, hak⟩ := header hr1
      obtain ⟨gu, rfl⟩ := HAO.out (by rw [← HNN.out]; omega)
      have hu1 := H1.out.row
      rw [← HNN.out] at hu1
      have c0 := World.ownsRow.cellAt hu1 k (by omega)
      rw [Tv_get hkv, hvk] at c0
      have HM := Lib.hid hm
      have HVK := Lib.hid hvk
      have HAK := Lib.hid hak
      have HKV := Lib.hid hkv
      clear hr1 hu1 hm hvk hak hkv
      go_wp2_with fail
      obtain ⟨wx, hwx⟩ : ∃ x, x = wr := ⟨_, rfl⟩
      go_loopw [4] (fun i w1 => ∃ (j : Nat), j ≤ m ∧ i = .int .i64 (j : Int) ∧ Hid (AEnv MN w0 w1 (.slice (some ⟨gu, 0, none⟩) N capu) vs (T1 MN vs n c k j) rest)) (fun i _ => m - (intOf i).toNat)
      case atStart => exact ⟨0, Nat.zero_le _, rfl, H1⟩
      case round =>
        clear c0
        obtain ⟨j, hj, rfl, H2⟩ := hrel
        have hu2 := H2.out.row
        rw [← HNN.out] at hu2
        have c0 := World.ownsRow.cellAt hu2 k (by omega)
        rw [Tv_get HKV.out, HVK.out] at c0
        clear hu2
        by_cases hjn : j < m
        · obtain ⟨g, rfl⟩ := HAK.out (by omega)
          have hr2 := Env.row H2.out (k + 1) (by rw [AEnv.at (w0 := w0) (w := wr) k HKV.out, T1_self])
          rw [HM.out, HVK.out] at hr2
          clear hr2
          have c0S : ∀ w', Below wr.heap.size wr w' → w'.cell? ⟨gu, k, none⟩ = some (.slice (some ⟨g, 0, none⟩) m capk) := fun w' hb => (hb.cell (p := ⟨gu, k, none⟩) (World.block_lt_of_cell? wr _ c0)).trans c0
          go_wp2_with fail
          have hwk : IntKind.i64.wrap ((k : Int) + 10) = (k : Int) + 10 := IntWalk.i64_in _ (by omega)
          refine wp_region_tame (fun w' => Below wr.heap.size wr w') 0 10 (by kernel_rfl) (by kernel_rfl) (fun _ _ d _ _ h => (by cases d <;> exact h)) ⟨rfl, rfl, rfl, Nat.le_refl _, fun _ _ => rfl⟩ (by decide) ?_
          simp only [List.take_succ_cons, List.take_zero, List.drop_succ_cons, List.drop_zero]
          refine wpPre_nil ?_
          refine wpTame_run (v := ?_) (by decide) rfl (fun w' hS => ?_) ?_
          rotate_left
          focus (have q0 := c0S w' hS; clear hS; go_simp; try rfl; done)
          simp only [Act.put, List.setIfInBounds_toArray, List.set_cons_zero, List.set_cons_succ]
          refine wpTame_run (v := ?_) (by decide) rfl (fun w' hS => ?_) ?_
          rotate_left
          focus (have q0 := c0S w' hS; clear hS; go_simp; try rfl; done)
          simp only [Act.put, List.setIfInBounds_toArray, List.set_cons_zero, List.set_cons_succ]
          refine wpTame_run (v := ?_) (by decide) rfl (fun w' hS => ?_) ?_
          rotate_left
          focus (have q0 := c0S w' hS; clear hS; go_simp; try rfl; done)
          simp only [Act.put, List.setIfInBounds_toArray, List.set_cons_zero, List.set_cons_succ]
          refine wpTame_run (v := ?_) (by decide) rfl (fun w' hS => ?_) ?_
          rotate_left
          focus (have q0 := c0S w' hS; clear hS; go_simp; try rfl; done)
          simp only [Act.put, List.setIfInBounds_toArray, List.set_cons_zero, List.set_cons_succ]
          refine wpTame_run (v := ?_) (by decide) rfl (fun w' hS => ?_) ?_
          rotate_left
          focus (have q0 := c0S w' hS; clear hS; go_simp; try rfl; done)
          simp only [Act.put, List.setIfInBounds_toArray, List.set_cons_zero, List.set_cons_succ]
          refine wpTame_run (v := ?_) (by decide) rfl (fun w' hS => ?_) ?_
          rotate_left
          focus (have q0 := c0S w' hS; clear hS; go_simp; try rfl; done)
          simp only [Act.put, List.setIfInBounds_toArray, List.set_cons_zero, List.set_cons_succ]
          refine wpTame_run (v := ?_) (by decide) rfl (fun w' hS => ?_) ?_
          rotate_left
          focus (have q0 := c0S w' hS; clear hS; go_simp; try rfl; done)
          simp only [Act.put, List.setIfInBounds_toArray, List.set_cons_zero, List.set_cons_succ]
          refine wpTame_run (v := ?_) (by decide) rfl (fun w' hS => ?_) ?_
          rotate_left
          focus (have q0 := c0S w' hS; clear hS; go_simp; try rfl; done)
          simp only [Act.put, List.setIfInBounds_toArray, List.set_cons_zero, List.set_cons_succ]
          refine wpTame_call (v := .agg #[.int .u8 (mkN ((k : Int) + 10) (j : Int)).k, .int .i64 (mkN ((k : Int) + 10) (j : Int)).s, .int .i64 (mkN ((k : Int) + 10) (j : Int)).c]) (by decide) rfl (fun w' h => ?_) (fun w' h => (markN_any ((k : Int) + 10) j w' (by omega) (by omega) (by omega) (by omega)).mono fun e w'' ⟨he, hb⟩ => ⟨he, h.trans (hb.mono h.size)⟩) ?_
          · clear h; go_simp; try rfl
          simp only [Act.put, List.setIfInBounds_toArray, List.set_cons_zero, List.set_cons_succ]
          refine wpTame_run (v := ?_) (by decide) rfl (fun w' hS => ?_) ?_
          rotate_left
          focus (have q0 := c0S w' hS; clear hS; go_simp; try rfl; done)
          simp only [Act.put, List.setIfInBounds_toArray, List.set_cons_zero, List.set_cons_succ]
          refine wpTame_nil ?_
          intro wm hw'
          have H3 := Lib.hid (H2.out.below hw')
          have hr3 := Env.row H3.out (k + 1) (by rw [AEnv.at (w0 := w0) (w := wm) k HKV.out, T1_self])
          rw [HM.out, HVK.out] at hr3
          have c1 := World.ownsRow.cellAt hr3 (j * 3) (by show j * 3 < m * 3; omega)
          rw [List.getElem?_eq_getElem (by rw [hr3.1]; show j * 3 < m * 3; omega)] at c1
          generalize (MN.to k (c k) j)[j * 3]'_ = z1 at c1
          have f1 := World.ownsRow.frozenAt hr3 (j * 3)
          have c2 := World.ownsRow.cellAt hr3 (j * 3 + 1) (by show j * 3 + 1 < m * 3; omega)
          rw [List.getElem?_eq_getElem (by rw [hr3.1]; show j * 3 + 1 < m * 3; omega)] at c2
          generalize (MN.to k (c k) j)[j * 3 + 1]'_ = z2 at c2
          have f2 := World.ownsRow.frozenAt hr3 (j * 3 + 1)
          have c3 := World.ownsRow.cellAt hr3 (j * 3 + 2) (by show j * 3 + 2 < m * 3; omega)
          rw [List.getElem?_eq_getElem (by rw [hr3.1]; show j * 3 + 2 < m * 3; omega)] at c3
          generalize (MN.to k (c k) j)[j * 3 + 2]'_ = z3 at c3
          have f3 := World.ownsRow.frozenAt hr3 (j * 3 + 2)
          clear hr3 c0 c0S hw'
          go_wp2_with fail
          go_roundw
          case rel => exact ⟨j + 1, by omega, by go_num, Lib.hid (H3.out.mark0 HKV.out (HC.out k HKV.out) (by rw [HM.out]; exact hjn) HVK.out)⟩
          case measure => simp [intOf]; omega
        · obtain rfl : j = m := by omega
          have H3 : Hid (AEnv MN w0 wr (.slice (some ⟨gu, 0, none⟩) N capu) vs (T1 MN vs n c (k + 1) 0) rest) := by
            have h := H2.out
            rw [← HM.out] at h
            exact Lib.hid (h.next (HC.out k HKV.out))
          go_wp2_with fail
          go_roundw
          case rel => exact ⟨k + 1, by omega, by go_num, H3⟩
          case measure => simp [intOf]; omega
    · obtain rfl : k = N := by omega
      have P0 : Hid (PEnv MN w0 wr (.slice ao k capu) vs n rest 0 none (.slice none 0 0) []) := by
        have h := H1.out
        rw [HNN.out] at h ⊢
        exact Lib.hid (PEnv.start h)
      clear H1
      go_wp2_with fail
      obtain ⟨wq, hwq⟩ : ∃ x, x = wr := ⟨_, rfl⟩
      go_loopw [5, 6] (fun gsv i w1 => ∃ (p : Nat) (gs : List Value), p ≤ k ∧ i = .int .i64 (p : Int) ∧ Hid (gs.length = p) ∧ Hid (PEnv MN w0 w1 (.slice ao k capu) vs n rest p none gsv gs)) (fun _ i _ => k - (intOf i).toNat)
      case atStart => exact ⟨0, [], Nat.zero_le _, rfl, Lib.hid rfl, P0⟩
      case round =>
        clear P0
        obtain ⟨p, gs, hp, rfl, HGS, P⟩ := hrel
        by_cases hlt : p < k
        · have hkv : p < vs.length := by rw [← HNN.out]; exact hlt
          have hd := P.out.hd hkv
          have hr1 := Env.row P.out (p + 1) (by rw [AEnv.at (w0 := w0) (w := wr) p hkv, T2_self])
          obtain ⟨m, hm⟩ : ∃ m, n p = m := ⟨_, rfl⟩
          have hnk := HN.out p hkv
          rw [hm] at hr1 hnk
          obtain ⟨ak, capk, hvk, hck, hcmk, hak⟩ := header hr1
          obtain ⟨gu, rfl⟩ := HAO.out (by rw [← HNN.out]; omega)
          have hu1 := P.out.row
          rw [← HNN.out] at hu1
          have c0 := World.ownsRow.cellAt hu1 p (by omega)
          rw [Tv_get hkv, hvk] at c0
          have PT := P.out.take hkv
          rw [hvk] at PT
          have HM := Lib.hid hm
          have HVK := Lib.hid hvk
          have HKV := Lib.hid hkv
          have HD := Lib.hid hd
          have HPT := Lib.hid PT
          clear hr1 hu1 hm hvk hak hkv hd PT P
          go_wp2_with fail
          obtain ⟨wy, hwy⟩ : ∃ x, x = wr := ⟨_, rfl⟩
          go_loopw [7, 8] (fun g i w1 => ∃ (j : Nat), j ≤ 6 ∧ i = .int .i64 (j : Int) ∧ Hid (PEnv MN w0 w1 (.slice (some ⟨gu, 0, none⟩) k capu) vs n rest p (some (g, j)) u5 gs)) (fun _ i _ => 6 - (intOf i).toNat)
          case atStart => exact ⟨0, by omega, rfl, HPT⟩
          case round =>
            clear HPT c0
            obtain ⟨j, hj, rfl, PJ⟩ := hrel
            have hu1 := PJ.out.row
            rw [← HNN.out] at hu1
            have c0 := World.ownsRow.cellAt hu1 p (by omega)
            rw [Tv_get HKV.out, HVK.out] at c0
            clear hu1
            by_cases hj6 : j < 6
            · obtain ⟨x, hx⟩ : ∃ x, mkN ((p : Int) + 10) ((m : Int) + j) = x := ⟨_, rfl⟩
              have hel : MN.el p (m + j) = [.int .u8 x.k, .int .i64 x.s, .int .i64 x.c] := by rw [← hx]; rfl
              have hwk : IntKind.i64.wrap ((p : Int) + 10) = (p : Int) + 10 := IntWalk.i64_in _ (by omega)
              go_wp2_with fail
              refine (markN_any ((p : Int) + 10) ((m : Int) + j) _ (by omega) (by omega) (by omega) (by omega)).mono ?_
              rintro e wm ⟨he, hbm⟩
              rw [hx] at he
              subst he
              clear hx
              have PA := (PJ.out.below hbm).below ((Below.refl wm.heap.size wm).alloc (Nat.le_refl _) (.cells #[.int .u8 x.k, .int .i64 x.s, .int .i64 x.c] 76))
              have HOWN : (wm.alloc (.cells #[.int .u8 x.k, .int .i64 x.s, .int .i64 x.c] 76)).ownsRow 0 76 3 u7 (m + j) (MN.marks p (m + j)) := by
                have h := PA.gone HKV.out
                rw [HM.out] at h
                exact h
              have HPA := Lib.hid PA
              have HEL := Lib.hid hel
              clear PA hel hbm
              obtain ⟨i0, hi, hz0, hz1, hz2⟩ := info_parts infoN
              go_wp2_with (at_builtin; refine wpList_append_keep _ rfl _ _ 33 rfl 76 i0 _ 3 24 Tryz.underlying33 hi hz0 hz1 hz2 rfl (by decide) u7 (m + j) (MN.marks p (m + j)) rfl HOWN ⟨wm.heap.size, 0, none⟩ 1 1 [.int .u8 x.k, .int .i64 x.s, .int .i64 x.c] rfl rfl (World.news_of_block (heap_alloc_new _ _)) (KN.one x) (by unfold maxLen; omega) (by omega) (by decide) ?_)
              intro v' w2 hown hgrow hat hne
              have HP2 : Hid (PEnv MN w0 w2 (.slice (some ⟨gu, 0, none⟩) k capu) vs n rest p (some (v', j + 1)) u5 gs) := by
                have hm := HM.out
                subst hm
                rw [← HEL.out] at hown
                exact Lib.hid (HPA.out.more HKV.out HD.out hown hgrow (by simpa using hat))
              clear hown hgrow hat hne HOWN hi hz0 hz1 hz2 c0
              go_wp2_with fail
              go_roundw
              case rel => exact ⟨j + 1, by omega, by go_num, HP2⟩
              case measure => simp [intOf]; omega
            · obtain rfl : j = 6 := by omega
              have hg := PJ.out.gone HKV.out
              obtain ⟨ag, capg, hug, _, _, _⟩ := header hg
              subst hug
              have HPA := Lib.hid (PJ.out.below ((Below.refl wr.heap.size wr).alloc (Nat.le_refl _) (.cells #[.slice ag (n p + 6) capg] 33)))
              have HROW : (wr.alloc (.cells #[.slice ag (n p + 6) capg] 33)).ownsRow 0 33 1 u5 p gs := by
                have h := HPA.out.gs
                rw [HGS.out] at h
                exact h
              clear hg c0
              obtain ⟨i0, hi, hz0, hz1, hz2⟩ := info_parts infoNs
              go_wp2_with (at_builtin; refine wpList_append_keep _ rfl _ _ 30 rfl 33 i0 _ 1 24 Tryz.underlying30 hi hz0 hz1 hz2 rfl (by decide) u5 p gs rfl HROW ⟨wr.heap.size, 0, none⟩ 1 1 [.slice ag (n p + 6) capg] rfl rfl (World.news_of_block (heap_alloc_new _ _)) (fun u hu => by simp at hu; subst hu; rfl) (by unfold maxLen; omega) (by omega) (by decide) ?_)
              intro v' w2 hown hgrow hat hne
              have HP2 : Hid (PEnv MN w0 w2 (.slice (some ⟨gu, 0, none⟩) k capu) vs n rest (p + 1) none v' (gs ++ [.slice ag (n p + 6) capg])) := by
                refine Lib.hid (HPA.out.kept HGS.out (by rw [HGS.out]; exact hown) hgrow ?_)
                rcases hat with hat | hat
                · exact .inl hat
                · exact .inr (by simpa using hat.1)
              clear hown hgrow hat hne HROW hi hz0 hz1 hz2
              go_wp2_with fail
              go_roundw
              case rel => exact ⟨p + 1, _, by omega, by go_num, Lib.hid (by rw [List.length_append, HGS.out]; rfl), HP2⟩
              case measure => simp [intOf]; omega
        · obtain rfl : p = k := by omega
          have hg := P.out.gs
          rw [HGS.out] at hg
          obtain ⟨ag, capg, hug, hcg, hcmg, hag⟩ := header hg
          subst hug
          have HROW := Lib.hid hg
          have HAG := Lib.hid hag
          have hu1 := P.out.row
          rw [← HNN.out] at hu1
          have HU := Lib.hid hu1
          have HR : Hid (∀ q, q < p → wr.ownsRow 0 76 3 (Tv gs q) (n q + 6) (MN.marks q (n q + 6)) ∧ Sl wr 3 (Tv vs q) (n q) (MN.marks q (n q)) ∧ n q ≤ 5864062014799) := Lib.hid (fun q hq => by
            have h := P.out
            have hq' : q < vs.length := by rw [← HNN.out]; exact hq
            have h2 := h
            rw [HNN.out] at h2
            obtain ⟨h3, h4⟩ := h2.rows q hq'
            exact ⟨h3, h4, HN.out q hq'⟩)
          have HEND : Hid (∀ w', Below wr.heap.size wr w' → Env w0 w' rest) := Lib.hid (fun w' hb => Env.below P.out.drop hb)
          clear hg hag hu1 P
          go_wp2_with fail
          obtain ⟨w3, rfl⟩ : ∃ w3 : World, w3 = wr := ⟨_, rfl⟩
          go_loopw [9] (fun i w1 => ∃ (q : Nat), q ≤ p ∧ i = .int .i64 (q : Int) ∧ Hid (Below w3.heap.size w3 w1)) (fun i _ => p - (intOf i).toNat)
          case atStart => exact ⟨0, Nat.zero_le _, rfl, Lib.hid (Below.refl _ _)⟩
          case round =>
            obtain ⟨q, hq, rfl, HB⟩ := hrel
            by_cases hlt : q < p
            · obtain ⟨h3, h4, hnq⟩ := HR.out q hlt
              obtain ⟨gu, rfl⟩ := HAO.out (by rw [← HNN.out]; omega)
              obtain ⟨gg, rfl⟩ := HAG.out (by omega)
              obtain ⟨m, hm⟩ : ∃ m, n q = m := ⟨_, rfl⟩
              rw [hm] at h3 h4 hnq
              obtain ⟨a1, cap1, hv1, hc1, hcm1, ha1⟩ := header h3
              obtain ⟨g1, rfl⟩ := ha1 (by omega)
              obtain ⟨a2, cap2, hv2, hc2, hcm2, ha2, ha3⟩ := h4.form
              have d1 := World.ownsRow.cellAt HROW.out q (by omega)
              rw [Tv_get (by rw [HGS.out]; exact hlt), hv1] at d1
              have d2 := World.ownsRow.cellAt HU.out q (by omega)
              rw [Tv_get (by rw [← HNN.out]; exact hlt), hv2] at d2
              rw [hv1] at h3
              have d1S : Hid (∀ w', Below w3.heap.size w3 w' → w'.cell? ⟨gg, q, none⟩ = some (.slice (some ⟨g1, 0, none⟩) (m + 6) cap1)) := Lib.hid (fun w' hb => (hb.cell (p := ⟨gg, q, none⟩) (World.block_lt_of_cell? w3 _ d1)).trans d1)
              have d2S : Hid (∀ w', Below w3.heap.size w3 w' → w'.cell? ⟨gu, q, none⟩ = some (.slice a2 m cap2)) := Lib.hid (fun w' hb => (hb.cell (p := ⟨gu, q, none⟩) (World.block_lt_of_cell? w3 _ d2)).trans d2)
              have H3 := Lib.hid h3
              have HA3 := Lib.hid ha3
              clear h3 h4 hm hv1 hv2 ha1 ha2 ha3 d1 d2
              have d1 := d1S.out _ HB.out
              go_wp2_with fail
              clear d1
              go_loopw [10] (fun i w1 => ∃ (j : Nat), j ≤ m + 6 ∧ i = .int .i64 (j : Int) ∧ Hid (Below w3.heap.size w3 w1)) (fun i _ => m + 6 - (intOf i).toNat)
              case atStart => exact ⟨0, Nat.zero_le _, rfl, HB⟩
              case round =>
                clear HB
                obtain ⟨j, hj, rfl, HB⟩ := hrel
                have d1 := d1S.out _ HB.out
                by_cases hjn : j < m + 6
                · obtain ⟨x, hx⟩ : ∃ x, mkN ((q : Int) + 10) (j : Int) = x := ⟨_, rfl⟩
                  have HX := Lib.hid hx
                  have d3S0 : ∀ w', Below w3.heap.size w3 w' → w'.cell? ⟨g1, j * 3, none⟩ = some (.int .u8 x.k) := fun w' hb => by
                    have h := World.ownsRow.cellAt H3.out (j * 3 + 0) (by omega)
                    rw [MN_get q (m + 6) j (by omega) 0 (by decide), HX.out] at h
                    have h2 : w3.cell? ⟨g1, j * 3, none⟩ = some (.int .u8 x.k) := h
                    exact (hb.cell (p := ⟨g1, j * 3, none⟩) (World.block_lt_of_cell? w3 _ h2)).trans h2
                  have d3S1 : ∀ w', Below w3.heap.size w3 w' → w'.cell? ⟨g1, j * 3 + 1, none⟩ = some (.int .i64 x.s) := fun w' hb => by
                    have h := World.ownsRow.cellAt H3.out (j * 3 + 1) (by omega)
                    rw [MN_get q (m + 6) j (by omega) 1 (by decide), HX.out] at h
                    have h2 : w3.cell? ⟨g1, j * 3 + 1, none⟩ = some (.int .i64 x.s) := h
                    exact (hb.cell (p := ⟨g1, j * 3 + 1, none⟩) (World.block_lt_of_cell? w3 _ h2)).trans h2
                  have d3S2 : ∀ w', Below w3.heap.size w3 w' → w'.cell? ⟨g1, j * 3 + 2, none⟩ = some (.int .i64 x.c) := fun w' hb => by
                    have h := World.ownsRow.cellAt H3.out (j * 3 + 2) (by omega)
                    rw [MN_get q (m + 6) j (by omega) 2 (by decide), HX.out] at h
                    have h2 : w3.cell? ⟨g1, j * 3 + 2, none⟩ = some (.int .i64 x.c) := h
                    exact (hb.cell (p := ⟨g1, j * 3 + 2, none⟩) (World.block_lt_of_cell? w3 _ h2)).trans h2
                  have hwk : IntKind.i64.wrap ((q : Int) + 10) = (q : Int) + 10 := IntWalk.i64_in _ (by omega)
                  have e1S := d1S.out
                  have e2S := d2S.out
                  clear hx
                  by_cases hjm : j < m
                  · obtain ⟨b, off, rfl, d4⟩ := HA3.out (j * 3 + 0) _ (MN_get q m j hjm 0 (by decide))
                    have d4S0 : ∀ w', Below w3.heap.size w3 w' → w'.cell? ⟨b, off + j * 3, none⟩ = some (.int .u8 x.k) := fun w' hb => by
                      obtain ⟨b2, off2, hb2, h⟩ := HA3.out (j * 3 + 0) (.int .u8 x.k) ((MN_get q m j hjm 0 (by decide)).trans (by rw [HX.out]; rfl))
                      injection hb2 with hb2
                      injection hb2 with e1 e2
                      subst e1; subst e2
                      have h2 : w3.cell? ⟨b, off + j * 3, none⟩ = some (.int .u8 x.k) := by rw [show off + j * 3 = off + (j * 3 + 0) from by omega]; exact h
                      exact (hb.cell (p := ⟨b, off + j * 3, none⟩) (World.block_lt_of_cell? w3 _ h2)).trans h2
                    have d4S1 : ∀ w', Below w3.heap.size w3 w' → w'.cell? ⟨b, off + j * 3 + 1, none⟩ = some (.int .i64 x.s) := fun w' hb => by
                      obtain ⟨b2, off2, hb2, h⟩ := HA3.out (j * 3 + 1) (.int .i64 x.s) ((MN_get q m j hjm 1 (by decide)).trans (by rw [HX.out]; rfl))
                      injection hb2 with hb2
                      injection hb2 with e1 e2
                      subst e1; subst e2
                      have h2 : w3.cell? ⟨b, off + j * 3 + 1, none⟩ = some (.int .i64 x.s) := by rw [show off + j * 3 + 1 = off + (j * 3 + 1) from by omega]; exact h
                      exact (hb.cell (p := ⟨b, off + j * 3 + 1, none⟩) (World.block_lt_of_cell? w3 _ h2)).trans h2
                    have d4S2 : ∀ w', Below w3.heap.size w3 w' → w'.cell? ⟨b, off + j * 3 + 2, none⟩ = some (.int .i64 x.c) := fun w' hb => by
                      obtain ⟨b2, off2, hb2, h⟩ := HA3.out (j * 3 + 2) (.int .i64 x.c) ((MN_get q m j hjm 2 (by decide)).trans (by rw [HX.out]; rfl))
                      injection hb2 with hb2
                      injection hb2 with e1 e2
                      subst e1; subst e2
                      have h2 : w3.cell? ⟨b, off + j * 3 + 2, none⟩ = some (.int .i64 x.c) := by rw [show off + j * 3 + 2 = off + (j * 3 + 2) from by omega]; exact h
                      exact (hb.cell (p := ⟨b, off + j * 3 + 2, none⟩) (World.block_lt_of_cell? w3 _ h2)).trans h2
                    clear d4
                    go_wp2_with fail
                    clear d1
                    refine wp_region_tame (fun w' => Below w3.heap.size w3 w') 0 37 (by kernel_rfl) (by kernel_rfl) (fun _ _ d _ _ h => (by cases d <;> exact h)) (by have h := HB.out; exact ⟨h.os, h.tape, h.output, h.size, h.block⟩) (by decide) ?_
                    simp only [List.take_succ_cons, List.take_zero, List.drop_succ_cons, List.drop_zero]
                    refine wpPre_nil ?_
                    refine wpTame_run (v := ?_) (by decide) rfl (fun w' hS => ?_) ?_
                    rotate_left
                    focus (have q0 := e1S w' hS; have q1 := e2S w' hS; have q2 := d3S0 w' hS; have q3 := d3S1 w' hS; have q4 := d3S2 w' hS; clear hS; go_simp; try rfl; done)
                    simp only [Act.put, List.setIfInBounds_toArray, List.set_cons_zero, List.set_cons_succ]
                    refine wpTame_run (v := ?_) (by decide) rfl (fun w' hS => ?_) ?_
                    rotate_left
                    focus (have q0 := e1S w' hS; have q1 := e2S w' hS; have q2 := d3S0 w' hS; have q3 := d3S1 w' hS; have q4 := d3S2 w' hS; clear hS; go_simp; try rfl; done)
                    simp only [Act.put, List.setIfInBounds_toArray, List.set_cons_zero, List.set_cons_succ]
                    refine wpTame_run (v := ?_) (by decide) rfl (fun w' hS => ?_) ?_
                    rotate_left
                    focus (have q0 := e1S w' hS; have q1 := e2S w' hS; have q2 := d3S0 w' hS; have q3 := d3S1 w' hS; have q4 := d3S2 w' hS; clear hS; go_simp; try rfl; done)
                    simp only [Act.put, List.setIfInBounds_toArray, List.set_cons_zero, List.set_cons_succ]
                    refine wpTame_run (v := ?_) (by decide) rfl (fun w' hS => ?_) ?_
                    rotate_left
                    focus (have q0 := e1S w' hS; have q1 := e2S w' hS; have q2 := d3S0 w' hS; have q3 := d3S1 w' hS; have q4 := d3S2 w' hS; clear hS; go_simp; try rfl; done)
                    simp only [Act.put, List.setIfInBounds_toArray, List.set_cons_zero, List.set_cons_succ]
                    refine wpTame_run (v := ?_) (by decide) rfl (fun w' hS => ?_) ?_
                    rotate_left
                    focus (have q0 := e1S w' hS; have q1 := e2S w' hS; have q2 := d3S0 w' hS; have q3 := d3S1 w' hS; have q4 := d3S2 w' hS; clear hS; go_simp; try rfl; done)
                    simp only [Act.put, List.setIfInBounds_toArray, List.set_cons_zero, List.set_cons_succ]
                    refine wpTame_run (v := ?_) (by decide) rfl (fun w' hS => ?_) ?_
                    rotate_left
                    focus (have q0 := e1S w' hS; have q1 := e2S w' hS; have q2 := d3S0 w' hS; have q3 := d3S1 w' hS; have q4 := d3S2 w' hS; clear hS; go_simp; try rfl; done)
                    simp only [Act.put, List.setIfInBounds_toArray, List.set_cons_zero, List.set_cons_succ]
                    refine wpTame_run (v := ?_) (by decide) rfl (fun w' hS => ?_) ?_
                    rotate_left
                    focus (have q0 := e1S w' hS; have q1 := e2S w' hS; have q2 := d3S0 w' hS; have q3 := d3S1 w' hS; have q4 := d3S2 w' hS; clear hS; go_simp; try rfl; done)
                    simp only [Act.put, List.setIfInBounds_toArray, List.set_cons_zero, List.set_cons_succ]
                    refine wpTame_run (v := ?_) (by decide) rfl (fun w' hS => ?_) ?_
                    rotate_left
                    focus (have q0 := e1S w' hS; have q1 := e2S w' hS; have q2 := d3S0 w' hS; have q3 := d3S1 w' hS; have q4 := d3S2 w' hS; clear hS; go_simp; try rfl; done)
                    simp only [Act.put, List.setIfInBounds_toArray, List.set_cons_zero, List.set_cons_succ]
                    refine wpTame_run (v := ?_) (by decide) rfl (fun w' hS => ?_) ?_
                    rotate_left
                    focus (have q0 := e1S w' hS; have q1 := e2S w' hS; have q2 := d3S0 w' hS; have q3 := d3S1 w' hS; have q4 := d3S2 w' hS; clear hS; go_simp; try rfl; done)
                    simp only [Act.put, List.setIfInBounds_toArray, List.set_cons_zero, List.set_cons_succ]
                    refine wpTame_run (v := ?_) (by decide) rfl (fun w' hS => ?_) ?_
                    rotate_left
                    focus (have q0 := e1S w' hS; have q1 := e2S w' hS; have q2 := d3S0 w' hS; have q3 := d3S1 w' hS; have q4 := d3S2 w' hS; clear hS; go_simp; try rfl; done)
                    simp only [Act.put, List.setIfInBounds_toArray, List.set_cons_zero, List.set_cons_succ]
                    refine wpTame_call (v := .agg #[.int .u8 x.k, .int .i64 x.s, .int .i64 x.c]) (by decide) rfl (fun w' h => ?_) (fun w' h => (markN_any ((q : Int) + 10) j w' (by omega) (by omega) (by omega) (by omega)).mono fun e w'' ⟨he, hb⟩ => ⟨by rw [he, HX.out], h.trans (hb.mono h.size)⟩) ?_
                    · clear h; go_simp; try rfl
                    simp only [Act.put, List.setIfInBounds_toArray, List.set_cons_zero, List.set_cons_succ]
                    refine wpTame_run (v := ?_) (by decide) rfl (fun w' hS => ?_) ?_
                    rotate_left
                    focus (have q0 := e1S w' hS; have q1 := e2S w' hS; have q2 := d3S0 w' hS; have q3 := d3S1 w' hS; have q4 := d3S2 w' hS; have q5 := d4S0 w' hS; have q6 := d4S1 w' hS; have q7 := d4S2 w' hS; clear hS; go_simp; try rfl; done)
                    simp only [Act.put, List.setIfInBounds_toArray, List.set_cons_zero, List.set_cons_succ]
                    refine wpTame_run (v := ?_) (by decide) rfl (fun w' hS => ?_) ?_
                    rotate_left
                    focus (have q0 := e1S w' hS; have q1 := e2S w' hS; have q2 := d3S0 w' hS; have q3 := d3S1 w' hS; have q4 := d3S2 w' hS; have q5 := d4S0 w' hS; have q6 := d4S1 w' hS; have q7 := d4S2 w' hS; clear hS; go_simp; try rfl; done)
                    simp only [Act.put, List.setIfInBounds_toArray, List.set_cons_zero, List.set_cons_succ]
                    refine wpTame_run (v := ?_) (by decide) rfl (fun w' hS => ?_) ?_
                    rotate_left
                    focus (have q0 := e1S w' hS; have q1 := e2S w' hS; have q2 := d3S0 w' hS; have q3 := d3S1 w' hS; have q4 := d3S2 w' hS; have q5 := d4S0 w' hS; have q6 := d4S1 w' hS; have q7 := d4S2 w' hS; clear hS; go_simp; try rfl; done)
                    simp only [Act.put, List.setIfInBounds_toArray, List.set_cons_zero, List.set_cons_succ]
                    refine wpTame_run (v := ?_) (by decide) rfl (fun w' hS => ?_) ?_
                    rotate_left
                    focus (have q0 := e1S w' hS; have q1 := e2S w' hS; have q2 := d3S0 w' hS; have q3 := d3S1 w' hS; have q4 := d3S2 w' hS; have q5 := d4S0 w' hS; have q6 := d4S1 w' hS; have q7 := d4S2 w' hS; clear hS; go_simp; try rfl; done)
                    simp only [Act.put, List.setIfInBounds_toArray, List.set_cons_zero, List.set_cons_succ]
                    refine wpTame_run (v := ?_) (by decide) rfl (fun w' hS => ?_) ?_
                    rotate_left
                    focus (have q0 := e1S w' hS; have q1 := e2S w' hS; have q2 := d3S0 w' hS; have q3 := d3S1 w' hS; have q4 := d3S2 w' hS; have q5 := d4S0 w' hS; have q6 := d4S1 w' hS; have q7 := d4S2 w' hS; clear hS; go_simp; try rfl; done)
                    simp only [Act.put, List.setIfInBounds_toArray, List.set_cons_zero, List.set_cons_succ]
                    refine wpTame_run (v := ?_) (by decide) rfl (fun w' hS => ?_) ?_
                    rotate_left
                    focus (have q0 := e1S w' hS; have q1 := e2S w' hS; have q2 := d3S0 w' hS; have q3 := d3S1 w' hS; have q4 := d3S2 w' hS; have q5 := d4S0 w' hS; have q6 := d4S1 w' hS; have q7 := d4S2 w' hS; clear hS; go_simp; try rfl; done)
                    simp only [Act.put, List.setIfInBounds_toArray, List.set_cons_zero, List.set_cons_succ]
                    refine wpTame_run (v := ?_) (by decide) rfl (fun w' hS => ?_) ?_
                    rotate_left
                    focus (have q0 := e1S w' hS; have q1 := e2S w' hS; have q2 := d3S0 w' hS; have q3 := d3S1 w' hS; have q4 := d3S2 w' hS; have q5 := d4S0 w' hS; have q6 := d4S1 w' hS; have q7 := d4S2 w' hS; clear hS; go_simp; try rfl; done)
                    simp only [Act.put, List.setIfInBounds_toArray, List.set_cons_zero, List.set_cons_succ]
                    refine wpTame_run (v := ?_) (by decide) rfl (fun w' hS => ?_) ?_
                    rotate_left
                    focus (have q0 := e1S w' hS; have q1 := e2S w' hS; have q2 := d3S0 w' hS; have q3 := d3S1 w' hS; have q4 := d3S2 w' hS; have q5 := d4S0 w' hS; have q6 := d4S1 w' hS; have q7 := d4S2 w' hS; clear hS; go_simp; try rfl; done)
                    simp only [Act.put, List.setIfInBounds_toArray, List.set_cons_zero, List.set_cons_succ]
                    refine wpTame_run (v := ?_) (by decide) rfl (fun w' hS => ?_) ?_
                    rotate_left
                    focus (have q0 := e1S w' hS; have q1 := e2S w' hS; have q2 := d3S0 w' hS; have q3 := d3S1 w' hS; have q4 := d3S2 w' hS; have q5 := d4S0 w' hS; have q6 := d4S1 w' hS; have q7 := d4S2 w' hS; clear hS; go_simp; try rfl; done)
                    simp only [Act.put, List.setIfInBounds_toArray, List.set_cons_zero, List.set_cons_succ]
                    refine wpTame_run (v := ?_) (by decide) rfl (fun w' hS => ?_) ?_
                    rotate_left
                    focus (have q0 := e1S w' hS; have q1 := e2S w' hS; have q2 := d3S0 w' hS; have q3 := d3S1 w' hS; have q4 := d3S2 w' hS; have q5 := d4S0 w' hS; have q6 := d4S1 w' hS; have q7 := d4S2 w' hS; clear hS; go_simp; try rfl; done)
                    simp only [Act.put, List.setIfInBounds_toArray, List.set_cons_zero, List.set_cons_succ]
                    refine wpTame_run (v := ?_) (by decide) rfl (fun w' hS => ?_) ?_
                    rotate_left
                    focus (have q0 := e1S w' hS; have q1 := e2S w' hS; have q2 := d3S0 w' hS; have q3 := d3S1 w' hS; have q4 := d3S2 w' hS; have q5 := d4S0 w' hS; have q6 := d4S1 w' hS; have q7 := d4S2 w' hS; clear hS; go_simp; try rfl; done)
                    simp only [Act.put, List.setIfInBounds_toArray, List.set_cons_zero, List.set_cons_succ]
                    refine wpTame_run (v := ?_) (by decide) rfl (fun w' hS => ?_) ?_
                    rotate_left
                    focus (have q0 := e1S w' hS; have q1 := e2S w' hS; have q2 := d3S0 w' hS; have q3 := d3S1 w' hS; have q4 := d3S2 w' hS; have q5 := d4S0 w' hS; have q6 := d4S1 w' hS; have q7 := d4S2 w' hS; clear hS; go_simp; try rfl; done)
                    simp only [Act.put, List.setIfInBounds_toArray, List.set_cons_zero, List.set_cons_succ]
                    refine wpTame_run (v := ?_) (by decide) rfl (fun w' hS => ?_) ?_
                    rotate_left
                    focus (have q0 := e1S w' hS; have q1 := e2S w' hS; have q2 := d3S0 w' hS; have q3 := d3S1 w' hS; have q4 := d3S2 w' hS; have q5 := d4S0 w' hS; have q6 := d4S1 w' hS; have q7 := d4S2 w' hS; clear hS; go_simp; try rfl; done)
                    simp only [Act.put, List.setIfInBounds_toArray, List.set_cons_zero, List.set_cons_succ]
                    refine wpTame_run (v := ?_) (by decide) rfl (fun w' hS => ?_) ?_
                    rotate_left
                    focus (have q0 := e1S w' hS; have q1 := e2S w' hS; have q2 := d3S0 w' hS; have q3 := d3S1 w' hS; have q4 := d3S2 w' hS; have q5 := d4S0 w' hS; have q6 := d4S1 w' hS; have q7 := d4S2 w' hS; clear hS; go_simp; try rfl; done)
                    simp only [Act.put, List.setIfInBounds_toArray, List.set_cons_zero, List.set_cons_succ]
                    refine wpTame_run (v := ?_) (by decide) rfl (fun w' hS => ?_) ?_
                    rotate_left
                    focus (have q0 := e1S w' hS; have q1 := e2S w' hS; have q2 := d3S0 w' hS; have q3 := d3S1 w' hS; have q4 := d3S2 w' hS; have q5 := d4S0 w' hS; have q6 := d4S1 w' hS; have q7 := d4S2 w' hS; clear hS; go_simp; try rfl; done)
                    simp only [Act.put, List.setIfInBounds_toArray, List.set_cons_zero, List.set_cons_succ]
                    refine wpTame_run (v := ?_) (by decide) rfl (fun w' hS => ?_) ?_
                    rotate_left
                    focus (have q0 := e1S w' hS; have q1 := e2S w' hS; have q2 := d3S0 w' hS; have q3 := d3S1 w' hS; have q4 := d3S2 w' hS; have q5 := d4S0 w' hS; have q6 := d4S1 w' hS; have q7 := d4S2 w' hS; clear hS; go_simp; try rfl; done)
                    simp only [Act.put, List.setIfInBounds_toArray, List.set_cons_zero, List.set_cons_succ]
                    refine wpTame_run (v := ?_) (by decide) rfl (fun w' hS => ?_) ?_
                    rotate_left
                    focus (have q0 := e1S w' hS; have q1 := e2S w' hS; have q2 := d3S0 w' hS; have q3 := d3S1 w' hS; have q4 := d3S2 w' hS; have q5 := d4S0 w' hS; have q6 := d4S1 w' hS; have q7 := d4S2 w' hS; clear hS; go_simp; try rfl; done)
                    simp only [Act.put, List.setIfInBounds_toArray, List.set_cons_zero, List.set_cons_succ]
                    refine wpTame_run (v := ?_) (by decide) rfl (fun w' hS => ?_) ?_
                    rotate_left
                    focus (have q0 := e1S w' hS; have q1 := e2S w' hS; have q2 := d3S0 w' hS; have q3 := d3S1 w' hS; have q4 := d3S2 w' hS; have q5 := d4S0 w' hS; have q6 := d4S1 w' hS; have q7 := d4S2 w' hS; clear hS; go_simp; try rfl; done)
                    simp only [Act.put, List.setIfInBounds_toArray, List.set_cons_zero, List.set_cons_succ]
                    refine wpTame_run (v := ?_) (by decide) rfl (fun w' hS => ?_) ?_
                    rotate_left
                    focus (have q0 := e1S w' hS; have q1 := e2S w' hS; have q2 := d3S0 w' hS; have q3 := d3S1 w' hS; have q4 := d3S2 w' hS; have q5 := d4S0 w' hS; have q6 := d4S1 w' hS; have q7 := d4S2 w' hS; clear hS; go_simp; try rfl; done)
                    simp only [Act.put, List.setIfInBounds_toArray, List.set_cons_zero, List.set_cons_succ]
                    refine wpTame_run (v := ?_) (by decide) rfl (fun w' hS => ?_) ?_
                    rotate_left
                    focus (have q0 := e1S w' hS; have q1 := e2S w' hS; have q2 := d3S0 w' hS; have q3 := d3S1 w' hS; have q4 := d3S2 w' hS; have q5 := d4S0 w' hS; have q6 := d4S1 w' hS; have q7 := d4S2 w' hS; clear hS; go_simp; try rfl; done)
                    simp only [Act.put, List.setIfInBounds_toArray, List.set_cons_zero, List.set_cons_succ]
                    refine wpTame_run (v := ?_) (by decide) rfl (fun w' hS => ?_) ?_
                    rotate_left
                    focus (have q0 := e1S w' hS; have q1 := e2S w' hS; have q2 := d3S0 w' hS; have q3 := d3S1 w' hS; have q4 := d3S2 w' hS; have q5 := d4S0 w' hS; have q6 := d4S1 w' hS; have q7 := d4S2 w' hS; clear hS; go_simp; try rfl; done)
                    simp only [Act.put, List.setIfInBounds_toArray, List.set_cons_zero, List.set_cons_succ]
                    refine wpTame_run (v := ?_) (by decide) rfl (fun w' hS => ?_) ?_
                    rotate_left
                    focus (have q0 := e1S w' hS; have q1 := e2S w' hS; have q2 := d3S0 w' hS; have q3 := d3S1 w' hS; have q4 := d3S2 w' hS; have q5 := d4S0 w' hS; have q6 := d4S1 w' hS; have q7 := d4S2 w' hS; clear hS; go_simp; try rfl; done)
                    simp only [Act.put, List.setIfInBounds_toArray, List.set_cons_zero, List.set_cons_succ]
                    refine wpTame_run (v := ?_) (by decide) rfl (fun w' hS => ?_) ?_
                    rotate_left
                    focus (have q0 := e1S w' hS; have q1 := e2S w' hS; have q2 := d3S0 w' hS; have q3 := d3S1 w' hS; have q4 := d3S2 w' hS; have q5 := d4S0 w' hS; have q6 := d4S1 w' hS; have q7 := d4S2 w' hS; clear hS; go_simp; try rfl; done)
                    simp only [Act.put, List.setIfInBounds_toArray, List.set_cons_zero, List.set_cons_succ]
                    refine wpTame_run (v := ?_) (by decide) rfl (fun w' hS => ?_) ?_
                    rotate_left
                    focus (have q0 := e1S w' hS; have q1 := e2S w' hS; have q2 := d3S0 w' hS; have q3 := d3S1 w' hS; have q4 := d3S2 w' hS; have q5 := d4S0 w' hS; have q6 := d4S1 w' hS; have q7 := d4S2 w' hS; clear hS; go_simp; try rfl; done)
                    simp only [Act.put, List.setIfInBounds_toArray, List.set_cons_zero, List.set_cons_succ]
                    refine wpTame_run (v := ?_) (by decide) rfl (fun w' hS => ?_) ?_
                    rotate_left
                    focus (have q0 := e1S w' hS; have q1 := e2S w' hS; have q2 := d3S0 w' hS; have q3 := d3S1 w' hS; have q4 := d3S2 w' hS; have q5 := d4S0 w' hS; have q6 := d4S1 w' hS; have q7 := d4S2 w' hS; clear hS; go_simp; try rfl; done)
                    simp only [Act.put, List.setIfInBounds_toArray, List.set_cons_zero, List.set_cons_succ]
                    refine wpTame_run (v := ?_) (by decide) rfl (fun w' hS => ?_) ?_
                    rotate_left
                    focus (have q0 := e1S w' hS; have q1 := e2S w' hS; have q2 := d3S0 w' hS; have q3 := d3S1 w' hS; have q4 := d3S2 w' hS; have q5 := d4S0 w' hS; have q6 := d4S1 w' hS; have q7 := d4S2 w' hS; clear hS; go_simp; try rfl; done)
                    simp only [Act.put, List.setIfInBounds_toArray, List.set_cons_zero, List.set_cons_succ]
                    refine wpTame_nil ?_
                    intro wm hw'
                    have HB2 := Lib.hid hw'
                    clear hw' e1S e2S d3S0 d3S1 d3S2 d4S0 d4S1 d4S2
                    go_wp2_with fail
                    go_roundw
                    case rel => exact ⟨j + 1, by omega, by go_num, HB2⟩
                    case measure => simp [intOf]; omega
                  · have hd : decide ((j : Int) < (m : Int)) = false := by simpa using hjm
                    have hd2 : decide (j < m) = false := by simpa using hjm
                    go_wp2_with fail
                    clear d1
                    refine wp_region_tame (fun w' => Below w3.heap.size w3 w') 0 37 (by kernel_rfl) (by kernel_rfl) (fun _ _ d _ _ h => (by cases d <;> exact h)) (by have h := HB.out; exact ⟨h.os, h.tape, h.output, h.size, h.block⟩) (by decide) ?_
                    simp only [List.take_succ_cons, List.take_zero, List.drop_succ_cons, List.drop_zero]
                    refine wpPre_nil ?_
                    refine wpTame_run (v := ?_) (by decide) rfl (fun w' hS => ?_) ?_
                    rotate_left
                    focus (have q0 := e1S w' hS; have q1 := e2S w' hS; have q2 := d3S0 w' hS; have q3 := d3S1 w' hS; have q4 := d3S2 w' hS; clear hS; go_simp; try rfl; done)
                    simp only [Act.put, List.setIfInBounds_toArray, List.set_cons_zero, List.set_cons_succ]
                    refine wpTame_run (v := ?_) (by decide) rfl (fun w' hS => ?_) ?_
                    rotate_left
                    focus (have q0 := e1S w' hS; have q1 := e2S w' hS; have q2 := d3S0 w' hS; have q3 := d3S1 w' hS; have q4 := d3S2 w' hS; clear hS; go_simp; try rfl; done)
                    simp only [Act.put, List.setIfInBounds_toArray, List.set_cons_zero, List.set_cons_succ]
                    refine wpTame_run (v := ?_) (by decide) rfl (fun w' hS => ?_) ?_
                    rotate_left
                    focus (have q0 := e1S w' hS; have q1 := e2S w' hS; have q2 := d3S0 w' hS; have q3 := d3S1 w' hS; have q4 := d3S2 w' hS; clear hS; go_simp; try rfl; done)
                    simp only [Act.put, List.setIfInBounds_toArray, List.set_cons_zero, List.set_cons_succ]
                    refine wpTame_run (v := ?_) (by decide) rfl (fun w' hS => ?_) ?_
                    rotate_left
                    focus (have q0 := e1S w' hS; have q1 := e2S w' hS; have q2 := d3S0 w' hS; have q3 := d3S1 w' hS; have q4 := d3S2 w' hS; clear hS; go_simp; try rfl; done)
                    simp only [Act.put, List.setIfInBounds_toArray, List.set_cons_zero, List.set_cons_succ]
                    refine wpTame_run (v := ?_) (by decide) rfl (fun w' hS => ?_) ?_
                    rotate_left
                    focus (have q0 := e1S w' hS; have q1 := e2S w' hS; have q2 := d3S0 w' hS; have q3 := d3S1 w' hS; have q4 := d3S2 w' hS; clear hS; go_simp; try rfl; done)
                    simp only [Act.put, List.setIfInBounds_toArray, List.set_cons_zero, List.set_cons_succ]
                    refine wpTame_run (v := ?_) (by decide) rfl (fun w' hS => ?_) ?_
                    rotate_left
                    focus (have q0 := e1S w' hS; have q1 := e2S w' hS; have q2 := d3S0 w' hS; have q3 := d3S1 w' hS; have q4 := d3S2 w' hS; clear hS; go_simp; try rfl; done)
                    simp only [Act.put, List.setIfInBounds_toArray, List.set_cons_zero, List.set_cons_succ]
                    refine wpTame_run (v := ?_) (by decide) rfl (fun w' hS => ?_) ?_
                    rotate_left
                    focus (have q0 := e1S w' hS; have q1 := e2S w' hS; have q2 := d3S0 w' hS; have q3 := d3S1 w' hS; have q4 := d3S2 w' hS; clear hS; go_simp; try rfl; done)
                    simp only [Act.put, List.setIfInBounds_toArray, List.set_cons_zero, List.set_cons_succ]
                    refine wpTame_run (v := ?_) (by decide) rfl (fun w' hS => ?_) ?_
                    rotate_left
                    focus (have q0 := e1S w' hS; have q1 := e2S w' hS; have q2 := d3S0 w' hS; have q3 := d3S1 w' hS; have q4 := d3S2 w' hS; clear hS; go_simp; try rfl; done)
                    simp only [Act.put, List.setIfInBounds_toArray, List.set_cons_zero, List.set_cons_succ]
                    refine wpTame_run (v := ?_) (by decide) rfl (fun w' hS => ?_) ?_
                    rotate_left
                    focus (have q0 := e1S w' hS; have q1 := e2S w' hS; have q2 := d3S0 w' hS; have q3 := d3S1 w' hS; have q4 := d3S2 w' hS; clear hS; go_simp; try rfl; done)
                    simp only [Act.put, List.setIfInBounds_toArray, List.set_cons_zero, List.set_cons_succ]
                    refine wpTame_run (v := ?_) (by decide) rfl (fun w' hS => ?_) ?_
                    rotate_left
                    focus (have q0 := e1S w' hS; have q1 := e2S w' hS; have q2 := d3S0 w' hS; have q3 := d3S1 w' hS; have q4 := d3S2 w' hS; clear hS; go_simp; try rfl; done)
                    simp only [Act.put, List.setIfInBounds_toArray, List.set_cons_zero, List.set_cons_succ]
                    refine wpTame_call (v := .agg #[.int .u8 x.k, .int .i64 x.s, .int .i64 x.c]) (by decide) rfl (fun w' h => ?_) (fun w' h => (markN_any ((q : Int) + 10) j w' (by omega) (by omega) (by omega) (by omega)).mono fun e w'' ⟨he, hb⟩ => ⟨by rw [he, HX.out], h.trans (hb.mono h.size)⟩) ?_
                    · clear h; go_simp; try rfl
                    simp only [Act.put, List.setIfInBounds_toArray, List.set_cons_zero, List.set_cons_succ]
                    refine wpTame_run (v := ?_) (by decide) rfl (fun w' hS => ?_) ?_
                    rotate_left
                    focus (have q0 := e1S w' hS; have q1 := e2S w' hS; have q2 := d3S0 w' hS; have q3 := d3S1 w' hS; have q4 := d3S2 w' hS; clear hS; go_simp; try rfl; done)
                    simp only [Act.put, List.setIfInBounds_toArray, List.set_cons_zero, List.set_cons_succ]
                    refine wpTame_run (v := ?_) (by decide) rfl (fun w' hS => ?_) ?_
                    rotate_left
                    focus (have q0 := e1S w' hS; have q1 := e2S w' hS; have q2 := d3S0 w' hS; have q3 := d3S1 w' hS; have q4 := d3S2 w' hS; clear hS; go_simp; try rfl; done)
                    simp only [Act.put, List.setIfInBounds_toArray, List.set_cons_zero, List.set_cons_succ]
                    refine wpTame_run (v := ?_) (by decide) rfl (fun w' hS => ?_) ?_
                    rotate_left
                    focus (have q0 := e1S w' hS; have q1 := e2S w' hS; have q2 := d3S0 w' hS; have q3 := d3S1 w' hS; have q4 := d3S2 w' hS; clear hS; go_simp; try rfl; done)
                    simp only [Act.put, List.setIfInBounds_toArray, List.set_cons_zero, List.set_cons_succ]
                    refine wpTame_run (v := ?_) (by decide) rfl (fun w' hS => ?_) ?_
                    rotate_left
                    focus (have q0 := e1S w' hS; have q1 := e2S w' hS; have q2 := d3S0 w' hS; have q3 := d3S1 w' hS; have q4 := d3S2 w' hS; clear hS; go_simp; try rfl; done)
                    simp only [Act.put, List.setIfInBounds_toArray, List.set_cons_zero, List.set_cons_succ]
                    refine wpTame_run (v := ?_) (by decide) rfl (fun w' hS => ?_) ?_
                    rotate_left
                    focus (have q0 := e1S w' hS; have q1 := e2S w' hS; have q2 := d3S0 w' hS; have q3 := d3S1 w' hS; have q4 := d3S2 w' hS; clear hS; go_simp; try rfl; done)
                    simp only [Act.put, List.setIfInBounds_toArray, List.set_cons_zero, List.set_cons_succ]
                    refine wpTame_run (v := ?_) (by decide) rfl (fun w' hS => ?_) ?_
                    rotate_left
                    focus (have q0 := e1S w' hS; have q1 := e2S w' hS; have q2 := d3S0 w' hS; have q3 := d3S1 w' hS; have q4 := d3S2 w' hS; clear hS; go_simp; try rfl; done)
                    simp only [Act.put, List.setIfInBounds_toArray, List.set_cons_zero, List.set_cons_succ]
                    refine wpTame_run (v := ?_) (by decide) rfl (fun w' hS => ?_) ?_
                    rotate_left
                    focus (have q0 := e1S w' hS; have q1 := e2S w' hS; have q2 := d3S0 w' hS; have q3 := d3S1 w' hS; have q4 := d3S2 w' hS; clear hS; go_simp; try rfl; done)
                    simp only [Act.put, List.setIfInBounds_toArray, List.set_cons_zero, List.set_cons_succ]
                    refine wpTame_run (v := ?_) (by decide) rfl (fun w' hS => ?_) ?_
                    rotate_left
                    focus (have q0 := e1S w' hS; have q1 := e2S w' hS; have q2 := d3S0 w' hS; have q3 := d3S1 w' hS; have q4 := d3S2 w' hS; clear hS; go_simp; try rfl; done)
                    simp only [Act.put, List.setIfInBounds_toArray, List.set_cons_zero, List.set_cons_succ]
                    refine wpTame_run (v := ?_) (by decide) rfl (fun w' hS => ?_) ?_
                    rotate_left
                    focus (have q0 := e1S w' hS; have q1 := e2S w' hS; have q2 := d3S0 w' hS; have q3 := d3S1 w' hS; have q4 := d3S2 w' hS; clear hS; go_simp; try rfl; done)
                    simp only [Act.put, List.setIfInBounds_toArray, List.set_cons_zero, List.set_cons_succ]
                    refine wpTame_run (v := ?_) (by decide) rfl (fun w' hS => ?_) ?_
                    rotate_left
                    focus (have q0 := e1S w' hS; have q1 := e2S w' hS; have q2 := d3S0 w' hS; have q3 := d3S1 w' hS; have q4 := d3S2 w' hS; clear hS; go_simp; try rfl; done)
                    simp only [Act.put, List.setIfInBounds_toArray, List.set_cons_zero, List.set_cons_succ]
                    refine wpTame_off (by decide) rfl ?_
                    simp only [Act.put, List.setIfInBounds_toArray, List.set_cons_zero, List.set_cons_succ]
                    refine wpTame_off (by decide) rfl ?_
                    simp only [Act.put, List.setIfInBounds_toArray, List.set_cons_zero, List.set_cons_succ]
                    refine wpTame_off (by decide) rfl ?_
                    simp only [Act.put, List.setIfInBounds_toArray, List.set_cons_zero, List.set_cons_succ]
                    refine wpTame_off (by decide) rfl ?_
                    simp only [Act.put, List.setIfInBounds_toArray, List.set_cons_zero, List.set_cons_succ]
                    refine wpTame_off (by decide) rfl ?_
                    simp only [Act.put, List.setIfInBounds_toArray, List.set_cons_zero, List.set_cons_succ]
                    refine wpTame_off (by decide) rfl ?_
                    simp only [Act.put, List.setIfInBounds_toArray, List.set_cons_zero, List.set_cons_succ]
                    refine wpTame_off (by decide) rfl ?_
                    simp only [Act.put, List.setIfInBounds_toArray, List.set_cons_zero, List.set_cons_succ]
                    refine wpTame_off (by decide) rfl ?_
                    simp only [Act.put, List.setIfInBounds_toArray, List.set_cons_zero, List.set_cons_succ]
                    refine wpTame_off (by decide) rfl ?_
                    simp only [Act.put, List.setIfInBounds_toArray, List.set_cons_zero, List.set_cons_succ]
                    refine wpTame_off (by decide) rfl ?_
                    simp only [Act.put, List.setIfInBounds_toArray, List.set_cons_zero, List.set_cons_succ]
                    refine wpTame_off (by decide) rfl ?_
                    simp only [Act.put, List.setIfInBounds_toArray, List.set_cons_zero, List.set_cons_succ]
                    refine wpTame_off (by decide) rfl ?_
                    simp only [Act.put, List.setIfInBounds_toArray, List.set_cons_zero, List.set_cons_succ]
                    refine wpTame_off (by decide) rfl ?_
                    simp only [Act.put, List.setIfInBounds_toArray, List.set_cons_zero, List.set_cons_succ]
                    refine wpTame_off (by decide) rfl ?_
                    simp only [Act.put, List.setIfInBounds_toArray, List.set_cons_zero, List.set_cons_succ]
                    refine wpTame_off (by decide) rfl ?_
                    simp only [Act.put, List.setIfInBounds_toArray, List.set_cons_zero, List.set_cons_succ]
                    refine wpTame_run (v := ?_) (by decide) rfl (fun w' hS => ?_) ?_
                    rotate_left
                    focus (have q0 := e1S w' hS; clear hS; go_simp; try rfl; done)
                    simp only [Act.put, List.setIfInBounds_toArray, List.set_cons_zero, List.set_cons_succ]
                    refine wpTame_nil ?_
                    intro wm hw'
                    have HB2 := Lib.hid hw'
                    clear hw' e1S e2S d3S0 d3S1 d3S2
                    go_wp2_with fail
                    go_roundw
                    case rel => exact ⟨j + 1, by omega, by go_num, HB2⟩
                    case measure => simp [intOf]; omega
                · go_wp2_with fail
                  go_roundw
                  case rel => exact ⟨q + 1, by omega, by go_num, HB⟩
                  case measure => simp [intOf]; omega
            · go_wp2_with fail
              go_ret
              exact ⟨rfl, HEND.out _ HB.out⟩
end Go.Proofs.YtkidijjhedjifaaGreat
/- Sums, checks and comparisons of runs: the program's and the document's. Conditions: the runs' counts are int values. -/
namespace Go.Proofs.YtkidijjhedjifaaGreat
open Go.RowKit
set_option maxRecDepth 100000
set_option linter.unusedVariables false
set_option linter.unusedSimpArgs false
/-! ### sums -/
end Go.Proofs.YtkidijjhedjifaaGreat
/- Since: the program's. Conditions: the ledger's events are fewer than 2^63. -/
namespace Go.Proofs.YtkidijjhedjifaaGreat
open Go.RowKit
set_option maxRecDepth 100000
set_option linter.unusedVariables false
set_option linter.unusedSimpArgs false
theorem Knd.R.tail {α : Type} {K : Knd α} {w : World} {b off n cap : Nat} {l : List α} (h : K.R w (.slice (some ⟨b, off, none⟩) n cap) l) (k : Nat) (hk : k ≤ l.length) : K.R w (.slice (some ⟨b, off + k * K.sz, none⟩) (l.length - k) (cap - k)) (l.drop k) := by
  obtain ⟨ao', cap', hv, h1, h2, h3, h4⟩ := h.form
  injection hv with e1 e2 e3
  subst e1; subst e3
  refine ⟨by rw [K.fl_len, List.length_drop], K.fl_cells _, some ⟨b, off + k * K.sz, none⟩, cap - k, by rw [List.length_drop], by rw [List.length_drop]; omega, by omega, (fun h => by cases h), fun j u hj => ?_⟩
  have hfl : (K.fl l)[k * K.sz + j]? = some u := by
    have e : K.fl l = K.fl (l.take k) ++ K.fl (l.drop k) := by rw [← K.fl_app, List.take_append_drop]
    have hl : (K.fl (l.take k)).length = k * K.sz := by rw [K.fl_len, List.length_take, Nat.min_eq_left hk]
    rw [e, List.getElem?_append_right (by omega), hl, show k * K.sz + j - k * K.sz = j from by omega]
    exact hj
  obtain ⟨b', off', he, hc⟩ := h4 _ u hfl
  injection he with he
  injection he with q1 q2 _
  subst q1; subst q2
  exact ⟨b, off + k * K.sz, rfl, by rw [Nat.add_assoc]; exact hc⟩
end Go.Proofs.YtkidijjhedjifaaGreat
/- Check of runs: the program's and the document's. -/
namespace Go.Proofs.YtkidijjhedjifaaGreat
open Go.RowKit
set_option maxRecDepth 100000
set_option linter.unusedVariables false
set_option linter.unusedSimpArgs false
end Go.Proofs.YtkidijjhedjifaaGreat
/- A region that draws its order, walked by a script: each operation is either taken first (it yields one value in whatever world, and stands apart from all that is left), or it is the only one that may come. No program in sight. -/
namespace Go.Proofs.YtkidijjhedjifaaGreat
open Go
section
variable {P : Program} {ops : Array Oper} {md : Region.Mode} {Q : Exit → Act → World → Prop}
variable {r : List (Nat × Bool)} {a : Act} {w : World} {o : Oper} {i : Nat} {v : Value}
end
end Go.Proofs.YtkidijjhedjifaaGreat
/- A region that draws its order, step by step under a condition S that every operation keeps: what yields one value in every world that meets S is taken first; the others come alone, or two in either order. No program in sight. -/
namespace Go.Proofs.YtkidijjhedjifaaGreat
open Go
section
variable {P : Program} {ops : Array Oper} {md : Region.Mode} {Q : Exit → Act → World → Prop} {S : World → Prop} {fuel : Nat} {listed : Array Bool} {a : Act} {w : World} {o : Oper} {i j : Nat} {v : Value}
theorem hd_start {id : Nat} (S : World → Prop) (hm : P.follows .mixedOrders = true) (h : ∀ w', w' = w.drewN 1 → wpAnyH P .any ops Q S ops.size (Array.replicate ops.size false) a w') : (Code.region id ops true).wp P Q a w := wp_region_held hm (h _ rfl)
/-- taken first: it yields v in every world that meets S -/
theorem hd_take (i : Nat) (ho : ops[i]? = some o) (hs : (Region.noSelect ops && Region.free md ops listed i && (Region.ready md ops listed).contains i) = true) (hQ : ∀ c (a : Act) (d : Option Tmp) (v : Value) w, Q (.panic c) (a.put d v) w → Q (.panic c) a w)
    (hw : Region.wanted o (yielded ops a.tmps) = true) (hS : S w) (h : ∀ w, S w → (execOp a.eval o).run P w = .ok (.value v) w) (kk : wpAnyH P md ops Q S fuel (listed.setIfInBounds i true) (a.put o.dst v) w) : wpAnyH P md ops Q S (fuel + 1) listed a w := by
  simp only [Bool.and_eq_true] at hs
  exact wpAnyH_take ho hs.1.1 hs.1.2 hs.2 (fun c a w => hQ c a _ v w) (.inl ⟨hw, h⟩) hS kk
/-- its guard is false -/
theorem hd_off (i : Nat) (ho : ops[i]? = some o) (hs : (Region.noSelect ops && Region.free md ops listed i && (Region.ready md ops listed).contains i) = true) (hQ : ∀ c (a : Act) (d : Option Tmp) (v : Value) w, Q (.panic c) (a.put d v) w → Q (.panic c) a w)
    (hw : Region.wanted o (yielded ops a.tmps) = false) (hS : S w) (kk : wpAnyH P md ops Q S fuel (listed.setIfInBounds i true) (a.put o.dst undef) w) : wpAnyH P md ops Q S (fuel + 1) listed a w := by
  simp only [Bool.and_eq_true] at hs
  exact wpAnyH_take ho hs.1.1 hs.1.2 hs.2 (fun c a w => hQ c a _ undef w) (.inr ⟨hw, rfl⟩) hS kk
/-- the only one that may come -/
theorem hd_one (i : Nat) (hr : decide (Region.ready md ops listed = [i]) = true) (h : wpOp P ops Q i (fun a' w' => S w' ∧ wpAnyH P md ops Q S fuel (listed.setIfInBounds i true) a' w') a w) : wpAnyH P md ops Q S (fuel + 1) listed a w := by
  rw [decide_eq_true_eq] at hr
  refine wpAnyH_all hr (by simp) fun k hk => ?_
  obtain rfl : k = i := by simpa using hk
  exact h
theorem hd_done (hr : (Region.ready md ops listed).isEmpty = true) (h : wpList P ops Q [] a w) : wpAnyH P md ops Q S fuel listed a w := wpAnyH_done (by simpa using hr) h fuel
variable {K : Act → World → Prop}
theorem op_call {f : FuncId} {args : Array Value} (ho : ops[i]? = some o) (hw : Region.wanted o (yielded ops a.tmps) = true) (h : (execOp a.eval o).run P w = .ok (.enter f args) w)
    (hc : Calls P f args w fun e w'' => ∃ v, e = .returned v ∧ K (a.put o.dst v) w'') : wpOp P ops Q i K a w := by
  unfold Go.wpOp
  simp only [ho, hw, if_true]
  exact .inl (wp_mid_call h hc)
theorem op_run {w' : World} (ho : ops[i]? = some o) (hw : Region.wanted o (yielded ops a.tmps) = true) (h : (execOp a.eval o).run P w = .ok (.value v) w') (hc : K (a.put o.dst v) w') : wpOp P ops Q i K a w := by
  unfold Go.wpOp
  simp only [ho, hw, if_true]
  refine .inl ?_
  unfold Oper.wp
  rw [h]
  exact hc
theorem op_skip {w' : World} (ho : ops[i]? = some o) (hw : Region.wanted o (yielded ops a.tmps) = true) (h : (execOp a.eval o).run P w = .ok .skip w') (hc : K (a.put o.dst undef) w') : wpOp P ops Q i K a w := by
  unfold Go.wpOp
  simp only [ho, hw, if_true]
  refine .inl ?_
  unfold Oper.wp
  rw [h]
  exact hc
end
end Go.Proofs.YtkidijjhedjifaaGreat
/- Join: the program's and the document's. Conditions: the two lists have at most 4000000 runs together; counts are int values. -/
namespace Go.Proofs.YtkidijjhedjifaaGreat
open Go.RowKit
set_option maxRecDepth 100000
set_option linter.unusedVariables false
set_option linter.unusedSimpArgs false
/-- counts from 0 on, int values -/
def okJ (l : List Rn) : Prop := ∀ r ∈ l, 0 ≤ r.c ∧ r.c ≤ 9223372036854775807
theorem okJ.last {l : List Rn} {r : Rn} (h : okJ (l ++ [r])) : 0 ≤ r.c ∧ r.c ≤ 9223372036854775807 := h r (by simp)
/-- the last run's count is put anew -/
theorem Knd.Mk.last {w w1 : World} {g cap N : Nat} {l : List Rn} {x : Rn} (c : Int) (h : KN.Mk (l ++ [x]) w (.slice (some ⟨g, 0, none⟩) N cap) w1) {off : Nat} (hoff : off = l.length * 3 + 2) :
    KN.Mk (l ++ [⟨x.k, x.s, c⟩]) w (.slice (some ⟨g, 0, none⟩) N cap) (w1.setCells g off [.int .i64 c]) := by
  subst hoff
  obtain ⟨h1, h2, h3⟩ := h
  have hN : N = l.length + 1 := by
    rcases h1.2 with ⟨hv, _⟩ | ⟨g', cap', cur, hv, _⟩
    · simp at hv
    · injection hv with _ e _; simpa using e
  subst hN
  have hg : w.heap.size ≤ g := h3 g rfl
  have hw : Only (fpv (.slice (some ⟨g, 0, none⟩) (l.length + 1) cap)) w1 (w1.setCells g (l.length * 3 + 2) [.int .i64 c]) := Only.sets (S := fpv (.slice (some ⟨g, 0, none⟩) (l.length + 1) cap)) (.inl rfl) [.int .i64 c] (l.length * 3 + 2) w1 (Only.refl _ _)
  refine ⟨?_, h2.trans (hw.below0 (fun x hx hs => ?_) h2.size), h3⟩
  · unfold Knd.O at *
    rw [show (l ++ [x]).length = l.length + 1 from by simp] at h1
    rw [show (l ++ [(⟨x.k, x.s, c⟩ : Rn)]).length = l.length + 1 from by simp]
    have q := ownsRow_setCells [.int .i64 c] w1 (KN.fl (l ++ [x])) (l.length * 3 + 2) h1
    have e1 : KN.fl (l ++ [x]) = (KN.fl l ++ [.int .u8 x.k, .int .i64 x.s]) ++ [.int .i64 x.c] := by rw [KN.fl_app, KN.fl_one]; simp [KN]
    have e2 : KN.fl (l ++ [(⟨x.k, x.s, c⟩ : Rn)]) = (KN.fl l ++ [.int .u8 x.k, .int .i64 x.s]) ++ [.int .i64 c] := by rw [KN.fl_app, KN.fl_one]; simp [KN]
    have e3 : (KN.fl l ++ [Value.int .u8 x.k, .int .i64 x.s]).length = l.length * 3 + 2 := by rw [List.length_append, KN.fl_len]; rfl
    have e4 := putAt_app [.int .i64 c] (KN.fl l ++ [.int .u8 x.k, .int .i64 x.s]) [.int .i64 x.c] (by simp)
    have e5 : putAt ((KN.fl l ++ [.int .u8 x.k, .int .i64 x.s]) ++ [.int .i64 x.c]) (l.length * 3 + 2) [.int .i64 c] = (KN.fl l ++ [.int .u8 x.k, .int .i64 x.s]) ++ [.int .i64 c] := by rw [← e3, e4]; simp
    rw [e1, e5] at q
    rw [e2]
    exact q
  · have := h3 x hs
    omega
end Go.Proofs.YtkidijjhedjifaaGreat
/- The plain law of LedgerMarks: what is noted from a mark on is what Since tells; joined with what was there it is all; counts of all kinds make the whole. No program in sight. -/
namespace Go.Proofs.YtkidijjhedjifaaGreat
open Go.RowKit
set_option maxRecDepth 100000
set_option linter.unusedVariables false
set_option linter.unusedSimpArgs false

/-- one note, so many times -/
def noteT (a : List Rn) (x : Rn) : List Rn := if x.c < 1 then a else noteL a x.k x.s x.c
def noteAll (a : List Rn) (l : List Rn) : List Rn := l.foldl noteT a
/-- runs as a ledger's may be: counts from 1 on, neighbours unlike -/
def Nrm : List Rn → Prop
  | [] => True
  | [r] => 1 ≤ r.c
  | r :: q :: rs => 1 ≤ r.c ∧ ¬ (r.k = q.k ∧ r.s = q.s) ∧ Nrm (q :: rs)
theorem Nrm.posi : ∀ {l : List Rn}, Nrm l → Posi l
  | [], _ => Posi.nil
  | [r], h => fun x hx => by simp at hx; subst hx; exact h
  | r :: q :: rs, h => fun x hx => by
    rcases List.mem_cons.1 hx with rfl | hx
    · exact h.1
    · exact Nrm.posi h.2.2 x hx
theorem Nrm.tail {r : Rn} {l : List Rn} (h : Nrm (r :: l)) : Nrm l := by
  cases l with
  | nil => trivial
  | cons q l => exact h.2.2
/-- behind one another -/
theorem Nrm.snoc : ∀ {l : List Rn} {r : Rn}, Nrm l → 1 ≤ r.c → (∀ x, l.getLast? = some x → ¬ (x.k = r.k ∧ x.s = r.s)) → Nrm (l ++ [r])
  | [], r, _, h1, _ => h1
  | [x], r, h, h1, h2 => ⟨h, h2 x rfl, h1⟩
  | x :: q :: l, r, h, h1, h2 => ⟨h.1, h.2.1, Nrm.snoc (l := q :: l) h.2.2 h1 (fun y hy => h2 y (by simpa using hy))⟩
theorem Nrm.count : ∀ {l : List Rn} {r : Rn} {c : Int}, Nrm (l ++ [r]) → 1 ≤ c → Nrm (l ++ [⟨r.k, r.s, c⟩])
  | [], _, _, _, h => h
  | [x], r, c, h, hc => ⟨h.1, h.2.1, hc⟩
  | x :: q :: l, r, c, h, hc => ⟨h.1, h.2.1, Nrm.count (l := q :: l) h.2.2 hc⟩
theorem Nrm.note {l : List Rn} (h : Nrm l) (k s n : Int) (hn : 1 ≤ n) : Nrm (noteL l k s n) := by
  rcases List.eq_nil_or_concat l with rfl | ⟨l0, r, rfl⟩
  · exact hn
  · rw [List.concat_eq_append] at h ⊢
    by_cases he : r.k = k ∧ r.s = s
    · obtain ⟨rfl, rfl⟩ := he
      rw [noteL_same]
      have := h.posi r (by simp)
      exact h.count (by omega)
    · rw [noteL_other _ _ _ _ _ he]
      refine h.snoc hn (fun x hx => ?_)
      simp at hx
      subst hx
      exact he
theorem Nrm.all : ∀ (l : List Rn) {a : List Rn}, Nrm a → Nrm (noteAll a l)
  | [], _, h => h
  | x :: l, a, h => by
    show Nrm (noteAll (noteT a x) l)
    refine Nrm.all l ?_
    unfold noteT
    split
    · exact h
    · exact h.note _ _ _ (by omega)
theorem noteL_twice (a : List Rn) (k s n m : Int) : noteL (noteL a k s n) k s m = noteL a k s (n + m) := by
  rcases List.eq_nil_or_concat a with rfl | ⟨l0, r, rfl⟩
  · simp [noteL]
  · rw [List.concat_eq_append]
    by_cases he : r.k = k ∧ r.s = s
    · obtain ⟨rfl, rfl⟩ := he
      have h1 := noteL_same l0 ⟨r.k, r.s, r.c + n⟩ m
      simp only at h1
      rw [noteL_same l0 r n, h1, noteL_same l0 r (n + m), Int.add_assoc]
    · rw [noteL_other _ _ _ _ _ he, noteL_other _ _ _ _ _ he]
      have := noteL_same (l0 ++ [r]) ⟨k, s, n⟩ m
      exact this
/-- such runs may be a ledger's -/
theorem Nrm.at : ∀ {l : List Rn}, Nrm l → ∀ (k : Nat) (r q : Rn), l[k]? = some r → l[k + 1]? = some q → ¬ (r.k = q.k ∧ r.s = q.s)
  | [], _, k, r, q, h, _ => by simp at h
  | [x], _, k, r, q, _, h => by simp at h
  | x :: y :: l, h, 0, r, q, h1, h2 => by
    simp at h1 h2
    subst h1; subst h2
    exact h.2.1
  | x :: y :: l, h, k + 1, r, q, h1, h2 => Nrm.at (l := y :: l) h.2.2 k r q (by simpa using h1) (by simpa using h2)
end Go.Proofs.YtkidijjhedjifaaGreat
namespace Go.Proofs.YtkidijjhedjifaaGreat
set_option linter.unusedVariables false
set_option linter.unusedSimpArgs false
/-! ### the document's counts -/
def bA (a : Int) : Int := 2 * hashA a
def lastR (a n : Int) : Int := if n % bA a + 1 + bA a / 8 ≤ bA a then 1 else 2
def fullR (b n m : Int) : Int := (n + m) / b - n / b
def keyedR (a key : Int) : Int := if bA a < key then fullR (bA a) 0 key + lastR a key + 2 else 2
def taggedR (a n : Int) : Int := lastR a (bA a + n) + lastR a (bA a + hashA a)
def hmacR (a n : Int) : Int := fullR (bA a) 0 n + taggedR a n
theorem bA_one : bA 1 = 64 := rfl
theorem bA_two : bA 2 = 128 := rfl
theorem wideA_one : wideA 1 = 64 := rfl
theorem wideA_two : wideA 2 = 128 := rfl
theorem hashA_one : hashA 1 = 32 := rfl
theorem hashA_two : hashA 2 = 64 := rfl
theorem bA_wide {a : Int} (ha : a = 1 ∨ a = 2) : bA a = wideA a := by rcases ha with rfl | rfl <;> rfl
theorem keyedR_is {a n : Int} (ha : a = 1 ∨ a = 2) (hn : 0 ≤ n) : keyedR a n = keyB a n := by
  unfold keyedR keyB lastR fullR blocksA
  rcases ha with rfl | rfl
  · rw [bA_one, wideA_one]; split
    · split <;> omega
    · rfl
  · rw [bA_two, wideA_two]; split
    · split <;> omega
    · rfl
theorem taggedR_is {a n : Int} (ha : a = 1 ∨ a = 2) (hn : 0 ≤ n) : taggedR a n = blocksA a n - n / wideA a + 1 := by
  unfold taggedR lastR blocksA
  rcases ha with rfl | rfl
  · rw [bA_one, wideA_one, hashA_one]; split <;> split <;> omega
  · rw [bA_two, wideA_two, hashA_two]; split <;> split <;> omega
theorem hmacR_is {a n : Int} (ha : a = 1 ∨ a = 2) (hn : 0 ≤ n) : hmacR a n = tagB a n := by
  unfold hmacR tagB
  rw [taggedR_is ha hn, bA_wide ha]
  unfold fullR
  rcases ha with rfl | rfl
  · rw [wideA_one]; omega
  · rw [wideA_two]; omega
/-! ### bounds of the counts -/
theorem keyB_rng {a n : Int} (hn : 0 ≤ n) : 2 ≤ keyB a n ∧ keyB a n ≤ n / 64 + 5 := by
  unfold keyB blocksA wideA
  split <;> split <;> omega
theorem blocksA_rng {a n : Int} (hn : 0 ≤ n) : 1 ≤ blocksA a n ∧ blocksA a n ≤ n / 64 + 2 := by
  unfold blocksA wideA
  split <;> omega
theorem tagB_rng {a n : Int} (hn : 0 ≤ n) : 2 ≤ tagB a n ∧ tagB a n ≤ n / 64 + 3 := by
  have := blocksA_rng (a := a) hn
  unfold tagB
  omega
theorem tagB_hash {a : Int} (ha : a = 1 ∨ a = 2) : tagB a (hashA a) = 2 := by rcases ha with rfl | rfl <;> rfl
theorem rateA_two (a : Int) : rateA a = 168 ∨ rateA a = 136 := by
  unfold rateA
  split
  · exact .inl rfl
  · exact .inr rfl
theorem paddedA_rng {n r : Int} (hr : r = 168 ∨ r = 136) (hn : 0 ≤ n) : 1 ≤ paddedA n r ∧ paddedA n r ≤ n / 136 + 2 := by
  unfold paddedA
  rcases hr with rfl | rfl <;> omega
theorem codedA_rng {n : Int} (hn : 0 ≤ n) : 2 + n ≤ codedA n ∧ codedA n ≤ 3 + n := by
  unfold codedA
  split <;> omega
theorem takenA_rng {t : Th} {a b : Int} (ha : 0 ≤ a) (hab : a ≤ b) : 0 ≤ takenA t a b ∧ takenA t a b ≤ (b - a) / 16 + 1 := by
  unfold takenA
  split
  · unfold lastM
    split <;> split <;> omega
  split
  · rcases rateA_two t.alg with e | e <;> rw [e] <;> omega
  · unfold wideA
    split <;> omega
theorem endA_rng (t : Th) : 2 ≤ endA t ∧ endA t ≤ 3 := by
  unfold endA
  split <;> omega
theorem summedA_rng {m : Int} {t : Th} (h : OKt m t) : 1 ≤ summedA t ∧ summedA t ≤ 4 := by
  have hm := h.m0
  unfold summedA
  split
  · omega
  split
  · have h1 := endA_rng t
    have h2 := takenA_rng (t := t) (a := t.msg) (b := t.msg + endA t) hm (by omega)
    omega
  · unfold blocksA wideA
    split <;> omega
theorem hashA_alg {a : Int} (ha : a = 1 ∨ a = 2) : hashA a = 32 ∨ hashA a = 64 := by rcases ha with rfl | rfl <;> decide
theorem hk0_rng {m : Int} {t : Th} {s : Sk} (ht : OKt m t) (ha : s.alg = 1 ∨ s.alg = 2) (hd : 0 ≤ s.data) (hd2 : s.data ≤ 65536) : 6 ≤ hk0 t s ∧ hk0 t s ≤ s.data / 64 + t.key / 64 + 15 := by
  have h0 := hashA_alg ha
  have e : 0 ≤ saltA s ∧ saltA s ≤ s.data + 64 := by
    unfold saltA
    split <;> omega
  have h1 := keyB_rng (a := s.alg) (n := saltA s) e.1
  have h2 := tagB_rng (a := s.alg) (n := t.key) ht.k0
  have h3 : keyB s.alg (hashA s.alg) = 2 := by rcases ha with e | e <;> rw [e] <;> rfl
  unfold hk0
  omega
theorem hkR_rng {s : Sk} (ha : s.alg = 1 ∨ s.alg = 2) (hm : 0 ≤ s.more) (i : Nat) : 2 ≤ hkR s i ∧ hkR s i ≤ (s.more + 65) / 64 + 3 := by
  have h0 := hashA_alg ha
  unfold hkR
  split
  · have := tagB_rng (a := s.alg) (n := 0 + s.more + 1) (by omega)
    omega
  · have := tagB_rng (a := s.alg) (n := hashA s.alg + s.more + 1) (by omega)
    omega
theorem hkTo_rng {s : Sk} (ha : s.alg = 1 ∨ s.alg = 2) (hm : 0 ≤ s.more) : ∀ n : Nat, 0 ≤ hkTo s n ∧ hkTo s n ≤ (n : Int) * ((s.more + 65) / 64 + 3)
  | 0 => by simp [hkTo]
  | n + 1 => by
    have h1 := hkTo_rng ha hm n
    have h2 := hkR_rng ha hm n
    have e : ((n + 1 : Nat) : Int) * ((s.more + 65) / 64 + 3) = (n : Int) * ((s.more + 65) / 64 + 3) + ((s.more + 65) / 64 + 3) := by
      rw [Int.natCast_add, Int.add_mul]; simp
    unfold hkTo
    rw [e]
    omega
theorem hkN_rng {s : Sk} (ha : s.alg = 1 ∨ s.alg = 2) (h1 : 1 ≤ s.out) (h2 : s.out ≤ 512) : 1 ≤ hkN s ∧ (hkN s : Int) = (s.out + hashA s.alg - 1) / hashA s.alg ∧ (hkN s : Int) ≤ s.out / 32 + 1 ∧ (hkN s : Int) ≤ 16 := by
  unfold hkN
  rcases hashA_alg ha with e | e <;> rw [e] <;> omega
/-! ### the document's codes -/
theorem fitB_zero (n : Int) (s : Sk) (r : Int) : fitB n s r = if fitB n s 0 = 0 then r else fitB n s 0 := by
  unfold fitB
  split
  · rfl
  split
  · rfl
  split
  · rfl
  split
  · rfl
  split
  · rfl
  · rfl
def derR (s : Sk) : Int :=
  if hashA s.alg = 0 then 4 else if 65536 < s.data then 9
  else if (s.kind = 7 ∧ (65536 < s.more ∨ 255 * hashA s.alg < s.out)) ∨ (s.kind = 8 ∧ 4294967295 * hashA s.alg < s.out) then 9
  else if s.kind = 8 ∧ (s.count < 1 ∨ 1048576 < s.count) then 10 else if s.out < 1 ∨ 512 < s.out then 7 else 0
def fitsR (t : Th) (s : Sk) : Int :=
  if s.kind = 2 then (if t.alg = 0 then fitB t.key s 0 else 6)
  else if s.kind = 3 then (if t.alg = 0 then 6 else if 65536 < s.data then 9 else 0)
  else if s.kind = 4 then (if t.alg = 0 then 6 else 0)
  else if s.kind = 5 then (if t.alg = 0 then 6 else if s.data = t.out then 0 else 11)
  else if s.kind = 7 ∨ s.kind = 8 then (if t.alg = 0 then derR s else 6)
  else if s.kind = 9 then (if t.alg = 0 then 0 else 6)
  else 0
def takesR (k : Int) : Bool := k == 1 || k == 2 || k == 6 || k == 7 || k == 8
def restR (σ : Hs) (s : Sk) : Int := if takesR s.kind = true ∧ freeH σ = none then 8 else 0
def codeR (σ : Hs) (s : Sk) : Int :=
  if s.kind < 1 ∨ 10 < s.kind then 3
  else if s.kind = 1 then (if 512 < s.data then 7 else restR σ s)
  else match σ s.handle with
    | none => 5
    | some t => if fitsR t s = 0 then restR σ s else fitsR t s
theorem room_rest (σ : Hs) (s : Sk) (h : takesR s.kind = true) : restR σ s = roomC σ := by
  unfold restR roomC
  by_cases e : cntH σ = 64
  · rw [if_pos ⟨h, (full_free σ).1 e⟩, if_pos e]
  · rw [if_neg (fun h => e ((full_free σ).2 h.2)), if_neg e]
theorem rest_not (σ : Hs) (s : Sk) (h : takesR s.kind = false) : restR σ s = 0 := by
  unfold restR
  rw [if_neg (by rw [h]; simp)]
theorem derR_hk (σ : Hs) (s : Sk) (t : Th) (ht : σ s.handle = some t) (h0 : t.alg = 0) (hk : s.kind = 7) : (if derR s = 0 then roomC σ else derR s) = hkdfC σ s := by
  by_cases e : hashA s.alg = 0
  · simp [derR, hkdfC, derC, ht, h0, e]
  by_cases e1 : 65536 < s.data
  · simp [derR, hkdfC, derC, ht, h0, e, e1]
  by_cases e2 : 65536 < s.more ∨ 255 * hashA s.alg < s.out
  · simp [derR, hkdfC, derC, ht, h0, e, e1, e2, hk]
  by_cases e3 : s.out < 1 ∨ 512 < s.out
  · simp [derR, hkdfC, derC, keyedC, ht, h0, e, e1, e2, hk, e3]
  · simp [derR, hkdfC, derC, keyedC, ht, h0, e, e1, e2, hk, e3]
theorem derR_pb (σ : Hs) (s : Sk) (t : Th) (ht : σ s.handle = some t) (h0 : t.alg = 0) (hk : s.kind = 8) : (if derR s = 0 then roomC σ else derR s) = pbkC σ s := by
  by_cases e : hashA s.alg = 0
  · simp [derR, pbkC, derC, ht, h0, e]
  by_cases e1 : 65536 < s.data
  · simp [derR, pbkC, derC, ht, h0, e, e1]
  by_cases e2 : 4294967295 * hashA s.alg < s.out
  · simp [derR, pbkC, derC, ht, h0, e, e1, e2, hk]
  by_cases e4 : s.count < 1 ∨ 1048576 < s.count
  · simp [derR, pbkC, derC, keyedC, ht, h0, e, e1, e2, hk, e4]
  by_cases e3 : s.out < 1 ∨ 512 < s.out
  · simp [derR, pbkC, derC, keyedC, ht, h0, e, e1, e2, hk, e4, e3]
  · simp [derR, pbkC, derC, keyedC, ht, h0, e, e1, e2, hk, e4, e3]
theorem codeR_is (σ : Hs) (s : Sk) : codeR σ s = codeS σ s := by
  unfold codeR
  by_cases e : s.kind < 1 ∨ 10 < s.kind
  · rw [if_pos e]
    unfold codeS
    rw [if_neg (by omega), if_neg (by omega), if_neg (by omega), if_neg (by omega), if_neg (by omega), if_neg (by omega), if_neg (by omega), if_neg (by omega), if_neg (by omega), if_neg (by omega)]
  rw [if_neg e]
  have hk : s.kind = 1 ∨ s.kind = 2 ∨ s.kind = 3 ∨ s.kind = 4 ∨ s.kind = 5 ∨ s.kind = 6 ∨ s.kind = 7 ∨ s.kind = 8 ∨ s.kind = 9 ∨ s.kind = 10 := by omega
  rcases hk with k | k | k | k | k | k | k | k | k | k
  · have ht : takesR s.kind = true := by rw [k]; rfl
    simp only [codeS, k, cputC, room_rest σ s ht]
    rfl
  · have ht : takesR s.kind = true := by rw [k]; rfl
    have e2 : codeS σ s = beginC σ s := by simp only [codeS, k]; rfl
    rw [if_neg (by omega), e2, beginC]
    cases h : σ s.handle with
    | none => rfl
    | some t =>
      have e3 : fitsR t s = if t.alg = 0 then fitB t.key s 0 else 6 := by simp only [fitsR, k]; rfl
      simp only [e3, room_rest σ s ht]
      by_cases h0 : t.alg = 0
      · rw [if_pos h0, if_pos h0, fitB_zero t.key s (roomC σ)]
      · rw [if_neg h0, if_neg h0, if_neg (by decide)]
  · have ht : takesR s.kind = false := by rw [k]; rfl
    have e2 : codeS σ s = updC σ s := by simp only [codeS, k]; rfl
    rw [if_neg (by omega), e2, updC]
    cases h : σ s.handle with
    | none => rfl
    | some t =>
      have e3 : fitsR t s = if t.alg = 0 then 6 else if 65536 < s.data then 9 else 0 := by simp only [fitsR, k]; rfl
      simp only [e3, rest_not σ s ht]
      by_cases h0 : t.alg = 0
      · rw [if_pos h0, if_neg (by decide)]
      · rw [if_neg h0]
        by_cases h1 : 65536 < s.data
        · rw [if_pos h1, if_neg (by decide)]
        · rw [if_neg h1, if_pos rfl]
  · have ht : takesR s.kind = false := by rw [k]; rfl
    have e2 : codeS σ s = sesC σ s := by simp only [codeS, k]; rfl
    rw [if_neg (by omega), e2, sesC]
    cases h : σ s.handle with
    | none => rfl
    | some t =>
      have e3 : fitsR t s = if t.alg = 0 then 6 else 0 := by simp only [fitsR, k]; rfl
      simp only [e3, rest_not σ s ht]
      by_cases h0 : t.alg = 0
      · rw [if_pos h0, if_neg (by decide)]
      · rw [if_neg h0, if_pos rfl]
  · have ht : takesR s.kind = false := by rw [k]; rfl
    have e2 : codeS σ s = verC σ s := by simp only [codeS, k]; rfl
    rw [if_neg (by omega), e2, verC]
    cases h : σ s.handle with
    | none => rfl
    | some t =>
      have e3 : fitsR t s = if t.alg = 0 then 6 else if s.data = t.out then 0 else 11 := by simp only [fitsR, k]; rfl
      simp only [e3, rest_not σ s ht]
      by_cases h0 : t.alg = 0
      · rw [if_pos h0, if_neg (by decide)]
      · rw [if_neg h0]
        by_cases h1 : s.data = t.out
        · rw [if_pos h1, if_pos rfl]
        · rw [if_neg h1, if_neg (by decide)]
  · have ht : takesR s.kind = true := by rw [k]; rfl
    have e2 : codeS σ s = cloC σ s := by simp only [codeS, k]; rfl
    rw [if_neg (by omega), e2, cloC]
    cases h : σ s.handle with
    | none => rfl
    | some t =>
      have e3 : fitsR t s = 0 := by simp only [fitsR, k]; rfl
      simp only [e3, room_rest σ s ht]
      rfl
  · have ht : takesR s.kind = true := by rw [k]; rfl
    have e2 : codeS σ s = hkdfC σ s := by simp only [codeS, k]; rfl
    rw [if_neg (by omega), e2]
    cases h : σ s.handle with
    | none =>
      unfold hkdfC derC
      rw [h]
      rfl
    | some t =>
      have e3 : fitsR t s = if t.alg = 0 then derR s else 6 := by simp only [fitsR, k]; rfl
      simp only [e3, room_rest σ s ht]
      by_cases h0 : t.alg = 0
      · rw [if_pos h0, derR_hk σ s t h h0 k]
      · rw [if_neg h0, if_neg (by decide)]
        unfold hkdfC derC
        rw [h]
        simp only [if_neg h0]
        rfl
  · have ht : takesR s.kind = true := by rw [k]; rfl
    have e2 : codeS σ s = pbkC σ s := by simp only [codeS, k]; rfl
    rw [if_neg (by omega), e2]
    cases h : σ s.handle with
    | none =>
      unfold pbkC derC
      rw [h]
      rfl
    | some t =>
      have e3 : fitsR t s = if t.alg = 0 then derR s else 6 := by simp only [fitsR, k]; rfl
      simp only [e3, room_rest σ s ht]
      by_cases h0 : t.alg = 0
      · rw [if_pos h0, derR_pb σ s t h h0 k]
      · rw [if_neg h0, if_neg (by decide)]
        unfold pbkC derC
        rw [h]
        simp only [if_neg h0]
        rfl
  · have ht : takesR s.kind = false := by rw [k]; rfl
    have e2 : codeS σ s = keyC σ s := by simp only [codeS, k]; rfl
    rw [if_neg (by omega), e2, keyC]
    cases h : σ s.handle with
    | none => rfl
    | some t =>
      have e3 : fitsR t s = if t.alg = 0 then 0 else 6 := by simp only [fitsR, k]; rfl
      simp only [e3, rest_not σ s ht]
      by_cases h0 : t.alg = 0
      · rw [if_pos h0, if_pos rfl]
      · rw [if_neg h0, if_neg (by decide)]
  · have ht : takesR s.kind = false := by rw [k]; rfl
    have e2 : codeS σ s = anyC σ s := by simp only [codeS, k]; rfl
    rw [if_neg (by omega), e2, anyC]
    cases h : σ s.handle with
    | none => rfl
    | some t =>
      have e3 : fitsR t s = 0 := by simp only [fitsR, k]; rfl
      simp only [e3, rest_not σ s ht]
      rfl
end Go.Proofs.YtkidijjhedjifaaGreat
