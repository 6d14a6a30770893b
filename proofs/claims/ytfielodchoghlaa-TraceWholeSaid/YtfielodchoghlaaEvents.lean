/- The kit's functions on lists (Events). Conditions: a list and six more fit into 2^47 bytes. -/
import Derived.Test.YtfielodchoghlaaRows
import Derived.Test.YtfielodchoghlaaLst
import Derived.Test.YtfielodchoghlaaTame
import Derived.Test.YtfielodchoghlaaRn
namespace Go.Proofs.Ytfielodchoghlaa
open Go.RowKit
set_option maxRecDepth 100000
set_option linter.unusedVariables false
set_option linter.unusedSimpArgs false
def KE : Knd Ev := ⟨49, 2, fun x => [.int .u8 x.k, .int .i64 x.s], by decide, fun _ => rfl, fun x u hu => by simp at hu; rcases hu with rfl | rfl <;> rfl⟩
theorem infoE : (Try.prog.info? 49).map (fun i => (i.zero, i.size, i.bytes)) = some (some (.agg #[.int .u8 0, .int .i64 0]), 2, 16) := by kernel_rfl
def mkE (k i : Int) : Ev := ⟨99, -1000 * k - i - 7⟩
theorem markE_any (k i : Int) (w : World) (hk : 0 ≤ k) (hk' : k ≤ 1000000) (hi : 0 ≤ i) (hi' : i ≤ 1000000000000000) :
    Calls Try.prog 44 #[.int .i64 k, .int .i64 i] w fun e w' => e = .returned (.agg #[.int .u8 (mkE k i).k, .int .i64 (mkE k i).s]) ∧ Below w.heap.size w w' := by
  show Calls _ _ _ _ fun e w' => e = .returned (.agg #[.int .u8 99, .int .i64 (-1000 * k - i - 7)]) ∧ Below w.heap.size w w'
  go_enter Try.func44, Try.ntmps44
  go_wp2
  exact bodyPost_ret (v := .agg #[.int .u8 99, .int .i64 (-1000 * k - i - 7)]) (by simp [results, Try.results44, go_sem]) rfl ⟨rfl, (Below.refl _ _).alloc (Nat.le_refl _) _⟩
def eqE (x y : Ev) : Bool := (x.k == y.k) && (x.s == y.s)
theorem eqcE (x y : Ev) : ((x.k == y.k) = true ∧ (x.s == y.s) = true ∧ eqE x y = true) ∨ ((x.k == y.k) = false ∧ eqE x y = false) ∨ ((x.k == y.k) = true ∧ (x.s == y.s) = false ∧ eqE x y = false) := by
  unfold eqE
  cases h0 : (x.k == y.k) <;> cases h1 : (x.s == y.s) <;> simp
theorem eqE_iff (x y : Ev) : eqE x y = true ↔ x = y := by
  unfold eqE
  cases x; cases y; simp [and_assoc]
set_option maxHeartbeats 2000000 in
theorem sameE_any (u v : Value) (xs ys : List Ev) (w : World) (hu : KE.R w u xs) (hv : KE.R w v ys) :
    Calls Try.prog 21 #[u, v] w fun e w' => e = .returned (.bool (sameL eqE xs ys)) ∧ ∃ m, w' = w.drewN m := by
  have HU := Lib.hid hu
  have HV := Lib.hid hv
  obtain ⟨ao, cap, rfl, h1, h2, _⟩ := hu.any
  obtain ⟨bo, dap, rfl, h3, h4, _⟩ := hv.any
  clear hu hv
  have hla : xs.length ≤ 9223372036854775807 := by omega
  have hlb : ys.length ≤ 9223372036854775807 := by omega
  obtain ⟨b, hb⟩ : ∃ b, sameL eqE xs ys = b := ⟨_, rfl⟩
  rw [hb]
  unfold sameL at hb
  by_cases hl : xs.length = ys.length
  · rw [if_pos hl] at hb
    have HS := Lib.hid hb
    have hlI : ((xs.length : Int) != (ys.length : Int)) = false := by rw [hl]; simp
    have HL := Lib.hid hl
    clear hl hb
    go_enter Try.func21, Try.ntmps21
    go_wp2_with fail
    go_loopw [5] (fun i w1 => ∃ k : Nat, k ≤ xs.length ∧ i = .int .i64 (k : Int) ∧ Hid (sameTo' eqE xs ys (xs.length - k) k = b) ∧ ∃ m, w1 = w.drewN m) (fun i _ => xs.length - (intOf i).toNat)
    case atStart => exact ⟨0, Nat.zero_le _, rfl, HS, 0, rfl⟩
    case round =>
      obtain ⟨k, hk, rfl, HE, m, rfl⟩ := hrel
      by_cases hlt : k < xs.length
      · have hlt2 : k < ys.length := by rw [← HL.out]; exact hlt
        obtain ⟨x, hx⟩ : ∃ x, xs[k]? = some x := ⟨_, List.getElem?_eq_getElem hlt⟩
        obtain ⟨y, hy⟩ : ∃ y, ys[k]? = some y := ⟨_, List.getElem?_eq_getElem hlt2⟩
        obtain ⟨g, off, rfl, _, dd⟩ := HU.out.get hx
        obtain ⟨g2, off2, rfl, _, ee⟩ := HV.out.get hy
        have HE2 : Hid ((if eqE x y then sameTo' eqE xs ys (xs.length - (k + 1)) (k + 1) else false) = b) := by
          have h := HE.out
          rw [show xs.length - k = (xs.length - (k + 1)) + 1 from by omega] at h
          exact Lib.hid (sameTo_step hx hy h)
        clear HE hx hy
        obtain ⟨kx, sx⟩ := x
        obtain ⟨ky, sy⟩ := y
        have d0 : w.cell? ⟨g, off + k * 2, none⟩ = some (.int .u8 kx) := by have h := dd 0 _ rfl; rw [show off + (k * KE.sz + 0) = off + k * 2 from by show off + (k * 2 + 0) = _; omega] at h; exact h
        have d1 : w.cell? ⟨g, off + k * 2 + 1, none⟩ = some (.int .i64 sx) := by have h := dd 1 _ rfl; rw [show off + (k * KE.sz + 1) = off + k * 2 + 1 from by show off + (k * 2 + 1) = _; omega] at h; exact h
        have e0 : w.cell? ⟨g2, off2 + k * 2, none⟩ = some (.int .u8 ky) := by have h := ee 0 _ rfl; rw [show off2 + (k * KE.sz + 0) = off2 + k * 2 from by show off2 + (k * 2 + 0) = _; omega] at h; exact h
        have e1 : w.cell? ⟨g2, off2 + k * 2 + 1, none⟩ = some (.int .i64 sy) := by have h := ee 1 _ rfl; rw [show off2 + (k * KE.sz + 1) = off2 + k * 2 + 1 from by show off2 + (k * 2 + 1) = _; omega] at h; exact h
        clear dd ee
        have hq := eqcE ⟨kx, sx⟩ ⟨ky, sy⟩
        dsimp only at hq
        rcases hq with ⟨h0, h1, he⟩ | ⟨h0, he⟩ | ⟨h0, h1, he⟩
        · have HE3 : Hid (sameTo' eqE xs ys (xs.length - (k + 1)) (k + 1) = b) := by
            have h := HE2.out
            rw [if_pos he] at h
            exact Lib.hid h
          clear HE2
          go_wp2_with fail
          go_quiet ((fail))
          go_wp2_with fail
          go_roundw
          case rel => exact ⟨k + 1, by omega, by go_num, HE3, m + nq, rfl⟩
          case measure => simp [intOf]; omega
        all_goals
          have HE3 : Hid (b = false) := by
            have h := HE2.out
            rw [he] at h
            exact Lib.hid h.symm
          clear HE2
          go_wp2_with fail
          go_quiet ((fail))
          go_wp2
          go_ret
          exact ⟨by rw [HE3.out]; rfl, m + nq, by simp⟩
      · obtain rfl : k = xs.length := by omega
        have HF : Hid (b = true) := by
          have h := HE.out
          rw [Nat.sub_self] at h
          exact Lib.hid h.symm
        go_wp2
        go_ret
        exact ⟨by rw [HF.out]; rfl, m, rfl⟩
  · rw [if_neg hl] at hb
    have hlI : ((xs.length : Int) != (ys.length : Int)) = true := by simp; omega
    have HF := Lib.hid hb
    clear hl hb
    go_enter Try.func21, Try.ntmps21
    go_wp2
    go_ret
    exact ⟨by rw [← HF.out]; rfl, 0, rfl⟩
theorem infoEs : (Try.prog.info? 34).map (fun i => (i.zero, i.size, i.bytes)) = some (some (.slice none 0 0), 1, 24) := by kernel_rfl
def ME : Mkr := Mkr.ofK KE 34 mkE
theorem ME_get (k n i : Nat) (h : i < n) (c : Nat) (hc : c < 2) : (ME.marks k n)[i * 2 + c]? = (KE.cv (mkE ((k : Int) + 10) (i : Int)))[c]? := ME.marks_get k c hc n i h
set_option maxHeartbeats 4000000 in
theorem apartEvents_any {w0 w : World} (u : Value) (vs : List Value) (n : Nat → Nat) (c : Nat → List Value) (rest : List Ob) (h : AEnv ME w0 w u vs (fun j => obE ME.e ME.sz (Tv vs j) (n j) (c j)) rest)
    (hn : ∀ j, j < vs.length → n j ≤ 8796093022202) (hl : vs.length ≤ 900000) :
    Calls Try.prog 22 #[u] w fun e w' => e = .returned (.bool true) ∧ Env w0 w' rest := by
  have hc : ∀ j, j < vs.length → (c j).length = n j * ME.sz := fun j hj => (Env.row h (j + 1) (AEnv.at (w0 := w0) (w := w) j hj)).1
  have HC := Lib.hid hc
  have HN := Lib.hid hn
  obtain ⟨ao, capu, rfl, hcu, hcm, hao⟩ := header h.row
  have HAO := Lib.hid hao
  have H0 : Hid (AEnv ME w0 w (.slice ao vs.length capu) vs (T1 ME vs n c 0 0) rest) := Lib.hid (h.same fun j hj => T1_zero vs n c j)
  clear hc hn hao h
  obtain ⟨N, hN⟩ : ∃ N, N = vs.length := ⟨_, rfl⟩
  have HNN := Lib.hid hN
  rw [← hN] at hl hcu H0
  rw [← hN]
  clear hN
  go_enter Try.func22, Try.ntmps22
  go_wp2_with fail
  go_loopw [3] (fun i w1 => ∃ (k : Nat), k ≤ N ∧ i = .int .i64 (k : Int) ∧ Hid (AEnv ME w0 w1 (.slice ao N capu) vs (T1 ME vs n c k 0) rest)) (fun i _ => N - (intOf i).toNat)
  case atStart => exact ⟨0, Nat.zero_le _, rfl, H0⟩
  case round =>
    clear H0
    obtain ⟨k, hk, rfl, H1⟩ := hrel
    by_cases hlt : k < N
    · have hkv : k < vs.length := by rw [← HNN.out]; exact hlt
      have hr1 := Env.row H1.out (k + 1) (by rw [AEnv.at (w0 := w0) (w := wr) k hkv, T1_self])
      obtain ⟨m, hm⟩ : ∃ m, n k = m := ⟨_, rfl⟩
      have hnk := HN.out k hkv
      rw [hm] at hr1 hnk
      obtain ⟨ak, capk, hvk, hck, hcmk, hak⟩ := header hr1
      obtain ⟨gu, rfl⟩ := HAO.out (by rw [← HNN.out]; omega)
      have hu1 := H1.out.row
      rw [← HNN.out] at hu1
      have c0 := World.ownsRow.cellAt hu1 k (by omega)
      rw [Tv_get hkv, hvk] at c0
      have HM := Lib.hid hm
      have HVK := Lib.hid hvk
      have HAK := Lib.hid hak
      have HKV := Lib.hid hkv
      clear hr1 hu1 hm hvk hak hkv
      go_wp2_with fail
      obtain ⟨wx, hwx⟩ : ∃ x, x = wr := ⟨_, rfl⟩
      go_loopw [4] (fun i w1 => ∃ (j : Nat), j ≤ m ∧ i = .int .i64 (j : Int) ∧ Hid (AEnv ME w0 w1 (.slice (some ⟨gu, 0, none⟩) N capu) vs (T1 ME vs n c k j) rest)) (fun i _ => m - (intOf i).toNat)
      case atStart => exact ⟨0, Nat.zero_le _, rfl, H1⟩
      case round =>
        clear c0
        obtain ⟨j, hj, rfl, H2⟩ := hrel
        have hu2 := H2.out.row
        rw [← HNN.out] at hu2
        have c0 := World.ownsRow.cellAt hu2 k (by omega)
        rw [Tv_get HKV.out, HVK.out] at c0
        clear hu2
        by_cases hjn : j < m
        · obtain ⟨g, rfl⟩ := HAK.out (by omega)
          have hr2 := Env.row H2.out (k + 1) (by rw [AEnv.at (w0 := w0) (w := wr) k HKV.out, T1_self])
          rw [HM.out, HVK.out] at hr2
          clear hr2
          have c0S : ∀ w', Below wr.heap.size wr w' → w'.cell? ⟨gu, k, none⟩ = some (.slice (some ⟨g, 0, none⟩) m capk) := fun w' hb => (hb.cell (p := ⟨gu, k, none⟩) (World.block_lt_of_cell? wr _ c0)).trans c0
          go_wp2_with fail
          have hwk : IntKind.i64.wrap ((k : Int) + 10) = (k : Int) + 10 := IntWalk.i64_in _ (by omega)
          refine wp_region_tame (fun w' => Below wr.heap.size wr w') 0 10 (by kernel_rfl) (by kernel_rfl) (fun _ _ d _ _ h => (by cases d <;> exact h)) ⟨rfl, rfl, rfl, Nat.le_refl _, fun _ _ => rfl⟩ (by decide) ?_
          simp only [List.take_succ_cons, List.take_zero, List.drop_succ_cons, List.drop_zero]
          refine wpPre_nil ?_
          refine wpTame_run (v := ?_) (by decide) rfl (fun w' hS => ?_) ?_
          rotate_left
          focus (have q0 := c0S w' hS; clear hS; go_simp; try rfl; done)
          simp only [Act.put, List.setIfInBounds_toArray, List.set_cons_zero, List.set_cons_succ]
          refine wpTame_run (v := ?_) (by decide) rfl (fun w' hS => ?_) ?_
          rotate_left
          focus (have q0 := c0S w' hS; clear hS; go_simp; try rfl; done)
          simp only [Act.put, List.setIfInBounds_toArray, List.set_cons_zero, List.set_cons_succ]
          refine wpTame_run (v := ?_) (by decide) rfl (fun w' hS => ?_) ?_
          rotate_left
          focus (have q0 := c0S w' hS; clear hS; go_simp; try rfl; done)
          simp only [Act.put, List.setIfInBounds_toArray, List.set_cons_zero, List.set_cons_succ]
          refine wpTame_run (v := ?_) (by decide) rfl (fun w' hS => ?_) ?_
          rotate_left
          focus (have q0 := c0S w' hS; clear hS; go_simp; try rfl; done)
          simp only [Act.put, List.setIfInBounds_toArray, List.set_cons_zero, List.set_cons_succ]
          refine wpTame_run (v := ?_) (by decide) rfl (fun w' hS => ?_) ?_
          rotate_left
          focus (have q0 := c0S w' hS; clear hS; go_simp; try rfl; done)
          simp only [Act.put, List.setIfInBounds_toArray, List.set_cons_zero, List.set_cons_succ]
          refine wpTame_run (v := ?_) (by decide) rfl (fun w' hS => ?_) ?_
          rotate_left
          focus (have q0 := c0S w' hS; clear hS; go_simp; try rfl; done)
          simp only [Act.put, List.setIfInBounds_toArray, List.set_cons_zero, List.set_cons_succ]
          refine wpTame_run (v := ?_) (by decide) rfl (fun w' hS => ?_) ?_
          rotate_left
          focus (have q0 := c0S w' hS; clear hS; go_simp; try rfl; done)
          simp only [Act.put, List.setIfInBounds_toArray, List.set_cons_zero, List.set_cons_succ]
          refine wpTame_run (v := ?_) (by decide) rfl (fun w' hS => ?_) ?_
          rotate_left
          focus (have q0 := c0S w' hS; clear hS; go_simp; try rfl; done)
          simp only [Act.put, List.setIfInBounds_toArray, List.set_cons_zero, List.set_cons_succ]
          refine wpTame_call (v := .agg #[.int .u8 (mkE ((k : Int) + 10) (j : Int)).k, .int .i64 (mkE ((k : Int) + 10) (j : Int)).s]) (by decide) rfl (fun w' h => ?_) (fun w' h => (markE_any ((k : Int) + 10) j w' (by omega) (by omega) (by omega) (by omega)).mono fun e w'' ⟨he, hb⟩ => ⟨he, h.trans (hb.mono h.size)⟩) ?_
          · clear h; go_simp; try rfl
          simp only [Act.put, List.setIfInBounds_toArray, List.set_cons_zero, List.set_cons_succ]
          refine wpTame_run (v := ?_) (by decide) rfl (fun w' hS => ?_) ?_
          rotate_left
          focus (have q0 := c0S w' hS; clear hS; go_simp; try rfl; done)
          simp only [Act.put, List.setIfInBounds_toArray, List.set_cons_zero, List.set_cons_succ]
          refine wpTame_nil ?_
          intro wm hw'
          have H3 := Lib.hid (H2.out.below hw')
          have hr3 := Env.row H3.out (k + 1) (by rw [AEnv.at (w0 := w0) (w := wm) k HKV.out, T1_self])
          rw [HM.out, HVK.out] at hr3
          have c1 := World.ownsRow.cellAt hr3 (j * 2) (by show j * 2 < m * 2; omega)
          rw [List.getElem?_eq_getElem (by rw [hr3.1]; show j * 2 < m * 2; omega)] at c1
          generalize (ME.to k (c k) j)[j * 2]'_ = z1 at c1
          have f1 := World.ownsRow.frozenAt hr3 (j * 2)
          have c2 := World.ownsRow.cellAt hr3 (j * 2 + 1) (by show j * 2 + 1 < m * 2; omega)
          rw [List.getElem?_eq_getElem (by rw [hr3.1]; show j * 2 + 1 < m * 2; omega)] at c2
          generalize (ME.to k (c k) j)[j * 2 + 1]'_ = z2 at c2
          have f2 := World.ownsRow.frozenAt hr3 (j * 2 + 1)
          clear hr3 c0 c0S hw'
          go_wp2_with fail
          go_roundw
          case rel => exact ⟨j + 1, by omega, by go_num, Lib.hid (H3.out.mark0 HKV.out (HC.out k HKV.out) (by rw [HM.out]; exact hjn) HVK.out)⟩
          case measure => simp [intOf]; omega
        · obtain rfl : j = m := by omega
          have H3 : Hid (AEnv ME w0 wr (.slice (some ⟨gu, 0, none⟩) N capu) vs (T1 ME vs n c (k + 1) 0) rest) := by
            have h := H2.out
            rw [← HM.out] at h
            exact Lib.hid (h.next (HC.out k HKV.out))
          go_wp2_with fail
          go_roundw
          case rel => exact ⟨k + 1, by omega, by go_num, H3⟩
          case measure => simp [intOf]; omega
    · obtain rfl : k = N := by omega
      have P0 : Hid (PEnv ME w0 wr (.slice ao k capu) vs n rest 0 none (.slice none 0 0) []) := by
        have h := H1.out
        rw [HNN.out] at h ⊢
        exact Lib.hid (PEnv.start h)
      clear H1
      go_wp2_with fail
      obtain ⟨wq, hwq⟩ : ∃ x, x = wr := ⟨_, rfl⟩
      go_loopw [5, 6] (fun gsv i w1 => ∃ (p : Nat) (gs : List Value), p ≤ k ∧ i = .int .i64 (p : Int) ∧ Hid (gs.length = p) ∧ Hid (PEnv ME w0 w1 (.slice ao k capu) vs n rest p none gsv gs)) (fun _ i _ => k - (intOf i).toNat)
      case atStart => exact ⟨0, [], Nat.zero_le _, rfl, Lib.hid rfl, P0⟩
      case round =>
        clear P0
        obtain ⟨p, gs, hp, rfl, HGS, P⟩ := hrel
        by_cases hlt : p < k
        · have hkv : p < vs.length := by rw [← HNN.out]; exact hlt
          have hd := P.out.hd hkv
          have hr1 := Env.row P.out (p + 1) (by rw [AEnv.at (w0 := w0) (w := wr) p hkv, T2_self])
          obtain ⟨m, hm⟩ : ∃ m, n p = m := ⟨_, rfl⟩
          have hnk := HN.out p hkv
          rw [hm] at hr1 hnk
          obtain ⟨ak, capk, hvk, hck, hcmk, hak⟩ := header hr1
          obtain ⟨gu, rfl⟩ := HAO.out (by rw [← HNN.out]; omega)
          have hu1 := P.out.row
          rw [← HNN.out] at hu1
          have c0 := World.ownsRow.cellAt hu1 p (by omega)
          rw [Tv_get hkv, hvk] at c0
          have PT := P.out.take hkv
          rw [hvk] at PT
          have HM := Lib.hid hm
          have HVK := Lib.hid hvk
          have HKV := Lib.hid hkv
          have HD := Lib.hid hd
          have HPT := Lib.hid PT
          clear hr1 hu1 hm hvk hak hkv hd PT P
          go_wp2_with fail
          obtain ⟨wy, hwy⟩ : ∃ x, x = wr := ⟨_, rfl⟩
          go_loopw [7, 8] (fun g i w1 => ∃ (j : Nat), j ≤ 6 ∧ i = .int .i64 (j : Int) ∧ Hid (PEnv ME w0 w1 (.slice (some ⟨gu, 0, none⟩) k capu) vs n rest p (some (g, j)) u5 gs)) (fun _ i _ => 6 - (intOf i).toNat)
          case atStart => exact ⟨0, by omega, rfl, HPT⟩
          case round =>
            clear HPT c0
            obtain ⟨j, hj, rfl, PJ⟩ := hrel
            have hu1 := PJ.out.row
            rw [← HNN.out] at hu1
            have c0 := World.ownsRow.cellAt hu1 p (by omega)
            rw [Tv_get HKV.out, HVK.out] at c0
            clear hu1
            by_cases hj6 : j < 6
            · obtain ⟨x, hx⟩ : ∃ x, mkE ((p : Int) + 10) ((m : Int) + j) = x := ⟨_, rfl⟩
              have hel : ME.el p (m + j) = [.int .u8 x.k, .int .i64 x.s] := by rw [← hx]; rfl
              have hwk : IntKind.i64.wrap ((p : Int) + 10) = (p : Int) + 10 := IntWalk.i64_in _ (by omega)
              go_wp2_with fail
              refine (markE_any ((p : Int) + 10) ((m : Int) + j) _ (by omega) (by omega) (by omega) (by omega)).mono ?_
              rintro e wm ⟨he, hbm⟩
              rw [hx] at he
              subst he
              clear hx
              have PA := (PJ.out.below hbm).below ((Below.refl wm.heap.size wm).alloc (Nat.le_refl _) (.cells #[.int .u8 x.k, .int .i64 x.s] 49))
              have HOWN : (wm.alloc (.cells #[.int .u8 x.k, .int .i64 x.s] 49)).ownsRow 0 49 2 u7 (m + j) (ME.marks p (m + j)) := by
                have h := PA.gone HKV.out
                rw [HM.out] at h
                exact h
              have HPA := Lib.hid PA
              have HEL := Lib.hid hel
              clear PA hel hbm
              obtain ⟨i0, hi, hz0, hz1, hz2⟩ := info_parts infoE
              go_wp2_with (at_builtin; refine wpList_append_keep _ rfl _ _ 34 rfl 49 i0 _ 2 16 Try.underlying34 hi hz0 hz1 hz2 rfl (by decide) u7 (m + j) (ME.marks p (m + j)) rfl HOWN ⟨wm.heap.size, 0, none⟩ 1 1 [.int .u8 x.k, .int .i64 x.s] rfl rfl (World.news_of_block (heap_alloc_new _ _)) (KE.one x) (by unfold maxLen; omega) (by omega) (by decide) ?_)
              intro v' w2 hown hgrow hat hne
              have HP2 : Hid (PEnv ME w0 w2 (.slice (some ⟨gu, 0, none⟩) k capu) vs n rest p (some (v', j + 1)) u5 gs) := by
                have hm := HM.out
                subst hm
                rw [← HEL.out] at hown
                exact Lib.hid (HPA.out.more HKV.out HD.out hown hgrow (by simpa using hat))
              clear hown hgrow hat hne HOWN hi hz0 hz1 hz2 c0
              go_wp2_with fail
              go_roundw
              case rel => exact ⟨j + 1, by omega, by go_num, HP2⟩
              case measure => simp [intOf]; omega
            · obtain rfl : j = 6 := by omega
              have hg := PJ.out.gone HKV.out
              obtain ⟨ag, capg, hug, _, _, _⟩ := header hg
              subst hug
              have HPA := Lib.hid (PJ.out.below ((Below.refl wr.heap.size wr).alloc (Nat.le_refl _) (.cells #[.slice ag (n p + 6) capg] 34)))
              have HROW : (wr.alloc (.cells #[.slice ag (n p + 6) capg] 34)).ownsRow 0 34 1 u5 p gs := by
                have h := HPA.out.gs
                rw [HGS.out] at h
                exact h
              clear hg c0
              obtain ⟨i0, hi, hz0, hz1, hz2⟩ := info_parts infoEs
              go_wp2_with (at_builtin; refine wpList_append_keep _ rfl _ _ 41 rfl 34 i0 _ 1 24 Try.underlying41 hi hz0 hz1 hz2 rfl (by decide) u5 p gs rfl HROW ⟨wr.heap.size, 0, none⟩ 1 1 [.slice ag (n p + 6) capg] rfl rfl (World.news_of_block (heap_alloc_new _ _)) (fun u hu => by simp at hu; subst hu; rfl) (by unfold maxLen; omega) (by omega) (by decide) ?_)
              intro v' w2 hown hgrow hat hne
              have HP2 : Hid (PEnv ME w0 w2 (.slice (some ⟨gu, 0, none⟩) k capu) vs n rest (p + 1) none v' (gs ++ [.slice ag (n p + 6) capg])) := by
                refine Lib.hid (HPA.out.kept HGS.out (by rw [HGS.out]; exact hown) hgrow ?_)
                rcases hat with hat | hat
                · exact .inl hat
                · exact .inr (by simpa using hat.1)
              clear hown hgrow hat hne HROW hi hz0 hz1 hz2
              go_wp2_with fail
              go_roundw
              case rel => exact ⟨p + 1, _, by omega, by go_num, Lib.hid (by rw [List.length_append, HGS.out]; rfl), HP2⟩
              case measure => simp [intOf]; omega
        · obtain rfl : p = k := by omega
          have hg := P.out.gs
          rw [HGS.out] at hg
          obtain ⟨ag, capg, hug, hcg, hcmg, hag⟩ := header hg
          subst hug
          have HROW := Lib.hid hg
          have HAG := Lib.hid hag
          have hu1 := P.out.row
          rw [← HNN.out] at hu1
          have HU := Lib.hid hu1
          have HR : Hid (∀ q, q < p → wr.ownsRow 0 49 2 (Tv gs q) (n q + 6) (ME.marks q (n q + 6)) ∧ Sl wr 2 (Tv vs q) (n q) (ME.marks q (n q)) ∧ n q ≤ 8796093022202) := Lib.hid (fun q hq => by
            have h := P.out
            have hq' : q < vs.length := by rw [← HNN.out]; exact hq
            have h2 := h
            rw [HNN.out] at h2
            obtain ⟨h3, h4⟩ := h2.rows q hq'
            exact ⟨h3, h4, HN.out q hq'⟩)
          have HEND : Hid (∀ w', Below wr.heap.size wr w' → Env w0 w' rest) := Lib.hid (fun w' hb => Env.below P.out.drop hb)
          clear hg hag hu1 P
          go_wp2_with fail
          obtain ⟨w3, rfl⟩ : ∃ w3 : World, w3 = wr := ⟨_, rfl⟩
          go_loopw [9] (fun i w1 => ∃ (q : Nat), q ≤ p ∧ i = .int .i64 (q : Int) ∧ Hid (Below w3.heap.size w3 w1)) (fun i _ => p - (intOf i).toNat)
          case atStart => exact ⟨0, Nat.zero_le _, rfl, Lib.hid (Below.refl _ _)⟩
          case round =>
            obtain ⟨q, hq, rfl, HB⟩ := hrel
            by_cases hlt : q < p
            · obtain ⟨h3, h4, hnq⟩ := HR.out q hlt
              obtain ⟨gu, rfl⟩ := HAO.out (by rw [← HNN.out]; omega)
              obtain ⟨gg, rfl⟩ := HAG.out (by omega)
              obtain ⟨m, hm⟩ : ∃ m, n q = m := ⟨_, rfl⟩
              rw [hm] at h3 h4 hnq
              obtain ⟨a1, cap1, hv1, hc1, hcm1, ha1⟩ := header h3
              obtain ⟨g1, rfl⟩ := ha1 (by omega)
              obtain ⟨a2, cap2, hv2, hc2, hcm2, ha2, ha3⟩ := h4.form
              have d1 := World.ownsRow.cellAt HROW.out q (by omega)
              rw [Tv_get (by rw [HGS.out]; exact hlt), hv1] at d1
              have d2 := World.ownsRow.cellAt HU.out q (by omega)
              rw [Tv_get (by rw [← HNN.out]; exact hlt), hv2] at d2
              rw [hv1] at h3
              have d1S : Hid (∀ w', Below w3.heap.size w3 w' → w'.cell? ⟨gg, q, none⟩ = some (.slice (some ⟨g1, 0, none⟩) (m + 6) cap1)) := Lib.hid (fun w' hb => (hb.cell (p := ⟨gg, q, none⟩) (World.block_lt_of_cell? w3 _ d1)).trans d1)
              have d2S : Hid (∀ w', Below w3.heap.size w3 w' → w'.cell? ⟨gu, q, none⟩ = some (.slice a2 m cap2)) := Lib.hid (fun w' hb => (hb.cell (p := ⟨gu, q, none⟩) (World.block_lt_of_cell? w3 _ d2)).trans d2)
              have H3 := Lib.hid h3
              have HA3 := Lib.hid ha3
              clear h3 h4 hm hv1 hv2 ha1 ha2 ha3 d1 d2
              have d1 := d1S.out _ HB.out
              go_wp2_with fail
              clear d1
              go_loopw [10] (fun i w1 => ∃ (j : Nat), j ≤ m + 6 ∧ i = .int .i64 (j : Int) ∧ Hid (Below w3.heap.size w3 w1)) (fun i _ => m + 6 - (intOf i).toNat)
              case atStart => exact ⟨0, Nat.zero_le _, rfl, HB⟩
              case round =>
                clear HB
                obtain ⟨j, hj, rfl, HB⟩ := hrel
                have d1 := d1S.out _ HB.out
                by_cases hjn : j < m + 6
                · obtain ⟨x, hx⟩ : ∃ x, mkE ((q : Int) + 10) (j : Int) = x := ⟨_, rfl⟩
                  have HX := Lib.hid hx
                  have d3S0 : ∀ w', Below w3.heap.size w3 w' → w'.cell? ⟨g1, j * 2, none⟩ = some (.int .u8 x.k) := fun w' hb => by
                    have h := World.ownsRow.cellAt H3.out (j * 2 + 0) (by omega)
                    rw [ME_get q (m + 6) j (by omega) 0 (by decide), HX.out] at h
                    have h2 : w3.cell? ⟨g1, j * 2, none⟩ = some (.int .u8 x.k) := h
                    exact (hb.cell (p := ⟨g1, j * 2, none⟩) (World.block_lt_of_cell? w3 _ h2)).trans h2
                  have d3S1 : ∀ w', Below w3.heap.size w3 w' → w'.cell? ⟨g1, j * 2 + 1, none⟩ = some (.int .i64 x.s) := fun w' hb => by
                    have h := World.ownsRow.cellAt H3.out (j * 2 + 1) (by omega)
                    rw [ME_get q (m + 6) j (by omega) 1 (by decide), HX.out] at h
                    have h2 : w3.cell? ⟨g1, j * 2 + 1, none⟩ = some (.int .i64 x.s) := h
                    exact (hb.cell (p := ⟨g1, j * 2 + 1, none⟩) (World.block_lt_of_cell? w3 _ h2)).trans h2
                  have hwk : IntKind.i64.wrap ((q : Int) + 10) = (q : Int) + 10 := IntWalk.i64_in _ (by omega)
                  have e1S := d1S.out
                  have e2S := d2S.out
                  clear hx
                  by_cases hjm : j < m
                  · obtain ⟨b, off, rfl, d4⟩ := HA3.out (j * 2 + 0) _ (ME_get q m j hjm 0 (by decide))
                    have d4S0 : ∀ w', Below w3.heap.size w3 w' → w'.cell? ⟨b, off + j * 2, none⟩ = some (.int .u8 x.k) := fun w' hb => by
                      obtain ⟨b2, off2, hb2, h⟩ := HA3.out (j * 2 + 0) (.int .u8 x.k) ((ME_get q m j hjm 0 (by decide)).trans (by rw [HX.out]; rfl))
                      injection hb2 with hb2
                      injection hb2 with e1 e2
                      subst e1; subst e2
                      have h2 : w3.cell? ⟨b, off + j * 2, none⟩ = some (.int .u8 x.k) := by rw [show off + j * 2 = off + (j * 2 + 0) from by omega]; exact h
                      exact (hb.cell (p := ⟨b, off + j * 2, none⟩) (World.block_lt_of_cell? w3 _ h2)).trans h2
                    have d4S1 : ∀ w', Below w3.heap.size w3 w' → w'.cell? ⟨b, off + j * 2 + 1, none⟩ = some (.int .i64 x.s) := fun w' hb => by
                      obtain ⟨b2, off2, hb2, h⟩ := HA3.out (j * 2 + 1) (.int .i64 x.s) ((ME_get q m j hjm 1 (by decide)).trans (by rw [HX.out]; rfl))
                      injection hb2 with hb2
                      injection hb2 with e1 e2
                      subst e1; subst e2
                      have h2 : w3.cell? ⟨b, off + j * 2 + 1, none⟩ = some (.int .i64 x.s) := by rw [show off + j * 2 + 1 = off + (j * 2 + 1) from by omega]; exact h
                      exact (hb.cell (p := ⟨b, off + j * 2 + 1, none⟩) (World.block_lt_of_cell? w3 _ h2)).trans h2
                    clear d4
                    go_wp2_with fail
                    clear d1
                    refine wp_region_tame (fun w' => Below w3.heap.size w3 w') 0 37 (by kernel_rfl) (by kernel_rfl) (fun _ _ d _ _ h => (by cases d <;> exact h)) (by have h := HB.out; exact ⟨h.os, h.tape, h.output, h.size, h.block⟩) (by decide) ?_
                    simp only [List.take_succ_cons, List.take_zero, List.drop_succ_cons, List.drop_zero]
                    refine wpPre_nil ?_
                    refine wpTame_run (v := ?_) (by decide) rfl (fun w' hS => ?_) ?_
                    rotate_left
                    focus (have q0 := e1S w' hS; have q1 := e2S w' hS; have q2 := d3S0 w' hS; have q3 := d3S1 w' hS; clear hS; go_simp; try rfl; done)
                    simp only [Act.put, List.setIfInBounds_toArray, List.set_cons_zero, List.set_cons_succ]
                    refine wpTame_run (v := ?_) (by decide) rfl (fun w' hS => ?_) ?_
                    rotate_left
                    focus (have q0 := e1S w' hS; have q1 := e2S w' hS; have q2 := d3S0 w' hS; have q3 := d3S1 w' hS; clear hS; go_simp; try rfl; done)
                    simp only [Act.put, List.setIfInBounds_toArray, List.set_cons_zero, List.set_cons_succ]
                    refine wpTame_run (v := ?_) (by decide) rfl (fun w' hS => ?_) ?_
                    rotate_left
                    focus (have q0 := e1S w' hS; have q1 := e2S w' hS; have q2 := d3S0 w' hS; have q3 := d3S1 w' hS; clear hS; go_simp; try rfl; done)
                    simp only [Act.put, List.setIfInBounds_toArray, List.set_cons_zero, List.set_cons_succ]
                    refine wpTame_run (v := ?_) (by decide) rfl (fun w' hS => ?_) ?_
                    rotate_left
                    focus (have q0 := e1S w' hS; have q1 := e2S w' hS; have q2 := d3S0 w' hS; have q3 := d3S1 w' hS; clear hS; go_simp; try rfl; done)
                    simp only [Act.put, List.setIfInBounds_toArray, List.set_cons_zero, List.set_cons_succ]
                    refine wpTame_run (v := ?_) (by decide) rfl (fun w' hS => ?_) ?_
                    rotate_left
                    focus (have q0 := e1S w' hS; have q1 := e2S w' hS; have q2 := d3S0 w' hS; have q3 := d3S1 w' hS; clear hS; go_simp; try rfl; done)
                    simp only [Act.put, List.setIfInBounds_toArray, List.set_cons_zero, List.set_cons_succ]
                    refine wpTame_run (v := ?_) (by decide) rfl (fun w' hS => ?_) ?_
                    rotate_left
                    focus (have q0 := e1S w' hS; have q1 := e2S w' hS; have q2 := d3S0 w' hS; have q3 := d3S1 w' hS; clear hS; go_simp; try rfl; done)
                    simp only [Act.put, List.setIfInBounds_toArray, List.set_cons_zero, List.set_cons_succ]
                    refine wpTame_run (v := ?_) (by decide) rfl (fun w' hS => ?_) ?_
                    rotate_left
                    focus (have q0 := e1S w' hS; have q1 := e2S w' hS; have q2 := d3S0 w' hS; have q3 := d3S1 w' hS; clear hS; go_simp; try rfl; done)
                    simp only [Act.put, List.setIfInBounds_toArray, List.set_cons_zero, List.set_cons_succ]
                    refine wpTame_run (v := ?_) (by decide) rfl (fun w' hS => ?_) ?_
                    rotate_left
                    focus (have q0 := e1S w' hS; have q1 := e2S w' hS; have q2 := d3S0 w' hS; have q3 := d3S1 w' hS; clear hS; go_simp; try rfl; done)
                    simp only [Act.put, List.setIfInBounds_toArray, List.set_cons_zero, List.set_cons_succ]
                    refine wpTame_run (v := ?_) (by decide) rfl (fun w' hS => ?_) ?_
                    rotate_left
                    focus (have q0 := e1S w' hS; have q1 := e2S w' hS; have q2 := d3S0 w' hS; have q3 := d3S1 w' hS; clear hS; go_simp; try rfl; done)
                    simp only [Act.put, List.setIfInBounds_toArray, List.set_cons_zero, List.set_cons_succ]
                    refine wpTame_run (v := ?_) (by decide) rfl (fun w' hS => ?_) ?_
                    rotate_left
                    focus (have q0 := e1S w' hS; have q1 := e2S w' hS; have q2 := d3S0 w' hS; have q3 := d3S1 w' hS; clear hS; go_simp; try rfl; done)
                    simp only [Act.put, List.setIfInBounds_toArray, List.set_cons_zero, List.set_cons_succ]
                    refine wpTame_call (v := .agg #[.int .u8 x.k, .int .i64 x.s]) (by decide) rfl (fun w' h => ?_) (fun w' h => (markE_any ((q : Int) + 10) j w' (by omega) (by omega) (by omega) (by omega)).mono fun e w'' ⟨he, hb⟩ => ⟨by rw [he, HX.out], h.trans (hb.mono h.size)⟩) ?_
                    · clear h; go_simp; try rfl
                    simp only [Act.put, List.setIfInBounds_toArray, List.set_cons_zero, List.set_cons_succ]
                    refine wpTame_run (v := ?_) (by decide) rfl (fun w' hS => ?_) ?_
                    rotate_left
                    focus (have q0 := e1S w' hS; have q1 := e2S w' hS; have q2 := d3S0 w' hS; have q3 := d3S1 w' hS; have q4 := d4S0 w' hS; have q5 := d4S1 w' hS; clear hS; go_simp; try rfl; done)
                    simp only [Act.put, List.setIfInBounds_toArray, List.set_cons_zero, List.set_cons_succ]
                    refine wpTame_run (v := ?_) (by decide) rfl (fun w' hS => ?_) ?_
                    rotate_left
                    focus (have q0 := e1S w' hS; have q1 := e2S w' hS; have q2 := d3S0 w' hS; have q3 := d3S1 w' hS; have q4 := d4S0 w' hS; have q5 := d4S1 w' hS; clear hS; go_simp; try rfl; done)
                    simp only [Act.put, List.setIfInBounds_toArray, List.set_cons_zero, List.set_cons_succ]
                    refine wpTame_run (v := ?_) (by decide) rfl (fun w' hS => ?_) ?_
                    rotate_left
                    focus (have q0 := e1S w' hS; have q1 := e2S w' hS; have q2 := d3S0 w' hS; have q3 := d3S1 w' hS; have q4 := d4S0 w' hS; have q5 := d4S1 w' hS; clear hS; go_simp; try rfl; done)
                    simp only [Act.put, List.setIfInBounds_toArray, List.set_cons_zero, List.set_cons_succ]
                    refine wpTame_run (v := ?_) (by decide) rfl (fun w' hS => ?_) ?_
                    rotate_left
                    focus (have q0 := e1S w' hS; have q1 := e2S w' hS; have q2 := d3S0 w' hS; have q3 := d3S1 w' hS; have q4 := d4S0 w' hS; have q5 := d4S1 w' hS; clear hS; go_simp; try rfl; done)
                    simp only [Act.put, List.setIfInBounds_toArray, List.set_cons_zero, List.set_cons_succ]
                    refine wpTame_run (v := ?_) (by decide) rfl (fun w' hS => ?_) ?_
                    rotate_left
                    focus (have q0 := e1S w' hS; have q1 := e2S w' hS; have q2 := d3S0 w' hS; have q3 := d3S1 w' hS; have q4 := d4S0 w' hS; have q5 := d4S1 w' hS; clear hS; go_simp; try rfl; done)
                    simp only [Act.put, List.setIfInBounds_toArray, List.set_cons_zero, List.set_cons_succ]
                    refine wpTame_run (v := ?_) (by decide) rfl (fun w' hS => ?_) ?_
                    rotate_left
                    focus (have q0 := e1S w' hS; have q1 := e2S w' hS; have q2 := d3S0 w' hS; have q3 := d3S1 w' hS; have q4 := d4S0 w' hS; have q5 := d4S1 w' hS; clear hS; go_simp; try rfl; done)
                    simp only [Act.put, List.setIfInBounds_toArray, List.set_cons_zero, List.set_cons_succ]
                    refine wpTame_run (v := ?_) (by decide) rfl (fun w' hS => ?_) ?_
                    rotate_left
                    focus (have q0 := e1S w' hS; have q1 := e2S w' hS; have q2 := d3S0 w' hS; have q3 := d3S1 w' hS; have q4 := d4S0 w' hS; have q5 := d4S1 w' hS; clear hS; go_simp; try rfl; done)
                    simp only [Act.put, List.setIfInBounds_toArray, List.set_cons_zero, List.set_cons_succ]
                    refine wpTame_run (v := ?_) (by decide) rfl (fun w' hS => ?_) ?_
                    rotate_left
                    focus (have q0 := e1S w' hS; have q1 := e2S w' hS; have q2 := d3S0 w' hS; have q3 := d3S1 w' hS; have q4 := d4S0 w' hS; have q5 := d4S1 w' hS; clear hS; go_simp; try rfl; done)
                    simp only [Act.put, List.setIfInBounds_toArray, List.set_cons_zero, List.set_cons_succ]
                    refine wpTame_run (v := ?_) (by decide) rfl (fun w' hS => ?_) ?_
                    rotate_left
                    focus (have q0 := e1S w' hS; have q1 := e2S w' hS; have q2 := d3S0 w' hS; have q3 := d3S1 w' hS; have q4 := d4S0 w' hS; have q5 := d4S1 w' hS; clear hS; go_simp; try rfl; done)
                    simp only [Act.put, List.setIfInBounds_toArray, List.set_cons_zero, List.set_cons_succ]
                    refine wpTame_run (v := ?_) (by decide) rfl (fun w' hS => ?_) ?_
                    rotate_left
                    focus (have q0 := e1S w' hS; have q1 := e2S w' hS; have q2 := d3S0 w' hS; have q3 := d3S1 w' hS; have q4 := d4S0 w' hS; have q5 := d4S1 w' hS; clear hS; go_simp; try rfl; done)
                    simp only [Act.put, List.setIfInBounds_toArray, List.set_cons_zero, List.set_cons_succ]
                    refine wpTame_run (v := ?_) (by decide) rfl (fun w' hS => ?_) ?_
                    rotate_left
                    focus (have q0 := e1S w' hS; have q1 := e2S w' hS; have q2 := d3S0 w' hS; have q3 := d3S1 w' hS; have q4 := d4S0 w' hS; have q5 := d4S1 w' hS; clear hS; go_simp; try rfl; done)
                    simp only [Act.put, List.setIfInBounds_toArray, List.set_cons_zero, List.set_cons_succ]
                    refine wpTame_run (v := ?_) (by decide) rfl (fun w' hS => ?_) ?_
                    rotate_left
                    focus (have q0 := e1S w' hS; have q1 := e2S w' hS; have q2 := d3S0 w' hS; have q3 := d3S1 w' hS; have q4 := d4S0 w' hS; have q5 := d4S1 w' hS; clear hS; go_simp; try rfl; done)
                    simp only [Act.put, List.setIfInBounds_toArray, List.set_cons_zero, List.set_cons_succ]
                    refine wpTame_run (v := ?_) (by decide) rfl (fun w' hS => ?_) ?_
                    rotate_left
                    focus (have q0 := e1S w' hS; have q1 := e2S w' hS; have q2 := d3S0 w' hS; have q3 := d3S1 w' hS; have q4 := d4S0 w' hS; have q5 := d4S1 w' hS; clear hS; go_simp; try rfl; done)
                    simp only [Act.put, List.setIfInBounds_toArray, List.set_cons_zero, List.set_cons_succ]
                    refine wpTame_run (v := ?_) (by decide) rfl (fun w' hS => ?_) ?_
                    rotate_left
                    focus (have q0 := e1S w' hS; have q1 := e2S w' hS; have q2 := d3S0 w' hS; have q3 := d3S1 w' hS; have q4 := d4S0 w' hS; have q5 := d4S1 w' hS; clear hS; go_simp; try rfl; done)
                    simp only [Act.put, List.setIfInBounds_toArray, List.set_cons_zero, List.set_cons_succ]
                    refine wpTame_run (v := ?_) (by decide) rfl (fun w' hS => ?_) ?_
                    rotate_left
                    focus (have q0 := e1S w' hS; have q1 := e2S w' hS; have q2 := d3S0 w' hS; have q3 := d3S1 w' hS; have q4 := d4S0 w' hS; have q5 := d4S1 w' hS; clear hS; go_simp; try rfl; done)
                    simp only [Act.put, List.setIfInBounds_toArray, List.set_cons_zero, List.set_cons_succ]
                    refine wpTame_run (v := ?_) (by decide) rfl (fun w' hS => ?_) ?_
                    rotate_left
                    focus (have q0 := e1S w' hS; have q1 := e2S w' hS; have q2 := d3S0 w' hS; have q3 := d3S1 w' hS; have q4 := d4S0 w' hS; have q5 := d4S1 w' hS; clear hS; go_simp; try rfl; done)
                    simp only [Act.put, List.setIfInBounds_toArray, List.set_cons_zero, List.set_cons_succ]
                    refine wpTame_run (v := ?_) (by decide) rfl (fun w' hS => ?_) ?_
                    rotate_left
                    focus (have q0 := e1S w' hS; have q1 := e2S w' hS; have q2 := d3S0 w' hS; have q3 := d3S1 w' hS; have q4 := d4S0 w' hS; have q5 := d4S1 w' hS; clear hS; go_simp; try rfl; done)
                    simp only [Act.put, List.setIfInBounds_toArray, List.set_cons_zero, List.set_cons_succ]
                    refine wpTame_run (v := ?_) (by decide) rfl (fun w' hS => ?_) ?_
                    rotate_left
                    focus (have q0 := e1S w' hS; have q1 := e2S w' hS; have q2 := d3S0 w' hS; have q3 := d3S1 w' hS; have q4 := d4S0 w' hS; have q5 := d4S1 w' hS; clear hS; go_simp; try rfl; done)
                    simp only [Act.put, List.setIfInBounds_toArray, List.set_cons_zero, List.set_cons_succ]
                    refine wpTame_run (v := ?_) (by decide) rfl (fun w' hS => ?_) ?_
                    rotate_left
                    focus (have q0 := e1S w' hS; have q1 := e2S w' hS; have q2 := d3S0 w' hS; have q3 := d3S1 w' hS; have q4 := d4S0 w' hS; have q5 := d4S1 w' hS; clear hS; go_simp; try rfl; done)
                    simp only [Act.put, List.setIfInBounds_toArray, List.set_cons_zero, List.set_cons_succ]
                    refine wpTame_run (v := ?_) (by decide) rfl (fun w' hS => ?_) ?_
                    rotate_left
                    focus (have q0 := e1S w' hS; have q1 := e2S w' hS; have q2 := d3S0 w' hS; have q3 := d3S1 w' hS; have q4 := d4S0 w' hS; have q5 := d4S1 w' hS; clear hS; go_simp; try rfl; done)
                    simp only [Act.put, List.setIfInBounds_toArray, List.set_cons_zero, List.set_cons_succ]
                    refine wpTame_run (v := ?_) (by decide) rfl (fun w' hS => ?_) ?_
                    rotate_left
                    focus (have q0 := e1S w' hS; have q1 := e2S w' hS; have q2 := d3S0 w' hS; have q3 := d3S1 w' hS; have q4 := d4S0 w' hS; have q5 := d4S1 w' hS; clear hS; go_simp; try rfl; done)
                    simp only [Act.put, List.setIfInBounds_toArray, List.set_cons_zero, List.set_cons_succ]
                    refine wpTame_run (v := ?_) (by decide) rfl (fun w' hS => ?_) ?_
                    rotate_left
                    focus (have q0 := e1S w' hS; have q1 := e2S w' hS; have q2 := d3S0 w' hS; have q3 := d3S1 w' hS; have q4 := d4S0 w' hS; have q5 := d4S1 w' hS; clear hS; go_simp; try rfl; done)
                    simp only [Act.put, List.setIfInBounds_toArray, List.set_cons_zero, List.set_cons_succ]
                    refine wpTame_run (v := ?_) (by decide) rfl (fun w' hS => ?_) ?_
                    rotate_left
                    focus (have q0 := e1S w' hS; have q1 := e2S w' hS; have q2 := d3S0 w' hS; have q3 := d3S1 w' hS; have q4 := d4S0 w' hS; have q5 := d4S1 w' hS; clear hS; go_simp; try rfl; done)
                    simp only [Act.put, List.setIfInBounds_toArray, List.set_cons_zero, List.set_cons_succ]
                    refine wpTame_run (v := ?_) (by decide) rfl (fun w' hS => ?_) ?_
                    rotate_left
                    focus (have q0 := e1S w' hS; have q1 := e2S w' hS; have q2 := d3S0 w' hS; have q3 := d3S1 w' hS; have q4 := d4S0 w' hS; have q5 := d4S1 w' hS; clear hS; go_simp; try rfl; done)
                    simp only [Act.put, List.setIfInBounds_toArray, List.set_cons_zero, List.set_cons_succ]
                    refine wpTame_run (v := ?_) (by decide) rfl (fun w' hS => ?_) ?_
                    rotate_left
                    focus (have q0 := e1S w' hS; have q1 := e2S w' hS; have q2 := d3S0 w' hS; have q3 := d3S1 w' hS; have q4 := d4S0 w' hS; have q5 := d4S1 w' hS; clear hS; go_simp; try rfl; done)
                    simp only [Act.put, List.setIfInBounds_toArray, List.set_cons_zero, List.set_cons_succ]
                    refine wpTame_run (v := ?_) (by decide) rfl (fun w' hS => ?_) ?_
                    rotate_left
                    focus (have q0 := e1S w' hS; have q1 := e2S w' hS; have q2 := d3S0 w' hS; have q3 := d3S1 w' hS; have q4 := d4S0 w' hS; have q5 := d4S1 w' hS; clear hS; go_simp; try rfl; done)
                    simp only [Act.put, List.setIfInBounds_toArray, List.set_cons_zero, List.set_cons_succ]
                    refine wpTame_nil ?_
                    intro wm hw'
                    have HB2 := Lib.hid hw'
                    clear hw' e1S e2S d3S0 d3S1 d4S0 d4S1
                    go_wp2_with fail
                    go_roundw
                    case rel => exact ⟨j + 1, by omega, by go_num, HB2⟩
                    case measure => simp [intOf]; omega
                  · have hd : decide ((j : Int) < (m : Int)) = false := by simpa using hjm
                    have hd2 : decide (j < m) = false := by simpa using hjm
                    go_wp2_with fail
                    clear d1
                    refine wp_region_tame (fun w' => Below w3.heap.size w3 w') 0 37 (by kernel_rfl) (by kernel_rfl) (fun _ _ d _ _ h => (by cases d <;> exact h)) (by have h := HB.out; exact ⟨h.os, h.tape, h.output, h.size, h.block⟩) (by decide) ?_
                    simp only [List.take_succ_cons, List.take_zero, List.drop_succ_cons, List.drop_zero]
                    refine wpPre_nil ?_
                    refine wpTame_run (v := ?_) (by decide) rfl (fun w' hS => ?_) ?_
                    rotate_left
                    focus (have q0 := e1S w' hS; have q1 := e2S w' hS; have q2 := d3S0 w' hS; have q3 := d3S1 w' hS; clear hS; go_simp; try rfl; done)
                    simp only [Act.put, List.setIfInBounds_toArray, List.set_cons_zero, List.set_cons_succ]
                    refine wpTame_run (v := ?_) (by decide) rfl (fun w' hS => ?_) ?_
                    rotate_left
                    focus (have q0 := e1S w' hS; have q1 := e2S w' hS; have q2 := d3S0 w' hS; have q3 := d3S1 w' hS; clear hS; go_simp; try rfl; done)
                    simp only [Act.put, List.setIfInBounds_toArray, List.set_cons_zero, List.set_cons_succ]
                    refine wpTame_run (v := ?_) (by decide) rfl (fun w' hS => ?_) ?_
                    rotate_left
                    focus (have q0 := e1S w' hS; have q1 := e2S w' hS; have q2 := d3S0 w' hS; have q3 := d3S1 w' hS; clear hS; go_simp; try rfl; done)
                    simp only [Act.put, List.setIfInBounds_toArray, List.set_cons_zero, List.set_cons_succ]
                    refine wpTame_run (v := ?_) (by decide) rfl (fun w' hS => ?_) ?_
                    rotate_left
                    focus (have q0 := e1S w' hS; have q1 := e2S w' hS; have q2 := d3S0 w' hS; have q3 := d3S1 w' hS; clear hS; go_simp; try rfl; done)
                    simp only [Act.put, List.setIfInBounds_toArray, List.set_cons_zero, List.set_cons_succ]
                    refine wpTame_run (v := ?_) (by decide) rfl (fun w' hS => ?_) ?_
                    rotate_left
                    focus (have q0 := e1S w' hS; have q1 := e2S w' hS; have q2 := d3S0 w' hS; have q3 := d3S1 w' hS; clear hS; go_simp; try rfl; done)
                    simp only [Act.put, List.setIfInBounds_toArray, List.set_cons_zero, List.set_cons_succ]
                    refine wpTame_run (v := ?_) (by decide) rfl (fun w' hS => ?_) ?_
                    rotate_left
                    focus (have q0 := e1S w' hS; have q1 := e2S w' hS; have q2 := d3S0 w' hS; have q3 := d3S1 w' hS; clear hS; go_simp; try rfl; done)
                    simp only [Act.put, List.setIfInBounds_toArray, List.set_cons_zero, List.set_cons_succ]
                    refine wpTame_run (v := ?_) (by decide) rfl (fun w' hS => ?_) ?_
                    rotate_left
                    focus (have q0 := e1S w' hS; have q1 := e2S w' hS; have q2 := d3S0 w' hS; have q3 := d3S1 w' hS; clear hS; go_simp; try rfl; done)
                    simp only [Act.put, List.setIfInBounds_toArray, List.set_cons_zero, List.set_cons_succ]
                    refine wpTame_run (v := ?_) (by decide) rfl (fun w' hS => ?_) ?_
                    rotate_left
                    focus (have q0 := e1S w' hS; have q1 := e2S w' hS; have q2 := d3S0 w' hS; have q3 := d3S1 w' hS; clear hS; go_simp; try rfl; done)
                    simp only [Act.put, List.setIfInBounds_toArray, List.set_cons_zero, List.set_cons_succ]
                    refine wpTame_run (v := ?_) (by decide) rfl (fun w' hS => ?_) ?_
                    rotate_left
                    focus (have q0 := e1S w' hS; have q1 := e2S w' hS; have q2 := d3S0 w' hS; have q3 := d3S1 w' hS; clear hS; go_simp; try rfl; done)
                    simp only [Act.put, List.setIfInBounds_toArray, List.set_cons_zero, List.set_cons_succ]
                    refine wpTame_run (v := ?_) (by decide) rfl (fun w' hS => ?_) ?_
                    rotate_left
                    focus (have q0 := e1S w' hS; have q1 := e2S w' hS; have q2 := d3S0 w' hS; have q3 := d3S1 w' hS; clear hS; go_simp; try rfl; done)
                    simp only [Act.put, List.setIfInBounds_toArray, List.set_cons_zero, List.set_cons_succ]
                    refine wpTame_call (v := .agg #[.int .u8 x.k, .int .i64 x.s]) (by decide) rfl (fun w' h => ?_) (fun w' h => (markE_any ((q : Int) + 10) j w' (by omega) (by omega) (by omega) (by omega)).mono fun e w'' ⟨he, hb⟩ => ⟨by rw [he, HX.out], h.trans (hb.mono h.size)⟩) ?_
                    · clear h; go_simp; try rfl
                    simp only [Act.put, List.setIfInBounds_toArray, List.set_cons_zero, List.set_cons_succ]
                    refine wpTame_run (v := ?_) (by decide) rfl (fun w' hS => ?_) ?_
                    rotate_left
                    focus (have q0 := e1S w' hS; have q1 := e2S w' hS; have q2 := d3S0 w' hS; have q3 := d3S1 w' hS; clear hS; go_simp; try rfl; done)
                    simp only [Act.put, List.setIfInBounds_toArray, List.set_cons_zero, List.set_cons_succ]
                    refine wpTame_run (v := ?_) (by decide) rfl (fun w' hS => ?_) ?_
                    rotate_left
                    focus (have q0 := e1S w' hS; have q1 := e2S w' hS; have q2 := d3S0 w' hS; have q3 := d3S1 w' hS; clear hS; go_simp; try rfl; done)
                    simp only [Act.put, List.setIfInBounds_toArray, List.set_cons_zero, List.set_cons_succ]
                    refine wpTame_run (v := ?_) (by decide) rfl (fun w' hS => ?_) ?_
                    rotate_left
                    focus (have q0 := e1S w' hS; have q1 := e2S w' hS; have q2 := d3S0 w' hS; have q3 := d3S1 w' hS; clear hS; go_simp; try rfl; done)
                    simp only [Act.put, List.setIfInBounds_toArray, List.set_cons_zero, List.set_cons_succ]
                    refine wpTame_run (v := ?_) (by decide) rfl (fun w' hS => ?_) ?_
                    rotate_left
                    focus (have q0 := e1S w' hS; have q1 := e2S w' hS; have q2 := d3S0 w' hS; have q3 := d3S1 w' hS; clear hS; go_simp; try rfl; done)
                    simp only [Act.put, List.setIfInBounds_toArray, List.set_cons_zero, List.set_cons_succ]
                    refine wpTame_run (v := ?_) (by decide) rfl (fun w' hS => ?_) ?_
                    rotate_left
                    focus (have q0 := e1S w' hS; have q1 := e2S w' hS; have q2 := d3S0 w' hS; have q3 := d3S1 w' hS; clear hS; go_simp; try rfl; done)
                    simp only [Act.put, List.setIfInBounds_toArray, List.set_cons_zero, List.set_cons_succ]
                    refine wpTame_run (v := ?_) (by decide) rfl (fun w' hS => ?_) ?_
                    rotate_left
                    focus (have q0 := e1S w' hS; have q1 := e2S w' hS; have q2 := d3S0 w' hS; have q3 := d3S1 w' hS; clear hS; go_simp; try rfl; done)
                    simp only [Act.put, List.setIfInBounds_toArray, List.set_cons_zero, List.set_cons_succ]
                    refine wpTame_run (v := ?_) (by decide) rfl (fun w' hS => ?_) ?_
                    rotate_left
                    focus (have q0 := e1S w' hS; have q1 := e2S w' hS; have q2 := d3S0 w' hS; have q3 := d3S1 w' hS; clear hS; go_simp; try rfl; done)
                    simp only [Act.put, List.setIfInBounds_toArray, List.set_cons_zero, List.set_cons_succ]
                    refine wpTame_run (v := ?_) (by decide) rfl (fun w' hS => ?_) ?_
                    rotate_left
                    focus (have q0 := e1S w' hS; have q1 := e2S w' hS; have q2 := d3S0 w' hS; have q3 := d3S1 w' hS; clear hS; go_simp; try rfl; done)
                    simp only [Act.put, List.setIfInBounds_toArray, List.set_cons_zero, List.set_cons_succ]
                    refine wpTame_run (v := ?_) (by decide) rfl (fun w' hS => ?_) ?_
                    rotate_left
                    focus (have q0 := e1S w' hS; have q1 := e2S w' hS; have q2 := d3S0 w' hS; have q3 := d3S1 w' hS; clear hS; go_simp; try rfl; done)
                    simp only [Act.put, List.setIfInBounds_toArray, List.set_cons_zero, List.set_cons_succ]
                    refine wpTame_run (v := ?_) (by decide) rfl (fun w' hS => ?_) ?_
                    rotate_left
                    focus (have q0 := e1S w' hS; have q1 := e2S w' hS; have q2 := d3S0 w' hS; have q3 := d3S1 w' hS; clear hS; go_simp; try rfl; done)
                    simp only [Act.put, List.setIfInBounds_toArray, List.set_cons_zero, List.set_cons_succ]
                    refine wpTame_off (by decide) rfl ?_
                    simp only [Act.put, List.setIfInBounds_toArray, List.set_cons_zero, List.set_cons_succ]
                    refine wpTame_off (by decide) rfl ?_
                    simp only [Act.put, List.setIfInBounds_toArray, List.set_cons_zero, List.set_cons_succ]
                    refine wpTame_off (by decide) rfl ?_
                    simp only [Act.put, List.setIfInBounds_toArray, List.set_cons_zero, List.set_cons_succ]
                    refine wpTame_off (by decide) rfl ?_
                    simp only [Act.put, List.setIfInBounds_toArray, List.set_cons_zero, List.set_cons_succ]
                    refine wpTame_off (by decide) rfl ?_
                    simp only [Act.put, List.setIfInBounds_toArray, List.set_cons_zero, List.set_cons_succ]
                    refine wpTame_off (by decide) rfl ?_
                    simp only [Act.put, List.setIfInBounds_toArray, List.set_cons_zero, List.set_cons_succ]
                    refine wpTame_off (by decide) rfl ?_
                    simp only [Act.put, List.setIfInBounds_toArray, List.set_cons_zero, List.set_cons_succ]
                    refine wpTame_off (by decide) rfl ?_
                    simp only [Act.put, List.setIfInBounds_toArray, List.set_cons_zero, List.set_cons_succ]
                    refine wpTame_off (by decide) rfl ?_
                    simp only [Act.put, List.setIfInBounds_toArray, List.set_cons_zero, List.set_cons_succ]
                    refine wpTame_off (by decide) rfl ?_
                    simp only [Act.put, List.setIfInBounds_toArray, List.set_cons_zero, List.set_cons_succ]
                    refine wpTame_off (by decide) rfl ?_
                    simp only [Act.put, List.setIfInBounds_toArray, List.set_cons_zero, List.set_cons_succ]
                    refine wpTame_off (by decide) rfl ?_
                    simp only [Act.put, List.setIfInBounds_toArray, List.set_cons_zero, List.set_cons_succ]
                    refine wpTame_off (by decide) rfl ?_
                    simp only [Act.put, List.setIfInBounds_toArray, List.set_cons_zero, List.set_cons_succ]
                    refine wpTame_off (by decide) rfl ?_
                    simp only [Act.put, List.setIfInBounds_toArray, List.set_cons_zero, List.set_cons_succ]
                    refine wpTame_off (by decide) rfl ?_
                    simp only [Act.put, List.setIfInBounds_toArray, List.set_cons_zero, List.set_cons_succ]
                    refine wpTame_run (v := ?_) (by decide) rfl (fun w' hS => ?_) ?_
                    rotate_left
                    focus (have q0 := e1S w' hS; clear hS; go_simp; try rfl; done)
                    simp only [Act.put, List.setIfInBounds_toArray, List.set_cons_zero, List.set_cons_succ]
                    refine wpTame_nil ?_
                    intro wm hw'
                    have HB2 := Lib.hid hw'
                    clear hw' e1S e2S d3S0 d3S1
                    go_wp2_with fail
                    go_roundw
                    case rel => exact ⟨j + 1, by omega, by go_num, HB2⟩
                    case measure => simp [intOf]; omega
                · go_wp2_with fail
                  go_roundw
                  case rel => exact ⟨q + 1, by omega, by go_num, HB⟩
                  case measure => simp [intOf]; omega
            · go_wp2_with fail
              go_ret
              exact ⟨rfl, HEND.out _ HB.out⟩
end Go.Proofs.Ytfielodchoghlaa
