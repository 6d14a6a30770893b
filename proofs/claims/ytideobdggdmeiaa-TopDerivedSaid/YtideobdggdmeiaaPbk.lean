/- The exclusive or of two lists; HMAC of pieces by a Mac that is reset. -/
import Derived.Test.YtideobdggdmeiaaHdo
namespace Go.Proofs.Ytideobdggdmeiaa
open Go.RowKit
set_option maxRecDepth 100000
set_option linter.unusedVariables false
set_option linter.unusedSimpArgs false
theorem Bs.onlyE {S : Nat → Prop} {w w' : World} {v : Value} {l : List UInt8} (h : Bs w v l) (ho : Only S w w') (hv : l ≠ [] → ∀ b, v.ownBlock = some b → ¬ S b) : Bs w' v l := by
  by_cases h0 : l = []
  · subst h0
    obtain ⟨ao, cap, rfl, q1, q2, q3, q4⟩ := h.form
    exact ⟨ao, cap, rfl, q1, q2, q3, fun j hj => by simp at hj⟩
  · exact h.only ho (hv h0)
def xorL (a b : List UInt8) : List UInt8 := tab a.length fun j => a.getD j 0 ^^^ b.getD j 0
theorem xorL_len (a b : List UInt8) : (xorL a b).length = a.length := tab_length _ _
/-- the first i bytes are xored, noughts behind -/
def xorN (a b : List UInt8) (i : Nat) : List UInt8 := tab a.length fun j => if j < i then a.getD j 0 ^^^ b.getD j 0 else 0
theorem xorN_len (a b : List UInt8) (i : Nat) : (xorN a b i).length = a.length := tab_length _ _
theorem xorN_zero (a b : List UInt8) : xorN a b 0 = List.replicate a.length 0 := by
  unfold xorN
  rw [← tab_zero]
  exact tab_ext _ _ _ fun j _ => by simp
theorem xorN_end (a b : List UInt8) : xorN a b a.length = xorL a b := tab_ext _ _ _ fun j hj => by rw [if_pos hj]
theorem xorN_succ (a b : List UInt8) (i : Nat) : (xorN a b i).set i (a.getD i 0 ^^^ b.getD i 0) = xorN a b (i + 1) := by
  unfold xorN
  rw [tab_set]
  apply tab_ext
  intro j _
  by_cases h : j = i
  · subst h; simp
  · rw [if_neg h]
    by_cases h2 : j < i
    · rw [if_pos h2, if_pos (by omega)]
    · rw [if_neg h2, if_neg (by omega)]
set_option maxHeartbeats 2000000 in
theorem xor_any (w : World) (u v : Value) (a b : List UInt8) (hu : Bs w u a) (hv : Bs w v b) (hl : a.length = b.length) (ha : a.length ≤ 100000) :
    Calls Try.prog 26 #[u, v] w (NewBytes (xorL a b) w) := by
  have HU := Lib.hid hu
  have HV := Lib.hid hv
  obtain ⟨ao, cap, rfl, hf1⟩ := hu.form
  obtain ⟨bo, dap, rfl, hf2⟩ := hv.form
  obtain ⟨i0, hi, hz0, hz1, hz2⟩ := info_parts info8
  obtain ⟨n, hn⟩ : ∃ n, a.length = n := ⟨_, rfl⟩
  have hn2 : b.length = n := by omega
  have HN : Hid (a.length = n) := hn
  have HN2 : Hid (b.length = n) := hn2
  have hn3 : n ≤ 100000 := by omega
  rw [hn, hn2]
  clear hu hv hf1 hf2 hn hn2 hl ha
  go_enter Try.func26, Try.ntmps26
  go_upto_region 2 with (refine wpList_make_full _ rfl _ _ 22 rfl 0 5 i0 _ 1 Try.underlying22 hi hz0 hz1 .i64 .i64 _ _ n rfl rfl rfl rfl (mk48 (by omega) hz2) (mkmax (by omega)) (Nat.zero_le _) ?_)
  intro w2 hown hgrow
  obtain ⟨p, hp⟩ : ∃ p, w.heap.size = p := ⟨_, rfl⟩
  have HP : Hid (w.heap.size = p) := hp
  rw [hp] at hown ⊢
  have HB2 : Hid (Below w.heap.size w w2) := Lib.hid ((Below.refl w.heap.size w).grown hgrow (Nat.le_refl _) (fun k hk => by cases hk))
  have HO2 : Hid (OB w2 (.slice (some ⟨p, 0, none⟩) n n) (xorN a b 0)) := by
    rw [xorN_zero, HN.out]
    exact Lib.hid (made_bsW hown)
  clear hown hgrow hi hz0 hz1 hz2 hp
  go_wp2_with fail
  go_loopw [15] (fun vi wr => ∃ i : Nat, i ≤ n ∧ vi = .int .i64 (i : Int) ∧ Hid (OB wr (.slice (some ⟨p, 0, none⟩) n n) (xorN a b i)) ∧ Hid (Below w.heap.size w wr)) (fun vi _ => n - (intOf vi).toNat)
  case atStart => exact ⟨0, Nat.zero_le _, rfl, HO2, HB2⟩
  case round =>
    clear HO2 HB2
    obtain ⟨i, hi, rfl, HO, HB⟩ := hrel
    by_cases hlt : i < n
    · obtain ⟨ao', cap', hv1, _, _, _, dd1⟩ := (HU.out.grow HB.out).form
      injection hv1 with e1 e2 e3
      subst e1
      obtain ⟨bo', dap', hv2, _, _, _, dd2⟩ := (HV.out.grow HB.out).form
      injection hv2 with e4 e5 e6
      subst e4
      obtain ⟨g, off, rfl, d1⟩ := dd1 i (by rw [HN.out]; exact hlt)
      obtain ⟨g2, off2, rfl, d2⟩ := dd2 i (by rw [HN2.out]; exact hlt)
      have hO : OB wr (.slice (some ⟨p, 0, none⟩) (xorN a b i).length n) (xorN a b i) := by rw [xorN_len, HN.out]; exact HO.out
      have c1 : (wr.drewN 1).cell? ⟨p, i, none⟩ = some (.int .u8 (((xorN a b i).getD i 0).toNat : Int)) := by
        refine (World.ownsRow.cellAt hO i (by rw [xorN_len, HN.out]; omega)).trans ?_
        rw [List.getElem?_map, List.getD_eq_getElem?_getD, List.getElem?_eq_getElem (by rw [xorN_len, HN.out]; exact hlt)]
        rfl
      have f1 : (wr.drewN 1).frozen? ⟨p, i, none⟩ = false := World.ownsRow.frozenAt hO i
      have HX : Hid (bits .xor .u8 ((a.getD i 0).toNat : Int) ((b.getD i 0).toNat : Int) = ((a.getD i 0 ^^^ b.getD i 0).toNat : Int)) := Lib.hid (xorUU _ _)
      have HS : Hid (OB ((wr.drewN 1).setCell ⟨p, i, none⟩ (.int .u8 ((a.getD i 0 ^^^ b.getD i 0).toNat : Int))) (.slice (some ⟨p, 0, none⟩) n n) (xorN a b (i + 1)) ∧ Below w.heap.size w ((wr.drewN 1).setCell ⟨p, i, none⟩ (.int .u8 ((a.getD i 0 ^^^ b.getD i 0).toNat : Int)))) := by
        have h := OB.set (w := wr.drewN 1) hO i (a.getD i 0 ^^^ b.getD i 0)
        rw [xorN_succ, xorN_len, HN.out] at h
        have hb := HB.out
        have hb1 : Below w.heap.size w (wr.drewN 1) := ⟨hb.os, hb.tape, hb.output, hb.size, hb.block⟩
        exact Lib.hid ⟨h, Below.setCell (p := ⟨p, i, none⟩) hb1 (by show w.heap.size ≤ p; rw [HP.out]; exact Nat.le_refl _) _⟩
      have F1 : ∀ w', w' = wr.drewN 1 → w'.cell? ⟨g, off + i, none⟩ = some (.int .u8 ((a.getD i 0).toNat : Int)) := by rintro w' rfl; exact d1
      have F2 : ∀ w', w' = wr.drewN 1 → w'.cell? ⟨g2, off2 + i, none⟩ = some (.int .u8 ((b.getD i 0).toNat : Int)) := by rintro w' rfl; exact d2
      generalize hx : a.getD i 0 = x at F1 HX HS
      generalize hy : b.getD i 0 = y at F2 HX HS
      generalize (xorN a b i).getD i 0 = z at c1
      have u0 := u8_hi x
      have u1 := u8_hi y
      have hltI : (i : Int) < (n : Int) := by omega
      have HLT := Lib.hid hlt
      clear hx hy d1 d2 dd1 dd2 hO HO HB e2 e3 e5 e6
      go_upto_region 5 with fail
      refine wp_region_tame (fun w' => w' = wr.drewN 1) 0 12 (by kernel_rfl) (by kernel_rfl) (fun _ _ d _ _ h => (by cases d <;> exact h)) rfl (by decide) ?_
      simp only [List.take_succ_cons, List.take_zero, List.drop_succ_cons, List.drop_zero]
      refine wpPre_nil ?_
      refine wpTame_run (v := ?_) (by decide) rfl (fun w' hS => ?_) ?_
      rotate_left
      focus (have q0 := F1 w' hS; have q1 := F2 w' hS; clear hS; go_simp; try rfl; done)
      simp only [Act.put, List.setIfInBounds_toArray, List.set_cons_zero, List.set_cons_succ]
      refine wpTame_run (v := ?_) (by decide) rfl (fun w' hS => ?_) ?_
      rotate_left
      focus (have q0 := F1 w' hS; have q1 := F2 w' hS; clear hS; go_simp; try rfl; done)
      simp only [Act.put, List.setIfInBounds_toArray, List.set_cons_zero, List.set_cons_succ]
      refine wpTame_run (v := ?_) (by decide) rfl (fun w' hS => ?_) ?_
      rotate_left
      focus (have q0 := F1 w' hS; have q1 := F2 w' hS; clear hS; go_simp; try rfl; done)
      simp only [Act.put, List.setIfInBounds_toArray, List.set_cons_zero, List.set_cons_succ]
      refine wpTame_run (v := ?_) (by decide) rfl (fun w' hS => ?_) ?_
      rotate_left
      focus (have q0 := F1 w' hS; have q1 := F2 w' hS; clear hS; go_simp; try rfl; done)
      simp only [Act.put, List.setIfInBounds_toArray, List.set_cons_zero, List.set_cons_succ]
      refine wpTame_run (v := ?_) (by decide) rfl (fun w' hS => ?_) ?_
      rotate_left
      focus (have q0 := F1 w' hS; have q1 := F2 w' hS; clear hS; go_simp; try rfl; done)
      simp only [Act.put, List.setIfInBounds_toArray, List.set_cons_zero, List.set_cons_succ]
      refine wpTame_run (v := ?_) (by decide) rfl (fun w' hS => ?_) ?_
      rotate_left
      focus (have q0 := F1 w' hS; have q1 := F2 w' hS; clear hS; go_simp; try rfl; done)
      simp only [Act.put, List.setIfInBounds_toArray, List.set_cons_zero, List.set_cons_succ]
      refine wpTame_run (v := ?_) (by decide) rfl (fun w' hS => ?_) ?_
      rotate_left
      focus (have q0 := F1 w' hS; have q1 := F2 w' hS; clear hS; go_simp; try rfl; done)
      simp only [Act.put, List.setIfInBounds_toArray, List.set_cons_zero, List.set_cons_succ]
      refine wpTame_run (v := ?_) (by decide) rfl (fun w' hS => ?_) ?_
      rotate_left
      focus (have q0 := F1 w' hS; have q1 := F2 w' hS; clear hS; go_simp; try rfl; done)
      simp only [Act.put, List.setIfInBounds_toArray, List.set_cons_zero, List.set_cons_succ]
      refine wpTame_run (v := ?_) (by decide) rfl (fun w' hS => ?_) ?_
      rotate_left
      focus (have q0 := F1 w' hS; have q1 := F2 w' hS; clear hS; go_simp; try rfl; done)
      simp only [Act.put, List.setIfInBounds_toArray, List.set_cons_zero, List.set_cons_succ]
      refine wpTame_run (v := ?_) (by decide) rfl (fun w' hS => ?_) ?_
      rotate_left
      focus (have q0 := F1 w' hS; have q1 := F2 w' hS; clear hS; go_simp; try rfl; done)
      simp only [Act.put, List.setIfInBounds_toArray, List.set_cons_zero, List.set_cons_succ]
      refine wpTame_run (v := ?_) (by decide) rfl (fun w' hS => ?_) ?_
      rotate_left
      focus (have q0 := F1 w' hS; have q1 := F2 w' hS; clear hS; go_simp; try rfl; done)
      simp only [Act.put, List.setIfInBounds_toArray, List.set_cons_zero, List.set_cons_succ]
      refine wpTame_run (v := ?_) (by decide) rfl (fun w' hS => ?_) ?_
      rotate_left
      focus (have q0 := F1 w' hS; have q1 := F2 w' hS; clear hS; go_simp; try rfl; done)
      simp only [Act.put, List.setIfInBounds_toArray, List.set_cons_zero, List.set_cons_succ]
      refine wpTame_nil ?_
      intro w6 hw'
      rw [← hw'] at c1 f1 HS
      clear hw' F1 F2
      go_wp2
      go_roundw
      case rel =>
        refine ⟨i + 1, by have := HLT.out; omega, by go_num, ?_⟩
        rw [HX.out]
        exact ⟨Lib.hid HS.out.1, Lib.hid HS.out.2⟩
      case measure => simp [intOf]; have := HLT.out; omega
    · obtain rfl : i = n := by omega
      have HN3 : Hid (NewBytes (xorL a b) w (.returned (.slice (some ⟨p, 0, none⟩) i i)) wr) := by
        have h := HO.out
        rw [← HN.out, xorN_end, HN.out] at h
        exact Lib.hid ⟨_, rfl, h, HB.out, fun y hy => by
          have h1 : p = y := by simpa [fpv, Value.ownBlock] using hy
          have := HP.out
          omega⟩
      go_wp2
      go_ret
      exact HN3.out
end Go.Proofs.Ytideobdggdmeiaa
