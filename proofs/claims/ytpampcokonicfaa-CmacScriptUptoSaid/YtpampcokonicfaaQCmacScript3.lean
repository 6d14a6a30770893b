/- The contract of cmac.xored: the exclusive or of two blocks. Condition: each has sixteen bytes. -/
import Derived.Test.YtpampcokonicfaaRows
import Derived.Laws.Tables
import Derived.Test.YtpampcokonicfaaQCmacScript0
import Derived.Test.YtpampcokonicfaaQCmacScript1
import Derived.Test.YtpampcokonicfaaQCmacScript2
/- The walk of package aes's expanded. Condition: the key has 16, 24 or 32 bytes. -/
namespace Go.Proofs.Ytpampcokonicfaa
open Go.RowKit
set_option maxRecDepth 100000
set_option linter.unusedVariables false
set_option linter.unusedSimpArgs false

set_option maxHeartbeats 4000000 in
theorem expanded_any (u : Value) (key : List UInt8) (k : Nat) (w : World) (hu : Bs w u key) (hkl : key.length = 4 * k) (hk : k = 4 ∨ k = 6 ∨ k = 8) :
    Calls Try.prog 42 #[u] w fun e w' => e = .returned (.agg (barr (sched key))) ∧ Below w.heap.size w w' := by
  have hk8 : k ≤ 8 := by omega
  have hk4 : 4 ≤ k := by omega
  have HU := Lib.hid hu
  obtain ⟨ao, cap, rfl, h1, h2, _, hc⟩ := hu.form
  clear hu
  have hpos : 0 < key.length := by omega
  obtain ⟨g, off, rfl, _⟩ := hc 0 hpos
  have hcell : ∀ j, j < key.length → w.cell? ⟨g, off + j, none⟩ = some (.int .u8 ((key.getD j 0).toNat : Int)) := by
    intro j hj
    obtain ⟨b, o, hb, hx⟩ := hc j hj
    injection hb with e
    injection e with e1 e2
    subst e1; subst e2
    exact hx
  have HCELL := Lib.hid hcell
  have hg : g < w.heap.size := World.block_lt_of_cell? w _ (hcell 0 hpos)
  clear hc hcell
  have hkq : (key.length : Int) / 4 = (k : Int) := by omega
  have HKL := Lib.hid hkl
  have hSched : Hid (expN k (3 * k + 28) k 1 (keyTo key k) = sched key) := by
    unfold sched
    rw [show key.length / 4 = k from by omega]
    congr 1
    unfold keyTo
    rw [← hkl, List.take_of_length_le (Nat.le_refl _)]
  have hz := zero240
  have hzw := zero240w
  generalize hZ : barr (List.replicate 240 0) = Z at hz hzw
  have HZ := Lib.hid hZ
  clear hZ hkl
  go_enter Try.func42, Try.ntmps42
  go_wp2_with fail
  have hE : ExpW w w.heap.size (keyTo key 0) ((w.alloc (.cells Z 82)).alloc (.cells Z 112)) := by
    refine ⟨?_, ?_, keyTo_len key 0 (by omega) (by have := HKL.out; omega), rfl, ((Below.refl _ _).alloc (Nat.le_refl _) _).alloc (by simp) _⟩
    · rw [HZ.out]; exact (Blk.at rfl rfl).alloc _
    · rw [keyTo_zero, HZ.out]; exact Blk.at (by simp) rfl
  have HE := Lib.hid hE
  clear hE
  generalize hn0 : w.heap.size = n0 at HE hg ⊢
  have HN0 := Lib.hid hn0
  go_loopw [17] (fun i w1 => ∃ j : Nat, j ≤ k ∧ i = .int .i64 (j : Int) ∧ Hid (ExpW w n0 (keyTo key j) w1)) (fun i _ => k - (intOf i).toNat)
  case atStart => exact ⟨0, by omega, rfl, HE⟩
  case round =>
    obtain ⟨j, hj, rfl, H⟩ := hrel
    clear HE
    by_cases hlt : j < k
    · obtain ⟨a, ha⟩ : ∃ a, 4 * j = a := ⟨_, rfl⟩
      have haI : 4 * (j : Int) = (a : Int) := by omega
      have ha4 : a + 4 ≤ key.length := by have := HKL.out; omega
      have hac : a + 4 ≤ cap := by omega
      have hlen : (wordAt key j).length = 4 := rfl
      have hrow := H.out.row
      have rng : wr.rangeAt g (off + a) ((wordAt key j).map B) := by
        intro i v hv
        have hi : i < 4 := by
          have := (List.getElem?_eq_some_iff.1 hv).1
          simpa [wordAt] using this
        have hb := H.out.below
        rw [show off + a + i = off + (a + i) from by omega, Below.cell hb (p := ⟨g, off + (a + i), none⟩) (by have := HN0.out; show g < _; omega), HCELL.out (a + i) (by omega), ← hv, ← ha]
        rcases i with _ | _ | _ | _ | i
        · rfl
        · rfl
        · rfl
        · rfl
        · omega
      have RNG := Lib.hid rng
      have HA := Lib.hid ha
      clear rng ha
      have hArr : ∀ w', (Instr.arrayAt 89 (.slice (some ⟨g, off + a, none⟩) 4 (cap - a))).run Try.prog w' = .ok (.pointer (some ⟨g, off + a, none⟩)) w' := fun w' => run_arrayAt w' 89 5 4 _ 4 _ Try.underlying89 (Nat.le_refl _)
      have hth : wr.there (n0 + 1) (j * 4) (barr (wordAt key j)).size := by
        rw [barr_size, hlen]
        exact hrow.there _ _ (by rw [barr_size, H.out.len]; omega)
      have HTH := Lib.hid hth
      have hs4 : (barr (wordAt key j)).size = 4 := by rw [barr_size, hlen]
      have hone : (barr (wordAt key j)).all (·.oneCell') = true := Array.all_eq_true_iff_forall_mem.2 (fun v hv => barr_one _ v (by simpa using hv))
      have hm4 : ((wordAt key j).map B).length = 4 := rfl
      clear hrow hth
      go_wp2_with (first | ((with_reducible change wpList _ _ _ (Oper.mk _ (Op.load 89 _) _ _ _ _ :: _) _ _); refine wpList_load_mid rfl 89 _ rfl g (off + a) rfl ((wordAt key j).map B) _ RNG.out Try.underlying89 rfl (size4.trans (by rw [hm4])) ?_) | ((with_reducible change wpList _ _ _ (Oper.mk _ (Op.store 89 _ _) _ _ _ _ :: _) _ _); refine wpList_store_mid rfl 89 _ _ rfl (n0 + 1) (j * 4) (barr (wordAt key j)) rfl rfl HTH.out (size4.trans (by rw [hs4])) hone ?_))
      go_roundw
      case rel =>
        refine ⟨j + 1, by omega, by go_num, ?_⟩
        have e := keyTo_succ key j (by have := HA.out; omega) (by have := HKL.out; omega)
        have h := H.out.word (j * 4) (wordAt key j) (by rw [e]; exact keyTo_len _ _ (by have := HA.out; omega) (by have := HKL.out; omega))
        rw [e] at h
        rw [barr_toList2]
        exact Lib.hid h
      case measure => simp [intOf]; omega
    · obtain rfl : j = k := by omega
      clear HCELL HU
      obtain ⟨N, hN⟩ : ∃ N, 4 * (j + 7) = N := ⟨_, rfl⟩
      have hNI : 4 * ((j : Int) + 7) = (N : Int) := by omega
      have hN60 : N ≤ 60 := by omega
      have HN := Lib.hid hN
      have hSched2 : Hid (expN j (N - j) j 1 (keyTo key j) = sched key) := by
        rw [show N - j = 3 * j + 28 from by omega]
        exact hSched
      clear hSched hN
      go_wp2_with fail
      go_loopw [6, 7] (fun x i w1 => ∃ (i' : Nat) (x' : UInt8) (W : List UInt8), j ≤ i' ∧ i' ≤ N ∧ i = .int .i64 (i' : Int) ∧ x = .int .u8 (x'.toNat : Int) ∧ Hid (expN j (N - i') i' x' W = sched key) ∧ Hid (ExpW w n0 W w1)) (fun _ i _ => N - (intOf i).toNat)
      case atStart => exact ⟨j, 1, _, Nat.le_refl _, by have := HN.out; omega, rfl, rfl, hSched2, H⟩
      case round =>
        obtain ⟨i, x, W, hji, hiN, rfl, rfl, HX, HW⟩ := hrel
        clear H hSched2
        have hWl := HW.out.len
        by_cases hit : i < N
        · obtain ⟨i1, hi1⟩ : ∃ i1, i - 1 = i1 := ⟨_, rfl⟩
          have hi1I : (i : Int) - 1 = (i1 : Int) := by omega
          have hi160 : i1 < 60 := by omega
          have HI1 := Lib.hid hi1
          have rng := wordAt_range HW.out.row i1 (by omega)
          have RNG := Lib.hid rng
          have hm4 : ((wordAt W i1).map B).length = 4 := rfl
          obtain ⟨d, hd⟩ : ∃ d, i - j = d := ⟨_, rfl⟩
          have hdI : (i : Int) - (j : Int) = (d : Int) := by omega
          have hd60 : d < 60 := by omega
          have hdi : d < i := by omega
          have HD := Lib.hid hd
          obtain ⟨t0, t1, t2, t3, htt⟩ : ∃ t0 t1 t2 t3, wordAt W i1 = [t0, t1, t2, t3] := ⟨_, _, _, _, rfl⟩
          have HTT := Lib.hid htt
          have hs4 : (barr (wordAt W i1)).size = 4 := rfl
          have rng4 : wr.rangeAt (n0 + 1) (i1 * 4) ([t0, t1, t2, t3].map B) := by rw [← htt]; exact rng
          have RNG4 := Lib.hid rng4
          have htbn : n0 + 1 < wr.heap.size := HW.out.row.lt
          have htw : w.heap.size ≤ wr.heap.size := HW.out.below.size
          have b0 : Blk (wr.alloc (.cells (barr (List.replicate 4 0)) 89)) wr.heap.size 89 (barr (List.replicate 4 0)) := Blk.new _ _ _
          have hm44 : ([t0, t1, t2, t3].map B).length = 4 := rfl
          clear rng rng4 hi1 hd htt
          by_cases hik : i % j = 0
          · have hikI : ((i : Int) % (j : Int) == 0) = true := by
              rw [beq_iff_eq]; omega
            go_wp2_with (first | ((with_reducible change wpList _ _ _ (Oper.mk _ (Op.load 89 _) _ _ _ _ :: _) _ _); refine wpList_load_mid rfl 89 _ rfl (n0 + 1) (i1 * 4) rfl ([t0, t1, t2, t3].map B) _ RNG4.out Try.underlying89 rfl (size4.trans (by rw [hm44])) ?_) | ((with_reducible change wpList _ _ _ (Oper.mk _ (Op.store 89 _ _) _ _ _ _ :: _) _ _); refine wpList_store_var wr.heap.size (barr [t0, t1, t2, t3]) rfl rfl b0 size4 rfl rfl (barr_one _) ?_; intro w1 B1 O1; have HW1 := Lib.hid ((HW.out.next ((Below.refl _ _).alloc (Nat.le_refl _) _)).only (g := wr.heap.size) htbn O1); have HB1 := Lib.hid B1; have q0 := B1.cellAt 0 (barr_getD [t0, t1, t2, t3] 0 (by simp)); have q1 := B1.cellAt 1 (barr_getD [t0, t1, t2, t3] 1 (by simp)); have q2 := B1.cellAt 2 (barr_getD [t0, t1, t2, t3] 2 (by simp)); have q3 := B1.cellAt 3 (barr_getD [t0, t1, t2, t3] 3 (by simp)); have hbl := B1.lt; clear B1 O1))
            refine (boxed_any [t1, t2, t3, t0] w1 rfl).mono ?_
            rintro e w2 ⟨rfl, h2⟩
            have HW2 := Lib.hid (HW1.out.next h2)
            have HB2 := Lib.hid (HB1.out.below h2 hbl)
            clear h2 HW1 HB1 q0 q1 q2 q3 hbl b0
            generalize htb : wr.heap.size = tb at *
            go_wp2_with ((with_reducible change wpList _ _ _ (Oper.mk _ (Op.store 89 _ _) _ _ _ _ :: _) _ _); refine wpList_store_var tb (barr [boxU t1, boxU t2, boxU t3, boxU t0]) rfl rfl HB2.out size4 rfl rfl (barr_one _) ?_; intro w3 B3 O3; have HW3 := Lib.hid (HW2.out.only (g := tb) htbn O3); have HB3 := Lib.hid B3; have q0 := B3.cellAt 0 (barr_getD [boxU t1, boxU t2, boxU t3, boxU t0] 0 (by simp)); have f0 := B3.unfrozen 0; have hbl := B3.lt; clear B3 O3)
            have HW4 := Lib.hid (HW3.out.only (g := tb) (w' := w3.setCell ⟨tb, 0, none⟩ (.int .u8 ((boxU t1 ^^^ x).toNat : Int))) htbn (Only.set (S := fun x => x = tb) (Only.refl _ _) (.inl rfl) _))
            have HB4 : Hid (Blk (w3.setCell ⟨tb, 0, none⟩ (.int .u8 ((boxU t1 ^^^ x).toNat : Int))) tb 89 (barr [boxU t1 ^^^ x, boxU t2, boxU t3, boxU t0])) := by
              have h := HB3.out.set 0 (.int .u8 ((boxU t1 ^^^ x).toNat : Int))
              rw [barr_set] at h
              exact Lib.hid h
            have hxx : bits .xor .u8 ((boxU t1).toNat : Int) (x.toNat : Int) = ((boxU t1 ^^^ x).toNat : Int) := xorU _ _
            have q0' : ([boxU t1, boxU t2, boxU t3, boxU t0] : List UInt8).getD 0 0 = boxU t1 := rfl
            refine (mulU_any x 2 _).mono ?_
            rintro e w5 ⟨rfl, rfl⟩
            have HE : Hid (ExpW w n0 W (w3.setCell ⟨tb, 0, none⟩ (.int .u8 (bits .xor .u8 ((boxU t1).toNat : Int) (x.toNat : Int))))) := by rw [hxx]; exact HW4
            have HT' : Hid (Blk (w3.setCell ⟨tb, 0, none⟩ (.int .u8 (bits .xor .u8 ((boxU t1).toNat : Int) (x.toNat : Int)))) tb 89 (barr [boxU t1 ^^^ x, boxU t2, boxU t3, boxU t0])) := by rw [hxx]; exact HB4
            obtain ⟨T, hTT⟩ : ∃ T, T = [boxU t1 ^^^ x, boxU t2, boxU t3, boxU t0] := ⟨_, rfl⟩
            have hTl : T.length = 4 := by rw [hTT]; rfl
            have HTe : Hid (turned j i x (wordAt W (i - 1)) = T) := by
              rw [HI1.out, HTT.out, hTT]
              unfold turned
              rw [if_pos hik]
              exact Lib.hid rfl
            rw [← hTT] at HT'
            have HT := HT'
            clear HT' hTT HW4 HB4 HW3 HB3 q0 f0 hbl HW2 HB2 q0' hxx
            go_wp2_with fail
            go_loopw [76] (fun b w1 => ∃ c : Nat, c ≤ 4 ∧ b = .int .i64 (c : Int) ∧ Hid (ExpW w n0 (putTo W T j i c) w1) ∧ Hid (Blk w1 tb 89 (barr T))) (fun b _ => 4 - (intOf b).toNat)
            case atStart => exact ⟨0, by omega, rfl, HE, HT⟩
            case round =>
              obtain ⟨c, hc, rfl, HE2, HT2⟩ := hrel
              by_cases hct : c < 4
              · have hPl : (putTo W T j i c).length = 240 := HE2.out.len
                have c1 := HE2.out.row.cellAt (d * 4 + c) (barr_getD _ (d * 4 + c) (by rw [hPl]; omega))
                have c2 := HT2.out.cellAt c (barr_getD T c (by rw [hTl]; exact hct))
                have c3 := HE2.out.row.cellAt (i * 4 + c) (barr_getD _ (i * 4 + c) (by rw [hPl]; omega))
                have f3 := HE2.out.row.unfrozen (i * 4 + c)
                have b1 := HE2.out.row.lt
                have b2 := HT2.out.lt
                generalize hy : (putTo W T j i c).getD (d * 4 + c) 0 = y at c1
                generalize hz2 : T.getD c 0 = z at c2
                have HY := Lib.hid hy
                have HZ2 := Lib.hid hz2
                have hWd : IntKind.i64.wrap (d : Int) = (d : Int) := IntWalk.i64_in _ (by omega)
                have hdI60 : (d : Int) < 60 := by omega
                have hiI60 : (i : Int) < 60 := by omega
                have hcI4 : (c : Int) < 4 := by omega
                clear hy hz2
                go_wp2_with fail
                refine wp_region_tame (fun w' => w' = wr.drewN 1) 0 15 (by kernel_rfl) (by kernel_rfl) (fun _ _ d _ _ h => (by cases d <;> exact h)) rfl (by decide) ?_
                simp only [List.take_succ_cons, List.take_zero, List.drop_succ_cons, List.drop_zero]
                refine wpPre_nil ?_
                refine wpTame_run (v := ?_) (by decide) rfl (fun w' hS => ?_) ?_
                rotate_left
                focus (subst hS; go_simp; try rfl; done)
                simp only [Act.put, List.setIfInBounds_toArray, List.set_cons_zero, List.set_cons_succ]
                refine wpTame_run (v := ?_) (by decide) rfl (fun w' hS => ?_) ?_
                rotate_left
                focus (subst hS; go_simp; try rfl; done)
                simp only [Act.put, List.setIfInBounds_toArray, List.set_cons_zero, List.set_cons_succ]
                refine wpTame_run (v := ?_) (by decide) rfl (fun w' hS => ?_) ?_
                rotate_left
                focus (subst hS; go_simp; try rfl; done)
                simp only [Act.put, List.setIfInBounds_toArray, List.set_cons_zero, List.set_cons_succ]
                refine wpTame_run (v := ?_) (by decide) rfl (fun w' hS => ?_) ?_
                rotate_left
                focus (subst hS; go_simp; try rfl; done)
                simp only [Act.put, List.setIfInBounds_toArray, List.set_cons_zero, List.set_cons_succ]
                refine wpTame_run (v := ?_) (by decide) rfl (fun w' hS => ?_) ?_
                rotate_left
                focus (subst hS; go_simp; try rfl; done)
                simp only [Act.put, List.setIfInBounds_toArray, List.set_cons_zero, List.set_cons_succ]
                refine wpTame_run (v := ?_) (by decide) rfl (fun w' hS => ?_) ?_
                rotate_left
                focus (subst hS; go_simp; try rfl; done)
                simp only [Act.put, List.setIfInBounds_toArray, List.set_cons_zero, List.set_cons_succ]
                refine wpTame_run (v := ?_) (by decide) rfl (fun w' hS => ?_) ?_
                rotate_left
                focus (subst hS; go_simp; try rfl; done)
                simp only [Act.put, List.setIfInBounds_toArray, List.set_cons_zero, List.set_cons_succ]
                refine wpTame_run (v := ?_) (by decide) rfl (fun w' hS => ?_) ?_
                rotate_left
                focus (subst hS; go_simp; try rfl; done)
                simp only [Act.put, List.setIfInBounds_toArray, List.set_cons_zero, List.set_cons_succ]
                refine wpTame_run (v := ?_) (by decide) rfl (fun w' hS => ?_) ?_
                rotate_left
                focus (subst hS; go_simp; try rfl; done)
                simp only [Act.put, List.setIfInBounds_toArray, List.set_cons_zero, List.set_cons_succ]
                refine wpTame_run (v := ?_) (by decide) rfl (fun w' hS => ?_) ?_
                rotate_left
                focus (subst hS; go_simp; try rfl; done)
                simp only [Act.put, List.setIfInBounds_toArray, List.set_cons_zero, List.set_cons_succ]
                refine wpTame_run (v := ?_) (by decide) rfl (fun w' hS => ?_) ?_
                rotate_left
                focus (subst hS; go_simp; try rfl; done)
                simp only [Act.put, List.setIfInBounds_toArray, List.set_cons_zero, List.set_cons_succ]
                refine wpTame_run (v := ?_) (by decide) rfl (fun w' hS => ?_) ?_
                rotate_left
                focus (subst hS; go_simp; try rfl; done)
                simp only [Act.put, List.setIfInBounds_toArray, List.set_cons_zero, List.set_cons_succ]
                refine wpTame_run (v := ?_) (by decide) rfl (fun w' hS => ?_) ?_
                rotate_left
                focus (subst hS; go_simp; try rfl; done)
                simp only [Act.put, List.setIfInBounds_toArray, List.set_cons_zero, List.set_cons_succ]
                refine wpTame_run (v := ?_) (by decide) rfl (fun w' hS => ?_) ?_
                rotate_left
                focus (subst hS; go_simp; try rfl; done)
                simp only [Act.put, List.setIfInBounds_toArray, List.set_cons_zero, List.set_cons_succ]
                refine wpTame_run (v := ?_) (by decide) rfl (fun w' hS => ?_) ?_
                rotate_left
                focus (subst hS; go_simp; try rfl; done)
                simp only [Act.put, List.setIfInBounds_toArray, List.set_cons_zero, List.set_cons_succ]
                refine wpTame_nil ?_
                intro w5 hw5
                subst hw5
                go_wp2
                go_roundw
                case rel =>
                  refine ⟨c + 1, by omega, by go_num, ?_, Lib.hid ((HT2.out.draw 1).set_ne (by simp; omega) _)⟩
                  have h := (HE2.out.next (drew_below wr 1)).set (i * 4 + c) (y ^^^ z)
                  have e : putTo W T j i (c + 1) = (putTo W T j i c).set (i * 4 + c) (y ^^^ z) := by
                    rw [putTo, HD.out, Nat.mul_comm 4 i, Nat.mul_comm 4 d, HY.out, HZ2.out]
                  rw [xorU, e]
                  exact Lib.hid h
                case measure => simp [intOf]; omega
              · obtain rfl : c = 4 := by omega
                go_wp2
                go_roundw
                case rel =>
                  refine ⟨i + 1, gmU x 2, putTo W T j i 4, by omega, by omega, by go_num, rfl, ?_, HE2⟩
                  have h := HX.out
                  rw [show N - i = (N - (i + 1)) + 1 from by omega, expN, HTe.out] at h
                  rw [← h]
                  have e : nextX j i x = gmU x 2 := by unfold nextX; rw [if_pos hik]
                  rw [e]
                  exact Lib.hid rfl
                case measure => simp [intOf]; omega
          · have hikI : ((i : Int) % (j : Int) == 0) = false := by
              rw [beq_eq_false_iff_ne]; omega
            by_cases h84 : j = 8 ∧ i % 8 = 4
            · have h8I : ((j : Int) == 8) = true := by rw [beq_iff_eq]; omega
              have h4I : ((i : Int) % 8 == 4) = true := by rw [beq_iff_eq]; omega
              have H84 := Lib.hid h84
              clear h84
              go_wp2_with (first | ((with_reducible change wpList _ _ _ (Oper.mk _ (Op.load 89 _) _ _ _ _ :: _) _ _); refine wpList_load_mid rfl 89 _ rfl (n0 + 1) (i1 * 4) rfl ([t0, t1, t2, t3].map B) _ RNG4.out Try.underlying89 rfl (size4.trans (by rw [hm44])) ?_) | ((with_reducible change wpList _ _ _ (Oper.mk _ (Op.store 89 _ _) _ _ _ _ :: _) _ _); refine wpList_store_var wr.heap.size (barr [t0, t1, t2, t3]) rfl rfl b0 size4 rfl rfl (barr_one _) ?_; intro w1 B1 O1; have HW1 := Lib.hid ((HW.out.next ((Below.refl _ _).alloc (Nat.le_refl _) _)).only (g := wr.heap.size) htbn O1); have HB1 := Lib.hid B1; have q0 := B1.cellAt 0 (barr_getD [t0, t1, t2, t3] 0 (by simp)); have q1 := B1.cellAt 1 (barr_getD [t0, t1, t2, t3] 1 (by simp)); have q2 := B1.cellAt 2 (barr_getD [t0, t1, t2, t3] 2 (by simp)); have q3 := B1.cellAt 3 (barr_getD [t0, t1, t2, t3] 3 (by simp)); have hbl := B1.lt; clear B1 O1) | ((with_reducible change wpList _ _ _ (Oper.mk _ (Op.load 89 _) _ _ _ _ :: _) _ _); refine wpList_load_blk (ty := 89) wr.heap.size rfl HB1.out Try.underlying89 rfl size4 rfl ?_))
              refine (boxed_any [t0, t1, t2, t3] w1 rfl).mono ?_
              rintro e w2 ⟨rfl, h2⟩
              have HW2 := Lib.hid (HW1.out.next h2)
              have HB2 := Lib.hid (HB1.out.below h2 hbl)
              clear h2 HW1 HB1 q0 q1 q2 q3 hbl b0
              generalize htb : wr.heap.size = tb at *
              obtain ⟨T, hTT⟩ : ∃ T, T = [boxU t0, boxU t1, boxU t2, boxU t3] := ⟨_, rfl⟩
              have hTl : T.length = 4 := by rw [hTT]; rfl
              have hs44 : (barr T).size = 4 := by rw [barr_size]; exact hTl
              have HTe : Hid (turned j i x (wordAt W (i - 1)) = T) := by
                rw [HI1.out, HTT.out, hTT]
                unfold turned
                rw [if_neg hik, if_pos H84.out]
                exact Lib.hid rfl
              rw [boxL_of, ← hTT]
              clear hTT
              go_wp2_with ((with_reducible change wpList _ _ _ (Oper.mk _ (Op.store 89 _ _) _ _ _ _ :: _) _ _); refine wpList_store_var tb (barr T) rfl rfl HB2.out size4 hs44 rfl (barr_one _) ?_; intro w3 B3 O3; have HE := Lib.hid (HW2.out.only (g := tb) htbn O3); have HT := Lib.hid B3; clear B3 O3)
              go_loopw [76] (fun b w1 => ∃ c : Nat, c ≤ 4 ∧ b = .int .i64 (c : Int) ∧ Hid (ExpW w n0 (putTo W T j i c) w1) ∧ Hid (Blk w1 tb 89 (barr T))) (fun b _ => 4 - (intOf b).toNat)
              case atStart => exact ⟨0, by omega, rfl, HE, HT⟩
              case round =>
                obtain ⟨c, hc, rfl, HE2, HT2⟩ := hrel
                by_cases hct : c < 4
                · have hPl : (putTo W T j i c).length = 240 := HE2.out.len
                  have c1 := HE2.out.row.cellAt (d * 4 + c) (barr_getD _ (d * 4 + c) (by rw [hPl]; omega))
                  have c2 := HT2.out.cellAt c (barr_getD T c (by rw [hTl]; exact hct))
                  have c3 := HE2.out.row.cellAt (i * 4 + c) (barr_getD _ (i * 4 + c) (by rw [hPl]; omega))
                  have f3 := HE2.out.row.unfrozen (i * 4 + c)
                  have b1 := HE2.out.row.lt
                  have b2 := HT2.out.lt
                  generalize hy : (putTo W T j i c).getD (d * 4 + c) 0 = y at c1
                  generalize hz2 : T.getD c 0 = z at c2
                  have HY := Lib.hid hy
                  have HZ2 := Lib.hid hz2
                  have hWd : IntKind.i64.wrap (d : Int) = (d : Int) := IntWalk.i64_in _ (by omega)
                  have hdI60 : (d : Int) < 60 := by omega
                  have hiI60 : (i : Int) < 60 := by omega
                  have hcI4 : (c : Int) < 4 := by omega
                  clear hy hz2
                  go_wp2_with fail
                  refine wp_region_tame (fun w' => w' = wr.drewN 1) 0 15 (by kernel_rfl) (by kernel_rfl) (fun _ _ d _ _ h => (by cases d <;> exact h)) rfl (by decide) ?_
                  simp only [List.take_succ_cons, List.take_zero, List.drop_succ_cons, List.drop_zero]
                  refine wpPre_nil ?_
                  refine wpTame_run (v := ?_) (by decide) rfl (fun w' hS => ?_) ?_
                  rotate_left
                  focus (subst hS; go_simp; try rfl; done)
                  simp only [Act.put, List.setIfInBounds_toArray, List.set_cons_zero, List.set_cons_succ]
                  refine wpTame_run (v := ?_) (by decide) rfl (fun w' hS => ?_) ?_
                  rotate_left
                  focus (subst hS; go_simp; try rfl; done)
                  simp only [Act.put, List.setIfInBounds_toArray, List.set_cons_zero, List.set_cons_succ]
                  refine wpTame_run (v := ?_) (by decide) rfl (fun w' hS => ?_) ?_
                  rotate_left
                  focus (subst hS; go_simp; try rfl; done)
                  simp only [Act.put, List.setIfInBounds_toArray, List.set_cons_zero, List.set_cons_succ]
                  refine wpTame_run (v := ?_) (by decide) rfl (fun w' hS => ?_) ?_
                  rotate_left
                  focus (subst hS; go_simp; try rfl; done)
                  simp only [Act.put, List.setIfInBounds_toArray, List.set_cons_zero, List.set_cons_succ]
                  refine wpTame_run (v := ?_) (by decide) rfl (fun w' hS => ?_) ?_
                  rotate_left
                  focus (subst hS; go_simp; try rfl; done)
                  simp only [Act.put, List.setIfInBounds_toArray, List.set_cons_zero, List.set_cons_succ]
                  refine wpTame_run (v := ?_) (by decide) rfl (fun w' hS => ?_) ?_
                  rotate_left
                  focus (subst hS; go_simp; try rfl; done)
                  simp only [Act.put, List.setIfInBounds_toArray, List.set_cons_zero, List.set_cons_succ]
                  refine wpTame_run (v := ?_) (by decide) rfl (fun w' hS => ?_) ?_
                  rotate_left
                  focus (subst hS; go_simp; try rfl; done)
                  simp only [Act.put, List.setIfInBounds_toArray, List.set_cons_zero, List.set_cons_succ]
                  refine wpTame_run (v := ?_) (by decide) rfl (fun w' hS => ?_) ?_
                  rotate_left
                  focus (subst hS; go_simp; try rfl; done)
                  simp only [Act.put, List.setIfInBounds_toArray, List.set_cons_zero, List.set_cons_succ]
                  refine wpTame_run (v := ?_) (by decide) rfl (fun w' hS => ?_) ?_
                  rotate_left
                  focus (subst hS; go_simp; try rfl; done)
                  simp only [Act.put, List.setIfInBounds_toArray, List.set_cons_zero, List.set_cons_succ]
                  refine wpTame_run (v := ?_) (by decide) rfl (fun w' hS => ?_) ?_
                  rotate_left
                  focus (subst hS; go_simp; try rfl; done)
                  simp only [Act.put, List.setIfInBounds_toArray, List.set_cons_zero, List.set_cons_succ]
                  refine wpTame_run (v := ?_) (by decide) rfl (fun w' hS => ?_) ?_
                  rotate_left
                  focus (subst hS; go_simp; try rfl; done)
                  simp only [Act.put, List.setIfInBounds_toArray, List.set_cons_zero, List.set_cons_succ]
                  refine wpTame_run (v := ?_) (by decide) rfl (fun w' hS => ?_) ?_
                  rotate_left
                  focus (subst hS; go_simp; try rfl; done)
                  simp only [Act.put, List.setIfInBounds_toArray, List.set_cons_zero, List.set_cons_succ]
                  refine wpTame_run (v := ?_) (by decide) rfl (fun w' hS => ?_) ?_
                  rotate_left
                  focus (subst hS; go_simp; try rfl; done)
                  simp only [Act.put, List.setIfInBounds_toArray, List.set_cons_zero, List.set_cons_succ]
                  refine wpTame_run (v := ?_) (by decide) rfl (fun w' hS => ?_) ?_
                  rotate_left
                  focus (subst hS; go_simp; try rfl; done)
                  simp only [Act.put, List.setIfInBounds_toArray, List.set_cons_zero, List.set_cons_succ]
                  refine wpTame_run (v := ?_) (by decide) rfl (fun w' hS => ?_) ?_
                  rotate_left
                  focus (subst hS; go_simp; try rfl; done)
                  simp only [Act.put, List.setIfInBounds_toArray, List.set_cons_zero, List.set_cons_succ]
                  refine wpTame_nil ?_
                  intro w5 hw5
                  subst hw5
                  go_wp2
                  go_roundw
                  case rel =>
                    refine ⟨c + 1, by omega, by go_num, ?_, Lib.hid ((HT2.out.draw 1).set_ne (by simp; omega) _)⟩
                    have h := (HE2.out.next (drew_below wr 1)).set (i * 4 + c) (y ^^^ z)
                    have e : putTo W T j i (c + 1) = (putTo W T j i c).set (i * 4 + c) (y ^^^ z) := by
                      rw [putTo, HD.out, Nat.mul_comm 4 i, Nat.mul_comm 4 d, HY.out, HZ2.out]
                    rw [xorU, e]
                    exact Lib.hid h
                  case measure => simp [intOf]; omega
                · obtain rfl : c = 4 := by omega
                  go_wp2
                  go_roundw
                  case rel =>
                    refine ⟨i + 1, x, putTo W T j i 4, by omega, by omega, by go_num, rfl, ?_, HE2⟩
                    have h := HX.out
                    rw [show N - i = (N - (i + 1)) + 1 from by omega, expN, HTe.out] at h
                    rw [← h]
                    have e : nextX j i x = x := by unfold nextX; rw [if_neg hik]
                    rw [e]
                    exact Lib.hid rfl
                  case measure => simp [intOf]; omega
            · have h8I : (((j : Int) == 8) = true ∧ ((i : Int) % 8 == 4) = false) ∨ ((j : Int) == 8) = false := by
                by_cases h8 : j = 8
                · left
                  refine ⟨by rw [beq_iff_eq]; omega, ?_⟩
                  rw [beq_eq_false_iff_ne]; omega
                · right
                  rw [beq_eq_false_iff_ne]; omega
              have HTe : Hid (turned j i x (wordAt W (i - 1)) = [t0, t1, t2, t3]) := by
                rw [HI1.out, HTT.out]
                unfold turned
                rw [if_neg hik, if_neg h84]
                exact Lib.hid rfl
              clear h84
              obtain ⟨T, hTT⟩ : ∃ T, T = [t0, t1, t2, t3] := ⟨_, rfl⟩
              have hTl : T.length = 4 := by rw [hTT]; rfl
              rcases h8I with ⟨h8I, h4I⟩ | h8I
              all_goals
                go_wp2_with (first | ((with_reducible change wpList _ _ _ (Oper.mk _ (Op.load 89 _) _ _ _ _ :: _) _ _); refine wpList_load_mid rfl 89 _ rfl (n0 + 1) (i1 * 4) rfl ([t0, t1, t2, t3].map B) _ RNG4.out Try.underlying89 rfl (size4.trans (by rw [hm44])) ?_) | ((with_reducible change wpList _ _ _ (Oper.mk _ (Op.store 89 _ _) _ _ _ _ :: _) _ _); refine wpList_store_var wr.heap.size (barr [t0, t1, t2, t3]) rfl rfl b0 size4 rfl rfl (barr_one _) ?_; intro w1 B1 O1; have HW1 := Lib.hid ((HW.out.next ((Below.refl _ _).alloc (Nat.le_refl _) _)).only (g := wr.heap.size) htbn O1); have HB1 := Lib.hid B1; have q0 := B1.cellAt 0 (barr_getD [t0, t1, t2, t3] 0 (by simp)); have q1 := B1.cellAt 1 (barr_getD [t0, t1, t2, t3] 1 (by simp)); have q2 := B1.cellAt 2 (barr_getD [t0, t1, t2, t3] 2 (by simp)); have q3 := B1.cellAt 3 (barr_getD [t0, t1, t2, t3] 3 (by simp)); have hbl := B1.lt; clear B1 O1))
                clear q0 q1 q2 q3 hbl b0
                generalize htb : wr.heap.size = tb at *
                rw [← hTT] at HB1 HTe
                have HE := HW1
                have HT := HB1
                clear HW1 HB1 hTT
                go_loopw [76] (fun b w1 => ∃ c : Nat, c ≤ 4 ∧ b = .int .i64 (c : Int) ∧ Hid (ExpW w n0 (putTo W T j i c) w1) ∧ Hid (Blk w1 tb 89 (barr T))) (fun b _ => 4 - (intOf b).toNat)
                case atStart => exact ⟨0, by omega, rfl, HE, HT⟩
                case round =>
                  obtain ⟨c, hc, rfl, HE2, HT2⟩ := hrel
                  by_cases hct : c < 4
                  · have hPl : (putTo W T j i c).length = 240 := HE2.out.len
                    have c1 := HE2.out.row.cellAt (d * 4 + c) (barr_getD _ (d * 4 + c) (by rw [hPl]; omega))
                    have c2 := HT2.out.cellAt c (barr_getD T c (by rw [hTl]; exact hct))
                    have c3 := HE2.out.row.cellAt (i * 4 + c) (barr_getD _ (i * 4 + c) (by rw [hPl]; omega))
                    have f3 := HE2.out.row.unfrozen (i * 4 + c)
                    have b1 := HE2.out.row.lt
                    have b2 := HT2.out.lt
                    generalize hy : (putTo W T j i c).getD (d * 4 + c) 0 = y at c1
                    generalize hz2 : T.getD c 0 = z at c2
                    have HY := Lib.hid hy
                    have HZ2 := Lib.hid hz2
                    have hWd : IntKind.i64.wrap (d : Int) = (d : Int) := IntWalk.i64_in _ (by omega)
                    have hdI60 : (d : Int) < 60 := by omega
                    have hiI60 : (i : Int) < 60 := by omega
                    have hcI4 : (c : Int) < 4 := by omega
                    clear hy hz2
                    go_wp2_with fail
                    refine wp_region_tame (fun w' => w' = wr.drewN 1) 0 15 (by kernel_rfl) (by kernel_rfl) (fun _ _ d _ _ h => (by cases d <;> exact h)) rfl (by decide) ?_
                    simp only [List.take_succ_cons, List.take_zero, List.drop_succ_cons, List.drop_zero]
                    refine wpPre_nil ?_
                    refine wpTame_run (v := ?_) (by decide) rfl (fun w' hS => ?_) ?_
                    rotate_left
                    focus (subst hS; go_simp; try rfl; done)
                    simp only [Act.put, List.setIfInBounds_toArray, List.set_cons_zero, List.set_cons_succ]
                    refine wpTame_run (v := ?_) (by decide) rfl (fun w' hS => ?_) ?_
                    rotate_left
                    focus (subst hS; go_simp; try rfl; done)
                    simp only [Act.put, List.setIfInBounds_toArray, List.set_cons_zero, List.set_cons_succ]
                    refine wpTame_run (v := ?_) (by decide) rfl (fun w' hS => ?_) ?_
                    rotate_left
                    focus (subst hS; go_simp; try rfl; done)
                    simp only [Act.put, List.setIfInBounds_toArray, List.set_cons_zero, List.set_cons_succ]
                    refine wpTame_run (v := ?_) (by decide) rfl (fun w' hS => ?_) ?_
                    rotate_left
                    focus (subst hS; go_simp; try rfl; done)
                    simp only [Act.put, List.setIfInBounds_toArray, List.set_cons_zero, List.set_cons_succ]
                    refine wpTame_run (v := ?_) (by decide) rfl (fun w' hS => ?_) ?_
                    rotate_left
                    focus (subst hS; go_simp; try rfl; done)
                    simp only [Act.put, List.setIfInBounds_toArray, List.set_cons_zero, List.set_cons_succ]
                    refine wpTame_run (v := ?_) (by decide) rfl (fun w' hS => ?_) ?_
                    rotate_left
                    focus (subst hS; go_simp; try rfl; done)
                    simp only [Act.put, List.setIfInBounds_toArray, List.set_cons_zero, List.set_cons_succ]
                    refine wpTame_run (v := ?_) (by decide) rfl (fun w' hS => ?_) ?_
                    rotate_left
                    focus (subst hS; go_simp; try rfl; done)
                    simp only [Act.put, List.setIfInBounds_toArray, List.set_cons_zero, List.set_cons_succ]
                    refine wpTame_run (v := ?_) (by decide) rfl (fun w' hS => ?_) ?_
                    rotate_left
                    focus (subst hS; go_simp; try rfl; done)
                    simp only [Act.put, List.setIfInBounds_toArray, List.set_cons_zero, List.set_cons_succ]
                    refine wpTame_run (v := ?_) (by decide) rfl (fun w' hS => ?_) ?_
                    rotate_left
                    focus (subst hS; go_simp; try rfl; done)
                    simp only [Act.put, List.setIfInBounds_toArray, List.set_cons_zero, List.set_cons_succ]
                    refine wpTame_run (v := ?_) (by decide) rfl (fun w' hS => ?_) ?_
                    rotate_left
                    focus (subst hS; go_simp; try rfl; done)
                    simp only [Act.put, List.setIfInBounds_toArray, List.set_cons_zero, List.set_cons_succ]
                    refine wpTame_run (v := ?_) (by decide) rfl (fun w' hS => ?_) ?_
                    rotate_left
                    focus (subst hS; go_simp; try rfl; done)
                    simp only [Act.put, List.setIfInBounds_toArray, List.set_cons_zero, List.set_cons_succ]
                    refine wpTame_run (v := ?_) (by decide) rfl (fun w' hS => ?_) ?_
                    rotate_left
                    focus (subst hS; go_simp; try rfl; done)
                    simp only [Act.put, List.setIfInBounds_toArray, List.set_cons_zero, List.set_cons_succ]
                    refine wpTame_run (v := ?_) (by decide) rfl (fun w' hS => ?_) ?_
                    rotate_left
                    focus (subst hS; go_simp; try rfl; done)
                    simp only [Act.put, List.setIfInBounds_toArray, List.set_cons_zero, List.set_cons_succ]
                    refine wpTame_run (v := ?_) (by decide) rfl (fun w' hS => ?_) ?_
                    rotate_left
                    focus (subst hS; go_simp; try rfl; done)
                    simp only [Act.put, List.setIfInBounds_toArray, List.set_cons_zero, List.set_cons_succ]
                    refine wpTame_run (v := ?_) (by decide) rfl (fun w' hS => ?_) ?_
                    rotate_left
                    focus (subst hS; go_simp; try rfl; done)
                    simp only [Act.put, List.setIfInBounds_toArray, List.set_cons_zero, List.set_cons_succ]
                    refine wpTame_nil ?_
                    intro w5 hw5
                    subst hw5
                    go_wp2
                    go_roundw
                    case rel =>
                      refine ⟨c + 1, by omega, by go_num, ?_, Lib.hid ((HT2.out.draw 1).set_ne (by simp; omega) _)⟩
                      have h := (HE2.out.next (drew_below wr 1)).set (i * 4 + c) (y ^^^ z)
                      have e : putTo W T j i (c + 1) = (putTo W T j i c).set (i * 4 + c) (y ^^^ z) := by
                        rw [putTo, HD.out, Nat.mul_comm 4 i, Nat.mul_comm 4 d, HY.out, HZ2.out]
                      rw [xorU, e]
                      exact Lib.hid h
                    case measure => simp [intOf]; omega
                  · obtain rfl : c = 4 := by omega
                    go_wp2
                    go_roundw
                    case rel =>
                      refine ⟨i + 1, x, putTo W T j i 4, by omega, by omega, by go_num, rfl, ?_, HE2⟩
                      have h := HX.out
                      rw [show N - i = (N - (i + 1)) + 1 from by omega, expN, HTe.out] at h
                      rw [← h]
                      have e : nextX j i x = x := by unfold nextX; rw [if_neg hik]
                      rw [e]
                      exact Lib.hid rfl
                    case measure => simp [intOf]; omega
        · obtain rfl : i = N := by omega
          have hX := HX.out
          rw [Nat.sub_self, expN] at hX
          subst hX
          clear HX HN
          have hs240 : (barr (sched key)).size = 240 := by rw [barr_size]; exact hWl
          have hZs : Z.size = 240 := by rw [← HZ.out, barr_size]; rfl
          have HLD := Lib.hid (HW.out.row.alloc (.cells Z 82))
          go_wp2_with ((with_reducible change wpList _ _ _ (Oper.mk _ (Op.load 112 _) _ _ _ _ :: _) _ _); refine wpList_load_blk (ty := 112) (n0 + 1) rfl HLD.out Try.underlying112 rfl size240w hs240 ?_)
          have hn2 : n0 + 1 < wr.heap.size := HW.out.row.lt
          have HO : Hid (ExpW w n0 (sched key) (wr.alloc (.cells Z 82)) ∧ Blk (wr.alloc (.cells Z 82)) wr.heap.size 82 (barr (outTo (sched key) 0))) := by
            refine Lib.hid ⟨HW.out.next ((Below.refl _ _).alloc (Nat.le_refl _) _), ?_⟩
            rw [outTo_zero, HZ.out]
            exact Blk.new _ _ _
          generalize hn2e : wr.heap.size = n2 at *
          clear HLD HW
          go_loopw [96] (fun i w1 => ∃ c : Nat, c ≤ 60 ∧ i = .int .i64 (c : Int) ∧ Hid (ExpW w n0 (sched key) w1 ∧ Blk w1 n2 82 (barr (outTo (sched key) c)))) (fun i _ => 60 - (intOf i).toNat)
          case atStart => exact ⟨0, by omega, rfl, HO⟩
          case round =>
            obtain ⟨c, hc, rfl, HP⟩ := hrel
            clear HO
            by_cases hct : c < 60
            · have hix : ∀ w', (Instr.index 112 (.agg (barr (sched key))) (.int .i64 (c : Int))).run Try.prog w' = .ok (.agg (barr (wordAt (sched key) c))) w' := fun w' => run_index_words Try.underlying112 Try.underlying89 rfl (by kernel_rfl) (sched key) c (by omega) hct w'
              obtain ⟨V, hV⟩ : ∃ V, V = wordAt (sched key) c := ⟨_, rfl⟩
              have hV4 : (barr V).size = 4 := by rw [hV]; rfl
              have hVl : V.length = 4 := by rw [hV]; rfl
              rw [← hV] at hix
              have HV := Lib.hid hV
              clear hV
              have hn3 : n2 < wr.heap.size := HP.out.2.lt
              have b0 : Blk (wr.alloc (.cells (barr (List.replicate 4 0)) 89)) wr.heap.size 89 (barr (List.replicate 4 0)) := Blk.new _ _ _
              go_wp2_with ((with_reducible change wpList _ _ _ (Oper.mk _ (Op.store 89 _ _) _ _ _ _ :: _) _ _); refine wpList_store_var wr.heap.size (barr V) rfl rfl b0 size4 hV4 rfl (barr_one _) ?_; intro w3 B3 O3; have HB3 := Lib.hid B3; have HE3 := Lib.hid ((HP.out.1.next ((Below.refl _ _).alloc (Nat.le_refl _) _)).only (g := wr.heap.size) (by omega) O3); have HN3 := Lib.hid ((HP.out.2.alloc (.cells (barr (List.replicate 4 0)) 89)).only O3 (by omega)); clear B3 O3)
              obtain ⟨e, he⟩ : ∃ e, c / 4 = e := ⟨_, rfl⟩
              obtain ⟨f, hf⟩ : ∃ f, c % 4 = f := ⟨_, rfl⟩
              obtain ⟨q, hq⟩ : ∃ q, 4 * f = q := ⟨_, rfl⟩
              have hT1 : (c : Int).tdiv 4 = (e : Int) := by rw [Int.tdiv_eq_ediv_of_nonneg (by omega)]; omega
              have hT2 : (c : Int).tmod 4 = (f : Int) := by rw [Int.tmod_eq_emod_of_nonneg (by omega)]; omega
              have hqI : 4 * (f : Int) = (q : Int) := by omega
              have hWq : IntKind.i64.wrap (q : Int) = (q : Int) := IntWalk.i64_in _ (by omega)
              have hWe : IntKind.i64.wrap (e : Int) = (e : Int) := IntWalk.i64_in _ (by omega)
              have heI : (e : Int) < 15 := by omega
              have hsl : ∀ w', (Instr.sliceAt 31 (.pointer (some ⟨n2, e * 16, none⟩)) (some (.int .i64 (q : Int))) none none).run Try.prog w' = .ok (.slice (some ⟨n2, 4 * c, none⟩) (16 - q) (16 - q)) w' := fun w' => by
                have hal : Try.prog.arrayLen 31 = 16 := by kernel_rfl
                rw [run_sliceAt_array_l w' 31 ⟨n2, e * 16, none⟩ (by simp [Program.arrayLen, Program.elem, Try.underlying31]) .i64 (q : Int) (by omega) (by rw [hal]; omega)]
                have hsz : (sizeOf (Try.prog.elem 31)).run Try.prog w' = .ok 1 w' := by kernel_rfl
                rw [hsz, Result.andThen_ok, hal]
                unfold slicedAt
                rw [if_neg (by omega), Int.toNat_natCast, add_lit, show e * 16 + q * 1 = 4 * c from by omega]
              have hsl2 : ∀ w', (Instr.sliceAt 89 (.pointer (some ⟨wr.heap.size, 0, none⟩)) none none none).run Try.prog w' = .ok (.slice (some ⟨wr.heap.size, 0, none⟩) 4 4) w' := fun w' => by
                have hal : Try.prog.arrayLen 89 = 4 := by kernel_rfl
                rw [run_sliceAt_array_all w' 89 ⟨wr.heap.size, 0, none⟩ (by simp [Program.arrayLen, Program.elem, Try.underlying89])]
                have hsz : (sizeOf (Try.prog.elem 89)).run Try.prog w' = .ok 1 w' := by kernel_rfl
                rw [hsz, Result.andThen_ok, hal]
                unfold slicedAt
                rw [if_neg (by omega), add_lit]
              have hq12 : q ≤ 12 := by omega
              clear he hf hq
              generalize htb : wr.heap.size = tb at *
              refine wp_region_tame (fun w' => w' = w3.drewN 1) 0 8 (by kernel_rfl) (by kernel_rfl) (fun _ _ d _ _ h => (by cases d <;> exact h)) rfl (by decide) ?_
              simp only [List.take_succ_cons, List.take_zero, List.drop_succ_cons, List.drop_zero]
              refine wpPre_nil ?_
              refine wpTame_run (v := ?_) (by decide) rfl (fun w' hS => ?_) ?_
              rotate_left
              focus (subst hS; go_simp; try rfl; done)
              simp only [Act.put, List.setIfInBounds_toArray, List.set_cons_zero, List.set_cons_succ]
              refine wpTame_run (v := ?_) (by decide) rfl (fun w' hS => ?_) ?_
              rotate_left
              focus (subst hS; go_simp; try rfl; done)
              simp only [Act.put, List.setIfInBounds_toArray, List.set_cons_zero, List.set_cons_succ]
              refine wpTame_run (v := ?_) (by decide) rfl (fun w' hS => ?_) ?_
              rotate_left
              focus (subst hS; go_simp; try rfl; done)
              simp only [Act.put, List.setIfInBounds_toArray, List.set_cons_zero, List.set_cons_succ]
              refine wpTame_run (v := ?_) (by decide) rfl (fun w' hS => ?_) ?_
              rotate_left
              focus (subst hS; go_simp; try rfl; done)
              simp only [Act.put, List.setIfInBounds_toArray, List.set_cons_zero, List.set_cons_succ]
              refine wpTame_run (v := ?_) (by decide) rfl (fun w' hS => ?_) ?_
              rotate_left
              focus (subst hS; go_simp; try rfl; done)
              simp only [Act.put, List.setIfInBounds_toArray, List.set_cons_zero, List.set_cons_succ]
              refine wpTame_run (v := ?_) (by decide) rfl (fun w' hS => ?_) ?_
              rotate_left
              focus (subst hS; go_simp; try rfl; done)
              simp only [Act.put, List.setIfInBounds_toArray, List.set_cons_zero, List.set_cons_succ]
              refine wpTame_run (v := ?_) (by decide) rfl (fun w' hS => ?_) ?_
              rotate_left
              focus (subst hS; go_simp; try rfl; done)
              simp only [Act.put, List.setIfInBounds_toArray, List.set_cons_zero, List.set_cons_succ]
              refine wpTame_run (v := ?_) (by decide) rfl (fun w' hS => ?_) ?_
              rotate_left
              focus (subst hS; go_simp; try rfl; done)
              simp only [Act.put, List.setIfInBounds_toArray, List.set_cons_zero, List.set_cons_succ]
              refine wpTame_nil ?_
              intro w5 hw5
              subst hw5
              have hcs : (V.map B).length = Nat.min 4 (16 - q) := by rw [List.length_map, hVl]; exact (Nat.min_eq_left (by omega)).symm
              refine wpList_copy_only rfl _ _ _ _ rfl 5 Try.underlying22 (by kernel_rfl) _ _ _ _ _ _ rfl rfl n2 (4 * c) ((outTo (sched key) c).map B) 82 (HN3.out.draw 1) (V.map B) hcs (fun _ => ⟨rfl, ⟨tb, 0, none⟩, rfl, fun j v hj => ?_⟩) (by rw [List.length_map, List.length_map, hVl, outTo_len _ _ hWl hc]; omega) (bytes_one V) ?_
              · rw [add_lit, Nat.zero_add]
                exact (HB3.out.draw 1).cellAt j (by show (V.map B).toArray[j]? = some v; rw [List.getElem?_toArray]; exact hj)
              intro w6 G6 O6
              have HE6 := Lib.hid ((HE3.out.next (drew_below w3 1)).only (g := n2) hn2 O6)
              have HO6 : Hid (Blk w6 n2 82 (barr (outTo (sched key) (c + 1)))) := by
                have h := G6.out
                rw [HV.out, outTo_splice _ _ hWl hct] at h
                exact Lib.hid h
              clear G6 O6
              refine wpList_nil ?_
              go_wp2
              go_roundw
              case rel => exact ⟨c + 1, by omega, by go_num, Lib.hid ⟨HE6.out, HO6.out⟩⟩
              case measure => simp [intOf]; omega
            · obtain rfl : c = 60 := by omega
              have HR := Lib.hid HP.out.1.res
              have HG := HP.out.2
              rw [outTo_end _ hWl] at HG
              have HGG := Lib.hid HG
              have hn0lt : HP.out.1.at0 = HP.out.1.at0 := rfl
              have hz240 : (barr (List.replicate 240 (0 : UInt8))).size = 240 := by rw [barr_size]; simp
              have HBL := Lib.hid HP.out.1.below
              have hle : w.heap.size ≤ n0 := by rw [HP.out.1.at0]; exact Nat.le_refl _
              clear HG HP hn0lt
              go_wp2_with (first | ((with_reducible change wpList _ _ _ (Oper.mk _ (Op.load 82 _) _ _ _ _ :: _) _ _); refine wpList_load_blk (ty := 82) n2 rfl HGG.out Try.underlying82 rfl size240 hs240 ?_) | ((with_reducible change wpList _ _ _ (Oper.mk _ (Op.store 82 _ _) _ _ _ _ :: _) _ _); refine wpList_store_blk (ty := 82) n0 (barr (sched key)) rfl rfl HR.out size240 hs240 hz240 (barr_one _) ?_))
              refine bodyPost_ret (results_cell_blk rfl _ _ n0 rfl (HR.out.row _) Try.underlying82 rfl size240 hs240) rfl ⟨rfl, below_row HBL.out hle _⟩
end Go.Proofs.Ytpampcokonicfaa
/- The contracts of package aes: Encrypt, Decrypt. Conditions: a block has sixteen bytes; room for one event more. -/
namespace Go.Proofs.Ytpampcokonicfaa
open Go.RowKit
set_option maxRecDepth 100000
set_option linter.unusedVariables false
set_option linter.unusedSimpArgs false

theorem cmade_any (b k : Nat) (K : List UInt8) (w : World) (h : CipAt w b k K) : Calls Try.prog 43 #[.pointer (some ⟨b, 0, none⟩)] w fun e w' => e = .returned (.bool (decide (0 < k))) ∧ w = w' := by
  have c0 := h.key
  have hb := h.lt
  have hd : decide ((k : Int) > 0) = decide (0 < k) := by congr 1; simp
  obtain ⟨m, hm⟩ : ∃ m, decide (0 < k) = m := ⟨_, rfl⟩
  rw [hm] at hd ⊢
  clear h hm
  go_enter Try.func43, Try.ntmps43
  go_wp2
  go_ret
  refine ⟨?_, rfl⟩
  first | rfl | (rw [← hd]; simp)
theorem cmade_nil (w : World) : Calls Try.prog 43 #[.pointer none] w fun e w' => e = .returned (.bool false) ∧ w = w' := by
  go_enter Try.func43, Try.ntmps43
  go_wp2
  go_ret
  exact ⟨rfl, rfl⟩
theorem rounds_any (b k : Nat) (K : List UInt8) (w : World) (h : CipAt w b k K) (hk : k ≤ 32) : Calls Try.prog 45 #[.pointer (some ⟨b, 0, none⟩)] w fun e w' => e = .returned (.int .i64 ((k / 4 + 6 : Nat) : Int)) ∧ w = w' := by
  have c0 := h.key
  have hb := h.lt
  obtain ⟨q, hq⟩ : ∃ q, k / 4 = q := ⟨_, rfl⟩
  have hqI : (k : Int) / 4 = (q : Int) := by omega
  have hq8 : q ≤ 8 := by omega
  rw [hq]
  clear h hq
  go_enter Try.func45, Try.ntmps45
  go_wp2
  go_ret
  refine ⟨?_, rfl⟩
  first | rfl | (congr 2) | (congr 2; omega)

theorem zero16 (w : World) : (zeroValue 31).run Try.prog w = .ok (.agg (barr (List.replicate 16 0))) w := by kernel_rfl
theorem results_cell2_blk {P : Program} {fn : Func} {p t2 : Tmp} {ty : TypeId} (h : fn.results = #[.cell p ty, .tmp t2]) (tmps : Array Value) (w : World) (g : Nat) {t : TypeId} {cs : Array Value} {de : TypeDesc} {n : Nat}
    (hp : tmps.getD p undef = .pointer (some ⟨g, 0, none⟩)) (hg : Blk w g t cs)
    (hu : P.underlying ty = some de) (hd : (match de with | .struct _ | .array _ _ => true | _ => false) = true) (hi : (P.info? ty).map (·.size) = some n) (hn : cs.size = n) :
    (results fn tmps).run P w = .ok (.tuple #[.agg cs, tmps.getD t2 undef]) w := by
  have hp' : tmps[p]?.getD undef = .pointer (some ⟨g, 0, none⟩) := by simpa using hp
  simp [results, h, hp', asAddr, run_loadVar_row w g t ty cs (0, 0) de hg hu hd (by rw [hi, hn])]
set_option maxHeartbeats 1000000 in
theorem encrypt_no (p q : Value) (l : List UInt8) (w : World) (hm : ∀ w', Below w.heap.size w w' → Calls Try.prog 43 #[p] w' fun e w'' => e = .returned (.bool false) ∧ w' = w'') :
    Calls Try.prog 12 #[p, q, .agg (barr l)] w fun e w' => e = .returned (.tuple #[.agg (barr (List.replicate 16 0)), .int .i64 1]) ∧ Below w.heap.size w w' := by
  have HM := Lib.hid hm
  clear hm
  have hz := zero16
  generalize hZ : barr (List.replicate 16 0) = Z at hz
  have HZ := Lib.hid hZ
  have hZs : Z.size = 16 := by rw [← hZ, barr_size]; rfl
  have hZo : ∀ v ∈ Z.toList, v.oneCell' = true := by rw [← hZ]; exact barr_one _
  clear hZ
  go_enter Try.func12, Try.ntmps12
  go_wp2_with fail
  have hb : Below w.heap.size w ((w.alloc (.cells (barr l) 31)).alloc (.cells Z 31)) := ((Below.refl _ _).alloc (Nat.le_refl _) _).alloc (by simp) _
  have HB := Lib.hid hb
  have b1 : Blk ((w.alloc (.cells (barr l) 31)).alloc (.cells Z 31)) (w.heap.size + 1) 31 Z := Blk.at (by simp) rfl
  refine (HM.out _ hb).mono ?_
  clear hb
  rintro e w' ⟨rfl, rfl⟩
  go_wp2_with (first | ((with_reducible change wpList _ _ _ (Oper.mk _ (Op.store 31 _ _) _ _ _ _ :: _) _ _); refine wpList_store_blk (ty := 31) (w.heap.size + 1) Z rfl rfl b1 size16 hZs hZs hZo ?_))
  refine bodyPost_ret (results_cell2_blk rfl _ _ (w.heap.size + 1) rfl (b1.row _) Try.underlying31 rfl size16 hZs) rfl ⟨rfl, below_row HB.out (by omega) _⟩
/-- the worlds between: what a round needs -/
structure EncW (n0 b k : Nat) (K st : List UInt8) (w2 w1 : World) : Prop where
  blk : Blk w1 n0 31 (barr st)
  res : Blk w1 (n0 + 1) 31 (barr (List.replicate 16 0))
  cip : CipAt w1 b k K
  only : Only (fun x => x = n0) w2 w1
theorem EncW.below {n0 b k : Nat} {K st : List UInt8} {w2 w1 w' : World} (h : EncW n0 b k K st w2 w1) (hb : Below w1.heap.size w1 w') : EncW n0 b k K st w2 w' :=
  ⟨h.blk.below hb h.blk.lt, h.res.below hb h.res.lt, h.cip.below hb, h.only.trans (Only.of_below hb (fun x => x = n0)) (fun x hx => .inl hx)⟩
theorem EncW.put {n0 b k : Nat} {K st : List UInt8} {w2 w1 : World} (h : EncW n0 b k K st w2 w1) (hb : b ≠ n0) (st' : List UInt8) : EncW n0 b k K st' w2 (w1.setRow n0 (barr st')) :=
  ⟨h.blk.row _, h.res.row_ne (by omega) _, ⟨h.cip.1.row_ne hb _, h.cip.2⟩, h.only.row (.inl rfl) _⟩
theorem EncW.other {n0 b k g : Nat} {K st : List UInt8} {w2 w1 : World} (h : EncW n0 b k K st w2 w1) (hg : w2.heap.size ≤ g) (h2 : n0 + 1 < w2.heap.size) (hb : b < w2.heap.size) {w' : World} (ho : Only (fun x => x = g) w1 w') : EncW n0 b k K st w2 w' :=
  ⟨h.blk.only ho (by omega), h.res.only ho (by omega), h.cip.only ho (by omega), h.only.trans ho (fun x hx => .inr (by rw [hx]; exact hg))⟩
theorem shiftB_tab (b : List UInt8) : shiftB b = tab 16 (fun i => boxU (b.getD ((i + 4 * (i % 4)) % 16) 0)) := rfl
theorem barr_m2 : barr m2 = #[.int .u8 2, .int .u8 3, .int .u8 1, .int .u8 1] := rfl
theorem barr_m14 : barr m14 = #[.int .u8 14, .int .u8 11, .int .u8 13, .int .u8 9] := rfl
theorem with_any1 (b k : Nat) (K l : List UInt8) (r : Nat) (w : World) (h : CipAt w b k K) (hl : l.length = 16) (hr : r + 1 < 15) :
    Calls Try.prog 44 #[.pointer (some ⟨b, 0, none⟩), .agg (barr l), .int .i64 ((r : Int) + 1)] w fun e w' => e = .returned (.agg (barr (withK K l (r + 1)))) ∧ Below w.heap.size w w' := by
  have h := with_any b k K l (r + 1) w h hl hr
  rwa [show ((r + 1 : Nat) : Int) = (r : Int) + 1 from by omega] at h
set_option maxHeartbeats 4000000 in
theorem encrypt_any (b k : Nat) (K l : List UInt8) (q : Value) (G : Nat → Prop) (o : Option (List Rn)) (w : World) (h : CipAt w b k K) (hl : l.length = 16) (hk0 : 0 < k) (hk : k ≤ 32) (hq : LgP w q G o) (hr : Room o 1) (hG : ¬ G b) :
    Calls Try.prog 12 #[.pointer (some ⟨b, 0, none⟩), q, .agg (barr l)] w fun e w' => e = .returned (.tuple #[.agg (barr (enc K (k / 4 + 6) l)), .int .i64 0]) ∧ LaidP q G (noteO o 5 k 1) w w' := by
  have hbw := h.lt
  have HGlt := Lib.hid hq.lt
  have hkd : decide (0 < k) = true := by simpa using hk0
  have HH := Lib.hid h
  have HQ := Lib.hid hq
  clear h hq
  go_enter Try.func12, Try.ntmps12
  go_wp2_with fail
  have hb0 : Below w.heap.size w ((w.alloc (.cells (barr l) 31)).alloc (.cells (barr (List.replicate 16 0)) 31)) := ((Below.refl _ _).alloc (Nat.le_refl _) _).alloc (by simp) _
  have hA : EncW w.heap.size b k K l ((w.alloc (.cells (barr l) 31)).alloc (.cells (barr (List.replicate 16 0)) 31)) ((w.alloc (.cells (barr l) 31)).alloc (.cells (barr (List.replicate 16 0)) 31)) :=
    ⟨(Blk.at rfl rfl).alloc _, Blk.at (by simp) rfl, HH.out.below hb0, Only.refl _ _⟩
  have hs0 : w.heap.size + 1 < ((w.alloc (.cells (barr l) 31)).alloc (.cells (barr (List.replicate 16 0)) 31)).heap.size := by simp
  have HQ0 := Lib.hid (HQ.out.keep (Only.nothing hb0) (fun _ _ h => h))
  obtain ⟨w0, hw0⟩ : ∃ w0, w0 = ((w.alloc (.cells (barr l) 31)).alloc (.cells (barr (List.replicate 16 0)) 31)) := ⟨_, rfl⟩
  obtain ⟨n0, hn0⟩ : ∃ n0, n0 = w.heap.size := ⟨_, rfl⟩
  have hbn : b ≠ n0 := by omega
  have hbn1 : b < n0 := by omega
  have HA : Hid (EncW n0 b k K l w0 w0) := by rw [hw0, hn0]; exact Lib.hid hA
  have HQ1 : Hid (LgP w0 q G o) := by rw [hw0]; exact HQ0
  have HB0 : Hid (Below w.heap.size w w0) := by rw [hw0]; exact Lib.hid hb0
  have hs1 : n0 + 1 < w0.heap.size := by rw [hw0, hn0]; exact hs0
  have HGn : Hid (∀ x, G x → x < n0) := by rw [hn0]; exact HGlt
  have HN0 : Hid (n0 = w.heap.size) := hn0
  change Calls _ _ _ ((w.alloc (.cells (barr l) 31)).alloc (.cells (barr (List.replicate 16 0)) 31)) _
  rw [← hw0, ← hn0]
  clear hA hs0 HQ0 hb0 hw0 hn0 HH HQ
  refine (cmade_any b k K w0 HA.out.cip).mono ?_
  rintro e w' ⟨he, rfl⟩
  rw [hkd] at he
  subst he
  have c0 := HA.out.cip.key
  have hbl := HA.out.cip.lt
  go_wp2_with fail
  refine (gnoteP_any q G o 5 k w0 HQ1.out hr).mono ?_
  rintro e w2 ⟨rfl, hn⟩
  have HN := Lib.hid hn
  have on := hn.only
  have h2 : EncW n0 b k K l w2 w2 := ⟨HA.out.blk.only on (fun hh => by have := HGn.out _ hh; omega), HA.out.res.only on (fun hh => by have := HGn.out _ hh; omega), HA.out.cip.only on hG, Only.refl _ _⟩
  have hs2 : n0 + 1 < w2.heap.size := Nat.lt_of_lt_of_le hs1 on.size
  have hb2 : b < w2.heap.size := h2.cip.lt
  have H2 := Lib.hid h2
  have hll : (barr l).size = 16 := by rw [barr_size, hl]
  clear hn on h2 c0 hbl HA HQ1
  go_wp2_with ((with_reducible change wpList _ _ _ (Oper.mk _ (Op.load 31 _) _ _ _ _ :: _) _ _); refine wpList_load_blk (ty := 31) n0 rfl H2.out.blk Try.underlying31 rfl size16 hll ?_)
  refine (with_any b k K l 0 w2 H2.out.cip hl (by omega)).mono ?_
  rintro e w3 ⟨rfl, h3⟩
  have H3 := Lib.hid (H2.out.below h3)
  clear h3
  have hs3 : (barr (withK K l 0)).size = 16 := by rw [barr_size, withK_len]
  go_wp2_with ((with_reducible change wpList _ _ _ (Oper.mk _ (Op.store 31 _ _) _ _ _ _ :: _) _ _); refine wpList_store_blk (ty := 31) n0 (barr (withK K l 0)) rfl rfl H3.out.blk size16 hs3 hll (barr_one _) ?_)
  have H4 := Lib.hid (H3.out.put hbn (withK K l 0))
  clear H3
  obtain ⟨R, hR⟩ : ∃ R, k / 4 + 6 = R := ⟨_, rfl⟩
  have hR14 : R ≤ 14 := by omega
  have HR := Lib.hid hR
  clear hR
  go_loopw [8] (fun i w1 => ∃ r : Nat, r ≤ R ∧ i = .int .i64 ((r : Int) + 1) ∧ Hid (EncW n0 b k K (encS K R l r) w2 w1)) (fun i _ => R + 1 - (intOf i).toNat)
  case atStart => exact ⟨0, by omega, rfl, H4⟩
  case round =>
    obtain ⟨r, hrr, rfl, H⟩ := hrel
    clear H4 H2
    go_wp2_with fail
    refine (rounds_any b k K wr H.out.cip hk).mono ?_
    rintro e w' ⟨he, rfl⟩
    rw [HR.out] at he
    subst he
    have hst : (encS K R l r).length = 16 := encS_len _ _ _ _
    obtain ⟨st, hstt⟩ : ∃ st, st = encS K R l r := ⟨_, rfl⟩
    rw [← hstt] at H hst
    have HST := Lib.hid hstt
    clear hstt
    by_cases hlt : r < R
    · have hle : decide ((r : Int) + 1 ≤ (R : Int)) = true := by simp; omega
      have hs0 : w2.heap.size ≤ wr.heap.size := H.out.only.size
      go_wp2_with fail
      generalize hs0e : wr.heap.size = s0
      go_loopw [31] (fun i w1 => ∃ j : Nat, j ≤ 16 ∧ i = .int .i64 (j : Int) ∧ Hid (EncW n0 b k K st w2 w1) ∧ Hid (Blk w1 s0 31 (barr (mixT 16 (fun i => boxU (st.getD ((i + 4 * (i % 4)) % 16) 0)) (fun _ => 0) j)))) (fun i _ => 16 - (intOf i).toNat)
      case atStart =>
        refine ⟨0, by omega, rfl, H.out.below ((Below.refl _ _).alloc (Nat.le_refl _) _), ?_⟩
        rw [mixT_zero, tab_zero]
        exact Blk.at hs0e.symm rfl
      case round =>
        obtain ⟨j, hj, rfl, H5, G5⟩ := hrel
        by_cases hjt : j < 16
        · obtain ⟨m, hm⟩ : ∃ m, j % 4 = m := ⟨_, rfl⟩
          obtain ⟨s, hs⟩ : ∃ s, j + 4 * m = s := ⟨_, rfl⟩
          obtain ⟨p, hp⟩ : ∃ p, s % 16 = p := ⟨_, rfl⟩
          have hmI : (j : Int) % 4 = (m : Int) := by omega
          have hsI : (j : Int) + 4 * (m : Int) = (s : Int) := by omega
          have hpI : (s : Int) % 16 = (p : Int) := by omega
          have hm4 : m < 4 := by omega
          have hs32 : s < 32 := by omega
          have hp16 : p < 16 := by omega
          have c0 := H5.out.blk.cellAt p (barr_getD st p (by rw [hst]; exact hp16))
          have hbl := H5.out.blk.lt
          have HP : Hid ((j + 4 * (j % 4)) % 16 = p) := Lib.hid (by rw [hm, hs, hp])
          generalize hx : st.getD p 0 = x at c0
          have HX := Lib.hid hx
          clear hx hm hs hp
          go_wp2_with fail
          refine (boxU_any x _).mono ?_
          rintro e w' ⟨rfl, n, rfl⟩
          have f5 := (G5.out.draw n).unfrozen j
          have hg5 := G5.out.lt
          have c5 := (G5.out.draw n).cellAt j (barr_getD _ j (by rw [mixT_len]; exact hjt))
          go_wp2
          go_roundw
          case rel =>
            refine ⟨j + 1, by omega, by go_num, ?_, ?_⟩
            · exact (H5.out.below (drew_below _ n)).other (g := s0) (by omega) hs2 hb2 (Only.set (S := fun x => x = s0) (Only.refl _ _) (.inl rfl) _)
            · have h := (G5.out.draw n).set j (.int .u8 ((boxU x).toNat : Int))
              have e : mixT 16 (fun i => boxU (st.getD ((i + 4 * (i % 4)) % 16) 0)) (fun _ => 0) (j + 1) = (mixT 16 (fun i => boxU (st.getD ((i + 4 * (i % 4)) % 16) 0)) (fun _ => 0) j).set j (boxU x) := by
                rw [← mixT_succ, HP.out, HX.out]
              rw [barr_set, ← e] at h
              exact h
          case measure => simp [intOf]; omega
        · obtain rfl : j = 16 := by omega
          have g6 := G5.out
          rw [mixT_end, ← shiftB_tab] at g6
          have G6 := Lib.hid g6
          have hss : (barr (shiftB st)).size = 16 := by rw [barr_size, shiftB_len]
          have hb16 : (barr st).size = 16 := by rw [barr_size, hst]
          clear g6 G5
          go_wp2_with fail
          refine (rounds_any b k K wr H5.out.cip hk).mono ?_
          rintro e w' ⟨he, rfl⟩
          rw [HR.out] at he
          subst he
          by_cases hlt2 : r + 1 < R
          · have hle2 : decide ((r : Int) + 1 < (R : Int)) = true := by simp; omega
            go_wp2_with ((with_reducible change wpList _ _ _ (Oper.mk _ (Op.load 31 _) _ _ _ _ :: _) _ _); refine wpList_load_blk (ty := 31) s0 rfl G6.out Try.underlying31 rfl size16 hss ?_)
            refine (mixed_any (shiftB st) m2 _ (shiftB_len st) rfl).mono ?_
            rintro e w6 ⟨rfl, h6⟩
            have H6 := Lib.hid (H5.out.below h6)
            have G7 := Lib.hid (G6.out.below h6 G6.out.lt)
            clear h6
            have hsm : (barr (mixB m2 (shiftB st))).size = 16 := by rw [barr_size, mixB_len]
            have G8 := Lib.hid (G7.out.row (barr (mixB m2 (shiftB st))))
            go_wp2_with (first | ((with_reducible change wpList _ _ _ (Oper.mk _ (Op.store 31 _ _) _ _ _ _ :: _) _ _); refine wpList_store_blk (ty := 31) s0 (barr (mixB m2 (shiftB st))) rfl rfl G7.out size16 hsm hss (barr_one _) ?_) | ((with_reducible change wpList _ _ _ (Oper.mk _ (Op.load 31 _) _ _ _ _ :: _) _ _); refine wpList_load_blk (ty := 31) s0 rfl G8.out Try.underlying31 rfl size16 hsm ?_))
            have H8 := Lib.hid (H6.out.other (g := s0) (w' := w6.setRow s0 (barr (mixB m2 (shiftB st)))) (by omega) hs2 hb2 (Only.row (S := fun x => x = s0) (Only.refl _ _) (.inl rfl) _))
            refine (with_any1 b k K (mixB m2 (shiftB st)) r _ H8.out.cip (mixB_len _ _) (by omega)).mono ?_
            rintro e w7 ⟨rfl, h7⟩
            have H9 := Lib.hid (H8.out.below h7)
            clear h7
            have hs6 : (barr (withK K (mixB m2 (shiftB st)) (r + 1))).size = 16 := by rw [barr_size, withK_len]
            go_wp2_with ((with_reducible change wpList _ _ _ (Oper.mk _ (Op.store 31 _ _) _ _ _ _ :: _) _ _); refine wpList_store_blk (ty := 31) n0 (barr (withK K (mixB m2 (shiftB st)) (r + 1))) rfl rfl H9.out.blk size16 hs6 hb16 (barr_one _) ?_)
            go_roundw
            case rel =>
              refine ⟨r + 1, by omega, by go_num, ?_⟩
              have e : encS K R l (r + 1) = withK K (mixB m2 (shiftB st)) (r + 1) := by
                rw [encS, ← HST.out]
                unfold rnd mid
                rw [if_pos hlt2]
              rw [e]
              exact Lib.hid (H9.out.put hbn _)
            case measure => simp [intOf]; omega
          · have hle2 : decide ((r : Int) + 1 < (R : Int)) = false := by simp; omega
            go_wp2_with ((with_reducible change wpList _ _ _ (Oper.mk _ (Op.load 31 _) _ _ _ _ :: _) _ _); refine wpList_load_blk (ty := 31) s0 rfl G6.out Try.underlying31 rfl size16 hss ?_)
            refine (with_any1 b k K (shiftB st) r _ H5.out.cip (shiftB_len st) (by omega)).mono ?_
            rintro e w6 ⟨rfl, h6⟩
            have H6 := Lib.hid (H5.out.below h6)
            clear h6
            have hs6 : (barr (withK K (shiftB st) (r + 1))).size = 16 := by rw [barr_size, withK_len]
            go_wp2_with ((with_reducible change wpList _ _ _ (Oper.mk _ (Op.store 31 _ _) _ _ _ _ :: _) _ _); refine wpList_store_blk (ty := 31) n0 (barr (withK K (shiftB st) (r + 1))) rfl rfl H6.out.blk size16 hs6 hb16 (barr_one _) ?_)
            go_roundw
            case rel =>
              refine ⟨r + 1, by omega, by go_num, ?_⟩
              have e : encS K R l (r + 1) = withK K (shiftB st) (r + 1) := by
                rw [encS, ← HST.out]
                unfold rnd mid
                rw [if_neg hlt2]
              rw [e]
              exact Lib.hid (H6.out.put hbn _)
            case measure => simp [intOf]; omega
    · have hrR : r = R := by omega
      have hle : decide ((r : Int) + 1 ≤ (R : Int)) = false := by simp; omega
      have hb16 : (barr st).size = 16 := by rw [barr_size, hst]
      go_wp2_with (first | ((with_reducible change wpList _ _ _ (Oper.mk _ (Op.load 31 _) _ _ _ _ :: _) _ _); refine wpList_load_blk (ty := 31) n0 rfl H.out.blk Try.underlying31 rfl size16 hb16 ?_) | ((with_reducible change wpList _ _ _ (Oper.mk _ (Op.store 31 _ _) _ _ _ _ :: _) _ _); refine wpList_store_blk (ty := 31) (n0 + 1) (barr st) rfl rfl H.out.res size16 hb16 (by rw [barr_size]; rfl) (barr_one _) ?_))
      refine bodyPost_ret (results_cell2_blk rfl _ _ (n0 + 1) rfl (H.out.res.row _) Try.underlying31 rfl size16 hb16) rfl ⟨?_, ?_⟩
      · have e : enc K R l = st := by rw [enc_S, HST.out, hrR]
        rw [HR.out, e]
        rfl
      · obtain ⟨F', f1, f2, f3⟩ := HN.out
        have hF : ∀ x, F' x → x ≠ n0 ∧ x ≠ n0 + 1 := by
          intro x hx
          rcases f3 x hx with hh | hh
          · have := HGn.out x hh; omega
          · omega
        have ho : Only (fun x => x = n0 ∨ x = n0 + 1) w2 (wr.setRow (n0 + 1) (barr st)) := (H.out.only.mono (S' := fun x => x = n0 ∨ x = n0 + 1) (fun x hx => .inl hx)).row (.inl (.inr rfl)) _
        refine ⟨F', f1.keep ho (fun x hx hh => by rcases hh with hh | hh; exact (hF x hx).1 hh; exact (hF x hx).2 hh), ?_, fun x hx => (f3 x hx).imp id (fun hh => by have := HB0.out.size; omega)⟩
        refine ((Only.of_below HB0.out G).trans f2 (fun x hx => .inl hx)).trans ho (fun x hx => .inr ?_)
        have := HN0.out
        rcases hx with hx | hx <;> omega
end Go.Proofs.Ytpampcokonicfaa
/- The contract of package aes: Decrypt. Conditions: a block has sixteen bytes; room for one event more. -/
namespace Go.Proofs.Ytpampcokonicfaa
open Go.RowKit
set_option maxRecDepth 100000
set_option linter.unusedVariables false
set_option linter.unusedSimpArgs false

theorem EncW.set {n0 b k : Nat} {K st : List UInt8} {w2 w1 : World} (h : EncW n0 b k K st w2 w1) (hb : b ≠ n0) (p : Nat) (y : UInt8) : EncW n0 b k K (st.set p y) w2 (w1.setCell ⟨n0, p, none⟩ (.int .u8 (y.toNat : Int))) :=
  ⟨by rw [← barr_set]; exact h.blk.set p _, h.res.set_ne (by simp) _, ⟨h.cip.1.set_ne hb _, h.cip.2⟩, h.only.set (.inl rfl) _⟩
end Go.Proofs.Ytpampcokonicfaa
/- The contracts of package aes: New, KeyLen, Form, Clone, Wipe. -/
namespace Go.Proofs.Ytpampcokonicfaa
open Go.RowKit
set_option maxRecDepth 100000
set_option linter.unusedVariables false
set_option linter.unusedSimpArgs false

theorem over_list (off : Nat) : ∀ (vs a b : List Value) (n : Nat), a.length = off + n → vs.length = b.length → (vs.zipIdx n).foldl (fun (cs : Array Value) (p : Value × Nat) => cs.setIfInBounds (off + p.2) p.1) (a ++ b).toArray = (a ++ vs).toArray
  | [], a, [], n, _, _ => by simp
  | v :: vs, a, y :: b, n, h, h2 => by
    rw [List.zipIdx_cons, List.foldl_cons]
    have e : (a ++ y :: b).toArray.setIfInBounds (off + n) v = ((a ++ [v]) ++ b).toArray := by
      rw [List.setIfInBounds_toArray, ← h, List.set_append_right _ _ (Nat.le_refl _), Nat.sub_self, List.set_cons_zero, List.append_assoc]
      rfl
    have := over_list off vs (a ++ [v]) b (n + 1) (by simp; omega) (by simpa using h2)
    simp only [e]
    rw [this, List.append_assoc]
    rfl
  | [], a, y :: b, n, _, h2 => by simp at h2
  | v :: vs, a, [], n, _, h2 => by simp at h2
theorem built_cip (k : Nat) (S : List UInt8) (hS : S.length = 240) : Try.prog.built 85 [(0, .int .i64 (k : Int)), (1, .agg (barr S))] = some (cipC k S) := by
  have h : ∀ parts, Try.prog.built 85 parts = Instr.fill (#[((0 : Nat), (1 : Nat)), (1, 240)][·]?) (cipC 0 (List.replicate 240 0)) parts := by intro parts; kernel_rfl
  rw [h]
  have h0 : (cipC 0 (List.replicate 240 0)).setIfInBounds 0 (.int .i64 (k : Int)) = ([Value.int .i64 (k : Int)] ++ (List.replicate 240 (0 : UInt8)).map B).toArray := by
    unfold cipC
    rw [List.setIfInBounds_toArray, List.set_cons_zero]
    rfl
  have e1 : (Value.int .i64 (k : Int)).cells = #[.int .i64 (k : Int)] := rfl
  have e2 : (Value.agg (barr S)).cells = barr S := rfl
  have s0 : (cipC 0 (List.replicate 240 0)).size = 241 := by rw [cipC_size]; simp
  have s1 : ((cipC 0 (List.replicate 240 0)).setIfInBounds 0 (.int .i64 (k : Int))).size = 241 := by rw [Array.size_setIfInBounds, s0]
  have f1 : (#[Value.int .i64 (k : Int)] : Array Value).zipIdx.foldl (fun cs x => cs.setIfInBounds (0 + x.snd) x.fst) (cipC 0 (List.replicate 240 0)) = (cipC 0 (List.replicate 240 0)).setIfInBounds 0 (.int .i64 (k : Int)) := by simp
  have f2 : (barr S).zipIdx.foldl (fun cs x => cs.setIfInBounds (1 + x.snd) x.fst) ((cipC 0 (List.replicate 240 0)).setIfInBounds 0 (.int .i64 (k : Int))) = cipC k S := by
    rw [h0, ← Array.foldl_toList, Array.toList_zipIdx, barr_toList]
    exact over_list 1 (S.map B) [Value.int .i64 (k : Int)] ((List.replicate 240 (0 : UInt8)).map B) 0 rfl (by rw [List.length_map, List.length_map, hS, List.length_replicate])
  simp only [Instr.fill, e1, e2, show (#[((0 : Nat), (1 : Nat)), (1, 240)] : Array (Nat × Nat))[0]? = some (0, 1) from rfl, show (#[((0 : Nat), (1 : Nat)), (1, 240)] : Array (Nat × Nat))[1]? = some (1, 240) from rfl]
  rw [f1, s0, s1, barr_size, hS, f2]
  rfl
theorem wpList_build_as {P : Program} {ops : Array Oper} {rest : List Oper} {a : Act} {w : World} {Q : Exit → Act → World → Prop} {d : Option Tmp} {t ot : TypeId} {parts : Array (Nat × Operand)} {pos : String} {aft : Array Edge} (cells : Array Value) (ps : List (Nat × Value))
    (hp : (parts.map fun (i, x) => (i, a.eval x)).toList = ps) (hb : P.built t ps = some cells) (kk : wpList P ops Q rest (a.put d (.agg cells)) w) : wpList P ops Q (⟨d, .build t parts, ot, pos, aft, none⟩ :: rest) a w := by
  refine wpList_build rfl t parts rfl (by rw [hp, hb]; rfl) ?_
  rw [hp, hb]
  exact kk
theorem wpList_build2_as {P : Program} {ops : Array Oper} {rest : List Oper} {a : Act} {w : World} {Q : Exit → Act → World → Prop} {d : Option Tmp} {t ot : TypeId} {i0 i1 : Nat} {x0 x1 : Operand} {pos : String} {aft : Array Edge} (cells : Array Value) (v0 v1 : Value)
    (h0 : a.eval x0 = v0) (h1 : a.eval x1 = v1) (hb : P.built t [(i0, v0), (i1, v1)] = some cells) (kk : wpList P ops Q rest (a.put d (.agg cells)) w) : wpList P ops Q (⟨d, .build t #[(i0, x0), (i1, x1)], ot, pos, aft, none⟩ :: rest) a w :=
  wpList_build_as cells [(i0, v0), (i1, v1)] (by simp [h0, h1]) hb kk
set_option maxHeartbeats 1000000 in
theorem newC_off (q u : Value) (key : List UInt8) (w : World) (hu : Bs w u key) (hk : ¬ key.length = 16 ∧ ¬ key.length = 24 ∧ ¬ key.length = 32) :
    Calls Try.prog 11 #[q, u] w fun e w' => e = .returned (.tuple #[.pointer none, .int .i64 7]) ∧ w = w' := by
  obtain ⟨ao, cap, rfl, h1, h2, _, _⟩ := hu.form
  have hla : key.length ≤ 9223372036854775807 := by omega
  obtain ⟨n, hn⟩ : ∃ n, key.length = n := ⟨_, rfl⟩
  rw [hn] at hk hla
  have b1 : ((n : Int) != 16) = true := by simp; omega
  have b2 : ((n : Int) != 24) = true := by simp; omega
  have b3 : ((n : Int) != 32) = true := by simp; omega
  rw [hn]
  clear hu hk hn h1
  go_enter Try.func11, Try.ntmps11
  go_wp2
  go_ret2
  exact ⟨rfl, rfl⟩
def RightLen (n : Nat) : Prop := n = 16 ∨ n = 24 ∨ n = 32
set_option maxHeartbeats 2000000 in
theorem newC_any (q u : Value) (G : Nat → Prop) (o : Option (List Rn)) (key : List UInt8) (w : World) (hq : LgP w q G o) (hb : Room o 1) (hu : Bs w u key) (hd : key ≠ [] → ∀ x, u.ownBlock = some x → ¬ G x) (hk : RightLen key.length) :
    Calls Try.prog 11 #[q, u] w fun e w' => ∃ w1 n, LaidP q G (noteO o 4 key.length 1) w w1 ∧ e = .returned (.tuple #[.pointer (some ⟨n, 0, none⟩), .int .i64 0]) ∧ CipAt w' n key.length (sched key) ∧ Below w1.heap.size w1 w' ∧ w1.heap.size ≤ n := by
  have HU := Lib.hid hu
  have HQ := Lib.hid hq
  have HD := Lib.hid hd
  obtain ⟨ao, cap, rfl, h1, h2, _, _⟩ := hu.form
  have hla : key.length ≤ 9223372036854775807 := by omega
  obtain ⟨k, hk4, hkk⟩ : ∃ k, key.length = 4 * k ∧ (k = 4 ∨ k = 6 ∨ k = 8) := by
    rcases hk with h | h | h
    · exact ⟨4, h, .inl rfl⟩
    · exact ⟨6, h, .inr (.inl rfl)⟩
    · exact ⟨8, h, .inr (.inr rfl)⟩
  have HK := Lib.hid (And.intro hk4 hkk)
  obtain ⟨n, hn⟩ : ∃ n, key.length = n := ⟨_, rfl⟩
  have hbs : ((n : Int) != 16) = false ∨ (((n : Int) != 16) = true ∧ ((n : Int) != 24) = false) ∨ (((n : Int) != 16) = true ∧ ((n : Int) != 24) = true ∧ ((n : Int) != 32) = false) := by
    rw [hn] at hk
    rcases hk with rfl | rfl | rfl
    · left; rfl
    · right; left; exact ⟨rfl, rfl⟩
    · right; right; exact ⟨rfl, rfl, rfl⟩
  have hn32 : n ≤ 32 := by rw [← hn]; rcases hk with h | h | h <;> omega
  have HN := Lib.hid hn
  rw [hn]
  rw [hn] at HU HD hla h1
  clear hu hq hd hk hk4 hkk hn
  go_enter Try.func11, Try.ntmps11
  have hS : (sched key).length = 240 := sched_len key (by rw [HN.out]; omega)
  rcases hbs with b1 | ⟨b1, b2⟩ | ⟨b1, b2, b3⟩
  all_goals
    go_wp2_with fail
    refine (gnoteP_any q G o 4 n w HQ.out hb).mono ?_
    rintro e w1 ⟨rfl, hl⟩
    have HL := Lib.hid hl
    have U1 := Lib.hid (HU.out.only' hl.only HD.out)
    clear hl
    go_wp2_with fail
    refine (expanded_any _ key (n / 4) w1 U1.out (by have h1 := HK.out; have h2 := HN.out; omega) (by have h1 := HK.out; have h2 := HN.out; omega)).mono ?_
    rintro e w2 ⟨rfl, hb2⟩
    have HB2 := Lib.hid hb2
    clear hb2
    go_wp2_with ((with_reducible change wpList _ _ _ (Oper.mk _ (Op.build 85 _) _ _ _ _ :: _) _ _); refine wpList_build2_as (cipC n (sched key)) (.int .i64 (n : Int)) (.agg (barr (sched key))) rfl rfl (built_cip n (sched key) hS) ?_)
    go_ret2
    exact ⟨w1, w2.heap.size, HL.out, rfl, ⟨Blk.new _ _ _, hS⟩, HB2.out.alloc HB2.out.size _, HB2.out.size⟩
end Go.Proofs.Ytpampcokonicfaa
/- A region that draws its order, walked by a script: each operation is either taken first (it yields one value in whatever world, and stands apart from all that is left), or it is the only one that may come. No program in sight. -/
namespace Go.Proofs.Ytpampcokonicfaa
open Go
section
variable {P : Program} {ops : Array Oper} {md : Region.Mode} {Q : Exit → Act → World → Prop}
def scriptB (md : Region.Mode) (ops : Array Oper) : List (Nat × Bool) → Array Bool → Bool
  | [], listed => (Region.ready md ops listed).isEmpty
  | (i, true) :: r, listed => (Region.ready md ops listed).contains i && Region.free md ops listed i && scriptB md ops r (listed.setIfInBounds i true)
  | (i, false) :: r, listed => decide (Region.ready md ops listed = [i]) && scriptB md ops r (listed.setIfInBounds i true)
def wpScript (P : Program) (ops : Array Oper) (Q : Exit → Act → World → Prop) : List (Nat × Bool) → Act → World → Prop
  | [], a, w => wpList P ops Q [] a w
  | (i, true) :: r, a, w => ∃ o v, ops[i]? = some o ∧ Yields P ops o v a ∧ wpScript P ops Q r (a.put o.dst v) w
  | (i, false) :: r, a, w => ∃ o, ops[i]? = some o ∧ ((Region.wanted o (yielded ops a.tmps) = true ∧ o.wp P a w (wpScript P ops Q r) Q) ∨ (Region.wanted o (yielded ops a.tmps) = false ∧ wpScript P ops Q r (a.put o.dst undef) w))
theorem wpAny_script (hsel : Region.noSelect ops = true) (hQ : ∀ c (a : Act) (d : Option Tmp) (v : Value) w, Q (.panic c) (a.put d v) w → Q (.panic c) a w) :
    ∀ (s : List (Nat × Bool)) (listed : Array Bool) (a : Act) (w : World), scriptB md ops s listed = true → wpScript P ops Q s a w → wpAny P md ops Q s.length listed a w
  | [], listed, a, w, hB, h => ⟨by simpa [scriptB] using hB, h⟩
  | (i, true) :: r, listed, a, w, hB, h => by
    simp only [scriptB, Bool.and_eq_true] at hB
    obtain ⟨⟨hr, hf⟩, hB'⟩ := hB
    obtain ⟨o, v, ho, hy, hK⟩ := h
    exact wpAny_take ho hsel hf hr (fun c a w => hQ c a _ v w) hy (wpAny_script hsel hQ r _ _ w hB' hK)
  | (i, false) :: r, listed, a, w, hB, h => by
    simp only [scriptB, Bool.and_eq_true, decide_eq_true_eq] at hB
    obtain ⟨hr, hB'⟩ := hB
    obtain ⟨o, ho, h⟩ := h
    refine ⟨fun h0 => (by rw [hr] at h0; cases h0), fun j hj => ?_⟩
    rw [hr] at hj
    obtain rfl : j = i := by simpa using hj
    unfold Go.wpOp
    simp only [ho]
    rcases h with ⟨hw, h⟩ | ⟨hw, h⟩
    · simp only [hw, if_true]
      exact .inl (Oper.wp_mono (fun a2 w2 h2 => wpAny_script hsel hQ r _ a2 w2 hB' h2) h)
    · simp only [hw, Bool.false_eq_true, if_false]
      exact wpAny_script hsel hQ r _ _ w hB' h
theorem wp_region_script {id : Nat} {a : Act} {w : World} {l : List Oper} (s : List (Nat × Bool)) (hm : P.follows .mixedOrders = true) (hB : (Region.noSelect l.toArray && decide (s.length = l.toArray.size) && scriptB .any l.toArray s (Array.replicate l.toArray.size false)) = true)
    (hQ : ∀ c (a : Act) (d : Option Tmp) (v : Value) w, Q (.panic c) (a.put d v) w → Q (.panic c) a w)
    (h : ∀ w', w' = w.drewN 1 → wpScript P l.toArray Q s a w') : (Code.region id l.toArray true).wp P Q a w := by
  simp only [Bool.and_eq_true, decide_eq_true_eq] at hB
  obtain ⟨⟨hsel, hl⟩, hB⟩ := hB
  refine wp_region_any hm ?_
  have := wpAny_script (md := .any) hsel hQ s _ a _ hB (h _ rfl)
  rw [hl] at this
  exact this

variable {r : List (Nat × Bool)} {a : Act} {w : World} {o : Oper} {i : Nat} {v : Value}
theorem scr_pure (ho : ops[i]? = some o) (hw : Region.wanted o (yielded ops a.tmps) = true) (h : ∀ w, (execOp a.eval o).run P w = .ok (.value v) w) (kk : wpScript P ops Q r (a.put o.dst v) w) : wpScript P ops Q ((i, true) :: r) a w := ⟨o, v, ho, .inl ⟨hw, h⟩, kk⟩
theorem scr_off (ho : ops[i]? = some o) (hw : Region.wanted o (yielded ops a.tmps) = false) (kk : wpScript P ops Q r (a.put o.dst undef) w) : wpScript P ops Q ((i, true) :: r) a w := ⟨o, undef, ho, .inr ⟨hw, rfl⟩, kk⟩
theorem scr_off1 (ho : ops[i]? = some o) (hw : Region.wanted o (yielded ops a.tmps) = false) (kk : wpScript P ops Q r (a.put o.dst undef) w) : wpScript P ops Q ((i, false) :: r) a w := ⟨o, ho, .inr ⟨hw, kk⟩⟩
theorem scr_call {f : FuncId} {args : Array Value} (ho : ops[i]? = some o) (hw : Region.wanted o (yielded ops a.tmps) = true) (h : (execOp a.eval o).run P w = .ok (.enter f args) w)
    (hc : Calls P f args w fun e w'' => ∃ v, e = .returned v ∧ wpScript P ops Q r (a.put o.dst v) w'') : wpScript P ops Q ((i, false) :: r) a w := ⟨o, ho, .inl ⟨hw, wp_mid_call h hc⟩⟩
theorem scr_run {w' : World} (ho : ops[i]? = some o) (hw : Region.wanted o (yielded ops a.tmps) = true) (h : (execOp a.eval o).run P w = .ok (.value v) w') (kk : wpScript P ops Q r (a.put o.dst v) w') : wpScript P ops Q ((i, false) :: r) a w := ⟨o, ho, .inl ⟨hw, by unfold Oper.wp; rw [h]; exact kk⟩⟩
theorem scr_skip {w' : World} (ho : ops[i]? = some o) (hw : Region.wanted o (yielded ops a.tmps) = true) (h : (execOp a.eval o).run P w = .ok .skip w') (kk : wpScript P ops Q r (a.put o.dst undef) w') : wpScript P ops Q ((i, false) :: r) a w := ⟨o, ho, .inl ⟨hw, by unfold Oper.wp; rw [h]; exact kk⟩⟩
end
end Go.Proofs.Ytpampcokonicfaa
/- The contracts of package aes: KeyLen, Form, Clone, Wipe. -/
namespace Go.Proofs.Ytpampcokonicfaa
open Go.RowKit
set_option maxRecDepth 100000
set_option linter.unusedVariables false
set_option linter.unusedSimpArgs false
set_option linter.unusedSimpArgs false

theorem size241 : (Try.prog.info? 85).map (·.size) = some 241 := by kernel_rfl
theorem zero241 (w : World) : (zeroValue 85).run Try.prog w = .ok (.agg (cipC 0 (List.replicate 240 0))) w := by kernel_rfl
theorem cipC241 (k : Nat) (K : List UInt8) (h : K.length = 240) : (cipC k K).size = 241 := by rw [cipC_size, h]
theorem clone_no (p : Value) (w : World) (hm : Calls Try.prog 43 #[p] w fun e w' => e = .returned (.bool false) ∧ w = w') :
    Calls Try.prog 50 #[p] w fun e w' => e = .returned (.tuple #[.pointer none, .int .i64 1]) ∧ w = w' := by
  have HM := Lib.hid hm
  clear hm
  go_enter Try.func50, Try.ntmps50
  go_wp2_with fail
  refine HM.out.mono ?_
  rintro e w' ⟨rfl, rfl⟩
  go_wp2
  go_ret2
  exact ⟨rfl, rfl⟩
set_option maxHeartbeats 1000000 in
theorem clone_any (b k : Nat) (K : List UInt8) (w : World) (h : CipAt w b k K) (hk : 0 < k) :
    Calls Try.prog 50 #[.pointer (some ⟨b, 0, none⟩)] w fun e w' => e = .returned (.tuple #[.pointer (some ⟨w.heap.size, 0, none⟩), .int .i64 0]) ∧ CipAt w' w.heap.size k K ∧ Below w.heap.size w w' := by
  have H := Lib.hid h
  have hb := h.lt
  have hs := cipC241 k K h.2
  have hone := cipC_one k K
  have hz := zero241
  have hzs := cipC241 0 (List.replicate 240 0) (by simp)
  obtain ⟨C, hC⟩ : ∃ C, C = cipC k K := ⟨_, rfl⟩
  rw [← hC] at hs hone
  have HC := Lib.hid hC
  have G : Hid (Blk w b 85 C) := by rw [hC]; exact Lib.hid h.1
  clear hC
  generalize hZ : cipC 0 (List.replicate 240 0) = Z at hz hzs
  clear hZ h
  go_enter Try.func50, Try.ntmps50
  go_wp2_with fail
  refine (cmade_any b k K w H.out).mono ?_
  rintro e w' ⟨he, rfl⟩
  rw [show decide (0 < k) = true from by simpa using hk] at he
  subst he
  have b1 : Blk (w.alloc (.cells Z 85)) w.heap.size 85 Z := Blk.new _ _ _
  go_wp2_with (first | ((with_reducible change wpList _ _ _ (Oper.mk _ (Op.load 85 _) _ _ _ _ :: _) _ _); refine wpList_load_blk (ty := 85) b rfl G.out Try.underlying85 rfl size241 hs ?_) | ((with_reducible change wpList _ _ _ (Oper.mk _ (Op.store 85 _ _) _ _ _ _ :: _) _ _); refine wpList_store_blk (ty := 85) w.heap.size C rfl rfl b1 size241 hs hzs hone ?_))
  go_ret2
  refine ⟨rfl, ⟨?_, H.out.2⟩, below_row ((Below.refl _ _).alloc (Nat.le_refl _) _) (Nat.le_refl _) _⟩
  rw [← HC.out]
  exact b1.row _
set_option maxHeartbeats 1000000 in
theorem wipe_no (p q : Value) (w : World) (hm : Calls Try.prog 43 #[p] w fun e w' => e = .returned (.bool false) ∧ w = w') :
    Calls Try.prog 51 #[p, q] w fun e w' => e = .returned (.int .i64 1) ∧ w = w' := by
  have HM := Lib.hid hm
  clear hm
  go_enter Try.func51, Try.ntmps51
  go_wp2_with fail
  refine HM.out.mono ?_
  rintro e w' ⟨rfl, rfl⟩
  go_wp2
  go_ret
  exact ⟨rfl, rfl⟩
def zeroK : List UInt8 := List.replicate 240 0
theorem zeroK_len : zeroK.length = 240 := by simp [zeroK]
set_option maxHeartbeats 1000000 in
theorem cwipe_any (b k : Nat) (K : List UInt8) (q : Value) (G : Nat → Prop) (o : Option (List Rn)) (w : World) (h : CipAt w b k K) (hk0 : 0 < k) (hk : k ≤ 32) (hq : LgP w q G o) (hr : Room o 1) (hG : ¬ G b) :
    Calls Try.prog 51 #[.pointer (some ⟨b, 0, none⟩), q] w fun e w' => e = .returned (.int .i64 0) ∧ ∃ w1, LaidP q G (noteO o 8 ((16 * (k / 4 + 6 + 1) : Nat) : Int) 1) w w1 ∧ CipAt w' b 0 zeroK ∧ Only (fun x => x = b) w1 w' := by
  have H := Lib.hid h
  have HQ := Lib.hid hq
  obtain ⟨R, hR⟩ : ∃ R, k / 4 + 6 = R := ⟨_, rfl⟩
  have hR14 : R ≤ 14 := by omega
  have hz := zero241
  have hzs := cipC241 0 (List.replicate 240 0) (by simp)
  have hzo := cipC_one 0 (List.replicate 240 0)
  obtain ⟨Z, hZ⟩ : ∃ Z, Z = cipC 0 (List.replicate 240 0) := ⟨_, rfl⟩
  rw [← hZ] at hz hzs hzo
  have HZ := Lib.hid hZ
  have hs := cipC241 k K h.2
  have hmul : 16 * ((R : Int) + 1) = ((16 * (R + 1) : Nat) : Int) := by omega
  have HMUL := Lib.hid hmul
  have HR := Lib.hid hR
  have hne : ¬ Z = #[] := by intro hh; rw [hh] at hzs; simp at hzs
  clear h hq hZ hR hmul
  go_enter Try.func51, Try.ntmps51
  go_wp2_with fail
  refine (cmade_any b k K w H.out).mono ?_
  rintro e w' ⟨he, rfl⟩
  rw [show decide (0 < k) = true from by simpa using hk0] at he
  subst he
  go_wp2_with fail
  refine (rounds_any b k K w H.out hk).mono ?_
  rintro e w' ⟨he, rfl⟩
  rw [HR.out] at he
  subst he
  go_wp2_with fail
  refine (gnoteP_any q G o 8 (16 * ((R : Int) + 1)) w HQ.out hr).mono ?_
  rintro e w2 ⟨rfl, hl⟩
  have HL := Lib.hid hl
  have H2 := Lib.hid (H.out.only hl.only hG)
  have hb2 := H2.out.lt
  clear hl
  go_wp2_with ((with_reducible change wpList _ _ _ (Oper.mk _ (Op.store 85 _ _) _ _ _ _ :: _) _ _); refine wpList_store_blk (ty := 85) b Z rfl rfl H2.out.1 size241 hzs hs hzo ?_)
  go_ret
  refine ⟨rfl, w2, ?_, ⟨?_, zeroK_len⟩, Only.row (S := fun x => x = b) (Only.refl _ _) (.inl rfl) _⟩
  · rw [HR.out, ← HMUL.out]
    exact HL.out
  · have := H2.out.1.row Z
    rw [HZ.out] at this ⊢
    exact this
theorem form_no (p : Value) (w : World) (hm : Calls Try.prog 43 #[p] w fun e w' => e = .returned (.bool false) ∧ w = w') :
    Calls Try.prog 14 #[p] w fun e w' => e = .returned (.slice none 0 0) ∧ w = w' := by
  have HM := Lib.hid hm
  clear hm
  go_enter Try.func14, Try.ntmps14
  go_wp2_with fail
  refine HM.out.mono ?_
  rintro e w' ⟨rfl, rfl⟩
  go_wp2
  go_ret
  exact ⟨rfl, rfl⟩
set_option maxHeartbeats 2000000 in
theorem form_any (b k : Nat) (K : List UInt8) (w : World) (h : CipAt w b k K) (hk0 : 0 < k) (hk : k ≤ 32) :
    Calls Try.prog 14 #[.pointer (some ⟨b, 0, none⟩)] w (NewBytes (K.take (16 * (k / 4 + 6 + 1))) w) := by
  have H := Lib.hid h
  obtain ⟨R, hR⟩ : ∃ R, k / 4 + 6 = R := ⟨_, rfl⟩
  have hR14 : R ≤ 14 := by omega
  rw [hR]
  have HR := Lib.hid hR
  have hKl := h.2
  have hb := h.lt
  clear h hR
  go_enter Try.func14, Try.ntmps14
  go_wp2_with fail
  refine (cmade_any b k K w H.out).mono ?_
  rintro e w' ⟨he, rfl⟩
  rw [show decide (0 < k) = true from by simpa using hk0] at he
  subst he
  have hsl : ∀ w', (Instr.sliceAt 82 (.pointer (some ⟨b, 1, none⟩)) none (some (.int .i64 ((R : Int) + 1))) none).run Try.prog w' = .ok (.slice (some ⟨b, 1, none⟩) (R + 1) 15) w' := fun w' => by
    have hal : Try.prog.arrayLen 82 = 15 := by kernel_rfl
    rw [run_sliceAt_array_h w' 82 ⟨b, 1, none⟩ (by simp [Program.arrayLen, Program.elem, Try.underlying82]) .i64 ((R : Int) + 1) (by omega) (by rw [hal]; omega)]
    have hsz : (sizeOf (Try.prog.elem 82)).run Try.prog w' = .ok 16 w' := by kernel_rfl
    rw [hsz, Result.andThen_ok, hal]
    unfold slicedAt
    rw [if_neg (by omega), add_lit, show ((R : Int) + 1).toNat = R + 1 from by omega]
    simp
  have hW1 : IntKind.i64.wrap ((R : Int) + 1) = (R : Int) + 1 := IntWalk.i64_in _ (by omega)
  go_wp2_with fail
  refine wp_region_script [(0, true), (1, true), (2, true), (3, true), (8, true), (4, false), (5, true), (6, true), (7, true)] (by kernel_rfl) (by kernel_rfl) (fun _ _ d _ _ h => (by cases d <;> exact h)) ?_
  intro w5 hw'
  refine scr_pure (v := ?_) rfl rfl (fun w' => ?_) ?_
  rotate_left
  focus (go_simp; try rfl; done)
  simp only [List.getElem_toArray, List.getElem_cons_succ, List.getElem_cons_zero, Act.put, List.setIfInBounds_toArray, List.set_cons_zero, List.set_cons_succ]
  refine scr_pure (v := ?_) rfl rfl (fun w' => ?_) ?_
  rotate_left
  focus (go_simp; try rfl; done)
  simp only [List.getElem_toArray, List.getElem_cons_succ, List.getElem_cons_zero, Act.put, List.setIfInBounds_toArray, List.set_cons_zero, List.set_cons_succ]
  refine scr_pure (v := ?_) rfl rfl (fun w' => ?_) ?_
  rotate_left
  focus (go_simp; try rfl; done)
  simp only [List.getElem_toArray, List.getElem_cons_succ, List.getElem_cons_zero, Act.put, List.setIfInBounds_toArray, List.set_cons_zero, List.set_cons_succ]
  refine scr_pure (v := ?_) rfl rfl (fun w' => ?_) ?_
  rotate_left
  focus (go_simp; try rfl; done)
  simp only [List.getElem_toArray, List.getElem_cons_succ, List.getElem_cons_zero, Act.put, List.setIfInBounds_toArray, List.set_cons_zero, List.set_cons_succ]
  refine scr_pure (v := ?_) rfl rfl (fun w' => ?_) ?_
  rotate_left
  focus (go_simp; try rfl; done)
  simp only [List.getElem_toArray, List.getElem_cons_succ, List.getElem_cons_zero, Act.put, List.setIfInBounds_toArray, List.set_cons_zero, List.set_cons_succ]
  have H5 : Hid (CipAt w5 b k K) := by rw [hw']; exact Lib.hid (H.out.below (drew_below w 1))
  have hb5 : Hid (Below w.heap.size w w5) := by rw [hw']; exact Lib.hid (drew_below w 1)
  clear hw'
  refine scr_call rfl rfl (by go_simp; first | exact ⟨rfl, rfl⟩ | rfl) ?_
  refine (rounds_any b k K w5 H5.out hk).mono ?_
  rintro e w6 ⟨he, hww⟩
  rw [HR.out] at he
  subst he
  subst hww
  refine ⟨_, rfl, ?_⟩
  simp only [List.getElem_toArray, List.getElem_cons_succ, List.getElem_cons_zero, Act.put, List.setIfInBounds_toArray, List.set_cons_zero, List.set_cons_succ]
  refine scr_pure (v := ?_) rfl rfl (fun w' => ?_) ?_
  rotate_left
  focus (go_simp; try rfl; done)
  simp only [List.getElem_toArray, List.getElem_cons_succ, List.getElem_cons_zero, Act.put, List.setIfInBounds_toArray, List.set_cons_zero, List.set_cons_succ]
  refine scr_pure (v := ?_) rfl rfl (fun w' => ?_) ?_
  rotate_left
  focus (go_simp; try rfl; done)
  simp only [List.getElem_toArray, List.getElem_cons_succ, List.getElem_cons_zero, Act.put, List.setIfInBounds_toArray, List.set_cons_zero, List.set_cons_succ]
  refine scr_pure (v := ?_) rfl rfl (fun w' => ?_) ?_
  rotate_left
  focus (go_simp; try rfl; done)
  simp only [List.getElem_toArray, List.getElem_cons_succ, List.getElem_cons_zero, Act.put, List.setIfInBounds_toArray, List.set_cons_zero, List.set_cons_succ]
  unfold wpScript
  go_wp2_with fail
  go_loopw [3, 17] (fun v i w1 => ∃ j : Nat, j ≤ R + 1 ∧ i = .int .i64 (j : Int) ∧ Hid (OB w1 v (K.take (16 * j)) ∧ Below w.heap.size w w1 ∧ (∀ x, fpv v x → w.heap.size ≤ x))) (fun _ i _ => R + 1 - (intOf i).toNat)
  case atStart => exact ⟨0, by omega, rfl, Lib.hid ⟨by rw [show 16 * 0 = 0 from rfl, List.take_zero]; exact OB.nil w5, hb5.out, fun x hx => by simp [fpv, Value.ownBlock] at hx⟩⟩
  case round =>
    obtain ⟨j, hj, rfl, HV⟩ := hrel
    by_cases hlt : j < R + 1
    · have HC := Lib.hid (H.out.below HV.out.2.1)
      obtain ⟨X, hX⟩ : ∃ X, X = (K.drop (16 * j)).take 16 := ⟨_, rfl⟩
      have hXl : X.length = 16 := by rw [hX]; simp; omega
      have rng := HC.out.round j (by omega)
      rw [← hX] at rng
      have RNG := Lib.hid rng
      have hXm : (X.map B).length = 16 := by rw [List.length_map]; exact hXl
      have hXs : (barr X).size = 16 := by rw [barr_size]; exact hXl
      have hz16 : (barr (List.replicate 16 (0 : UInt8))).size = 16 := by rw [barr_size]; rfl
      have b0 : Blk (wr.alloc (.cells (barr (List.replicate 16 0)) 31)) wr.heap.size 31 (barr (List.replicate 16 0)) := Blk.new _ _ _
      have hKt : (K.take (16 * j)).length = 16 * j := by rw [List.length_take]; omega
      have HX := Lib.hid hX
      clear rng hX
      obtain ⟨i0, hi, hz0, hz1, hz2⟩ := info_parts info8
      have hsl2 : ∀ w', (Instr.sliceAt 31 (.pointer (some ⟨wr.heap.size, 0, none⟩)) none none none).run Try.prog w' = .ok (.slice (some ⟨wr.heap.size, 0, none⟩) 16 16) w' := fun w' => by
        have hal : Try.prog.arrayLen 31 = 16 := by kernel_rfl
        rw [run_sliceAt_array_all w' 31 ⟨wr.heap.size, 0, none⟩ (by simp [Program.arrayLen, Program.elem, Try.underlying31])]
        have hsz : (sizeOf (Try.prog.elem 31)).run Try.prog w' = .ok 1 w' := by kernel_rfl
        rw [hsz, Result.andThen_ok, hal]
        unfold slicedAt
        rw [if_neg (by omega), add_lit]
      obtain ⟨v, hv⟩ : ∃ v, v = u3 := ⟨_, rfl⟩
      go_wp2_with (first | ((with_reducible change wpList _ _ _ (Oper.mk _ (Op.load 31 _) _ _ _ _ :: _) _ _); refine wpList_load_mid rfl 31 _ rfl b (1 + j * 16) rfl (X.map B) _ RNG.out Try.underlying31 rfl (size16.trans (by rw [hXm])) ?_) | ((with_reducible change wpList _ _ _ (Oper.mk _ (Op.store 31 _ _) _ _ _ _ :: _) _ _); refine wpList_store_var wr.heap.size (barr X) rfl rfl b0 size16 hXs hz16 (barr_one _) ?_; intro w3 B3 O3; have HB3 := Lib.hid B3; have O4 := Lib.hid O3; clear B3 O3; have hown3 : w3.ownsRow 0 5 1 u3 (16 * j) ((K.take (16 * j)).map B) := (by have h := (HV.out.1.keep ((Only.refl (fun _ => False) wr).alloc (.cells (barr (List.replicate 16 0)) 31)) (fun _ _ h => h)).keep O4.out (fun x hx hh => by have := HV.out.1.lt x hx; omega); unfold OB at h; rw [hKt] at h; exact h); have hy3 : Sl w3 1 (.slice (some ⟨wr.heap.size, 0, none⟩) 16 16) 16 (X.map B) := (by have h := (HB3.out.owns (by omega)).rd; rw [hXl] at h; have h2 := Sl.of_bytes h; rw [hXl] at h2; exact h2)) | (at_builtin; refine wpList_append_sl w3 rfl _ _ 22 rfl 5 i0 _ 1 1 Try.underlying22 hi hz0 hz1 hz2 rfl (by decide) u3 (16 * j) ((K.take (16 * j)).map B) rfl hown3 (.slice (some ⟨wr.heap.size, 0, none⟩) 16 16) 16 (X.map B) rfl hy3 (by unfold maxLen; omega) (by omega) ?_))
      intro v' w4 hown hgrow hat _
      have hb3 : Below w.heap.size w w3 := (HV.out.2.1.alloc HV.out.2.1.size _).trans (O4.out.below0 (fun x hx hh => by have := HV.out.2.1.size; omega) (by have := HV.out.2.1.size; simp; omega))
      have HN : Hid (OB w4 v' (K.take (16 * (j + 1))) ∧ Below w.heap.size w w4 ∧ (∀ x, fpv v' x → w.heap.size ≤ x)) := by
        refine Lib.hid ⟨?_, hb3.grown hgrow hb3.size (fun x hx => HV.out.2.2 x hx), fun x hx => ?_⟩
        · unfold OB
          rw [show 16 * (j + 1) = 16 * j + 16 from by omega, List.take_add, ← HX.out, List.length_append, hKt, hXl, List.map_append]
          rw [← List.map_take] at hown
          exact hown
        · have hx' : v'.ownBlock = some x := hx
          rcases hat with hat | hat
          · exact HV.out.2.2 x (show u3.ownBlock = some x by rw [← hat]; exact hx')
          · rw [hat] at hx'
            have := hb3.size
            simp at hx'
            omega
      clear hown hgrow hat hb3 hown3 hy3 hi hz0 hz1 hz2
      go_wp2
      go_roundw
      case rel => exact ⟨j + 1, by omega, by go_num, HN⟩
      case measure => simp [intOf]; omega
    · obtain rfl : j = R + 1 := by omega
      go_wp2
      go_ret
      exact ⟨_, rfl, HV.out.1, HV.out.2.1, HV.out.2.2⟩
end Go.Proofs.Ytpampcokonicfaa
/- The contract of Ledger.Reset; runs that are written in the text. -/
namespace Go.Proofs.Ytpampcokonicfaa
open Go.RowKit
set_option maxRecDepth 100000
set_option linter.unusedVariables false

theorem Env.litRuns {w0 w : World} {obs : List Ob} (h : Env w0 w obs) (g : Nat) (hg : g = w.heap.size) (rs : List Rn) (hl : rs.length ≤ 1000) :
    Env w0 (w.alloc (.cells (flatR rs).toArray 97)) (obs ++ [obRuns (.slice (some ⟨g, 0, none⟩) rs.length rs.length) rs]) := by
  subst hg
  refine h.pushRuns ?_ ((Below.refl _ _).alloc (Nat.le_refl _) _) (fun x hx => ?_)
  · have := World.ownsRow_lit (base := 0) (e := 97) (size := 3) w (flatR rs).toArray rs.length (Nat.zero_le _) (by unfold maxLen; omega) (by simp [flatR_length])
    simpa [RunsAt] using this
  · have e : w.heap.size = x := by simpa [fp, Value.ownBlock] using hx
    omega
end Go.Proofs.Ytpampcokonicfaa
/- Ciphers as things of a law's world; the contracts of package aes over it. -/
namespace Go.Proofs.Ytpampcokonicfaa
open Go.RowKit
set_option maxRecDepth 100000
set_option linter.unusedVariables false
set_option linter.unusedSimpArgs false

abbrev Cst := Option (Nat × List UInt8)
def CipP (w : World) (p : Value) (F : Nat → Prop) : Cst → Prop
  | none => p = .pointer none ∧ F = fun _ => False
  | some (k, K) => ∃ b, p = .pointer (some ⟨b, 0, none⟩) ∧ F = (fun x => x = b) ∧ CipAt w b k K ∧ k ≤ 32
theorem CipP.keep {w w' : World} {p : Value} {F S : Nat → Prop} {c : Cst} (h : CipP w p F c) (ho : Only S w w') (hd : ∀ x, F x → ¬ S x) : CipP w' p F c := by
  match c, h with
  | none, h => exact h
  | some (k, K), ⟨b, h1, h2, h3, h4⟩ => exact ⟨b, h1, h2, h3.only ho (hd b (by rw [h2])), h4⟩
theorem CipP.lt {w : World} {p : Value} {F : Nat → Prop} {c : Cst} (h : CipP w p F c) : ∀ x, F x → x < w.heap.size := by
  match c, h with
  | none, ⟨_, h2⟩ => rw [h2]; exact fun _ h => h.elim
  | some (k, K), ⟨b, h1, h2, h3, h4⟩ => rw [h2]; rintro x rfl; exact h3.lt
def obC (p : Value) (c : Cst) : Ob := ⟨fun w F => CipP w p F c, fun h ho hd => h.keep ho hd, fun h => h.lt⟩
def madeC : Cst → Bool
  | some (k, _) => decide (0 < k)
  | none => false
theorem CipP.made {w : World} {p : Value} {F : Nat → Prop} {c : Cst} (h : CipP w p F c) : Calls Try.prog 43 #[p] w fun e w' => e = .returned (.bool (madeC c)) ∧ w = w' := by
  match c, h with
  | none, ⟨h1, _⟩ => subst h1; exact cmade_nil w
  | some (k, K), ⟨b, h1, _, h3, _⟩ => subst h1; exact cmade_any b k K w h3
section
variable {w0 w : World} {obs : List Ob}
theorem Env.cip (h : Env w0 w obs) (i : Nat) {p : Value} {c : Cst} (hi : obs[i]? = some (obC p c)) : ∃ F, CipP w p F c := by
  obtain ⟨F, h1, _⟩ := h.get i hi
  exact ⟨F, h1⟩
/-! ### what is none -/
theorem encC_no (h : Env w0 w obs) (i : Nat) {p q : Value} {c : Cst} (hi : obs[i]? = some (obC p c)) (hc : madeC c = false) (l : List UInt8) :
    Calls Try.prog 12 #[p, q, .agg (barr l)] w fun e w' => e = .returned (.tuple #[.agg (barr (List.replicate 16 0)), .int .i64 1]) ∧ Env w0 w' obs := by
  obtain ⟨F, f1⟩ := h.cip i hi
  refine (encrypt_no p q l w (fun w' hb => ?_)).mono fun e w' ⟨he, hb⟩ => ⟨he, h.below hb⟩
  have := (f1.keep (Only.nothing hb) (fun _ _ h => h)).made
  rwa [hc] at this
theorem cloneC_no (h : Env w0 w obs) (i : Nat) {p : Value} {c : Cst} (hi : obs[i]? = some (obC p c)) (hc : madeC c = false) :
    Calls Try.prog 50 #[p] w fun e w' => e = .returned (.tuple #[.pointer none, .int .i64 1]) ∧ w = w' := by
  obtain ⟨F, f1⟩ := h.cip i hi
  have := f1.made
  rw [hc] at this
  exact clone_no p w this
theorem wipeC_no (h : Env w0 w obs) (i : Nat) {p q : Value} {c : Cst} (hi : obs[i]? = some (obC p c)) (hc : madeC c = false) :
    Calls Try.prog 51 #[p, q] w fun e w' => e = .returned (.int .i64 1) ∧ w = w' := by
  obtain ⟨F, f1⟩ := h.cip i hi
  have := f1.made
  rw [hc] at this
  exact wipe_no p q w this
theorem formC_no (h : Env w0 w obs) (i : Nat) {p : Value} {c : Cst} (hi : obs[i]? = some (obC p c)) (hc : madeC c = false) :
    Calls Try.prog 14 #[p] w fun e w' => e = .returned (.slice none 0 0) ∧ w = w' := by
  obtain ⟨F, f1⟩ := h.cip i hi
  have := f1.made
  rw [hc] at this
  exact form_no p w this
def lenC : Cst → Nat
  | some (k, _) => k
  | none => 0
/-! ### what is made -/
theorem encC_env (h : Env w0 w obs) (i j : Nat) (hij : i ≠ j) {p q : Value} {k : Nat} {K : List UInt8} {o : Option (List Rn)} (hi : obs[i]? = some (obC p (some (k, K)))) (hj : obs[j]? = some (obP q o)) (hb : Room o 1) (hk : 0 < k) (l : List UInt8) (hl : l.length = 16) :
    Calls Try.prog 12 #[p, q, .agg (barr l)] w fun e w' => e = .returned (.tuple #[.agg (barr (enc K (k / 4 + 6) l)), .int .i64 0]) ∧ Env w0 w' (obs.set j (obP q (noteO o 5 k 1))) := by
  obtain ⟨G, g1, g2, g3, g4⟩ := h.get j hj
  obtain ⟨F, ⟨b, rfl, rfl, f3, f4⟩, f5⟩ := g3 i _ hij hi
  exact (encrypt_any b k K l q G o w f3 hl hk f4 g1 hb (f5 b rfl)).mono fun e w' ⟨he, F', h1, h2, h3⟩ => ⟨he, g4 w' F' (obP q _) h1 h2 h3⟩
theorem encC_nil (h : Env w0 w obs) (i : Nat) {p : Value} {k : Nat} {K : List UInt8} (hi : obs[i]? = some (obC p (some (k, K)))) (hk : 0 < k) (l : List UInt8) (hl : l.length = 16) :
    Calls Try.prog 12 #[p, .pointer none, .agg (barr l)] w fun e w' => e = .returned (.tuple #[.agg (barr (enc K (k / 4 + 6) l)), .int .i64 0]) ∧ Env w0 w' obs := by
  obtain ⟨F, b, rfl, rfl, f3, f4⟩ := h.cip i hi
  exact (encrypt_any b k K l _ (fun _ => False) none w f3 hl hk f4 (LgP.nil w) (Room.none 1) (fun h => h)).mono fun e w' ⟨he, h1⟩ => ⟨he, h.below h1.nothing⟩
theorem formC_env (h : Env w0 w obs) (i : Nat) {p : Value} {k : Nat} {K : List UInt8} (hi : obs[i]? = some (obC p (some (k, K)))) (hk : 0 < k) :
    Calls Try.prog 14 #[p] w fun e w' => ∃ v, e = .returned v ∧ Env w0 w' (obs ++ [obB v (K.take (16 * (k / 4 + 6 + 1)))]) := by
  obtain ⟨F, b, rfl, rfl, f3, f4⟩ := h.cip i hi
  exact (form_any b k K w f3 hk f4).mono fun e w' ⟨v, he, h1, h2, h3⟩ => ⟨v, he, h.pushB h1 h2 h3⟩
theorem cloneC_env (h : Env w0 w obs) (i : Nat) {p : Value} {k : Nat} {K : List UInt8} (hi : obs[i]? = some (obC p (some (k, K)))) (hk : 0 < k) :
    Calls Try.prog 50 #[p] w fun e w' => ∃ b : Nat, e = .returned (.tuple #[.pointer (some ⟨b, 0, none⟩), .int .i64 0]) ∧ Env w0 w' (obs ++ [obC (.pointer (some ⟨b, 0, none⟩)) (some (k, K))]) := by
  obtain ⟨F, b, rfl, rfl, f3, f4⟩ := h.cip i hi
  exact (clone_any b k K w f3 hk).mono fun e w' ⟨he, h1, h2⟩ => ⟨_, he, h.push (F' := fun x => x = w.heap.size) (obC _ (some (k, K))) ⟨_, rfl, rfl, h1, f4⟩ h2 (fun x hx => by rw [hx]; exact Nat.le_refl _)⟩
theorem wipeC_env (h : Env w0 w obs) (i j : Nat) (hij : i ≠ j) {p q : Value} {k : Nat} {K : List UInt8} {o : Option (List Rn)} (hi : obs[i]? = some (obC p (some (k, K)))) (hj : obs[j]? = some (obP q o)) (hb : Room o 1) (hk : 0 < k) :
    Calls Try.prog 51 #[p, q] w fun e w' => e = .returned (.int .i64 0) ∧ Env w0 w' ((obs.set i (obC p (some (0, zeroK)))).set j (obP q (noteO o 8 ((16 * (k / 4 + 6 + 1) : Nat) : Int) 1))) := by
  obtain ⟨F, G, ⟨b, rfl, rfl, f3, f4⟩, g1, f6, g6, fg, hup⟩ := h.get2 i j hij hi hj
  have hbw := f3.lt
  refine (cwipe_any b k K q G o w f3 hk f4 g1 hb (fg b rfl)).mono fun e w' ⟨he, w1, ⟨F', h1, h2, h3⟩, h4, h5⟩ => ⟨he, hup w' (fun x => x = b) F' _ _ ⟨b, rfl, rfl, h4, by omega⟩ (h1.keep h5 (fun x hx hh => ?_)) ?_ (fun x hx => .inl hx) h3 (fun x hx hx2 => ?_)⟩
  · subst hh
    rcases h3 x hx with hh | hh
    · exact fg x rfl hh
    · omega
  · exact (h2.mono (S' := fun x => x = b ∨ G x) (fun x hx => .inr hx)).trans h5 (fun x hx => .inl (.inl hx))
  · subst hx
    rcases h3 x hx2 with hh | hh
    · exact fg x rfl hh
    · omega
theorem wipeC_nil (h : Env w0 w obs) (i : Nat) {p : Value} {k : Nat} {K : List UInt8} (hi : obs[i]? = some (obC p (some (k, K)))) (hk : 0 < k) :
    Calls Try.prog 51 #[p, .pointer none] w fun e w' => e = .returned (.int .i64 0) ∧ Env w0 w' (obs.set i (obC p (some (0, zeroK)))) := by
  obtain ⟨F, ⟨b, rfl, rfl, f3, f4⟩, _, _, g4⟩ := h.get i hi
  refine (cwipe_any b k K _ (fun _ => False) none w f3 hk f4 (LgP.nil w) (Room.none 1) (fun h => h)).mono fun e w' ⟨he, w1, h1, h4, h5⟩ => ⟨he, g4 w' (fun x => x = b) (obC _ (some (0, zeroK))) ⟨b, rfl, rfl, h4, by omega⟩ ?_ (fun x hx => .inl hx)⟩
  exact (Only.of_below h1.nothing (fun x => x = b)).trans h5 (fun x hx => .inl hx)
theorem newC_env (h : Env w0 w obs) (i : Nat) {q : Value} {o : Option (List Rn)} (hi : obs[i]? = some (obP q o)) (hb : Room o 1) {u : Value} {key : List UInt8} (hu : Src w0 w obs i u key) (hk : RightLen key.length) :
    Calls Try.prog 11 #[q, u] w fun e w' => ∃ b : Nat, e = .returned (.tuple #[.pointer (some ⟨b, 0, none⟩), .int .i64 0]) ∧ Env w0 w' (obs.set i (obP q (noteO o 4 key.length 1)) ++ [obC (.pointer (some ⟨b, 0, none⟩)) (some (key.length, sched key))]) := by
  obtain ⟨F, f1, f2, f3, f4⟩ := h.ledP i hi
  refine (newC_any q u F o key w f1 hb hu.1 (hu.apart f2 f3) hk).mono fun e w' ⟨w1, n, h1, he, h2, h3, h4⟩ => ⟨n, he, ?_⟩
  exact (f4 w1 _ h1).push (F' := fun x => x = n) (obC _ (some (key.length, sched key))) ⟨n, rfl, rfl, h2, by rcases hk with h | h | h <;> omega⟩ h3 (fun x hx => by rw [hx]; exact h4)
theorem newC_nil (h : Env w0 w obs) {u : Value} {key : List UInt8} (hu : Bs w u key) (hk : RightLen key.length) :
    Calls Try.prog 11 #[.pointer none, u] w fun e w' => ∃ b : Nat, e = .returned (.tuple #[.pointer (some ⟨b, 0, none⟩), .int .i64 0]) ∧ Env w0 w' (obs ++ [obC (.pointer (some ⟨b, 0, none⟩)) (some (key.length, sched key))]) := by
  refine (newC_any _ u (fun _ => False) none key w (LgP.nil w) (Room.none 1) hu (fun _ _ _ h => h) hk).mono fun e w' ⟨w1, n, h1, he, h2, h3, h4⟩ => ⟨n, he, ?_⟩
  exact (h.below h1.nothing).push (F' := fun x => x = n) (obC _ (some (key.length, sched key))) ⟨n, rfl, rfl, h2, by rcases hk with h | h | h <;> omega⟩ h3 (fun x hx => by rw [hx]; exact h4)
end
end Go.Proofs.Ytpampcokonicfaa
/- The contracts of cmac.Double: the double of a block of sixteen bytes. Condition: the block has sixteen bytes. -/
namespace Go.Proofs.Ytpampcokonicfaa
open Go.RowKit
set_option maxRecDepth 100000

def dN (x y : UInt8) : UInt8 := UInt8.ofNat (x.toNat * 2 % 256 + y.toNat / 128)
def dL (x y : UInt8) : UInt8 := UInt8.ofNat ((x.toNat * 2 % 256) ^^^ (135 * (y.toNat / 128)))
def dAt (l : List UInt8) (j : Nat) : UInt8 := if j < 15 then dN (l.getD j 0) (l.getD (j + 1) 0) else UInt8.ofNat ((l.getD j 0).toNat * 2 % 256)
def dTo (l : List UInt8) (k : Nat) : List UInt8 := tab 16 fun j => if j < k then dAt l j else 0
/-- the double of a block -/
def dbl (l : List UInt8) : List UInt8 := tab 16 fun j => if j < 15 then dN (l.getD j 0) (l.getD (j + 1) 0) else dL (l.getD 15 0) (l.getD 0 0)
theorem dbl_length (l : List UInt8) : (dbl l).length = 16 := tab_length _ _
theorem dTo_length (l : List UInt8) (k : Nat) : (dTo l k).length = 16 := tab_length _ _
theorem dTo_zero (l : List UInt8) : dTo l 0 = List.replicate 16 0 := by
  rw [← tab_zero]
  exact tab_ext _ _ _ fun j _ => by simp
theorem dTo_succ (l : List UInt8) (k : Nat) : (dTo l k).set k (dAt l k) = dTo l (k + 1) := by
  unfold dTo
  rw [tab_set]
  refine tab_ext _ _ _ fun j _ => ?_
  by_cases e : j = k
  · subst e; simp
  · rw [if_neg e]
    by_cases h : j < k
    · rw [if_pos h, if_pos (by omega)]
    · rw [if_neg h, if_neg (by omega)]
theorem dTo_end (l : List UInt8) : (dTo l 16).set 15 (dL (l.getD 15 0) (l.getD 0 0)) = dbl l := by
  unfold dTo dbl
  rw [tab_set]
  refine tab_ext _ _ _ fun j hj => ?_
  by_cases e : j = 15
  · subst e; simp
  · rw [if_neg e, if_pos hj, if_pos (by omega), dAt, if_pos (by omega)]
theorem dTo_last (l : List UInt8) : (dTo l 16).getD 15 0 = UInt8.ofNat ((l.getD 15 0).toNat * 2 % 256) := by
  unfold dTo
  rw [tab_getD _ _ _ (by omega), if_pos (by omega), dAt, if_neg (by omega)]

theorem or_low (x : Nat) (b : Nat) (hx : x < 256) (hb : b < 2) : (x * 2 % 256) ||| b = x * 2 % 256 + b := by
  have : ∀ x, x < 256 → ∀ b, b < 2 → (x * 2 % 256) ||| b = x * 2 % 256 + b := by decide +kernel
  exact this x hx b hb
theorem dN_or (x y : UInt8) : bits .or .u8 ((x.toNat : Int) * 2 % 256) ((y.toNat : Int) / 128) = ((dN x y).toNat : Int) := by
  have hx := x.toNat_lt
  have hy := y.toNat_lt
  have e1 : (x.toNat : Int) * 2 % 256 = ((x.toNat * 2 % 256 : Nat) : Int) := by omega
  have e2 : (y.toNat : Int) / 128 = ((y.toNat / 128 : Nat) : Int) := by omega
  rw [e1, e2, u8_or_nat _ _ (by omega) (by omega), or_low _ _ (by omega) (by omega)]
  unfold dN
  rw [u8_of _ (by omega)]
theorem dN_add (x y : UInt8) : (x.toNat : Int) * 2 % 256 + (y.toNat : Int) / 128 = ((dN x y).toNat : Int) := by
  have hx := x.toNat_lt
  have hy := y.toNat_lt
  unfold dN
  rw [u8_of _ (by omega)]
  omega
theorem dS_form (x : UInt8) : (x.toNat : Int) * 2 % 256 = ((UInt8.ofNat (x.toNat * 2 % 256)).toNat : Int) := by
  rw [u8_of _ (by omega)]
  omega
end Go.Proofs.Ytpampcokonicfaa
/- The contract of cmac.Double. Condition: the block has sixteen bytes. -/
namespace Go.Proofs.Ytpampcokonicfaa
open Go.RowKit
set_option maxRecDepth 100000
theorem size16D : (Try.prog.info? 31).map (·.size) = some 16 := by kernel_rfl
theorem dL_form (x y : UInt8) (z : UInt8) (hz : UInt8.ofNat (x.toNat * 2 % 256) = z) :
    bits .xor .u8 (z.toNat : Int) (bits .and .u8 135 (-((y.toNat : Int) / 128) % 256)) = ((dL x y).toNat : Int) := by
  have hx := x.toNat_lt
  have hy := y.toNat_lt
  have hz' : (z.toNat : Int) = ((x.toNat * 2 % 256 : Nat) : Int) := by rw [← hz]; exact u8_of _ (by omega)
  have b1 : 135 * (y.toNat / 128) < 256 := by omega
  have e : bits .and .u8 135 (-((y.toNat : Int) / 128) % 256) = ((135 * (y.toNat / 128) : Nat) : Int) := by
    by_cases h : y.toNat < 128
    · rw [show (y.toNat : Int) / 128 = 0 from by omega, show y.toNat / 128 = 0 from by omega]
      decide +kernel
    · rw [show (y.toNat : Int) / 128 = 1 from by omega, show y.toNat / 128 = 1 from by omega]
      decide +kernel
  have b2 : (x.toNat * 2 % 256) ^^^ (135 * (y.toNat / 128)) < 256 := Nat.xor_lt_two_pow (n := 8) (by omega) b1
  rw [hz', e, u8_xor_nat _ _ (by omega) b1]
  unfold dL
  rw [u8_of _ b2]
theorem dbl_cells (l : List UInt8) : (barr (dbl l)).size = 16 := by rw [barr_size, dbl_length]
theorem dbl_blk {w : World} {b : Nat} {t : TypeId} {l : List UInt8} {x z : UInt8} (h : Blk w b t (barr (dTo l 16))) (hz : Hid (UInt8.ofNat ((l.getD 15 0).toNat * 2 % 256) = z)) (hx : Hid (l.getD 0 0 = x)) :
    Blk (w.setCell ⟨b, 15, none⟩ (.int .u8 (bits .xor .u8 (z.toNat : Int) (bits .and .u8 135 (-((x.toNat : Int) / 128) % 256))))) b t (barr (dbl l)) := by
  have h1 := h.set 15 (.int .u8 ((dL (l.getD 15 0) (l.getD 0 0)).toNat : Int))
  rw [barr_set, dTo_end l] at h1
  rw [dL_form _ _ _ hz.out, ← hx.out]
  exact h1
theorem ne15 (n : Nat) : n + 1 ≠ n + 1 + 1 := by omega
set_option maxHeartbeats 1000000 in
theorem dbl_any (l : List UInt8) (hl : l.length = 16) (w : World) :
    Calls Try.prog 13 #[.agg (barr l)] w fun e w' => e = .returned (.agg (barr (dbl l))) ∧ Below w.heap.size w w' := by
  have HL := Lib.hid hl
  clear hl
  go_enter Try.func13, Try.ntmps13
  go_wp2_with fail
  go_loopw [4, 5] (fun _ i w1 => ∃ k : Nat, k ≤ 16 ∧ i = .int .i64 (k : Int) ∧ Blk w1 w.heap.size 31 (barr l) ∧ Blk w1 (w.heap.size + 1) 31 (barr (List.replicate 16 0)) ∧ Blk w1 (w.heap.size + 1 + 1) 31 (barr (dTo l k)) ∧ Below w.heap.size w w1) (fun _ i _ => 16 - (intOf i).toNat)
  case atStart =>
    refine ⟨0, by omega, rfl, ?_, ?_, ?_, ?_⟩
    · exact ((Blk.at rfl rfl).alloc _).alloc _
    · exact (Blk.at (by simp) rfl).alloc _
    · rw [dTo_zero]
      exact Blk.at (by simp) rfl
    · exact (((Below.refl _ _).alloc (Nat.le_refl _) _).alloc (by simp) _).alloc (by simp; omega) _
  case round =>
    obtain ⟨k, hk, rfl, h0, h1, h2, hb⟩ := hrel
    by_cases hlt : k < 16
    · have c0 := h0.cellAt k (barr_getD l k (by rw [HL.out]; exact hlt))
      have c2 := h2.cellAt k (barr_getD (dTo l k) k (by rw [dTo_length]; exact hlt))
      have f2 := h2.unfrozen k
      have x0 := u8_hi (l.getD k 0)
      generalize hx : l.getD k 0 = x at c0 x0
      have HX := Lib.hid hx
      generalize (dTo l k).getD k 0 = z at c2
      by_cases h15 : k < 15
      · have c1 := h0.cellAt (k + 1) (barr_getD l (k + 1) (by rw [HL.out]; omega))
        have x1 := u8_hi (l.getD (k + 1) 0)
        generalize hy : l.getD (k + 1) 0 = y at c1 x1
        have HY := Lib.hid hy
        clear hx hy
        go_wp2_with fail
        go_region
        all_goals go_wp2_with fail
        all_goals go_roundw
        case rel =>
          refine ⟨k + 1, by omega, by go_num, ?_, ?_, ?_, ?_⟩
          · exact ((h0.set_ne (by simp; omega) _).set_ne (by simp; omega) _).drew
          · exact ((h1.set_ne (by simp) _).set_ne (by simp) _).drew
          · have e : dAt l k = dN x y := by rw [dAt, if_pos h15, HX.out, HY.out]
            have h := ((h2.set k (.int .u8 ((UInt8.ofNat (x.toNat * 2 % 256)).toNat : Int))).set k (.int .u8 ((dN x y).toNat : Int))).drew
            rw [barr_set, barr_set, List.set_set, ← e, dTo_succ] at h
            rw [dN_or, dS_form, ← e]
            exact h
          · exact ((hb.setCell (by simp; omega) _).setCell (by simp; omega) _).drew
        case measure => simp [intOf]; omega
      · clear hx
        go_wp2_with fail
        go_roundw
        case rel =>
          refine ⟨k + 1, by omega, by go_num, ?_, ?_, ?_, ?_⟩
          · exact h0.set_ne (by simp; omega) _
          · exact h1.set_ne (by simp) _
          · have e : dAt l k = UInt8.ofNat (x.toNat * 2 % 256) := by rw [dAt, if_neg h15, HX.out]
            have h := h2.set k (.int .u8 ((UInt8.ofNat (x.toNat * 2 % 256)).toNat : Int))
            rw [barr_set, ← e, dTo_succ] at h
            rw [dS_form, ← e]
            exact h
          · exact hb.setCell (by simp; omega) _
        case measure => simp [intOf]; omega
    · have h2' : Blk wr (w.heap.size + 1 + 1) 31 (barr (dTo l 16)) := by
        have e : k = 16 := by omega
        rw [e] at h2
        exact h2
      have c0 := h0.cellAt 0 (barr_getD l 0 (by rw [HL.out]; omega))
      have c2 := h2'.cellAt 15 (barr_getD (dTo l 16) 15 (by rw [dTo_length]; omega))
      have f2 := h2'.unfrozen 15
      have x0 := u8_hi (l.getD 0 0)
      generalize hx : l.getD 0 0 = x at c0 x0
      have HX := Lib.hid hx
      rw [dTo_last] at c2
      have x2 := u8_hi (UInt8.ofNat ((l.getD 15 0).toNat * 2 % 256))
      generalize hz : UInt8.ofNat ((l.getD 15 0).toNat * 2 % 256) = z at c2 x2
      have HZ := Lib.hid hz
      clear hx hz h2
      go_wp2_with (first | ((with_reducible change wpList _ _ _ (Oper.mk _ (Op.load 31 _) _ _ _ _ :: _) _ _); refine wpList_load_blk (d := some 36) (ty := 31) (w.heap.size + 1 + 1) rfl (dbl_blk h2' HZ HX) Try.underlying31 rfl size16D (dbl_cells l) ?_) | ((with_reducible change wpList _ _ _ (Oper.mk _ (Op.store 31 _ _) _ _ _ _ :: _) _ _); refine wpList_store_blk (ty := 31) (w.heap.size + 1) (barr (dbl l)) rfl rfl (h1.set_ne (ne15 _) _) size16D (dbl_cells l) (barr_size _) (barr_one _) ?_))
      refine bodyPost_ret (results_cell_blk rfl _ _ (w.heap.size + 1) rfl ((h1.set_ne (by simp) _).row _) Try.underlying31 rfl size16D (by rw [barr_size, dbl_length])) rfl ⟨rfl, ?_⟩
      exact below_row (hb.setCell (by simp; omega) _) (by simp) _
end Go.Proofs.Ytpampcokonicfaa
namespace Go.Proofs.Ytpampcokonicfaa
open Go.RowKit
set_option maxRecDepth 100000
set_option linter.unusedVariables false
set_option linter.unusedSimpArgs false
/-- the exclusive or of two blocks -/
def xorB (l m : List UInt8) : List UInt8 := tab 16 fun j => l.getD j 0 ^^^ m.getD j 0
theorem xorB_len (l m : List UInt8) : (xorB l m).length = 16 := tab_length _ _
set_option maxHeartbeats 1000000 in
theorem xored_any (l m : List UInt8) (hl : l.length = 16) (hm : m.length = 16) (w : World) :
    Calls Try.prog 49 #[.agg (barr l), .agg (barr m)] w fun e w' => e = .returned (.agg (barr (xorB l m))) ∧ Below w.heap.size w w' := by
  have HL := Lib.hid hl
  have HM := Lib.hid hm
  clear hl hm
  go_enter Try.func49, Try.ntmps49
  go_wp2_with fail
  go_loopw [5, 6] (fun _ i w1 => ∃ k : Nat, k ≤ 16 ∧ i = .int .i64 (k : Int) ∧ Blk w1 w.heap.size 31 (barr (mixT 16 (fun j => l.getD j 0 ^^^ m.getD j 0) (fun j => l.getD j 0) k)) ∧ Blk w1 (w.heap.size + 1) 31 (barr m) ∧ Blk w1 (w.heap.size + 1 + 1) 31 (barr (List.replicate 16 0)) ∧ Below w.heap.size w w1) (fun _ i _ => 16 - (intOf i).toNat)
  case atStart =>
    refine ⟨0, by omega, rfl, ?_, ?_, ?_, ?_⟩
    · rw [mixT_zero, tab_self l HL.out]
      exact ((Blk.at rfl rfl).alloc _).alloc _
    · exact (Blk.at (by simp) rfl).alloc _
    · exact Blk.at (by simp) rfl
    · exact (((Below.refl _ _).alloc (Nat.le_refl _) _).alloc (by simp) _).alloc (by simp; omega) _
  case round =>
    obtain ⟨k, hk, rfl, h0, h1, h2, hb⟩ := hrel
    by_cases hlt : k < 16
    · have c0 := h0.cellAt k (barr_getD _ k (by rw [mixT_len]; exact hlt))
      rw [mixT_at _ _ _ _ hlt] at c0
      have f0 := h0.unfrozen k
      have c1 := h1.cellAt k (barr_getD m k (by rw [HM.out]; exact hlt))
      have f1 := h1.unfrozen k
      generalize hx : l.getD k 0 = x at c0
      generalize hy : m.getD k 0 = y at c1
      have x0 := u8_hi x
      have y0 := u8_hi y
      have HX := Lib.hid hx
      have HY := Lib.hid hy
      clear hx hy
      go_wp2_with fail
      go_region
      all_goals go_wp2_with fail
      all_goals go_roundw
      case rel =>
        refine ⟨k + 1, by omega, by go_num, ?_, ?_, ?_, ?_⟩
        · have h := (h0.set k (.int .u8 ((x ^^^ y).toNat : Int))).drew
          have e : mixT 16 (fun j => l.getD j 0 ^^^ m.getD j 0) (fun j => l.getD j 0) (k + 1) = (mixT 16 (fun j => l.getD j 0 ^^^ m.getD j 0) (fun j => l.getD j 0) k).set k (x ^^^ y) := by
            rw [← mixT_succ, HX.out, HY.out]
          rw [e, ← barr_set, xorU]
          exact h
        · exact (h1.set_ne (by simp) _).drew
        · exact (h2.set_ne (by simp; omega) _).drew
        · exact (hb.setCell (by simp) _).drew
      case measure => simp [intOf]; omega
    · have h0' : Blk wr w.heap.size 31 (barr (xorB l m)) := by
        have e : k = 16 := by omega
        rw [e, mixT_end] at h0
        exact h0
      clear h0
      go_wp2_with (first | ((with_reducible change wpList _ _ _ (Oper.mk _ (Op.load 31 _) _ _ _ _ :: _) _ _); refine wpList_load_blk (d := some 18) (ty := 31) w.heap.size rfl h0' Try.underlying31 rfl size16 (by rw [barr_size, xorB_len]) ?_) | ((with_reducible change wpList _ _ _ (Oper.mk _ (Op.store 31 _ _) _ _ _ _ :: _) _ _); refine wpList_store_blk (ty := 31) (w.heap.size + 1 + 1) (barr (xorB l m)) rfl rfl h2 size16 (by rw [barr_size, xorB_len]) (barr_size _) (barr_one _) ?_))
      refine bodyPost_ret (results_cell_blk rfl _ _ (w.heap.size + 1 + 1) rfl (h2.row _) Try.underlying31 rfl size16 (by rw [barr_size, xorB_len])) rfl ⟨rfl, ?_⟩
      exact below_row hb (by omega) _
end Go.Proofs.Ytpampcokonicfaa
