/- The walk of package aes's expanded. Condition: the key has 16, 24 or 32 bytes. -/
import Derived.Test.YtihmgkjmebdioaaRows
import Derived.Test.YtihmgkjmebdioaaAesExp
namespace Go.Proofs.Ytihmgkjmebdioaa
open Go.RowKit
set_option maxRecDepth 100000
set_option linter.unusedVariables false
set_option linter.unusedSimpArgs false

set_option maxHeartbeats 4000000 in
theorem expanded_any (u : Value) (key : List UInt8) (k : Nat) (w : World) (hu : Bs w u key) (hkl : key.length = 4 * k) (hk : k = 4 ∨ k = 6 ∨ k = 8) :
    Calls Try.prog 31 #[u] w fun e w' => e = .returned (.agg (barr (sched key))) ∧ Below w.heap.size w w' := by
  have hk8 : k ≤ 8 := by omega
  have hk4 : 4 ≤ k := by omega
  have HU := Lib.hid hu
  obtain ⟨ao, cap, rfl, h1, h2, _, hc⟩ := hu.form
  clear hu
  have hpos : 0 < key.length := by omega
  obtain ⟨g, off, rfl, _⟩ := hc 0 hpos
  have hcell : ∀ j, j < key.length → w.cell? ⟨g, off + j, none⟩ = some (.int .u8 ((key.getD j 0).toNat : Int)) := by
    intro j hj
    obtain ⟨b, o, hb, hx⟩ := hc j hj
    injection hb with e
    injection e with e1 e2
    subst e1; subst e2
    exact hx
  have HCELL := Lib.hid hcell
  have hg : g < w.heap.size := World.block_lt_of_cell? w _ (hcell 0 hpos)
  clear hc hcell
  have hkq : (key.length : Int) / 4 = (k : Int) := by omega
  have HKL := Lib.hid hkl
  have hSched : Hid (expN k (3 * k + 28) k 1 (keyTo key k) = sched key) := by
    unfold sched
    rw [show key.length / 4 = k from by omega]
    congr 1
    unfold keyTo
    rw [← hkl, List.take_of_length_le (Nat.le_refl _)]
  have hz := zero240
  have hzw := zero240w
  generalize hZ : barr (List.replicate 240 0) = Z at hz hzw
  have HZ := Lib.hid hZ
  clear hZ hkl
  go_enter Try.func31, Try.ntmps31
  go_wp2_with fail
  have hE : ExpW w w.heap.size (keyTo key 0) ((w.alloc (.cells Z 66)).alloc (.cells Z 94)) := by
    refine ⟨?_, ?_, keyTo_len key 0 (by omega) (by have := HKL.out; omega), rfl, ((Below.refl _ _).alloc (Nat.le_refl _) _).alloc (by simp) _⟩
    · rw [HZ.out]; exact (Blk.at rfl rfl).alloc _
    · rw [keyTo_zero, HZ.out]; exact Blk.at (by simp) rfl
  have HE := Lib.hid hE
  clear hE
  generalize hn0 : w.heap.size = n0 at HE hg ⊢
  have HN0 := Lib.hid hn0
  go_loopw [17] (fun i w1 => ∃ j : Nat, j ≤ k ∧ i = .int .i64 (j : Int) ∧ Hid (ExpW w n0 (keyTo key j) w1)) (fun i _ => k - (intOf i).toNat)
  case atStart => exact ⟨0, by omega, rfl, HE⟩
  case round =>
    obtain ⟨j, hj, rfl, H⟩ := hrel
    clear HE
    by_cases hlt : j < k
    · obtain ⟨a, ha⟩ : ∃ a, 4 * j = a := ⟨_, rfl⟩
      have haI : 4 * (j : Int) = (a : Int) := by omega
      have ha4 : a + 4 ≤ key.length := by have := HKL.out; omega
      have hac : a + 4 ≤ cap := by omega
      have hlen : (wordAt key j).length = 4 := rfl
      have hrow := H.out.row
      have rng : wr.rangeAt g (off + a) ((wordAt key j).map B) := by
        intro i v hv
        have hi : i < 4 := by
          have := (List.getElem?_eq_some_iff.1 hv).1
          simpa [wordAt] using this
        have hb := H.out.below
        rw [show off + a + i = off + (a + i) from by omega, Below.cell hb (p := ⟨g, off + (a + i), none⟩) (by have := HN0.out; show g < _; omega), HCELL.out (a + i) (by omega), ← hv, ← ha]
        rcases i with _ | _ | _ | _ | i
        · rfl
        · rfl
        · rfl
        · rfl
        · omega
      have RNG := Lib.hid rng
      have HA := Lib.hid ha
      clear rng ha
      have hArr : ∀ w', (Instr.arrayAt 79 (.slice (some ⟨g, off + a, none⟩) 4 (cap - a))).run Try.prog w' = .ok (.pointer (some ⟨g, off + a, none⟩)) w' := fun w' => run_arrayAt w' 79 5 4 _ 4 _ Try.underlying79 (Nat.le_refl _)
      have hth : wr.there (n0 + 1) (j * 4) (barr (wordAt key j)).size := by
        rw [barr_size, hlen]
        exact hrow.there _ _ (by rw [barr_size, H.out.len]; omega)
      have HTH := Lib.hid hth
      have hs4 : (barr (wordAt key j)).size = 4 := by rw [barr_size, hlen]
      have hone : (barr (wordAt key j)).all (·.oneCell') = true := Array.all_eq_true_iff_forall_mem.2 (fun v hv => barr_one _ v (by simpa using hv))
      have hm4 : ((wordAt key j).map B).length = 4 := rfl
      clear hrow hth
      go_wp2_with (first | ((with_reducible change wpList _ _ _ (Oper.mk _ (Op.load 79 _) _ _ _ _ :: _) _ _); refine wpList_load_mid rfl 79 _ rfl g (off + a) rfl ((wordAt key j).map B) _ RNG.out Try.underlying79 rfl (size4.trans (by rw [hm4])) ?_) | ((with_reducible change wpList _ _ _ (Oper.mk _ (Op.store 79 _ _) _ _ _ _ :: _) _ _); refine wpList_store_mid rfl 79 _ _ rfl (n0 + 1) (j * 4) (barr (wordAt key j)) rfl rfl HTH.out (size4.trans (by rw [hs4])) hone ?_))
      go_roundw
      case rel =>
        refine ⟨j + 1, by omega, by go_num, ?_⟩
        have e := keyTo_succ key j (by have := HA.out; omega) (by have := HKL.out; omega)
        have h := H.out.word (j * 4) (wordAt key j) (by rw [e]; exact keyTo_len _ _ (by have := HA.out; omega) (by have := HKL.out; omega))
        rw [e] at h
        rw [barr_toList2]
        exact Lib.hid h
      case measure => simp [intOf]; omega
    · obtain rfl : j = k := by omega
      clear HCELL HU
      obtain ⟨N, hN⟩ : ∃ N, 4 * (j + 7) = N := ⟨_, rfl⟩
      have hNI : 4 * ((j : Int) + 7) = (N : Int) := by omega
      have hN60 : N ≤ 60 := by omega
      have HN := Lib.hid hN
      have hSched2 : Hid (expN j (N - j) j 1 (keyTo key j) = sched key) := by
        rw [show N - j = 3 * j + 28 from by omega]
        exact hSched
      clear hSched hN
      go_wp2_with fail
      go_loopw [6, 7] (fun x i w1 => ∃ (i' : Nat) (x' : UInt8) (W : List UInt8), j ≤ i' ∧ i' ≤ N ∧ i = .int .i64 (i' : Int) ∧ x = .int .u8 (x'.toNat : Int) ∧ Hid (expN j (N - i') i' x' W = sched key) ∧ Hid (ExpW w n0 W w1)) (fun _ i _ => N - (intOf i).toNat)
      case atStart => exact ⟨j, 1, _, Nat.le_refl _, by have := HN.out; omega, rfl, rfl, hSched2, H⟩
      case round =>
        obtain ⟨i, x, W, hji, hiN, rfl, rfl, HX, HW⟩ := hrel
        clear H hSched2
        have hWl := HW.out.len
        by_cases hit : i < N
        · obtain ⟨i1, hi1⟩ : ∃ i1, i - 1 = i1 := ⟨_, rfl⟩
          have hi1I : (i : Int) - 1 = (i1 : Int) := by omega
          have hi160 : i1 < 60 := by omega
          have HI1 := Lib.hid hi1
          have rng := wordAt_range HW.out.row i1 (by omega)
          have RNG := Lib.hid rng
          have hm4 : ((wordAt W i1).map B).length = 4 := rfl
          obtain ⟨d, hd⟩ : ∃ d, i - j = d := ⟨_, rfl⟩
          have hdI : (i : Int) - (j : Int) = (d : Int) := by omega
          have hd60 : d < 60 := by omega
          have hdi : d < i := by omega
          have HD := Lib.hid hd
          obtain ⟨t0, t1, t2, t3, htt⟩ : ∃ t0 t1 t2 t3, wordAt W i1 = [t0, t1, t2, t3] := ⟨_, _, _, _, rfl⟩
          have HTT := Lib.hid htt
          have hs4 : (barr (wordAt W i1)).size = 4 := rfl
          have rng4 : wr.rangeAt (n0 + 1) (i1 * 4) ([t0, t1, t2, t3].map B) := by rw [← htt]; exact rng
          have RNG4 := Lib.hid rng4
          have htbn : n0 + 1 < wr.heap.size := HW.out.row.lt
          have htw : w.heap.size ≤ wr.heap.size := HW.out.below.size
          have b0 : Blk (wr.alloc (.cells (barr (List.replicate 4 0)) 79)) wr.heap.size 79 (barr (List.replicate 4 0)) := Blk.new _ _ _
          have hm44 : ([t0, t1, t2, t3].map B).length = 4 := rfl
          clear rng rng4 hi1 hd htt
          by_cases hik : i % j = 0
          · have hikI : ((i : Int) % (j : Int) == 0) = true := by
              rw [beq_iff_eq]; omega
            go_wp2_with (first | ((with_reducible change wpList _ _ _ (Oper.mk _ (Op.load 79 _) _ _ _ _ :: _) _ _); refine wpList_load_mid rfl 79 _ rfl (n0 + 1) (i1 * 4) rfl ([t0, t1, t2, t3].map B) _ RNG4.out Try.underlying79 rfl (size4.trans (by rw [hm44])) ?_) | ((with_reducible change wpList _ _ _ (Oper.mk _ (Op.store 79 _ _) _ _ _ _ :: _) _ _); refine wpList_store_var wr.heap.size (barr [t0, t1, t2, t3]) rfl rfl b0 size4 rfl rfl (barr_one _) ?_; intro w1 B1 O1; have HW1 := Lib.hid ((HW.out.next ((Below.refl _ _).alloc (Nat.le_refl _) _)).only (g := wr.heap.size) htbn O1); have HB1 := Lib.hid B1; have q0 := B1.cellAt 0 (barr_getD [t0, t1, t2, t3] 0 (by simp)); have q1 := B1.cellAt 1 (barr_getD [t0, t1, t2, t3] 1 (by simp)); have q2 := B1.cellAt 2 (barr_getD [t0, t1, t2, t3] 2 (by simp)); have q3 := B1.cellAt 3 (barr_getD [t0, t1, t2, t3] 3 (by simp)); have hbl := B1.lt; clear B1 O1))
            refine (boxed_any [t1, t2, t3, t0] w1 rfl).mono ?_
            rintro e w2 ⟨rfl, h2⟩
            have HW2 := Lib.hid (HW1.out.next h2)
            have HB2 := Lib.hid (HB1.out.below h2 hbl)
            clear h2 HW1 HB1 q0 q1 q2 q3 hbl b0
            generalize htb : wr.heap.size = tb at *
            go_wp2_with ((with_reducible change wpList _ _ _ (Oper.mk _ (Op.store 79 _ _) _ _ _ _ :: _) _ _); refine wpList_store_var tb (barr [boxU t1, boxU t2, boxU t3, boxU t0]) rfl rfl HB2.out size4 rfl rfl (barr_one _) ?_; intro w3 B3 O3; have HW3 := Lib.hid (HW2.out.only (g := tb) htbn O3); have HB3 := Lib.hid B3; have q0 := B3.cellAt 0 (barr_getD [boxU t1, boxU t2, boxU t3, boxU t0] 0 (by simp)); have f0 := B3.unfrozen 0; have hbl := B3.lt; clear B3 O3)
            have HW4 := Lib.hid (HW3.out.only (g := tb) (w' := w3.setCell ⟨tb, 0, none⟩ (.int .u8 ((boxU t1 ^^^ x).toNat : Int))) htbn (Only.set (S := fun x => x = tb) (Only.refl _ _) (.inl rfl) _))
            have HB4 : Hid (Blk (w3.setCell ⟨tb, 0, none⟩ (.int .u8 ((boxU t1 ^^^ x).toNat : Int))) tb 79 (barr [boxU t1 ^^^ x, boxU t2, boxU t3, boxU t0])) := by
              have h := HB3.out.set 0 (.int .u8 ((boxU t1 ^^^ x).toNat : Int))
              rw [barr_set] at h
              exact Lib.hid h
            have hxx : bits .xor .u8 ((boxU t1).toNat : Int) (x.toNat : Int) = ((boxU t1 ^^^ x).toNat : Int) := xorU _ _
            have q0' : ([boxU t1, boxU t2, boxU t3, boxU t0] : List UInt8).getD 0 0 = boxU t1 := rfl
            refine (mulU_any x 2 _).mono ?_
            rintro e w5 ⟨rfl, rfl⟩
            have HE : Hid (ExpW w n0 W (w3.setCell ⟨tb, 0, none⟩ (.int .u8 (bits .xor .u8 ((boxU t1).toNat : Int) (x.toNat : Int))))) := by rw [hxx]; exact HW4
            have HT' : Hid (Blk (w3.setCell ⟨tb, 0, none⟩ (.int .u8 (bits .xor .u8 ((boxU t1).toNat : Int) (x.toNat : Int)))) tb 79 (barr [boxU t1 ^^^ x, boxU t2, boxU t3, boxU t0])) := by rw [hxx]; exact HB4
            obtain ⟨T, hTT⟩ : ∃ T, T = [boxU t1 ^^^ x, boxU t2, boxU t3, boxU t0] := ⟨_, rfl⟩
            have hTl : T.length = 4 := by rw [hTT]; rfl
            have HTe : Hid (turned j i x (wordAt W (i - 1)) = T) := by
              rw [HI1.out, HTT.out, hTT]
              unfold turned
              rw [if_pos hik]
              exact Lib.hid rfl
            rw [← hTT] at HT'
            have HT := HT'
            clear HT' hTT HW4 HB4 HW3 HB3 q0 f0 hbl HW2 HB2 q0' hxx
            go_wp2_with fail
            go_loopw [76] (fun b w1 => ∃ c : Nat, c ≤ 4 ∧ b = .int .i64 (c : Int) ∧ Hid (ExpW w n0 (putTo W T j i c) w1) ∧ Hid (Blk w1 tb 79 (barr T))) (fun b _ => 4 - (intOf b).toNat)
            case atStart => exact ⟨0, by omega, rfl, HE, HT⟩
            case round =>
              obtain ⟨c, hc, rfl, HE2, HT2⟩ := hrel
              by_cases hct : c < 4
              · have hPl : (putTo W T j i c).length = 240 := HE2.out.len
                have c1 := HE2.out.row.cellAt (d * 4 + c) (barr_getD _ (d * 4 + c) (by rw [hPl]; omega))
                have c2 := HT2.out.cellAt c (barr_getD T c (by rw [hTl]; exact hct))
                have c3 := HE2.out.row.cellAt (i * 4 + c) (barr_getD _ (i * 4 + c) (by rw [hPl]; omega))
                have f3 := HE2.out.row.unfrozen (i * 4 + c)
                have b1 := HE2.out.row.lt
                have b2 := HT2.out.lt
                generalize hy : (putTo W T j i c).getD (d * 4 + c) 0 = y at c1
                generalize hz2 : T.getD c 0 = z at c2
                have HY := Lib.hid hy
                have HZ2 := Lib.hid hz2
                have hWd : IntKind.i64.wrap (d : Int) = (d : Int) := IntWalk.i64_in _ (by omega)
                have hdI60 : (d : Int) < 60 := by omega
                have hiI60 : (i : Int) < 60 := by omega
                have hcI4 : (c : Int) < 4 := by omega
                clear hy hz2
                go_wp2_with fail
                refine wp_region_tame (fun w' => w' = wr.drewN 1) 0 15 (by kernel_rfl) (by kernel_rfl) (fun _ _ d _ _ h => (by cases d <;> exact h)) rfl (by decide) ?_
                simp only [List.take_succ_cons, List.take_zero, List.drop_succ_cons, List.drop_zero]
                refine wpPre_nil ?_
                refine wpTame_run (v := ?_) (by decide) rfl (fun w' hS => ?_) ?_
                rotate_left
                focus (subst hS; go_simp; try rfl; done)
                simp only [Act.put, List.setIfInBounds_toArray, List.set_cons_zero, List.set_cons_succ]
                refine wpTame_run (v := ?_) (by decide) rfl (fun w' hS => ?_) ?_
                rotate_left
                focus (subst hS; go_simp; try rfl; done)
                simp only [Act.put, List.setIfInBounds_toArray, List.set_cons_zero, List.set_cons_succ]
                refine wpTame_run (v := ?_) (by decide) rfl (fun w' hS => ?_) ?_
                rotate_left
                focus (subst hS; go_simp; try rfl; done)
                simp only [Act.put, List.setIfInBounds_toArray, List.set_cons_zero, List.set_cons_succ]
                refine wpTame_run (v := ?_) (by decide) rfl (fun w' hS => ?_) ?_
                rotate_left
                focus (subst hS; go_simp; try rfl; done)
                simp only [Act.put, List.setIfInBounds_toArray, List.set_cons_zero, List.set_cons_succ]
                refine wpTame_run (v := ?_) (by decide) rfl (fun w' hS => ?_) ?_
                rotate_left
                focus (subst hS; go_simp; try rfl; done)
                simp only [Act.put, List.setIfInBounds_toArray, List.set_cons_zero, List.set_cons_succ]
                refine wpTame_run (v := ?_) (by decide) rfl (fun w' hS => ?_) ?_
                rotate_left
                focus (subst hS; go_simp; try rfl; done)
                simp only [Act.put, List.setIfInBounds_toArray, List.set_cons_zero, List.set_cons_succ]
                refine wpTame_run (v := ?_) (by decide) rfl (fun w' hS => ?_) ?_
                rotate_left
                focus (subst hS; go_simp; try rfl; done)
                simp only [Act.put, List.setIfInBounds_toArray, List.set_cons_zero, List.set_cons_succ]
                refine wpTame_run (v := ?_) (by decide) rfl (fun w' hS => ?_) ?_
                rotate_left
                focus (subst hS; go_simp; try rfl; done)
                simp only [Act.put, List.setIfInBounds_toArray, List.set_cons_zero, List.set_cons_succ]
                refine wpTame_run (v := ?_) (by decide) rfl (fun w' hS => ?_) ?_
                rotate_left
                focus (subst hS; go_simp; try rfl; done)
                simp only [Act.put, List.setIfInBounds_toArray, List.set_cons_zero, List.set_cons_succ]
                refine wpTame_run (v := ?_) (by decide) rfl (fun w' hS => ?_) ?_
                rotate_left
                focus (subst hS; go_simp; try rfl; done)
                simp only [Act.put, List.setIfInBounds_toArray, List.set_cons_zero, List.set_cons_succ]
                refine wpTame_run (v := ?_) (by decide) rfl (fun w' hS => ?_) ?_
                rotate_left
                focus (subst hS; go_simp; try rfl; done)
                simp only [Act.put, List.setIfInBounds_toArray, List.set_cons_zero, List.set_cons_succ]
                refine wpTame_run (v := ?_) (by decide) rfl (fun w' hS => ?_) ?_
                rotate_left
                focus (subst hS; go_simp; try rfl; done)
                simp only [Act.put, List.setIfInBounds_toArray, List.set_cons_zero, List.set_cons_succ]
                refine wpTame_run (v := ?_) (by decide) rfl (fun w' hS => ?_) ?_
                rotate_left
                focus (subst hS; go_simp; try rfl; done)
                simp only [Act.put, List.setIfInBounds_toArray, List.set_cons_zero, List.set_cons_succ]
                refine wpTame_run (v := ?_) (by decide) rfl (fun w' hS => ?_) ?_
                rotate_left
                focus (subst hS; go_simp; try rfl; done)
                simp only [Act.put, List.setIfInBounds_toArray, List.set_cons_zero, List.set_cons_succ]
                refine wpTame_run (v := ?_) (by decide) rfl (fun w' hS => ?_) ?_
                rotate_left
                focus (subst hS; go_simp; try rfl; done)
                simp only [Act.put, List.setIfInBounds_toArray, List.set_cons_zero, List.set_cons_succ]
                refine wpTame_nil ?_
                intro w5 hw5
                subst hw5
                go_wp2
                go_roundw
                case rel =>
                  refine ⟨c + 1, by omega, by go_num, ?_, Lib.hid ((HT2.out.draw 1).set_ne (by simp; omega) _)⟩
                  have h := (HE2.out.next (drew_below wr 1)).set (i * 4 + c) (y ^^^ z)
                  have e : putTo W T j i (c + 1) = (putTo W T j i c).set (i * 4 + c) (y ^^^ z) := by
                    rw [putTo, HD.out, Nat.mul_comm 4 i, Nat.mul_comm 4 d, HY.out, HZ2.out]
                  rw [xorU, e]
                  exact Lib.hid h
                case measure => simp [intOf]; omega
              · obtain rfl : c = 4 := by omega
                go_wp2
                go_roundw
                case rel =>
                  refine ⟨i + 1, gmU x 2, putTo W T j i 4, by omega, by omega, by go_num, rfl, ?_, HE2⟩
                  have h := HX.out
                  rw [show N - i = (N - (i + 1)) + 1 from by omega, expN, HTe.out] at h
                  rw [← h]
                  have e : nextX j i x = gmU x 2 := by unfold nextX; rw [if_pos hik]
                  rw [e]
                  exact Lib.hid rfl
                case measure => simp [intOf]; omega
          · have hikI : ((i : Int) % (j : Int) == 0) = false := by
              rw [beq_eq_false_iff_ne]; omega
            by_cases h84 : j = 8 ∧ i % 8 = 4
            · have h8I : ((j : Int) == 8) = true := by rw [beq_iff_eq]; omega
              have h4I : ((i : Int) % 8 == 4) = true := by rw [beq_iff_eq]; omega
              have H84 := Lib.hid h84
              clear h84
              go_wp2_with (first | ((with_reducible change wpList _ _ _ (Oper.mk _ (Op.load 79 _) _ _ _ _ :: _) _ _); refine wpList_load_mid rfl 79 _ rfl (n0 + 1) (i1 * 4) rfl ([t0, t1, t2, t3].map B) _ RNG4.out Try.underlying79 rfl (size4.trans (by rw [hm44])) ?_) | ((with_reducible change wpList _ _ _ (Oper.mk _ (Op.store 79 _ _) _ _ _ _ :: _) _ _); refine wpList_store_var wr.heap.size (barr [t0, t1, t2, t3]) rfl rfl b0 size4 rfl rfl (barr_one _) ?_; intro w1 B1 O1; have HW1 := Lib.hid ((HW.out.next ((Below.refl _ _).alloc (Nat.le_refl _) _)).only (g := wr.heap.size) htbn O1); have HB1 := Lib.hid B1; have q0 := B1.cellAt 0 (barr_getD [t0, t1, t2, t3] 0 (by simp)); have q1 := B1.cellAt 1 (barr_getD [t0, t1, t2, t3] 1 (by simp)); have q2 := B1.cellAt 2 (barr_getD [t0, t1, t2, t3] 2 (by simp)); have q3 := B1.cellAt 3 (barr_getD [t0, t1, t2, t3] 3 (by simp)); have hbl := B1.lt; clear B1 O1) | ((with_reducible change wpList _ _ _ (Oper.mk _ (Op.load 79 _) _ _ _ _ :: _) _ _); refine wpList_load_blk (ty := 79) wr.heap.size rfl HB1.out Try.underlying79 rfl size4 rfl ?_))
              refine (boxed_any [t0, t1, t2, t3] w1 rfl).mono ?_
              rintro e w2 ⟨rfl, h2⟩
              have HW2 := Lib.hid (HW1.out.next h2)
              have HB2 := Lib.hid (HB1.out.below h2 hbl)
              clear h2 HW1 HB1 q0 q1 q2 q3 hbl b0
              generalize htb : wr.heap.size = tb at *
              obtain ⟨T, hTT⟩ : ∃ T, T = [boxU t0, boxU t1, boxU t2, boxU t3] := ⟨_, rfl⟩
              have hTl : T.length = 4 := by rw [hTT]; rfl
              have hs44 : (barr T).size = 4 := by rw [barr_size]; exact hTl
              have HTe : Hid (turned j i x (wordAt W (i - 1)) = T) := by
                rw [HI1.out, HTT.out, hTT]
                unfold turned
                rw [if_neg hik, if_pos H84.out]
                exact Lib.hid rfl
              rw [boxL_of, ← hTT]
              clear hTT
              go_wp2_with ((with_reducible change wpList _ _ _ (Oper.mk _ (Op.store 79 _ _) _ _ _ _ :: _) _ _); refine wpList_store_var tb (barr T) rfl rfl HB2.out size4 hs44 rfl (barr_one _) ?_; intro w3 B3 O3; have HE := Lib.hid (HW2.out.only (g := tb) htbn O3); have HT := Lib.hid B3; clear B3 O3)
              go_loopw [76] (fun b w1 => ∃ c : Nat, c ≤ 4 ∧ b = .int .i64 (c : Int) ∧ Hid (ExpW w n0 (putTo W T j i c) w1) ∧ Hid (Blk w1 tb 79 (barr T))) (fun b _ => 4 - (intOf b).toNat)
              case atStart => exact ⟨0, by omega, rfl, HE, HT⟩
              case round =>
                obtain ⟨c, hc, rfl, HE2, HT2⟩ := hrel
                by_cases hct : c < 4
                · have hPl : (putTo W T j i c).length = 240 := HE2.out.len
                  have c1 := HE2.out.row.cellAt (d * 4 + c) (barr_getD _ (d * 4 + c) (by rw [hPl]; omega))
                  have c2 := HT2.out.cellAt c (barr_getD T c (by rw [hTl]; exact hct))
                  have c3 := HE2.out.row.cellAt (i * 4 + c) (barr_getD _ (i * 4 + c) (by rw [hPl]; omega))
                  have f3 := HE2.out.row.unfrozen (i * 4 + c)
                  have b1 := HE2.out.row.lt
                  have b2 := HT2.out.lt
                  generalize hy : (putTo W T j i c).getD (d * 4 + c) 0 = y at c1
                  generalize hz2 : T.getD c 0 = z at c2
                  have HY := Lib.hid hy
                  have HZ2 := Lib.hid hz2
                  have hWd : IntKind.i64.wrap (d : Int) = (d : Int) := IntWalk.i64_in _ (by omega)
                  have hdI60 : (d : Int) < 60 := by omega
                  have hiI60 : (i : Int) < 60 := by omega
                  have hcI4 : (c : Int) < 4 := by omega
                  clear hy hz2
                  go_wp2_with fail
                  refine wp_region_tame (fun w' => w' = wr.drewN 1) 0 15 (by kernel_rfl) (by kernel_rfl) (fun _ _ d _ _ h => (by cases d <;> exact h)) rfl (by decide) ?_
                  simp only [List.take_succ_cons, List.take_zero, List.drop_succ_cons, List.drop_zero]
                  refine wpPre_nil ?_
                  refine wpTame_run (v := ?_) (by decide) rfl (fun w' hS => ?_) ?_
                  rotate_left
                  focus (subst hS; go_simp; try rfl; done)
                  simp only [Act.put, List.setIfInBounds_toArray, List.set_cons_zero, List.set_cons_succ]
                  refine wpTame_run (v := ?_) (by decide) rfl (fun w' hS => ?_) ?_
                  rotate_left
                  focus (subst hS; go_simp; try rfl; done)
                  simp only [Act.put, List.setIfInBounds_toArray, List.set_cons_zero, List.set_cons_succ]
                  refine wpTame_run (v := ?_) (by decide) rfl (fun w' hS => ?_) ?_
                  rotate_left
                  focus (subst hS; go_simp; try rfl; done)
                  simp only [Act.put, List.setIfInBounds_toArray, List.set_cons_zero, List.set_cons_succ]
                  refine wpTame_run (v := ?_) (by decide) rfl (fun w' hS => ?_) ?_
                  rotate_left
                  focus (subst hS; go_simp; try rfl; done)
                  simp only [Act.put, List.setIfInBounds_toArray, List.set_cons_zero, List.set_cons_succ]
                  refine wpTame_run (v := ?_) (by decide) rfl (fun w' hS => ?_) ?_
                  rotate_left
                  focus (subst hS; go_simp; try rfl; done)
                  simp only [Act.put, List.setIfInBounds_toArray, List.set_cons_zero, List.set_cons_succ]
                  refine wpTame_run (v := ?_) (by decide) rfl (fun w' hS => ?_) ?_
                  rotate_left
                  focus (subst hS; go_simp; try rfl; done)
                  simp only [Act.put, List.setIfInBounds_toArray, List.set_cons_zero, List.set_cons_succ]
                  refine wpTame_run (v := ?_) (by decide) rfl (fun w' hS => ?_) ?_
                  rotate_left
                  focus (subst hS; go_simp; try rfl; done)
                  simp only [Act.put, List.setIfInBounds_toArray, List.set_cons_zero, List.set_cons_succ]
                  refine wpTame_run (v := ?_) (by decide) rfl (fun w' hS => ?_) ?_
                  rotate_left
                  focus (subst hS; go_simp; try rfl; done)
                  simp only [Act.put, List.setIfInBounds_toArray, List.set_cons_zero, List.set_cons_succ]
                  refine wpTame_run (v := ?_) (by decide) rfl (fun w' hS => ?_) ?_
                  rotate_left
                  focus (subst hS; go_simp; try rfl; done)
                  simp only [Act.put, List.setIfInBounds_toArray, List.set_cons_zero, List.set_cons_succ]
                  refine wpTame_run (v := ?_) (by decide) rfl (fun w' hS => ?_) ?_
                  rotate_left
                  focus (subst hS; go_simp; try rfl; done)
                  simp only [Act.put, List.setIfInBounds_toArray, List.set_cons_zero, List.set_cons_succ]
                  refine wpTame_run (v := ?_) (by decide) rfl (fun w' hS => ?_) ?_
                  rotate_left
                  focus (subst hS; go_simp; try rfl; done)
                  simp only [Act.put, List.setIfInBounds_toArray, List.set_cons_zero, List.set_cons_succ]
                  refine wpTame_run (v := ?_) (by decide) rfl (fun w' hS => ?_) ?_
                  rotate_left
                  focus (subst hS; go_simp; try rfl; done)
                  simp only [Act.put, List.setIfInBounds_toArray, List.set_cons_zero, List.set_cons_succ]
                  refine wpTame_run (v := ?_) (by decide) rfl (fun w' hS => ?_) ?_
                  rotate_left
                  focus (subst hS; go_simp; try rfl; done)
                  simp only [Act.put, List.setIfInBounds_toArray, List.set_cons_zero, List.set_cons_succ]
                  refine wpTame_run (v := ?_) (by decide) rfl (fun w' hS => ?_) ?_
                  rotate_left
                  focus (subst hS; go_simp; try rfl; done)
                  simp only [Act.put, List.setIfInBounds_toArray, List.set_cons_zero, List.set_cons_succ]
                  refine wpTame_run (v := ?_) (by decide) rfl (fun w' hS => ?_) ?_
                  rotate_left
                  focus (subst hS; go_simp; try rfl; done)
                  simp only [Act.put, List.setIfInBounds_toArray, List.set_cons_zero, List.set_cons_succ]
                  refine wpTame_nil ?_
                  intro w5 hw5
                  subst hw5
                  go_wp2
                  go_roundw
                  case rel =>
                    refine ⟨c + 1, by omega, by go_num, ?_, Lib.hid ((HT2.out.draw 1).set_ne (by simp; omega) _)⟩
                    have h := (HE2.out.next (drew_below wr 1)).set (i * 4 + c) (y ^^^ z)
                    have e : putTo W T j i (c + 1) = (putTo W T j i c).set (i * 4 + c) (y ^^^ z) := by
                      rw [putTo, HD.out, Nat.mul_comm 4 i, Nat.mul_comm 4 d, HY.out, HZ2.out]
                    rw [xorU, e]
                    exact Lib.hid h
                  case measure => simp [intOf]; omega
                · obtain rfl : c = 4 := by omega
                  go_wp2
                  go_roundw
                  case rel =>
                    refine ⟨i + 1, x, putTo W T j i 4, by omega, by omega, by go_num, rfl, ?_, HE2⟩
                    have h := HX.out
                    rw [show N - i = (N - (i + 1)) + 1 from by omega, expN, HTe.out] at h
                    rw [← h]
                    have e : nextX j i x = x := by unfold nextX; rw [if_neg hik]
                    rw [e]
                    exact Lib.hid rfl
                  case measure => simp [intOf]; omega
            · have h8I : (((j : Int) == 8) = true ∧ ((i : Int) % 8 == 4) = false) ∨ ((j : Int) == 8) = false := by
                by_cases h8 : j = 8
                · left
                  refine ⟨by rw [beq_iff_eq]; omega, ?_⟩
                  rw [beq_eq_false_iff_ne]; omega
                · right
                  rw [beq_eq_false_iff_ne]; omega
              have HTe : Hid (turned j i x (wordAt W (i - 1)) = [t0, t1, t2, t3]) := by
                rw [HI1.out, HTT.out]
                unfold turned
                rw [if_neg hik, if_neg h84]
                exact Lib.hid rfl
              clear h84
              obtain ⟨T, hTT⟩ : ∃ T, T = [t0, t1, t2, t3] := ⟨_, rfl⟩
              have hTl : T.length = 4 := by rw [hTT]; rfl
              rcases h8I with ⟨h8I, h4I⟩ | h8I
              all_goals
                go_wp2_with (first | ((with_reducible change wpList _ _ _ (Oper.mk _ (Op.load 79 _) _ _ _ _ :: _) _ _); refine wpList_load_mid rfl 79 _ rfl (n0 + 1) (i1 * 4) rfl ([t0, t1, t2, t3].map B) _ RNG4.out Try.underlying79 rfl (size4.trans (by rw [hm44])) ?_) | ((with_reducible change wpList _ _ _ (Oper.mk _ (Op.store 79 _ _) _ _ _ _ :: _) _ _); refine wpList_store_var wr.heap.size (barr [t0, t1, t2, t3]) rfl rfl b0 size4 rfl rfl (barr_one _) ?_; intro w1 B1 O1; have HW1 := Lib.hid ((HW.out.next ((Below.refl _ _).alloc (Nat.le_refl _) _)).only (g := wr.heap.size) htbn O1); have HB1 := Lib.hid B1; have q0 := B1.cellAt 0 (barr_getD [t0, t1, t2, t3] 0 (by simp)); have q1 := B1.cellAt 1 (barr_getD [t0, t1, t2, t3] 1 (by simp)); have q2 := B1.cellAt 2 (barr_getD [t0, t1, t2, t3] 2 (by simp)); have q3 := B1.cellAt 3 (barr_getD [t0, t1, t2, t3] 3 (by simp)); have hbl := B1.lt; clear B1 O1))
                clear q0 q1 q2 q3 hbl b0
                generalize htb : wr.heap.size = tb at *
                rw [← hTT] at HB1 HTe
                have HE := HW1
                have HT := HB1
                clear HW1 HB1 hTT
                go_loopw [76] (fun b w1 => ∃ c : Nat, c ≤ 4 ∧ b = .int .i64 (c : Int) ∧ Hid (ExpW w n0 (putTo W T j i c) w1) ∧ Hid (Blk w1 tb 79 (barr T))) (fun b _ => 4 - (intOf b).toNat)
                case atStart => exact ⟨0, by omega, rfl, HE, HT⟩
                case round =>
                  obtain ⟨c, hc, rfl, HE2, HT2⟩ := hrel
                  by_cases hct : c < 4
                  · have hPl : (putTo W T j i c).length = 240 := HE2.out.len
                    have c1 := HE2.out.row.cellAt (d * 4 + c) (barr_getD _ (d * 4 + c) (by rw [hPl]; omega))
                    have c2 := HT2.out.cellAt c (barr_getD T c (by rw [hTl]; exact hct))
                    have c3 := HE2.out.row.cellAt (i * 4 + c) (barr_getD _ (i * 4 + c) (by rw [hPl]; omega))
                    have f3 := HE2.out.row.unfrozen (i * 4 + c)
                    have b1 := HE2.out.row.lt
                    have b2 := HT2.out.lt
                    generalize hy : (putTo W T j i c).getD (d * 4 + c) 0 = y at c1
                    generalize hz2 : T.getD c 0 = z at c2
                    have HY := Lib.hid hy
                    have HZ2 := Lib.hid hz2
                    have hWd : IntKind.i64.wrap (d : Int) = (d : Int) := IntWalk.i64_in _ (by omega)
                    have hdI60 : (d : Int) < 60 := by omega
                    have hiI60 : (i : Int) < 60 := by omega
                    have hcI4 : (c : Int) < 4 := by omega
                    clear hy hz2
                    go_wp2_with fail
                    refine wp_region_tame (fun w' => w' = wr.drewN 1) 0 15 (by kernel_rfl) (by kernel_rfl) (fun _ _ d _ _ h => (by cases d <;> exact h)) rfl (by decide) ?_
                    simp only [List.take_succ_cons, List.take_zero, List.drop_succ_cons, List.drop_zero]
                    refine wpPre_nil ?_
                    refine wpTame_run (v := ?_) (by decide) rfl (fun w' hS => ?_) ?_
                    rotate_left
                    focus (subst hS; go_simp; try rfl; done)
                    simp only [Act.put, List.setIfInBounds_toArray, List.set_cons_zero, List.set_cons_succ]
                    refine wpTame_run (v := ?_) (by decide) rfl (fun w' hS => ?_) ?_
                    rotate_left
                    focus (subst hS; go_simp; try rfl; done)
                    simp only [Act.put, List.setIfInBounds_toArray, List.set_cons_zero, List.set_cons_succ]
                    refine wpTame_run (v := ?_) (by decide) rfl (fun w' hS => ?_) ?_
                    rotate_left
                    focus (subst hS; go_simp; try rfl; done)
                    simp only [Act.put, List.setIfInBounds_toArray, List.set_cons_zero, List.set_cons_succ]
                    refine wpTame_run (v := ?_) (by decide) rfl (fun w' hS => ?_) ?_
                    rotate_left
                    focus (subst hS; go_simp; try rfl; done)
                    simp only [Act.put, List.setIfInBounds_toArray, List.set_cons_zero, List.set_cons_succ]
                    refine wpTame_run (v := ?_) (by decide) rfl (fun w' hS => ?_) ?_
                    rotate_left
                    focus (subst hS; go_simp; try rfl; done)
                    simp only [Act.put, List.setIfInBounds_toArray, List.set_cons_zero, List.set_cons_succ]
                    refine wpTame_run (v := ?_) (by decide) rfl (fun w' hS => ?_) ?_
                    rotate_left
                    focus (subst hS; go_simp; try rfl; done)
                    simp only [Act.put, List.setIfInBounds_toArray, List.set_cons_zero, List.set_cons_succ]
                    refine wpTame_run (v := ?_) (by decide) rfl (fun w' hS => ?_) ?_
                    rotate_left
                    focus (subst hS; go_simp; try rfl; done)
                    simp only [Act.put, List.setIfInBounds_toArray, List.set_cons_zero, List.set_cons_succ]
                    refine wpTame_run (v := ?_) (by decide) rfl (fun w' hS => ?_) ?_
                    rotate_left
                    focus (subst hS; go_simp; try rfl; done)
                    simp only [Act.put, List.setIfInBounds_toArray, List.set_cons_zero, List.set_cons_succ]
                    refine wpTame_run (v := ?_) (by decide) rfl (fun w' hS => ?_) ?_
                    rotate_left
                    focus (subst hS; go_simp; try rfl; done)
                    simp only [Act.put, List.setIfInBounds_toArray, List.set_cons_zero, List.set_cons_succ]
                    refine wpTame_run (v := ?_) (by decide) rfl (fun w' hS => ?_) ?_
                    rotate_left
                    focus (subst hS; go_simp; try rfl; done)
                    simp only [Act.put, List.setIfInBounds_toArray, List.set_cons_zero, List.set_cons_succ]
                    refine wpTame_run (v := ?_) (by decide) rfl (fun w' hS => ?_) ?_
                    rotate_left
                    focus (subst hS; go_simp; try rfl; done)
                    simp only [Act.put, List.setIfInBounds_toArray, List.set_cons_zero, List.set_cons_succ]
                    refine wpTame_run (v := ?_) (by decide) rfl (fun w' hS => ?_) ?_
                    rotate_left
                    focus (subst hS; go_simp; try rfl; done)
                    simp only [Act.put, List.setIfInBounds_toArray, List.set_cons_zero, List.set_cons_succ]
                    refine wpTame_run (v := ?_) (by decide) rfl (fun w' hS => ?_) ?_
                    rotate_left
                    focus (subst hS; go_simp; try rfl; done)
                    simp only [Act.put, List.setIfInBounds_toArray, List.set_cons_zero, List.set_cons_succ]
                    refine wpTame_run (v := ?_) (by decide) rfl (fun w' hS => ?_) ?_
                    rotate_left
                    focus (subst hS; go_simp; try rfl; done)
                    simp only [Act.put, List.setIfInBounds_toArray, List.set_cons_zero, List.set_cons_succ]
                    refine wpTame_run (v := ?_) (by decide) rfl (fun w' hS => ?_) ?_
                    rotate_left
                    focus (subst hS; go_simp; try rfl; done)
                    simp only [Act.put, List.setIfInBounds_toArray, List.set_cons_zero, List.set_cons_succ]
                    refine wpTame_nil ?_
                    intro w5 hw5
                    subst hw5
                    go_wp2
                    go_roundw
                    case rel =>
                      refine ⟨c + 1, by omega, by go_num, ?_, Lib.hid ((HT2.out.draw 1).set_ne (by simp; omega) _)⟩
                      have h := (HE2.out.next (drew_below wr 1)).set (i * 4 + c) (y ^^^ z)
                      have e : putTo W T j i (c + 1) = (putTo W T j i c).set (i * 4 + c) (y ^^^ z) := by
                        rw [putTo, HD.out, Nat.mul_comm 4 i, Nat.mul_comm 4 d, HY.out, HZ2.out]
                      rw [xorU, e]
                      exact Lib.hid h
                    case measure => simp [intOf]; omega
                  · obtain rfl : c = 4 := by omega
                    go_wp2
                    go_roundw
                    case rel =>
                      refine ⟨i + 1, x, putTo W T j i 4, by omega, by omega, by go_num, rfl, ?_, HE2⟩
                      have h := HX.out
                      rw [show N - i = (N - (i + 1)) + 1 from by omega, expN, HTe.out] at h
                      rw [← h]
                      have e : nextX j i x = x := by unfold nextX; rw [if_neg hik]
                      rw [e]
                      exact Lib.hid rfl
                    case measure => simp [intOf]; omega
        · obtain rfl : i = N := by omega
          have hX := HX.out
          rw [Nat.sub_self, expN] at hX
          subst hX
          clear HX HN
          have hs240 : (barr (sched key)).size = 240 := by rw [barr_size]; exact hWl
          have hZs : Z.size = 240 := by rw [← HZ.out, barr_size]; rfl
          have HLD := Lib.hid (HW.out.row.alloc (.cells Z 66))
          go_wp2_with ((with_reducible change wpList _ _ _ (Oper.mk _ (Op.load 94 _) _ _ _ _ :: _) _ _); refine wpList_load_blk (ty := 94) (n0 + 1) rfl HLD.out Try.underlying94 rfl size240w hs240 ?_)
          have hn2 : n0 + 1 < wr.heap.size := HW.out.row.lt
          have HO : Hid (ExpW w n0 (sched key) (wr.alloc (.cells Z 66)) ∧ Blk (wr.alloc (.cells Z 66)) wr.heap.size 66 (barr (outTo (sched key) 0))) := by
            refine Lib.hid ⟨HW.out.next ((Below.refl _ _).alloc (Nat.le_refl _) _), ?_⟩
            rw [outTo_zero, HZ.out]
            exact Blk.new _ _ _
          generalize hn2e : wr.heap.size = n2 at *
          clear HLD HW
          go_loopw [96] (fun i w1 => ∃ c : Nat, c ≤ 60 ∧ i = .int .i64 (c : Int) ∧ Hid (ExpW w n0 (sched key) w1 ∧ Blk w1 n2 66 (barr (outTo (sched key) c)))) (fun i _ => 60 - (intOf i).toNat)
          case atStart => exact ⟨0, by omega, rfl, HO⟩
          case round =>
            obtain ⟨c, hc, rfl, HP⟩ := hrel
            clear HO
            by_cases hct : c < 60
            · have hix : ∀ w', (Instr.index 94 (.agg (barr (sched key))) (.int .i64 (c : Int))).run Try.prog w' = .ok (.agg (barr (wordAt (sched key) c))) w' := fun w' => run_index_words Try.underlying94 Try.underlying79 rfl (by kernel_rfl) (sched key) c (by omega) hct w'
              obtain ⟨V, hV⟩ : ∃ V, V = wordAt (sched key) c := ⟨_, rfl⟩
              have hV4 : (barr V).size = 4 := by rw [hV]; rfl
              have hVl : V.length = 4 := by rw [hV]; rfl
              rw [← hV] at hix
              have HV := Lib.hid hV
              clear hV
              have hn3 : n2 < wr.heap.size := HP.out.2.lt
              have b0 : Blk (wr.alloc (.cells (barr (List.replicate 4 0)) 79)) wr.heap.size 79 (barr (List.replicate 4 0)) := Blk.new _ _ _
              go_wp2_with ((with_reducible change wpList _ _ _ (Oper.mk _ (Op.store 79 _ _) _ _ _ _ :: _) _ _); refine wpList_store_var wr.heap.size (barr V) rfl rfl b0 size4 hV4 rfl (barr_one _) ?_; intro w3 B3 O3; have HB3 := Lib.hid B3; have HE3 := Lib.hid ((HP.out.1.next ((Below.refl _ _).alloc (Nat.le_refl _) _)).only (g := wr.heap.size) (by omega) O3); have HN3 := Lib.hid ((HP.out.2.alloc (.cells (barr (List.replicate 4 0)) 79)).only O3 (by omega)); clear B3 O3)
              obtain ⟨e, he⟩ : ∃ e, c / 4 = e := ⟨_, rfl⟩
              obtain ⟨f, hf⟩ : ∃ f, c % 4 = f := ⟨_, rfl⟩
              obtain ⟨q, hq⟩ : ∃ q, 4 * f = q := ⟨_, rfl⟩
              have hT1 : (c : Int).tdiv 4 = (e : Int) := by rw [Int.tdiv_eq_ediv_of_nonneg (by omega)]; omega
              have hT2 : (c : Int).tmod 4 = (f : Int) := by rw [Int.tmod_eq_emod_of_nonneg (by omega)]; omega
              have hqI : 4 * (f : Int) = (q : Int) := by omega
              have hWq : IntKind.i64.wrap (q : Int) = (q : Int) := IntWalk.i64_in _ (by omega)
              have hWe : IntKind.i64.wrap (e : Int) = (e : Int) := IntWalk.i64_in _ (by omega)
              have heI : (e : Int) < 15 := by omega
              have hsl : ∀ w', (Instr.sliceAt 31 (.pointer (some ⟨n2, e * 16, none⟩)) (some (.int .i64 (q : Int))) none none).run Try.prog w' = .ok (.slice (some ⟨n2, 4 * c, none⟩) (16 - q) (16 - q)) w' := fun w' => by
                have hal : Try.prog.arrayLen 31 = 16 := by kernel_rfl
                rw [run_sliceAt_array_l w' 31 ⟨n2, e * 16, none⟩ (by simp [Program.arrayLen, Program.elem, Try.underlying31]) .i64 (q : Int) (by omega) (by rw [hal]; omega)]
                have hsz : (sizeOf (Try.prog.elem 31)).run Try.prog w' = .ok 1 w' := by kernel_rfl
                rw [hsz, Result.andThen_ok, hal]
                unfold slicedAt
                rw [if_neg (by omega), Int.toNat_natCast, add_lit, show e * 16 + q * 1 = 4 * c from by omega]
              have hsl2 : ∀ w', (Instr.sliceAt 79 (.pointer (some ⟨wr.heap.size, 0, none⟩)) none none none).run Try.prog w' = .ok (.slice (some ⟨wr.heap.size, 0, none⟩) 4 4) w' := fun w' => by
                have hal : Try.prog.arrayLen 79 = 4 := by kernel_rfl
                rw [run_sliceAt_array_all w' 79 ⟨wr.heap.size, 0, none⟩ (by simp [Program.arrayLen, Program.elem, Try.underlying79])]
                have hsz : (sizeOf (Try.prog.elem 79)).run Try.prog w' = .ok 1 w' := by kernel_rfl
                rw [hsz, Result.andThen_ok, hal]
                unfold slicedAt
                rw [if_neg (by omega), add_lit]
              have hq12 : q ≤ 12 := by omega
              clear he hf hq
              generalize htb : wr.heap.size = tb at *
              refine wp_region_tame (fun w' => w' = w3.drewN 1) 0 8 (by kernel_rfl) (by kernel_rfl) (fun _ _ d _ _ h => (by cases d <;> exact h)) rfl (by decide) ?_
              simp only [List.take_succ_cons, List.take_zero, List.drop_succ_cons, List.drop_zero]
              refine wpPre_nil ?_
              refine wpTame_run (v := ?_) (by decide) rfl (fun w' hS => ?_) ?_
              rotate_left
              focus (subst hS; go_simp; try rfl; done)
              simp only [Act.put, List.setIfInBounds_toArray, List.set_cons_zero, List.set_cons_succ]
              refine wpTame_run (v := ?_) (by decide) rfl (fun w' hS => ?_) ?_
              rotate_left
              focus (subst hS; go_simp; try rfl; done)
              simp only [Act.put, List.setIfInBounds_toArray, List.set_cons_zero, List.set_cons_succ]
              refine wpTame_run (v := ?_) (by decide) rfl (fun w' hS => ?_) ?_
              rotate_left
              focus (subst hS; go_simp; try rfl; done)
              simp only [Act.put, List.setIfInBounds_toArray, List.set_cons_zero, List.set_cons_succ]
              refine wpTame_run (v := ?_) (by decide) rfl (fun w' hS => ?_) ?_
              rotate_left
              focus (subst hS; go_simp; try rfl; done)
              simp only [Act.put, List.setIfInBounds_toArray, List.set_cons_zero, List.set_cons_succ]
              refine wpTame_run (v := ?_) (by decide) rfl (fun w' hS => ?_) ?_
              rotate_left
              focus (subst hS; go_simp; try rfl; done)
              simp only [Act.put, List.setIfInBounds_toArray, List.set_cons_zero, List.set_cons_succ]
              refine wpTame_run (v := ?_) (by decide) rfl (fun w' hS => ?_) ?_
              rotate_left
              focus (subst hS; go_simp; try rfl; done)
              simp only [Act.put, List.setIfInBounds_toArray, List.set_cons_zero, List.set_cons_succ]
              refine wpTame_run (v := ?_) (by decide) rfl (fun w' hS => ?_) ?_
              rotate_left
              focus (subst hS; go_simp; try rfl; done)
              simp only [Act.put, List.setIfInBounds_toArray, List.set_cons_zero, List.set_cons_succ]
              refine wpTame_run (v := ?_) (by decide) rfl (fun w' hS => ?_) ?_
              rotate_left
              focus (subst hS; go_simp; try rfl; done)
              simp only [Act.put, List.setIfInBounds_toArray, List.set_cons_zero, List.set_cons_succ]
              refine wpTame_nil ?_
              intro w5 hw5
              subst hw5
              have hcs : (V.map B).length = Nat.min 4 (16 - q) := by rw [List.length_map, hVl]; exact (Nat.min_eq_left (by omega)).symm
              refine wpList_copy_only rfl _ _ _ _ rfl 5 Try.underlying22 (by kernel_rfl) _ _ _ _ _ _ rfl rfl n2 (4 * c) ((outTo (sched key) c).map B) 66 (HN3.out.draw 1) (V.map B) hcs (fun _ => ⟨rfl, ⟨tb, 0, none⟩, rfl, fun j v hj => ?_⟩) (by rw [List.length_map, List.length_map, hVl, outTo_len _ _ hWl hc]; omega) (bytes_one V) ?_
              · rw [add_lit, Nat.zero_add]
                exact (HB3.out.draw 1).cellAt j (by show (V.map B).toArray[j]? = some v; rw [List.getElem?_toArray]; exact hj)
              intro w6 G6 O6
              have HE6 := Lib.hid ((HE3.out.next (drew_below w3 1)).only (g := n2) hn2 O6)
              have HO6 : Hid (Blk w6 n2 66 (barr (outTo (sched key) (c + 1)))) := by
                have h := G6.out
                rw [HV.out, outTo_splice _ _ hWl hct] at h
                exact Lib.hid h
              clear G6 O6
              refine wpList_nil ?_
              go_wp2
              go_roundw
              case rel => exact ⟨c + 1, by omega, by go_num, Lib.hid ⟨HE6.out, HO6.out⟩⟩
              case measure => simp [intOf]; omega
            · obtain rfl : c = 60 := by omega
              have HR := Lib.hid HP.out.1.res
              have HG := HP.out.2
              rw [outTo_end _ hWl] at HG
              have HGG := Lib.hid HG
              have hn0lt : HP.out.1.at0 = HP.out.1.at0 := rfl
              have hz240 : (barr (List.replicate 240 (0 : UInt8))).size = 240 := by rw [barr_size]; simp
              have HBL := Lib.hid HP.out.1.below
              have hle : w.heap.size ≤ n0 := by rw [HP.out.1.at0]; exact Nat.le_refl _
              clear HG HP hn0lt
              go_wp2_with (first | ((with_reducible change wpList _ _ _ (Oper.mk _ (Op.load 66 _) _ _ _ _ :: _) _ _); refine wpList_load_blk (ty := 66) n2 rfl HGG.out Try.underlying66 rfl size240 hs240 ?_) | ((with_reducible change wpList _ _ _ (Oper.mk _ (Op.store 66 _ _) _ _ _ _ :: _) _ _); refine wpList_store_blk (ty := 66) n0 (barr (sched key)) rfl rfl HR.out size240 hs240 hz240 (barr_one _) ?_))
              refine bodyPost_ret (results_cell_blk rfl _ _ n0 rfl (HR.out.row _) Try.underlying66 rfl size240 hs240) rfl ⟨rfl, below_row HBL.out hle _⟩
end Go.Proofs.Ytihmgkjmebdioaa

