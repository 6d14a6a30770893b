/- append of bytes to a row that is a thing of a law's world. -/
import Derived.Test.YtpampcokonicfaaRows
import Derived.Deep.AppendLies
import Derived.IntWalk
import Derived.Lib.AppendZerosOnto
import Derived.Test.YtpampcokonicfaaQCmacScript0
import Derived.Test.YtpampcokonicfaaQCmacScript1
import Derived.Test.YtpampcokonicfaaQCmacScript2
import Derived.Test.YtpampcokonicfaaQCmacScript3
import Derived.Test.YtpampcokonicfaaQCmacScript4
import Derived.Test.YtpampcokonicfaaQCmacScript6
/- The walk of turnkeyref10.Of: the words are the schedule's. Condition: the key has 16, 24 or 32 bytes. -/
namespace Go.Proofs.Ytpampcokonicfaa
open Go.RowKit
set_option maxRecDepth 100000
set_option linter.unusedVariables false
set_option linter.unusedSimpArgs false
attribute [local go_sem] Oper.semAt_some
theorem built_aes : Array.foldl (fun (cs : Array Value) (x : Value × Nat) => cs.setIfInBounds (1 + x.snd) x.fst) Try.zeroCells130 (barr box256).zipIdx 0 (barr box256).size = raC (.slice none 0 0) := by
  have h0 : Try.zeroCells130 = ([Value.slice none 0 0] ++ (List.replicate 256 (0 : UInt8)).map B).toArray := by kernel_rfl
  have hs : (barr box256).size = (barr box256).zipIdx.size := by rw [Array.size_zipIdx]
  rw [h0, hs, ← Array.foldl_toList, Array.toList_zipIdx, barr_toList]
  exact over_list 1 (box256.map B) [Value.slice none 0 0] ((List.replicate 256 (0 : UInt8)).map B) 0 rfl (by rw [List.length_map, List.length_map, box256_len, List.length_replicate])
def OfI (w wx : World) (a k : Nat) (key : List UInt8) (i : Nat) (x : UInt8) : Prop := ∃ v W, OfW w wx a v i W ∧ W.length = 240 ∧ ((i ≤ k ∧ W = keyTo key k ∧ x = 1) ∨ (k ≤ i ∧ expN k (4 * (k + 7) - i) i x W = sched key))
set_option maxHeartbeats 4000000 in
theorem rof_any (u : Value) (key : List UInt8) (k : Nat) (w : World) (hu : Bs w u key) (hkl : key.length = 4 * k) (hk : k = 4 ∨ k = 6 ∨ k = 8) :
    Calls Try.prog 79 #[u] w fun e w' => ∃ a g cap : Nat, e = .returned (.pointer (some ⟨a, 0, none⟩)) ∧ RA w' a g (4 * (k + 7)) cap (sched key) ∧ Below w.heap.size w w' ∧ w.heap.size ≤ a ∧ w.heap.size ≤ g := by
  have hk8 : k ≤ 8 := by omega
  have hk4 : 4 ≤ k := by omega
  obtain ⟨ao, cap, rfl, h1, h2, _, hc⟩ := hu.form
  clear hu
  have hpos : 0 < key.length := by omega
  obtain ⟨g, off, rfl, _⟩ := hc 0 hpos
  have hcell : ∀ j, j < key.length → w.cell? ⟨g, off + j, none⟩ = some (.int .u8 ((key.getD j 0).toNat : Int)) := by
    intro j hj
    obtain ⟨b, o, hb, hx⟩ := hc j hj
    injection hb with e
    injection e with e1 e2
    subst e1; subst e2
    exact hx
  have hg : g < w.heap.size := World.block_lt_of_cell? w _ (hcell 0 hpos)
  have HCELL : Hid (∀ wx j, j < key.length → Below w.heap.size w wx → wx.cell? ⟨g, off + j, none⟩ = some (.int .u8 ((key.getD j 0).toNat : Int))) := Lib.hid (fun wx j hj hb => (hb.cell hg).trans (hcell j hj))
  clear hc hcell
  have hkq : (key.length : Int) / 4 = (k : Int) := by omega
  have HKL := Lib.hid hkl
  have HK := Lib.hid hk
  have hSched : Hid (expN k (3 * k + 28) k 1 (keyTo key k) = sched key) := by
    unfold sched
    rw [show key.length / 4 = k from by omega]
    congr 1
    unfold keyTo
    rw [← hkl, List.take_of_length_le (Nat.le_refl _)]
  have HW0 : Hid ((keyTo key k).length = 240) := Lib.hid (keyTo_len key k (by omega) (by omega))
  clear hkl hk
  go_enter Try.func79, Try.ntmps79
  go_wp2_with fail
  refine (rboxes_any w).mono ?_
  rintro e w1 ⟨rfl, hb1⟩
  have HB1 := Lib.hid hb1
  clear hb1
  go_upto_region 2 with fail
  rw [built_aes]
  obtain ⟨a, ha⟩ : ∃ x, w1.heap.size = x := ⟨_, rfl⟩
  obtain ⟨w2, hw2⟩ : ∃ x, w1.alloc (.cells (raC (.slice none 0 0)) 130) = x := ⟨_, rfl⟩
  have H2 : Hid (OfI w w2 a k key 0 1) := by
    rw [← hw2, ← ha]
    refine Lib.hid ⟨.slice none 0 0, keyTo key k, ⟨Blk.at rfl rfl, World.ownsRow_nil _ 0 _ _, HB1.out.alloc HB1.out.size _, HB1.out.size, fun x hx => by simp [fpv, Value.ownBlock] at hx⟩, HW0.out, .inl ⟨by omega, rfl, rfl⟩⟩
  rw [hw2, ha]
  clear hw2 ha HB1
  generalize raC (.slice none 0 0) = RC
  obtain ⟨n, hn⟩ : ∃ n, n = 4 * (k + 7) := ⟨_, rfl⟩
  have hnI : 4 * ((k : Int) + 7) = (n : Int) := by omega
  have hn60 : n ≤ 60 := by omega
  have HN := Lib.hid hn
  clear hn
  go_wp2_with fail
  go_loopw [5, 6] (fun xv iv wx => ∃ (x : UInt8) (i : Nat), i ≤ n ∧ iv = .int .i64 (i : Int) ∧ xv = .int .u8 (x.toNat : Int) ∧ Hid (OfI w wx a k key i x)) (fun _ iv _ => n - (intOf iv).toNat)
  case atStart => exact ⟨1, 0, by omega, rfl, rfl, H2⟩
  case round =>
    obtain ⟨x, i, hi, rfl, rfl, H⟩ := hrel
    clear H2
    by_cases hin : i < n
    · have t1 : decide ((i : Int) < (n : Int)) = true := by rw [decide_eq_true_eq]; omega
      obtain ⟨v, W, hOf⟩ := H.out
      have HO := Lib.hid hOf
      clear hOf H
      by_cases hik : i < k
      · have t2 : decide ((i : Int) < (k : Int)) = true := by rw [decide_eq_true_eq]; omega
        obtain ⟨o1, hWl, ho3⟩ := HO.out
        obtain ⟨rfl, rfl⟩ : W = keyTo key k ∧ x = 1 := by
          rcases ho3 with h | h
          · exact ⟨h.2.1, h.2.2⟩
          · omega
        --[p1
        obtain ⟨p, hp⟩ : ∃ p, 4 * i = p := ⟨_, rfl⟩
        have hpI : 4 * (i : Int) = (p : Int) := by omega
        have HP := Lib.hid hp
        have hpl : p + 4 ≤ key.length := by have := HKL.out; omega
        have bp : 0 ≤ (p : Int) ∧ (p : Int) < (key.length : Int) := by omega
        have bp1 : 0 ≤ (p : Int) + 1 ∧ (p : Int) + 1 < (key.length : Int) := by omega
        have bp2 : 0 ≤ (p : Int) + 2 ∧ (p : Int) + 2 < (key.length : Int) := by omega
        have bp3 : 0 ≤ (p : Int) + 3 ∧ (p : Int) + 3 < (key.length : Int) := by omega
        have wp0 : IntKind.i64.wrap (p : Int) = (p : Int) := IntWalk.i64_in _ (by omega)
        have wp1 : IntKind.i64.wrap ((p : Int) + 1) = (p : Int) + 1 := IntWalk.i64_in _ (by omega)
        have wp2 : IntKind.i64.wrap ((p : Int) + 2) = (p : Int) + 2 := IntWalk.i64_in _ (by omega)
        have wp3 : IntKind.i64.wrap ((p : Int) + 3) = (p : Int) + 3 := IntWalk.i64_in _ (by omega)
        have tn1 : ((p : Int) + 1).toNat = p + 1 := by omega
        have tn2 : ((p : Int) + 2).toNat = p + 2 := by omega
        have tn3 : ((p : Int) + 3).toNat = p + 3 := by omega
        have c0 := o1.head
        have cb := o1.blk.lt
        clear hp ho3 o1
        go_upto_region 8 with fail
        obtain ⟨y0, hy0⟩ : ∃ y, key.getD p 0 = y := ⟨_, rfl⟩
        obtain ⟨y1, hy1⟩ : ∃ y, key.getD (p + 1) 0 = y := ⟨_, rfl⟩
        obtain ⟨y2, hy2⟩ : ∃ y, key.getD (p + 2) 0 = y := ⟨_, rfl⟩
        obtain ⟨y3, hy3⟩ : ∃ y, key.getD (p + 3) 0 = y := ⟨_, rfl⟩
        have kc0 : ∀ X, Below w.heap.size w X → X.cell? ⟨g, off + p, none⟩ = some (.int .u8 (y0.toNat : Int)) := fun X hX => by rw [← hy0]; exact HCELL.out X _ (by omega) hX
        have kc1 : ∀ X, Below w.heap.size w X → X.cell? ⟨g, off + (p + 1), none⟩ = some (.int .u8 (y1.toNat : Int)) := fun X hX => by rw [← hy1]; exact HCELL.out X _ (by omega) hX
        have kc2 : ∀ X, Below w.heap.size w X → X.cell? ⟨g, off + (p + 2), none⟩ = some (.int .u8 (y2.toNat : Int)) := fun X hX => by rw [← hy2]; exact HCELL.out X _ (by omega) hX
        have kc3 : ∀ X, Below w.heap.size w X → X.cell? ⟨g, off + (p + 3), none⟩ = some (.int .u8 (y3.toNat : Int)) := fun X hX => by rw [← hy3]; exact HCELL.out X _ (by omega) hX
        have he : (keyTo key k).take (4 * (i + 1)) = (keyTo key k).take (4 * i) ++ [y0, y1, y2, y3] := by
          have hg4 : ∀ j, j < key.length → (keyTo key k).getD j 0 = key.getD j 0 := fun j hj => by
            unfold keyTo
            rw [List.getD_eq_getElem?_getD, List.getElem?_append_left (by rw [List.length_take]; have := HKL.out; omega), List.getElem?_take_of_lt (by have := HKL.out; omega), ← List.getD_eq_getElem?_getD]
          rw [take_four _ i (by have := HW0.out; omega), HP.out, hg4 _ (by omega), hg4 _ (by omega), hg4 _ (by omega), hg4 _ (by omega), hy0, hy1, hy2, hy3]
        have HE := Lib.hid he
        clear he hy0 hy1 hy2 hy3
        have HA : Hid (OfW w ((wr.drewN 1).alloc (.cells #[.int .u8 (y0.toNat : Int), .int .u8 (y1.toNat : Int), .int .u8 (y2.toNat : Int), .int .u8 (y3.toNat : Int)] 89)) a v i (keyTo key k)) := Lib.hid ((HO.out.1.below (drew_below wr 1)).below ((Below.refl _ _).alloc (Nat.le_refl _) _))
        have S5 : Below w.heap.size w (wr.drewN 1) := (HO.out.1.below (drew_below wr 1)).bel
        have S6 := HA.out.bel
        refine hd_start (fun wx => Below w.heap.size w wx) (by kernel_rfl) ?_
        intro w5 hw'
        subst hw'
        refine hd_take (v := ?_) 0 rfl (by kernel_rfl) (fun _ _ d _ _ h => (by cases d <;> exact h)) (by kernel_rfl) S5 (fun w' hS => ?_) ?_
        rotate_left
        focus (have q0 := kc0 w' hS; have q1 := kc1 w' hS; have q2 := kc2 w' hS; have q3 := kc3 w' hS; clear hS; go_simp; try rfl; done)
        simp only [List.getElem_toArray, List.getElem_cons_succ, List.getElem_cons_zero, Act.put, List.setIfInBounds_toArray, List.set_cons_zero, List.set_cons_succ]
        refine hd_take (v := ?_) 1 rfl (by kernel_rfl) (fun _ _ d _ _ h => (by cases d <;> exact h)) (by kernel_rfl) S5 (fun w' hS => ?_) ?_
        rotate_left
        focus (have q0 := kc0 w' hS; have q1 := kc1 w' hS; have q2 := kc2 w' hS; have q3 := kc3 w' hS; clear hS; go_simp; try rfl; done)
        simp only [List.getElem_toArray, List.getElem_cons_succ, List.getElem_cons_zero, Act.put, List.setIfInBounds_toArray, List.set_cons_zero, List.set_cons_succ]
        refine hd_take (v := ?_) 2 rfl (by kernel_rfl) (fun _ _ d _ _ h => (by cases d <;> exact h)) (by kernel_rfl) S5 (fun w' hS => ?_) ?_
        rotate_left
        focus (have q0 := kc0 w' hS; have q1 := kc1 w' hS; have q2 := kc2 w' hS; have q3 := kc3 w' hS; clear hS; go_simp; try rfl; done)
        simp only [List.getElem_toArray, List.getElem_cons_succ, List.getElem_cons_zero, Act.put, List.setIfInBounds_toArray, List.set_cons_zero, List.set_cons_succ]
        refine hd_take (v := ?_) 3 rfl (by kernel_rfl) (fun _ _ d _ _ h => (by cases d <;> exact h)) (by kernel_rfl) S5 (fun w' hS => ?_) ?_
        rotate_left
        focus (have q0 := kc0 w' hS; have q1 := kc1 w' hS; have q2 := kc2 w' hS; have q3 := kc3 w' hS; clear hS; go_simp; try rfl; done)
        simp only [List.getElem_toArray, List.getElem_cons_succ, List.getElem_cons_zero, Act.put, List.setIfInBounds_toArray, List.set_cons_zero, List.set_cons_succ]
        refine hd_take (v := ?_) 5 rfl (by kernel_rfl) (fun _ _ d _ _ h => (by cases d <;> exact h)) (by kernel_rfl) S5 (fun w' hS => ?_) ?_
        rotate_left
        focus (have q0 := kc0 w' hS; have q1 := kc1 w' hS; have q2 := kc2 w' hS; have q3 := kc3 w' hS; clear hS; go_simp; try rfl; done)
        simp only [List.getElem_toArray, List.getElem_cons_succ, List.getElem_cons_zero, Act.put, List.setIfInBounds_toArray, List.set_cons_zero, List.set_cons_succ]
        refine hd_take (v := ?_) 6 rfl (by kernel_rfl) (fun _ _ d _ _ h => (by cases d <;> exact h)) (by kernel_rfl) S5 (fun w' hS => ?_) ?_
        rotate_left
        focus (have q0 := kc0 w' hS; have q1 := kc1 w' hS; have q2 := kc2 w' hS; have q3 := kc3 w' hS; clear hS; go_simp; try rfl; done)
        simp only [List.getElem_toArray, List.getElem_cons_succ, List.getElem_cons_zero, Act.put, List.setIfInBounds_toArray, List.set_cons_zero, List.set_cons_succ]
        refine hd_take (v := ?_) 7 rfl (by kernel_rfl) (fun _ _ d _ _ h => (by cases d <;> exact h)) (by kernel_rfl) S5 (fun w' hS => ?_) ?_
        rotate_left
        focus (have q0 := kc0 w' hS; have q1 := kc1 w' hS; have q2 := kc2 w' hS; have q3 := kc3 w' hS; clear hS; go_simp; try rfl; done)
        simp only [List.getElem_toArray, List.getElem_cons_succ, List.getElem_cons_zero, Act.put, List.setIfInBounds_toArray, List.set_cons_zero, List.set_cons_succ]
        refine hd_take (v := ?_) 8 rfl (by kernel_rfl) (fun _ _ d _ _ h => (by cases d <;> exact h)) (by kernel_rfl) S5 (fun w' hS => ?_) ?_
        rotate_left
        focus (have q0 := kc0 w' hS; have q1 := kc1 w' hS; have q2 := kc2 w' hS; have q3 := kc3 w' hS; clear hS; go_simp; try rfl; done)
        simp only [List.getElem_toArray, List.getElem_cons_succ, List.getElem_cons_zero, Act.put, List.setIfInBounds_toArray, List.set_cons_zero, List.set_cons_succ]
        refine hd_take (v := ?_) 9 rfl (by kernel_rfl) (fun _ _ d _ _ h => (by cases d <;> exact h)) (by kernel_rfl) S5 (fun w' hS => ?_) ?_
        rotate_left
        focus (have q0 := kc0 w' hS; have q1 := kc1 w' hS; have q2 := kc2 w' hS; have q3 := kc3 w' hS; clear hS; go_simp; try rfl; done)
        simp only [List.getElem_toArray, List.getElem_cons_succ, List.getElem_cons_zero, Act.put, List.setIfInBounds_toArray, List.set_cons_zero, List.set_cons_succ]
        refine hd_take (v := ?_) 10 rfl (by kernel_rfl) (fun _ _ d _ _ h => (by cases d <;> exact h)) (by kernel_rfl) S5 (fun w' hS => ?_) ?_
        rotate_left
        focus (have q0 := kc0 w' hS; have q1 := kc1 w' hS; have q2 := kc2 w' hS; have q3 := kc3 w' hS; clear hS; go_simp; try rfl; done)
        simp only [List.getElem_toArray, List.getElem_cons_succ, List.getElem_cons_zero, Act.put, List.setIfInBounds_toArray, List.set_cons_zero, List.set_cons_succ]
        refine hd_take (v := ?_) 11 rfl (by kernel_rfl) (fun _ _ d _ _ h => (by cases d <;> exact h)) (by kernel_rfl) S5 (fun w' hS => ?_) ?_
        rotate_left
        focus (have q0 := kc0 w' hS; have q1 := kc1 w' hS; have q2 := kc2 w' hS; have q3 := kc3 w' hS; clear hS; go_simp; try rfl; done)
        simp only [List.getElem_toArray, List.getElem_cons_succ, List.getElem_cons_zero, Act.put, List.setIfInBounds_toArray, List.set_cons_zero, List.set_cons_succ]
        refine hd_take (v := ?_) 12 rfl (by kernel_rfl) (fun _ _ d _ _ h => (by cases d <;> exact h)) (by kernel_rfl) S5 (fun w' hS => ?_) ?_
        rotate_left
        focus (have q0 := kc0 w' hS; have q1 := kc1 w' hS; have q2 := kc2 w' hS; have q3 := kc3 w' hS; clear hS; go_simp; try rfl; done)
        simp only [List.getElem_toArray, List.getElem_cons_succ, List.getElem_cons_zero, Act.put, List.setIfInBounds_toArray, List.set_cons_zero, List.set_cons_succ]
        refine hd_take (v := ?_) 13 rfl (by kernel_rfl) (fun _ _ d _ _ h => (by cases d <;> exact h)) (by kernel_rfl) S5 (fun w' hS => ?_) ?_
        rotate_left
        focus (have q0 := kc0 w' hS; have q1 := kc1 w' hS; have q2 := kc2 w' hS; have q3 := kc3 w' hS; clear hS; go_simp; try rfl; done)
        simp only [List.getElem_toArray, List.getElem_cons_succ, List.getElem_cons_zero, Act.put, List.setIfInBounds_toArray, List.set_cons_zero, List.set_cons_succ]
        refine hd_take (v := ?_) 14 rfl (by kernel_rfl) (fun _ _ d _ _ h => (by cases d <;> exact h)) (by kernel_rfl) S5 (fun w' hS => ?_) ?_
        rotate_left
        focus (have q0 := kc0 w' hS; have q1 := kc1 w' hS; have q2 := kc2 w' hS; have q3 := kc3 w' hS; clear hS; go_simp; try rfl; done)
        simp only [List.getElem_toArray, List.getElem_cons_succ, List.getElem_cons_zero, Act.put, List.setIfInBounds_toArray, List.set_cons_zero, List.set_cons_succ]
        refine hd_take (v := ?_) 15 rfl (by kernel_rfl) (fun _ _ d _ _ h => (by cases d <;> exact h)) (by kernel_rfl) S5 (fun w' hS => ?_) ?_
        rotate_left
        focus (have q0 := kc0 w' hS; have q1 := kc1 w' hS; have q2 := kc2 w' hS; have q3 := kc3 w' hS; clear hS; go_simp; try rfl; done)
        simp only [List.getElem_toArray, List.getElem_cons_succ, List.getElem_cons_zero, Act.put, List.setIfInBounds_toArray, List.set_cons_zero, List.set_cons_succ]
        refine hd_take (v := ?_) 16 rfl (by kernel_rfl) (fun _ _ d _ _ h => (by cases d <;> exact h)) (by kernel_rfl) S5 (fun w' hS => ?_) ?_
        rotate_left
        focus (have q0 := kc0 w' hS; have q1 := kc1 w' hS; have q2 := kc2 w' hS; have q3 := kc3 w' hS; clear hS; go_simp; try rfl; done)
        simp only [List.getElem_toArray, List.getElem_cons_succ, List.getElem_cons_zero, Act.put, List.setIfInBounds_toArray, List.set_cons_zero, List.set_cons_succ]
        refine hd_take (v := ?_) 17 rfl (by kernel_rfl) (fun _ _ d _ _ h => (by cases d <;> exact h)) (by kernel_rfl) S5 (fun w' hS => ?_) ?_
        rotate_left
        focus (have q0 := kc0 w' hS; have q1 := kc1 w' hS; have q2 := kc2 w' hS; have q3 := kc3 w' hS; clear hS; go_simp; try rfl; done)
        simp only [List.getElem_toArray, List.getElem_cons_succ, List.getElem_cons_zero, Act.put, List.setIfInBounds_toArray, List.set_cons_zero, List.set_cons_succ]
        refine hd_take (v := ?_) 18 rfl (by kernel_rfl) (fun _ _ d _ _ h => (by cases d <;> exact h)) (by kernel_rfl) S5 (fun w' hS => ?_) ?_
        rotate_left
        focus (have q0 := kc0 w' hS; have q1 := kc1 w' hS; have q2 := kc2 w' hS; have q3 := kc3 w' hS; clear hS; go_simp; try rfl; done)
        simp only [List.getElem_toArray, List.getElem_cons_succ, List.getElem_cons_zero, Act.put, List.setIfInBounds_toArray, List.set_cons_zero, List.set_cons_succ]
        refine hd_take (v := ?_) 19 rfl (by kernel_rfl) (fun _ _ d _ _ h => (by cases d <;> exact h)) (by kernel_rfl) S5 (fun w' hS => ?_) ?_
        rotate_left
        focus (have q0 := kc0 w' hS; have q1 := kc1 w' hS; have q2 := kc2 w' hS; have q3 := kc3 w' hS; clear hS; go_simp; try rfl; done)
        simp only [List.getElem_toArray, List.getElem_cons_succ, List.getElem_cons_zero, Act.put, List.setIfInBounds_toArray, List.set_cons_zero, List.set_cons_succ]
        refine hd_take (v := ?_) 20 rfl (by kernel_rfl) (fun _ _ d _ _ h => (by cases d <;> exact h)) (by kernel_rfl) S5 (fun w' hS => ?_) ?_
        rotate_left
        focus (have q0 := kc0 w' hS; have q1 := kc1 w' hS; have q2 := kc2 w' hS; have q3 := kc3 w' hS; clear hS; go_simp; try rfl; done)
        simp only [List.getElem_toArray, List.getElem_cons_succ, List.getElem_cons_zero, Act.put, List.setIfInBounds_toArray, List.set_cons_zero, List.set_cons_succ]
        refine hd_take (v := ?_) 21 rfl (by kernel_rfl) (fun _ _ d _ _ h => (by cases d <;> exact h)) (by kernel_rfl) S5 (fun w' hS => ?_) ?_
        rotate_left
        focus (have q0 := kc0 w' hS; have q1 := kc1 w' hS; have q2 := kc2 w' hS; have q3 := kc3 w' hS; clear hS; go_simp; try rfl; done)
        simp only [List.getElem_toArray, List.getElem_cons_succ, List.getElem_cons_zero, Act.put, List.setIfInBounds_toArray, List.set_cons_zero, List.set_cons_succ]
        refine hd_take (v := ?_) 22 rfl (by kernel_rfl) (fun _ _ d _ _ h => (by cases d <;> exact h)) (by kernel_rfl) S5 (fun w' hS => ?_) ?_
        rotate_left
        focus (have q0 := kc0 w' hS; have q1 := kc1 w' hS; have q2 := kc2 w' hS; have q3 := kc3 w' hS; clear hS; go_simp; try rfl; done)
        simp only [List.getElem_toArray, List.getElem_cons_succ, List.getElem_cons_zero, Act.put, List.setIfInBounds_toArray, List.set_cons_zero, List.set_cons_succ]
        refine hd_take (v := ?_) 23 rfl (by kernel_rfl) (fun _ _ d _ _ h => (by cases d <;> exact h)) (by kernel_rfl) S5 (fun w' hS => ?_) ?_
        rotate_left
        focus (have q0 := kc0 w' hS; have q1 := kc1 w' hS; have q2 := kc2 w' hS; have q3 := kc3 w' hS; clear hS; go_simp; try rfl; done)
        simp only [List.getElem_toArray, List.getElem_cons_succ, List.getElem_cons_zero, Act.put, List.setIfInBounds_toArray, List.set_cons_zero, List.set_cons_succ]
        refine hd_take (v := ?_) 24 rfl (by kernel_rfl) (fun _ _ d _ _ h => (by cases d <;> exact h)) (by kernel_rfl) S5 (fun w' hS => ?_) ?_
        rotate_left
        focus (have q0 := kc0 w' hS; have q1 := kc1 w' hS; have q2 := kc2 w' hS; have q3 := kc3 w' hS; clear hS; go_simp; try rfl; done)
        simp only [List.getElem_toArray, List.getElem_cons_succ, List.getElem_cons_zero, Act.put, List.setIfInBounds_toArray, List.set_cons_zero, List.set_cons_succ]
        refine hd_take (v := ?_) 25 rfl (by kernel_rfl) (fun _ _ d _ _ h => (by cases d <;> exact h)) (by kernel_rfl) S5 (fun w' hS => ?_) ?_
        rotate_left
        focus (have q0 := kc0 w' hS; have q1 := kc1 w' hS; have q2 := kc2 w' hS; have q3 := kc3 w' hS; clear hS; go_simp; try rfl; done)
        simp only [List.getElem_toArray, List.getElem_cons_succ, List.getElem_cons_zero, Act.put, List.setIfInBounds_toArray, List.set_cons_zero, List.set_cons_succ]
        refine hd_take (v := ?_) 26 rfl (by kernel_rfl) (fun _ _ d _ _ h => (by cases d <;> exact h)) (by kernel_rfl) S5 (fun w' hS => ?_) ?_
        rotate_left
        focus (have q0 := kc0 w' hS; have q1 := kc1 w' hS; have q2 := kc2 w' hS; have q3 := kc3 w' hS; clear hS; go_simp; try rfl; done)
        simp only [List.getElem_toArray, List.getElem_cons_succ, List.getElem_cons_zero, Act.put, List.setIfInBounds_toArray, List.set_cons_zero, List.set_cons_succ]
        refine hd_take (v := ?_) 27 rfl (by kernel_rfl) (fun _ _ d _ _ h => (by cases d <;> exact h)) (by kernel_rfl) S5 (fun w' hS => ?_) ?_
        rotate_left
        focus (have q0 := kc0 w' hS; have q1 := kc1 w' hS; have q2 := kc2 w' hS; have q3 := kc3 w' hS; clear hS; go_simp; try rfl; done)
        simp only [List.getElem_toArray, List.getElem_cons_succ, List.getElem_cons_zero, Act.put, List.setIfInBounds_toArray, List.set_cons_zero, List.set_cons_succ]
        refine hd_take (v := ?_) 28 rfl (by kernel_rfl) (fun _ _ d _ _ h => (by cases d <;> exact h)) (by kernel_rfl) S5 (fun w' hS => ?_) ?_
        rotate_left
        focus (have q0 := kc0 w' hS; have q1 := kc1 w' hS; have q2 := kc2 w' hS; have q3 := kc3 w' hS; clear hS; go_simp; try rfl; done)
        simp only [List.getElem_toArray, List.getElem_cons_succ, List.getElem_cons_zero, Act.put, List.setIfInBounds_toArray, List.set_cons_zero, List.set_cons_succ]
        clear kc0 kc1 kc2 kc3
        refine hd_two 4 29 (by kernel_rfl) ?_ ?_
        · skip
          refine op_run rfl (by kernel_rfl) (by go_simp; first | done | exact ⟨rfl, rfl⟩ | rfl) ?_
          refine ⟨S5, ?_⟩
          simp only [List.getElem_toArray, List.getElem_cons_succ, List.getElem_cons_zero, Act.put, List.setIfInBounds_toArray, List.set_cons_zero, List.set_cons_succ]
          refine hd_one 29 (by kernel_rfl) ?_
          refine op_run rfl (by kernel_rfl) (by go_simp; first | done | exact ⟨rfl, rfl⟩ | rfl) ?_
          refine ⟨S6, ?_⟩
          simp only [List.getElem_toArray, List.getElem_cons_succ, List.getElem_cons_zero, Act.put, List.setIfInBounds_toArray, List.set_cons_zero, List.set_cons_succ]
          refine hd_one 30 (by kernel_rfl) ?_
          refine op_wp rfl (by kernel_rfl) ?_
          obtain ⟨i0, hi0, hz0, hz1, hz2⟩ := info_parts info4
          refine wp_append_lies _ _ _ 128 rfl 0 89 i0 _ 4 4 Try.underlying128 hi0 hz0 hz1 hz2 rfl (by decide) v i (((keyTo key k).take (4 * i)).map B) rfl HA.out.row ⟨wr.heap.size, 0, none⟩ 1 1 [.int .u8 (y0.toNat : Int), .int .u8 (y1.toNat : Int), .int .u8 (y2.toNat : Int), .int .u8 (y3.toNat : Int)] rfl rfl (World.news_of_block (heap_alloc_new _ _)) (fun u hu => by simp at hu; rcases hu with rfl | rfl | rfl | rfl <;> rfl) (by decide) (by unfold maxLen; omega) (by omega) (Nat.zero_le _) _ rfl ?_
          intro g' cap' w6 hown2 hgrow hat hlt2
          obtain ⟨d0, df, d1⟩ := HA.out.push (v' := .slice (some ⟨g', 0, none⟩) (i + 1) cap') (W' := keyTo key k) (xs := [y0, y1, y2, y3]) hown2 hgrow (by
            rcases hat with h | h
            · exact .inl (by rw [h]; rfl)
            · exact .inr (by rw [h]; rfl)) HE.out
          have db := (hlt2 : g' < w6.heap.size)
          have D1 := Lib.hid d1
          have hbel6 : Below w.heap.size w w6 := HA.out.bel.trans ((Only.grown (Only.refl _ _) hgrow (fun k hk => .inl hk) : Only (fpv v) _ _).below0 (fun x hx hs => absurd (HA.out.vge x hs).1 (by omega)) HA.out.bel.size)
          have hbel7 := D1.out.bel
          clear hown2 hgrow hat hlt2 d1 hi0 hz0 hz1 hz2
          simp only [List.getElem_toArray, List.getElem_cons_succ, List.getElem_cons_zero, Act.put, List.setIfInBounds_toArray, List.set_cons_zero, List.set_cons_succ]
          refine ⟨hbel6, ?_⟩
          refine hd_take (v := ?_) 31 rfl (by kernel_rfl) (fun _ _ d _ _ h => (by cases d <;> exact h)) (by kernel_rfl) hbel6 (fun w' hS => ?_) ?_
          rotate_left
          focus (clear hS; go_simp; try rfl; done)
          simp only [List.getElem_toArray, List.getElem_cons_succ, List.getElem_cons_zero, Act.put, List.setIfInBounds_toArray, List.set_cons_zero, List.set_cons_succ]
          refine hd_take (v := ?_) 32 rfl (by kernel_rfl) (fun _ _ d _ _ h => (by cases d <;> exact h)) (by kernel_rfl) hbel6 (fun w' hS => ?_) ?_
          rotate_left
          focus (clear hS; go_simp; try rfl; done)
          simp only [List.getElem_toArray, List.getElem_cons_succ, List.getElem_cons_zero, Act.put, List.setIfInBounds_toArray, List.set_cons_zero, List.set_cons_succ]
          refine hd_one 33 (by kernel_rfl) ?_
          refine op_skip rfl (by kernel_rfl) (by go_simp; first | done | rfl) ?_
          refine ⟨hbel7, ?_⟩
          simp only [List.getElem_toArray, List.getElem_cons_succ, List.getElem_cons_zero, Act.put, List.setIfInBounds_toArray, List.set_cons_zero, List.set_cons_succ]
          refine hd_done (by kernel_rfl) ?_
          clear d0 df hbel6 hbel7
          go_wp2_with fail
          go_roundw
          case rel => exact ⟨1, i + 1, by omega, by go_num, rfl, Lib.hid ⟨_, _, D1.out, HW0.out, .inl ⟨by omega, rfl, rfl⟩⟩⟩
          case measure => simp [intOf]; omega
        · skip
          refine op_run rfl (by kernel_rfl) (by go_simp; first | done | exact ⟨rfl, rfl⟩ | rfl) ?_
          refine ⟨S6, ?_⟩
          simp only [List.getElem_toArray, List.getElem_cons_succ, List.getElem_cons_zero, Act.put, List.setIfInBounds_toArray, List.set_cons_zero, List.set_cons_succ]
          refine hd_one 4 (by kernel_rfl) ?_
          have c0b := HA.out.head
          refine op_run rfl (by kernel_rfl) (by go_simp; first | done | exact ⟨rfl, rfl⟩ | rfl) ?_
          refine ⟨S6, ?_⟩
          simp only [List.getElem_toArray, List.getElem_cons_succ, List.getElem_cons_zero, Act.put, List.setIfInBounds_toArray, List.set_cons_zero, List.set_cons_succ]
          clear c0b
          refine hd_one 30 (by kernel_rfl) ?_
          refine op_wp rfl (by kernel_rfl) ?_
          obtain ⟨i0, hi0, hz0, hz1, hz2⟩ := info_parts info4
          refine wp_append_lies _ _ _ 128 rfl 0 89 i0 _ 4 4 Try.underlying128 hi0 hz0 hz1 hz2 rfl (by decide) v i (((keyTo key k).take (4 * i)).map B) rfl HA.out.row ⟨wr.heap.size, 0, none⟩ 1 1 [.int .u8 (y0.toNat : Int), .int .u8 (y1.toNat : Int), .int .u8 (y2.toNat : Int), .int .u8 (y3.toNat : Int)] rfl rfl (World.news_of_block (heap_alloc_new _ _)) (fun u hu => by simp at hu; rcases hu with rfl | rfl | rfl | rfl <;> rfl) (by decide) (by unfold maxLen; omega) (by omega) (Nat.zero_le _) _ rfl ?_
          intro g' cap' w6 hown2 hgrow hat hlt2
          obtain ⟨d0, df, d1⟩ := HA.out.push (v' := .slice (some ⟨g', 0, none⟩) (i + 1) cap') (W' := keyTo key k) (xs := [y0, y1, y2, y3]) hown2 hgrow (by
            rcases hat with h | h
            · exact .inl (by rw [h]; rfl)
            · exact .inr (by rw [h]; rfl)) HE.out
          have db := (hlt2 : g' < w6.heap.size)
          have D1 := Lib.hid d1
          have hbel6 : Below w.heap.size w w6 := HA.out.bel.trans ((Only.grown (Only.refl _ _) hgrow (fun k hk => .inl hk) : Only (fpv v) _ _).below0 (fun x hx hs => absurd (HA.out.vge x hs).1 (by omega)) HA.out.bel.size)
          have hbel7 := D1.out.bel
          clear hown2 hgrow hat hlt2 d1 hi0 hz0 hz1 hz2
          simp only [List.getElem_toArray, List.getElem_cons_succ, List.getElem_cons_zero, Act.put, List.setIfInBounds_toArray, List.set_cons_zero, List.set_cons_succ]
          refine ⟨hbel6, ?_⟩
          refine hd_take (v := ?_) 31 rfl (by kernel_rfl) (fun _ _ d _ _ h => (by cases d <;> exact h)) (by kernel_rfl) hbel6 (fun w' hS => ?_) ?_
          rotate_left
          focus (clear hS; go_simp; try rfl; done)
          simp only [List.getElem_toArray, List.getElem_cons_succ, List.getElem_cons_zero, Act.put, List.setIfInBounds_toArray, List.set_cons_zero, List.set_cons_succ]
          refine hd_take (v := ?_) 32 rfl (by kernel_rfl) (fun _ _ d _ _ h => (by cases d <;> exact h)) (by kernel_rfl) hbel6 (fun w' hS => ?_) ?_
          rotate_left
          focus (clear hS; go_simp; try rfl; done)
          simp only [List.getElem_toArray, List.getElem_cons_succ, List.getElem_cons_zero, Act.put, List.setIfInBounds_toArray, List.set_cons_zero, List.set_cons_succ]
          refine hd_one 33 (by kernel_rfl) ?_
          refine op_skip rfl (by kernel_rfl) (by go_simp; first | done | rfl) ?_
          refine ⟨hbel7, ?_⟩
          simp only [List.getElem_toArray, List.getElem_cons_succ, List.getElem_cons_zero, Act.put, List.setIfInBounds_toArray, List.set_cons_zero, List.set_cons_succ]
          refine hd_done (by kernel_rfl) ?_
          clear d0 df hbel6 hbel7
          go_wp2_with fail
          go_roundw
          case rel => exact ⟨1, i + 1, by omega, by go_num, rfl, Lib.hid ⟨_, _, D1.out, HW0.out, .inl ⟨by omega, rfl, rfl⟩⟩⟩
          case measure => simp [intOf]; omega
        --]p1
      · have t2 : decide ((i : Int) < (k : Int)) = false := by rw [decide_eq_false_iff_not]; omega
        obtain ⟨o1, hWl, ho3⟩ := HO.out
        have hexp : expN k (n - i) i x W = sched key := by
          rw [HN.out]
          rcases ho3 with h | h
          · obtain ⟨h3, rfl, rfl⟩ := h
            have e : i = k := by omega
            subst e
            rw [show 4 * (i + 7) - i = 3 * i + 28 from by omega]
            exact hSched.out
          · exact h.2
        obtain ⟨m, hm⟩ : ∃ m, n - i = m + 1 := ⟨n - i - 1, by omega⟩
        rw [hm, expN] at hexp
        have HM : Hid (n - (i + 1) = m) := Lib.hid (by omega)
        have HEXP := Lib.hid hexp
        obtain ⟨gw, cw, rfl, hcw1, hcw2⟩ := o1.form (by omega)
        have HOW := Lib.hid o1
        have hRA : RA wr a gw i cw W := o1.ra (by omega)
        obtain ⟨j1, hj1⟩ : ∃ j1, i - 1 = j1 := ⟨_, rfl⟩
        have hj1I : (i : Int) - 1 = (j1 : Int) := by omega
        have hj1i : j1 < i := by omega
        have RNG := Lib.hid (wordAt_at hRA j1 hj1i)
        obtain ⟨t, ht⟩ : ∃ t, wordAt W j1 = t := ⟨_, rfl⟩
        have htl : t.length = 4 := by rw [← ht]; rfl
        have hts : (barr t).size = 4 := by rw [barr_size, htl]
        have htm : (t.map B).length = 4 := by rw [List.length_map, htl]
        have HTW : Hid (wordAt W (i - 1) = t) := Lib.hid (by rw [hj1, ht])
        rw [ht] at RNG
        have c0 := hRA.head
        have hra := hRA.lt
        obtain ⟨T, hT⟩ : ∃ x, wr.heap.size = x := ⟨_, rfl⟩
        have H3 : Hid (OfT w ((wr.alloc (.cells (barr (List.replicate 4 0)) 89)).setRow T (barr t)) a (.slice (some ⟨gw, 0, none⟩) i cw) i W T t) := by rw [← hT]; exact Lib.hid (o1.boxed t)
        have b0 : Blk (wr.alloc (.cells (barr (List.replicate 4 0)) 89)) T 89 (barr (List.replicate 4 0)) := by rw [← hT]; exact Blk.at rfl rfl
        have hz4 : (barr (List.replicate 4 (0 : UInt8))).size = 4 := by rw [barr_size]; rfl
        clear ho3 hexp hm o1 hj1 ht hRA HO
        obtain ⟨m2, hm2⟩ : ∃ m2, i % k = m2 := ⟨_, rfl⟩
        have hm2I : (i : Int) % (k : Int) = (m2 : Int) := by omega
        have HM2 := Lib.hid hm2
        have hkne : (k : Int) ≠ 0 := by omega
        clear hm2
        go_upto_region 9 with fail
        go_upto_if 69 with (first | ((with_reducible change wpList _ _ _ (Oper.mk _ (Op.load 89 _) _ _ _ _ :: _) _ _); refine wpList_load_mid rfl 89 _ rfl gw (j1 * 4) rfl (t.map B) _ RNG.out Try.underlying89 rfl (size4.trans (by rw [htm])) ?_) | ((with_reducible change wpList _ _ _ (Oper.mk _ (Op.store 89 _ _) _ _ _ _ :: _) _ _); refine wpList_store_blk (ty := 89) T (barr t) rfl rfl b0 size4 hts hz4 (barr_one _) ?_))
        change Code.wp _ _ _ _ ((wr.alloc (.cells (barr (List.replicate 4 0)) 89)).setRow T (barr t))
        obtain ⟨w3, hw3⟩ : ∃ x, (wr.alloc (.cells (barr (List.replicate 4 0)) 89)).setRow T (barr t) = x := ⟨_, rfl⟩
        rw [hw3] at H3 ⊢
        clear hw3 b0 c0 hra hT RNG HOW
        go_cut [5] from 68 to 97 (fun xv wx => ∃ x' : UInt8, Hid (nextX k i x = x') ∧ xv = .int .u8 (x'.toNat : Int) ∧ Hid (OfT w wx a (.slice (some ⟨gw, 0, none⟩) i cw) i W T (turned k i x t)))
        case first =>
          have hRA : RA w3 a gw i cw W := H3.out.o.ra (by omega)
          have hra := hRA.lt
          by_cases h0 : m2 = 0
          · have tm : ((m2 : Int) == 0) = true := by rw [h0]; rfl
            have hx' : nextX k i x = gmU x 2 := by unfold nextX; rw [if_pos (HM2.out.trans h0)]
            have e0 := H3.out.tb.cellAt 0 (barr_getD t 0 (by omega))
            have e1 := H3.out.tb.cellAt 1 (barr_getD t 1 (by omega))
            have e2 := H3.out.tb.cellAt 2 (barr_getD t 2 (by omega))
            have e3 := H3.out.tb.cellAt 3 (barr_getD t 3 (by omega))
            have htu : turned k i x t = ([boxU (t.getD 1 0), boxU (t.getD 2 0), boxU (t.getD 3 0), boxU (t.getD 0 0)] : List UInt8).set 0 (boxU (t.getD 1 0) ^^^ x) := by unfold turned; rw [if_pos (HM2.out.trans h0)]; rfl
            generalize t.getD 0 0 = t0 at e0 htu
            generalize t.getD 1 0 = t1 at e1 htu
            generalize t.getD 2 0 = t2v at e2 htu
            generalize t.getD 3 0 = t3v at e3 htu
            have HTU := Lib.hid htu
            have HXX := Lib.hid hx'
            have HRA := Lib.hid hRA
            have hbT := H3.out.tb.lt
            clear htu hx' hRA h0
            go_wp2_with fail
            refine (rbox4_any a gw i cw W [t1, t2v, t3v, t0] w3 HRA.out rfl).mono ?_
            rintro e w4 ⟨rfl, h4⟩
            rw [boxL_of]
            have H4 := Lib.hid (H3.out.below h4)
            clear h4 e0 e1 e2 e3
            have hs4 : (barr [boxU t1, boxU t2v, boxU t3v, boxU t0]).size = 4 := rfl
            have H5 := Lib.hid (H4.out.row [boxU t1, boxU t2v, boxU t3v, boxU t0])
            go_upto_region 12 with (((with_reducible change wpList _ _ _ (Oper.mk _ (Op.store 89 _ _) _ _ _ _ :: _) _ _); refine wpList_store_blk (ty := 89) T (barr [boxU t1, boxU t2v, boxU t3v, boxU t0]) rfl rfl H4.out.tb size4 hs4 hts (barr_one _) ?_))
            simp only [Act.put]
            obtain ⟨w5, hw5⟩ : ∃ x, w4.setRow T (barr [boxU t1, boxU t2v, boxU t3v, boxU t0]) = x := ⟨_, rfl⟩
            rw [hw5] at H5 ⊢
            clear hw5 H4 H3
            have g0 := H5.out.tb.cellAt 0 (barr_getD _ 0 (show 0 < 4 by omega))
            have gf := H5.out.tb.unfrozen 0
            have H6 := Lib.hid (H5.out.set 0 (boxU t1 ^^^ x))
            have hg0 : ([boxU t1, boxU t2v, boxU t3v, boxU t0] : List UInt8).getD 0 0 = boxU t1 := rfl
            rw [hg0] at g0
            obtain ⟨b1, hb1⟩ : ∃ b1, boxU t1 = b1 := ⟨_, rfl⟩
            have HB1 := Lib.hid hb1
            rw [hb1] at g0
            clear hg0 hb1
            have hbT5 := H5.out.tb.lt
            have hxor := xorU b1 x
            have H7 : Hid (OfT w (w5.setCell ⟨T, 0, none⟩ (.int .u8 ((b1 ^^^ x).toNat : Int))) a (.slice (some ⟨gw, 0, none⟩) i cw) i W T (turned k i x t)) := by rw [HTU.out, ← HB1.out]; exact H6
            clear H6 H5
            go_wp2_with fail
            refine (rmulU_any x 2 _).mono ?_
            rintro e w8 ⟨rfl, nd, rfl⟩
            have H8 := Lib.hid (H7.out.draw nd)
            clear H7 g0 gf hxor
            go_wp2_with fail
            go_meet
            exact ⟨gmU x 2, Lib.hid HXX.out, rfl, H8⟩
          · have tm : ((m2 : Int) == 0) = false := by rw [beq_eq_false_iff_ne]; omega
            have hx' : nextX k i x = x := by unfold nextX; rw [if_neg (by rw [HM2.out]; exact h0)]
            have HXX := Lib.hid hx'
            clear hx'
            by_cases h8 : k = 8
            · have tk : ((k : Int) == 8) = true := by rw [h8]; rfl
              obtain ⟨q8, hq8⟩ : ∃ q, i % 8 = q := ⟨_, rfl⟩
              have hq8I : (i : Int) % 8 = (q8 : Int) := by omega
              have HQ8 := Lib.hid hq8
              clear hq8
              by_cases h4 : q8 = 4
              · have tq : ((q8 : Int) == 4) = true := by rw [h4]; rfl
                have htu : turned k i x t = boxL t := by
                  unfold turned
                  rw [if_neg (by rw [HM2.out]; exact h0), if_pos ⟨h8, HQ8.out.trans h4⟩]
                  rfl
                have HTU := Lib.hid htu
                have HRA := Lib.hid hRA
                clear htu hRA h4 h8
                go_wp2_with ((with_reducible change wpList _ _ _ (Oper.mk _ (Op.load 89 _) _ _ _ _ :: _) _ _); refine wpList_load_blk (ty := 89) T rfl H3.out.tb Try.underlying89 rfl size4 hts ?_)
                refine (rbox4_any a gw i cw W t w3 HRA.out htl).mono ?_
                rintro e w4 ⟨rfl, h4⟩
                have H4 := Lib.hid (H3.out.below h4)
                clear h4
                have hs4 : (barr (boxL t)).size = 4 := by rw [barr_size, boxL_len]
                have H5 : Hid (OfT w (w4.setRow T (barr (boxL t))) a (.slice (some ⟨gw, 0, none⟩) i cw) i W T (turned k i x t)) := by rw [HTU.out]; exact Lib.hid (H4.out.row (boxL t))
                go_wp2_with ((with_reducible change wpList _ _ _ (Oper.mk _ (Op.store 89 _ _) _ _ _ _ :: _) _ _); refine wpList_store_blk (ty := 89) T (barr (boxL t)) rfl rfl H4.out.tb size4 hs4 hts (barr_one _) ?_)
                simp only [Act.put]
                go_meet
                exact ⟨x, HXX, rfl, H5⟩
              · have tq : ((q8 : Int) == 4) = false := by rw [beq_eq_false_iff_ne]; omega
                have H5 : Hid (OfT w w3 a (.slice (some ⟨gw, 0, none⟩) i cw) i W T (turned k i x t)) := by
                  unfold turned
                  rw [if_neg (by rw [HM2.out]; exact h0), if_neg (by rw [HQ8.out]; exact fun h => h4 h.2)]
                  exact H3
                clear hRA h4 h8
                go_wp2_with fail
                go_meet
                exact ⟨x, HXX, rfl, H5⟩
            · have tk : ((k : Int) == 8) = false := by rw [beq_eq_false_iff_ne]; omega
              have H5 : Hid (OfT w w3 a (.slice (some ⟨gw, 0, none⟩) i cw) i W T (turned k i x t)) := by
                unfold turned
                rw [if_neg (by rw [HM2.out]; exact h0), if_neg (fun h => h8 h.1)]
                exact H3
              clear hRA h8
              go_wp2_with fail
              go_meet
              exact ⟨x, HXX, rfl, H5⟩
        case rest =>
          obtain ⟨x', HX', rfl, HC⟩ := hcut
          clear H3
          obtain ⟨t', ht'⟩ : ∃ t', turned k i x t = t' := ⟨_, rfl⟩
          rw [ht'] at HC
          have ht4 : t'.length = 4 := by
            rw [← ht']
            unfold turned
            split
            · rfl
            · split
              · rfl
              · exact htl
          have HT' : Hid (turned k i x (wordAt W (i - 1)) = t') := Lib.hid (by rw [HTW.out]; exact ht')
          clear ht'
          obtain ⟨ik, hik2⟩ : ∃ ik, i - k = ik := ⟨_, rfl⟩
          have hikI : (i : Int) - (k : Int) = (ik : Int) := by omega
          have hiki : ik < i := by omega
          have HIK := Lib.hid hik2
          clear hik2
          go_wp2_with fail
          go_loopw [8] (fun jv wx => ∃ j : Nat, j ≤ 4 ∧ jv = .int .i64 (j : Int) ∧ Hid (OfT w wx a (.slice (some ⟨gw, 0, none⟩) i cw) i W T (mixT 4 (fun j => t'.getD j 0 ^^^ W.getD (4 * ik + j) 0) (fun j => t'.getD j 0) j))) (fun jv _ => 4 - (intOf jv).toNat)
          case atStart =>
            refine ⟨0, by omega, rfl, ?_⟩
            rw [mixT_zero, tab_self t' ht4]
            exact HC
          case round =>
            obtain ⟨j, hj, rfl, HJ⟩ := hrel
            clear HC
            by_cases hj4 : j < 4
            · have hRA : RA wr a gw i cw W := HJ.out.o.ra (by omega)
              have hra := hRA.lt
              have e0 := HJ.out.tb.cellAt j (barr_getD _ j (by rw [mixT_len]; exact hj4))
              rw [mixT_at _ _ _ _ hj4] at e0
              have ef := HJ.out.tb.unfrozen j
              have ch := hRA.head
              have cw2 := hRA.word (ik * 4 + j) (by omega)
              rw [show ik * 4 + j = 4 * ik + j from by omega] at cw2
              generalize hy : t'.getD j 0 = y at e0
              generalize hz : W.getD (4 * ik + j) 0 = z at cw2
              rw [show 4 * ik + j = ik * 4 + j from by omega] at cw2
              have HY := Lib.hid hy
              have HZ := Lib.hid hz
              have hbT := HJ.out.tb.lt
              have hxor := xorU y z
              clear hy hz hRA
              go_wp2_with fail
              go_region
              all_goals go_wp2_with fail
              all_goals go_roundw
              case rel =>
                refine ⟨j + 1, by omega, by go_num, ?_⟩
                have e : mixT 4 (fun j => t'.getD j 0 ^^^ W.getD (4 * ik + j) 0) (fun j => t'.getD j 0) (j + 1) = (mixT 4 (fun j => t'.getD j 0 ^^^ W.getD (4 * ik + j) 0) (fun j => t'.getD j 0) j).set j (y ^^^ z) := by
                  rw [← mixT_succ, HY.out, HZ.out]
                rw [e]
                exact Lib.hid ((HJ.out.set j (y ^^^ z)).draw 1)
              case measure => simp [intOf]; omega
            · have HJ2 := HJ.out
              rw [show j = 4 from by omega, mixT_end] at HJ2
              have hxs : tab 4 (fun j => t'.getD j 0 ^^^ W.getD (4 * ik + j) 0) = xorW W t' k i := by
                unfold xorW
                rw [HIK.out]
              rw [hxs] at HJ2
              have he := put_take W t' k i (by omega) (by omega) (by omega)
              obtain ⟨z0, z1, z2, z3, hz⟩ : ∃ z0 z1 z2 z3, xorW W t' k i = [z0, z1, z2, z3] := ⟨_, _, _, _, rfl⟩
              rw [hz] at HJ2 he
              have HE := Lib.hid he
              have FT : Hid (∀ wx, Blk wx T 89 (barr [z0, z1, z2, z3]) → wx.rangeAt T 0 [.int .u8 (z0.toNat : Int), .int .u8 (z1.toNat : Int), .int .u8 (z2.toNat : Int), .int .u8 (z3.toNat : Int)]) := Lib.hid (fun wx h b u hb => by rw [Nat.zero_add]; exact h.cellAt b (by rw [← hb]; simp [barr, B]))
              have HQ := Lib.hid HJ2
              have c0 := HJ2.o.head
              have hra := HJ2.o.blk.lt
              have HA : Hid (OfT w ((wr.drewN 1).alloc (.cells #[.int .u8 (z0.toNat : Int), .int .u8 (z1.toNat : Int), .int .u8 (z2.toNat : Int), .int .u8 (z3.toNat : Int)] 89)) a (.slice (some ⟨gw, 0, none⟩) i cw) i W T [z0, z1, z2, z3]) := Lib.hid ((HJ2.draw 1).below ((Below.refl _ _).alloc (Nat.le_refl _) _))
              have S5 : (wr.drewN 1).rangeAt T 0 [.int .u8 (z0.toNat : Int), .int .u8 (z1.toNat : Int), .int .u8 (z2.toNat : Int), .int .u8 (z3.toNat : Int)] := FT.out _ (HJ2.draw 1).tb
              have S6 : ((wr.drewN 1).alloc (.cells #[.int .u8 (z0.toNat : Int), .int .u8 (z1.toNat : Int), .int .u8 (z2.toNat : Int), .int .u8 (z3.toNat : Int)] 89)).rangeAt T 0 [.int .u8 (z0.toNat : Int), .int .u8 (z1.toNat : Int), .int .u8 (z2.toNat : Int), .int .u8 (z3.toNat : Int)] := FT.out _ HA.out.tb
              have hsz : (Try.prog.info? 89).map (·.size) = some ([.int .u8 (z0.toNat : Int), .int .u8 (z1.toNat : Int), .int .u8 (z2.toNat : Int), .int .u8 (z3.toNat : Int)] : List Value).length := size4
              clear he hxs HJ2 HJ hz
              go_upto_region 20 with fail
              refine hd_start (fun wx => wx.rangeAt T 0 [.int .u8 (z0.toNat : Int), .int .u8 (z1.toNat : Int), .int .u8 (z2.toNat : Int), .int .u8 (z3.toNat : Int)]) (by kernel_rfl) ?_
              intro w5 hw'
              subst hw'
              refine hd_take (v := ?_) 0 rfl (by kernel_rfl) (fun _ _ d _ _ h => (by cases d <;> exact h)) (by kernel_rfl) S5 (fun w' hS => ?_) ?_
              rotate_left
              focus (clear hS; go_simp; try rfl; done)
              simp only [List.getElem_toArray, List.getElem_cons_succ, List.getElem_cons_zero, Act.put, List.setIfInBounds_toArray, List.set_cons_zero, List.set_cons_succ]
              refine hd_take (v := ?_) 1 rfl (by kernel_rfl) (fun _ _ d _ _ h => (by cases d <;> exact h)) (by kernel_rfl) S5 (fun w' hS => ?_) ?_
              rotate_left
              focus (clear hS; go_simp; try rfl; done)
              simp only [List.getElem_toArray, List.getElem_cons_succ, List.getElem_cons_zero, Act.put, List.setIfInBounds_toArray, List.set_cons_zero, List.set_cons_succ]
              refine hd_take (v := ?_) 2 rfl (by kernel_rfl) (fun _ _ d _ _ h => (by cases d <;> exact h)) (by kernel_rfl) S5 (fun w' hS => ?_) ?_
              rotate_left
              focus (clear hS; go_simp; try rfl; done)
              simp only [List.getElem_toArray, List.getElem_cons_succ, List.getElem_cons_zero, Act.put, List.setIfInBounds_toArray, List.set_cons_zero, List.set_cons_succ]
              refine hd_take (v := ?_) 3 rfl (by kernel_rfl) (fun _ _ d _ _ h => (by cases d <;> exact h)) (by kernel_rfl) S5 (fun w' hS => ?_) ?_
              rotate_left
              focus (clear hS; go_simp; try rfl; done)
              simp only [List.getElem_toArray, List.getElem_cons_succ, List.getElem_cons_zero, Act.put, List.setIfInBounds_toArray, List.set_cons_zero, List.set_cons_succ]
              refine hd_part2 5 rfl (by kernel_rfl) (fun _ _ d _ _ h => (by cases d <;> exact h)) (yieldsIf_load_mid (by kernel_rfl) 89 _ rfl T 0 rfl [.int .u8 (z0.toNat : Int), .int .u8 (z1.toNat : Int), .int .u8 (z2.toNat : Int), .int .u8 (z3.toNat : Int)] _ (fun _ h => h) Try.underlying89 rfl hsz) S5 ?_
              simp only [List.getElem_toArray, List.getElem_cons_succ, List.getElem_cons_zero, Act.put, List.setIfInBounds_toArray, List.set_cons_zero, List.set_cons_succ]
              refine hd_two 4 6 (by kernel_rfl) ?_ ?_
              · skip
                refine op_run rfl (by kernel_rfl) (by go_simp; first | done | exact ⟨rfl, rfl⟩ | rfl) ?_
                refine ⟨S5, ?_⟩
                simp only [List.getElem_toArray, List.getElem_cons_succ, List.getElem_cons_zero, Act.put, List.setIfInBounds_toArray, List.set_cons_zero, List.set_cons_succ]
                refine hd_one 6 (by kernel_rfl) ?_
                refine op_run rfl (by kernel_rfl) (by go_simp; first | done | exact ⟨rfl, rfl⟩ | rfl) ?_
                refine ⟨S6, ?_⟩
                simp only [List.getElem_toArray, List.getElem_cons_succ, List.getElem_cons_zero, Act.put, List.setIfInBounds_toArray, List.set_cons_zero, List.set_cons_succ]
                refine hd_one 7 (by kernel_rfl) ?_
                refine op_wp rfl (by kernel_rfl) ?_
                obtain ⟨i0, hi0, hz0, hz1, hz2⟩ := info_parts info4
                refine wp_append_lies _ _ _ 128 rfl 0 89 i0 _ 4 4 Try.underlying128 hi0 hz0 hz1 hz2 rfl (by decide) (.slice (some ⟨gw, 0, none⟩) i cw) i ((W.take (4 * i)).map B) rfl HA.out.o.row ⟨wr.heap.size, 0, none⟩ 1 1 [.int .u8 (z0.toNat : Int), .int .u8 (z1.toNat : Int), .int .u8 (z2.toNat : Int), .int .u8 (z3.toNat : Int)] rfl rfl (World.news_of_block (heap_alloc_new _ _)) (fun u hu => by simp at hu; rcases hu with rfl | rfl | rfl | rfl <;> rfl) (by decide) (by unfold maxLen; omega) (by omega) (Nat.zero_le _) _ rfl ?_
                intro g' cap' w6 hown2 hgrow hat hlt2
                obtain ⟨d0, df, d1⟩ := HA.out.o.push (v' := .slice (some ⟨g', 0, none⟩) (i + 1) cap') (W' := putTo W t' k i 4) (xs := [z0, z1, z2, z3]) hown2 hgrow (by
                  rcases hat with h | h
                  · exact .inl (by rw [h]; rfl)
                  · exact .inr (by rw [h]; rfl)) HE.out
                have D1 := Lib.hid d1
                have hon : Only (fpv (.slice (some ⟨gw, 0, none⟩) i cw)) _ w6 := Only.grown (Only.refl _ _) hgrow (fun k hk => .inl hk)
                have hS6 : w6.rangeAt T 0 [.int .u8 (z0.toNat : Int), .int .u8 (z1.toNat : Int), .int .u8 (z2.toNat : Int), .int .u8 (z3.toNat : Int)] := FT.out _ (HA.out.tb.only hon HA.out.tv)
                have hS7 : (w6.setCell ⟨a, 0, none⟩ (.slice (some ⟨g', 0, none⟩) (i + 1) cap')).rangeAt T 0 [.int .u8 (z0.toNat : Int), .int .u8 (z1.toNat : Int), .int .u8 (z2.toNat : Int), .int .u8 (z3.toNat : Int)] := FT.out _ ((HA.out.tb.only hon HA.out.tv).set_ne (by simp; exact fun e => HA.out.ta e) _)
                clear hown2 hgrow hat d1 hi0 hz0 hz1 hz2 hon
                simp only [List.getElem_toArray, List.getElem_cons_succ, List.getElem_cons_zero, Act.put, List.setIfInBounds_toArray, List.set_cons_zero, List.set_cons_succ]
                refine ⟨hS6, ?_⟩
                refine hd_take (v := ?_) 8 rfl (by kernel_rfl) (fun _ _ d _ _ h => (by cases d <;> exact h)) (by kernel_rfl) hS6 (fun w' hS => ?_) ?_
                rotate_left
                focus (clear hS; go_simp; try rfl; done)
                simp only [List.getElem_toArray, List.getElem_cons_succ, List.getElem_cons_zero, Act.put, List.setIfInBounds_toArray, List.set_cons_zero, List.set_cons_succ]
                refine hd_take (v := ?_) 9 rfl (by kernel_rfl) (fun _ _ d _ _ h => (by cases d <;> exact h)) (by kernel_rfl) hS6 (fun w' hS => ?_) ?_
                rotate_left
                focus (clear hS; go_simp; try rfl; done)
                simp only [List.getElem_toArray, List.getElem_cons_succ, List.getElem_cons_zero, Act.put, List.setIfInBounds_toArray, List.set_cons_zero, List.set_cons_succ]
                refine hd_one 10 (by kernel_rfl) ?_
                refine op_skip rfl (by kernel_rfl) (by go_simp; first | done | rfl) ?_
                refine ⟨hS7, ?_⟩
                simp only [List.getElem_toArray, List.getElem_cons_succ, List.getElem_cons_zero, Act.put, List.setIfInBounds_toArray, List.set_cons_zero, List.set_cons_succ]
                refine hd_done (by kernel_rfl) ?_
                clear d0 df hS6 hS7
                go_wp2_with fail
                go_roundw
                case rel => exact ⟨x', i + 1, by omega, by go_num, rfl, Lib.hid ⟨_, _, D1.out, by rw [putTo_len]; exact hWl, .inr ⟨by omega, by rw [← HN.out, HM.out, ← HX'.out, ← HT'.out]; exact HEXP.out⟩⟩⟩
                case measure => simp [intOf]; omega
              · skip
                refine op_run rfl (by kernel_rfl) (by go_simp; first | done | exact ⟨rfl, rfl⟩ | rfl) ?_
                refine ⟨S6, ?_⟩
                simp only [List.getElem_toArray, List.getElem_cons_succ, List.getElem_cons_zero, Act.put, List.setIfInBounds_toArray, List.set_cons_zero, List.set_cons_succ]
                refine hd_one 4 (by kernel_rfl) ?_
                have c0b := HA.out.o.head
                refine op_run rfl (by kernel_rfl) (by go_simp; first | done | exact ⟨rfl, rfl⟩ | rfl) ?_
                refine ⟨S6, ?_⟩
                simp only [List.getElem_toArray, List.getElem_cons_succ, List.getElem_cons_zero, Act.put, List.setIfInBounds_toArray, List.set_cons_zero, List.set_cons_succ]
                clear c0b
                refine hd_one 7 (by kernel_rfl) ?_
                refine op_wp rfl (by kernel_rfl) ?_
                obtain ⟨i0, hi0, hz0, hz1, hz2⟩ := info_parts info4
                refine wp_append_lies _ _ _ 128 rfl 0 89 i0 _ 4 4 Try.underlying128 hi0 hz0 hz1 hz2 rfl (by decide) (.slice (some ⟨gw, 0, none⟩) i cw) i ((W.take (4 * i)).map B) rfl HA.out.o.row ⟨wr.heap.size, 0, none⟩ 1 1 [.int .u8 (z0.toNat : Int), .int .u8 (z1.toNat : Int), .int .u8 (z2.toNat : Int), .int .u8 (z3.toNat : Int)] rfl rfl (World.news_of_block (heap_alloc_new _ _)) (fun u hu => by simp at hu; rcases hu with rfl | rfl | rfl | rfl <;> rfl) (by decide) (by unfold maxLen; omega) (by omega) (Nat.zero_le _) _ rfl ?_
                intro g' cap' w6 hown2 hgrow hat hlt2
                obtain ⟨d0, df, d1⟩ := HA.out.o.push (v' := .slice (some ⟨g', 0, none⟩) (i + 1) cap') (W' := putTo W t' k i 4) (xs := [z0, z1, z2, z3]) hown2 hgrow (by
                  rcases hat with h | h
                  · exact .inl (by rw [h]; rfl)
                  · exact .inr (by rw [h]; rfl)) HE.out
                have D1 := Lib.hid d1
                have hon : Only (fpv (.slice (some ⟨gw, 0, none⟩) i cw)) _ w6 := Only.grown (Only.refl _ _) hgrow (fun k hk => .inl hk)
                have hS6 : w6.rangeAt T 0 [.int .u8 (z0.toNat : Int), .int .u8 (z1.toNat : Int), .int .u8 (z2.toNat : Int), .int .u8 (z3.toNat : Int)] := FT.out _ (HA.out.tb.only hon HA.out.tv)
                have hS7 : (w6.setCell ⟨a, 0, none⟩ (.slice (some ⟨g', 0, none⟩) (i + 1) cap')).rangeAt T 0 [.int .u8 (z0.toNat : Int), .int .u8 (z1.toNat : Int), .int .u8 (z2.toNat : Int), .int .u8 (z3.toNat : Int)] := FT.out _ ((HA.out.tb.only hon HA.out.tv).set_ne (by simp; exact fun e => HA.out.ta e) _)
                clear hown2 hgrow hat d1 hi0 hz0 hz1 hz2 hon
                simp only [List.getElem_toArray, List.getElem_cons_succ, List.getElem_cons_zero, Act.put, List.setIfInBounds_toArray, List.set_cons_zero, List.set_cons_succ]
                refine ⟨hS6, ?_⟩
                refine hd_take (v := ?_) 8 rfl (by kernel_rfl) (fun _ _ d _ _ h => (by cases d <;> exact h)) (by kernel_rfl) hS6 (fun w' hS => ?_) ?_
                rotate_left
                focus (clear hS; go_simp; try rfl; done)
                simp only [List.getElem_toArray, List.getElem_cons_succ, List.getElem_cons_zero, Act.put, List.setIfInBounds_toArray, List.set_cons_zero, List.set_cons_succ]
                refine hd_take (v := ?_) 9 rfl (by kernel_rfl) (fun _ _ d _ _ h => (by cases d <;> exact h)) (by kernel_rfl) hS6 (fun w' hS => ?_) ?_
                rotate_left
                focus (clear hS; go_simp; try rfl; done)
                simp only [List.getElem_toArray, List.getElem_cons_succ, List.getElem_cons_zero, Act.put, List.setIfInBounds_toArray, List.set_cons_zero, List.set_cons_succ]
                refine hd_one 10 (by kernel_rfl) ?_
                refine op_skip rfl (by kernel_rfl) (by go_simp; first | done | rfl) ?_
                refine ⟨hS7, ?_⟩
                simp only [List.getElem_toArray, List.getElem_cons_succ, List.getElem_cons_zero, Act.put, List.setIfInBounds_toArray, List.set_cons_zero, List.set_cons_succ]
                refine hd_done (by kernel_rfl) ?_
                clear d0 df hS6 hS7
                go_wp2_with fail
                go_roundw
                case rel => exact ⟨x', i + 1, by omega, by go_num, rfl, Lib.hid ⟨_, _, D1.out, by rw [putTo_len]; exact hWl, .inr ⟨by omega, by rw [← HN.out, HM.out, ← HX'.out, ← HT'.out]; exact HEXP.out⟩⟩⟩
                case measure => simp [intOf]; omega
    · have t1 : decide ((i : Int) < (n : Int)) = false := by rw [decide_eq_false_iff_not]; omega
      obtain ⟨v, W, o1, hWl, ho3⟩ := H.out
      obtain ⟨gw, cw, rfl, _, _⟩ := o1.form (by omega)
      have hn := HN.out
      have e : W = sched key := by
        rcases ho3 with h | h
        · omega
        · have h2 := h.2
          rw [show 4 * (k + 7) - i = 0 from by omega] at h2
          exact h2
      have hRA : RA wr a gw n cw W := by
        have h := o1.ra (by omega)
        rw [show i = n from by omega] at h
        exact h
      rw [e, hn] at hRA
      have HRA := Lib.hid hRA
      have HB := Lib.hid (And.intro o1.bel (And.intro o1.age (o1.vge gw rfl).1))
      clear o1 ho3 hRA hn H
      go_wp2_with fail
      go_ret
      exact ⟨a, gw, cw, rfl, HRA.out, HB.out.1, HB.out.2.1, HB.out.2.2⟩
end Go.Proofs.Ytpampcokonicfaa
/- The contracts of the document's Double, and of the law's block. Conditions: a block has sixteen bytes. -/
namespace Go.Proofs.Ytpampcokonicfaa
open Go.RowKit
set_option maxRecDepth 100000
theorem rdbl_blk {w : World} {b : Nat} {t : TypeId} {l : List UInt8} {x z : UInt8} (h : Blk w b t (barr (dTo l 16))) (hb : 128 ≤ (x.toNat : Int)) (hz : Hid (UInt8.ofNat ((l.getD 15 0).toNat * 2 % 256) = z)) (hx : Hid (l.getD 0 0 = x)) :
    Blk (w.setCell ⟨b, 15, none⟩ (.int .u8 (bits .xor .u8 (z.toNat : Int) 135))) b t (barr (dbl l)) := by
  have h1 := dbl_blk h hz hx
  have e : bits .and .u8 135 (-((x.toNat : Int) / 128) % 256) = 135 := by
    have := x.toNat_lt
    rw [show (x.toNat : Int) / 128 = 1 from by omega]
    decide +kernel
  rw [e] at h1
  exact h1
theorem rdbl_low {w : World} {b : Nat} {t : TypeId} {l : List UInt8} {x z : UInt8} (h : Blk w b t (barr (dTo l 16))) (hb : ¬ 128 ≤ (x.toNat : Int)) (_hz : Hid (UInt8.ofNat ((l.getD 15 0).toNat * 2 % 256) = z)) (hx : Hid (l.getD 0 0 = x)) :
    Blk w b t (barr (dbl l)) := by
  have e : dbl l = dTo l 16 := by
    unfold dbl dTo
    refine tab_ext _ _ _ fun j hj => ?_
    rw [if_pos hj, dAt]
    by_cases h15 : j < 15
    · rw [if_pos h15, if_pos h15]
    · rw [if_neg h15, if_neg h15]
      obtain rfl : j = 15 := by omega
      unfold dL
      rw [hx.out, show x.toNat / 128 = 0 from by omega, Nat.mul_zero, Nat.xor_zero]
  rw [e]
  exact h

set_option maxHeartbeats 1000000 in
theorem rdbl_any (l : List UInt8) (hl : l.length = 16) (w : World) :
    Calls Try.prog 80 #[.agg (barr l)] w fun e w' => e = .returned (.agg (barr (dbl l))) ∧ Below w.heap.size w w' := by
  have HL := Lib.hid hl
  clear hl
  go_enter Try.func80, Try.ntmps80
  go_wp2_with fail
  go_loopw [4] (fun i w1 => ∃ k : Nat, k ≤ 16 ∧ i = .int .i64 (k : Int) ∧ Blk w1 w.heap.size 31 (barr l) ∧ Blk w1 (w.heap.size + 1) 31 (barr (List.replicate 16 0)) ∧ Blk w1 (w.heap.size + 1 + 1) 31 (barr (dTo l k)) ∧ Below w.heap.size w w1) (fun i _ => 16 - (intOf i).toNat)
  case atStart =>
    refine ⟨0, by omega, rfl, ?_, ?_, ?_, ?_⟩
    · exact ((Blk.at rfl rfl).alloc _).alloc _
    · exact (Blk.at (by simp) rfl).alloc _
    · rw [dTo_zero]
      exact Blk.at (by simp) rfl
    · exact (((Below.refl _ _).alloc (Nat.le_refl _) _).alloc (by simp) _).alloc (by simp; omega) _
  case round =>
    obtain ⟨k, hk, rfl, h0, h1, h2, hb⟩ := hrel
    by_cases hlt : k < 16
    · have c0 := h0.cellAt k (barr_getD l k (by rw [HL.out]; exact hlt))
      have c2 := h2.cellAt k (barr_getD (dTo l k) k (by rw [dTo_length]; exact hlt))
      have f2 := h2.unfrozen k
      have x0 := u8_hi (l.getD k 0)
      generalize hx : l.getD k 0 = x at c0 x0
      have HX := Lib.hid hx
      generalize (dTo l k).getD k 0 = z at c2
      by_cases h15 : k < 15
      · have c1 := h0.cellAt (k + 1) (barr_getD l (k + 1) (by rw [HL.out]; omega))
        have x1 := u8_hi (l.getD (k + 1) 0)
        generalize hy : l.getD (k + 1) 0 = y at c1 x1
        have HY := Lib.hid hy
        clear hx hy
        go_wp2_with fail
        go_region
        all_goals go_wp2_with fail
        all_goals go_roundw
        case rel =>
          refine ⟨k + 1, by omega, by go_num, ?_, ?_, ?_, ?_⟩
          · exact ((h0.set_ne (by simp; omega) _).set_ne (by simp; omega) _).drew
          · exact ((h1.set_ne (by simp) _).set_ne (by simp) _).drew
          · have e : dAt l k = dN x y := by rw [dAt, if_pos h15, HX.out, HY.out]
            have h := ((h2.set k (.int .u8 ((UInt8.ofNat (x.toNat * 2 % 256)).toNat : Int))).set k (.int .u8 ((dN x y).toNat : Int))).drew
            rw [barr_set, barr_set, List.set_set, ← e, dTo_succ] at h
            rw [dN_add, dS_form, ← e]
            exact h
          · exact ((hb.setCell (by simp; omega) _).setCell (by simp; omega) _).drew
        case measure => simp [intOf]; omega
      · clear hx
        go_wp2_with fail
        go_roundw
        case rel =>
          refine ⟨k + 1, by omega, by go_num, ?_, ?_, ?_, ?_⟩
          · exact h0.set_ne (by simp; omega) _
          · exact h1.set_ne (by simp) _
          · have e : dAt l k = UInt8.ofNat (x.toNat * 2 % 256) := by rw [dAt, if_neg h15, HX.out]
            have h := h2.set k (.int .u8 ((UInt8.ofNat (x.toNat * 2 % 256)).toNat : Int))
            rw [barr_set, ← e, dTo_succ] at h
            rw [dS_form, ← e]
            exact h
          · exact hb.setCell (by simp; omega) _
        case measure => simp [intOf]; omega
    · have h2' : Blk wr (w.heap.size + 1 + 1) 31 (barr (dTo l 16)) := by
        have e : k = 16 := by omega
        rw [e] at h2
        exact h2
      have c0 := h0.cellAt 0 (barr_getD l 0 (by rw [HL.out]; omega))
      have c2 := h2'.cellAt 15 (barr_getD (dTo l 16) 15 (by rw [dTo_length]; omega))
      have f2 := h2'.unfrozen 15
      have x0 := u8_hi (l.getD 0 0)
      generalize hx : l.getD 0 0 = x at c0 x0
      have HX := Lib.hid hx
      rw [dTo_last] at c2
      have x2 := u8_hi (UInt8.ofNat ((l.getD 15 0).toNat * 2 % 256))
      generalize hz : UInt8.ofNat ((l.getD 15 0).toNat * 2 % 256) = z at c2 x2
      have HZ := Lib.hid hz
      clear hx hz h2
      by_cases hbig : 128 ≤ (x.toNat : Int)
      · go_wp2_with (first | ((with_reducible change wpList _ _ _ (Oper.mk _ (Op.load 31 _) _ _ _ _ :: _) _ _); refine wpList_load_blk (d := some 35) (ty := 31) (w.heap.size + 1 + 1) rfl (rdbl_blk h2' hbig HZ HX) Try.underlying31 rfl size16 (dbl_cells l) ?_) | ((with_reducible change wpList _ _ _ (Oper.mk _ (Op.store 31 _ _) _ _ _ _ :: _) _ _); refine wpList_store_blk (ty := 31) (w.heap.size + 1) (barr (dbl l)) rfl rfl (h1.set_ne (ne15 _) _) size16 (dbl_cells l) (barr_size _) (barr_one _) ?_))
        refine bodyPost_ret (results_cell_blk rfl _ _ (w.heap.size + 1) rfl ((h1.set_ne (by simp) _).row _) Try.underlying31 rfl size16 (by rw [barr_size, dbl_length])) rfl ⟨rfl, ?_⟩
        exact below_row (hb.setCell (by simp; omega) _) (by simp) _
      · go_wp2_with (first | ((with_reducible change wpList _ _ _ (Oper.mk _ (Op.load 31 _) _ _ _ _ :: _) _ _); refine wpList_load_blk (d := some 35) (ty := 31) (w.heap.size + 1 + 1) rfl (rdbl_low h2' hbig HZ HX) Try.underlying31 rfl size16 (dbl_cells l) ?_) | ((with_reducible change wpList _ _ _ (Oper.mk _ (Op.store 31 _ _) _ _ _ _ :: _) _ _); refine wpList_store_blk (ty := 31) (w.heap.size + 1) (barr (dbl l)) rfl rfl (h1) size16 (dbl_cells l) (barr_size _) (barr_one _) ?_))
        refine bodyPost_ret (results_cell_blk rfl _ _ (w.heap.size + 1) rfl (h1.row _) Try.underlying31 rfl size16 (by rw [barr_size, dbl_length])) rfl ⟨rfl, ?_⟩
        exact below_row hb (by simp) _
/-! ### the law's block, and the law -/
end Go.Proofs.Ytpampcokonicfaa
/- Append onto a row of one's own: if the row moves, the old one stays as it was. -/
namespace Go.Proofs.Ytpampcokonicfaa
open Go.RowKit
section
variable {P : Program} (w : World)
theorem run_append_keep (t ty e : TypeId) (i : TypeInfo) (z : Value) (size bytes : Nat) (ht : P.underlying t = some (.slice e)) (hi : P.info? e = some i) (hz : i.zero = some z)
    (hsize : i.size = size) (hby : i.bytes = bytes) (hzs : z.cells.size = size) (hsz : 0 < size)
    (v : Value) (n : Nat) (xs : List Value) (hown : w.ownsRow 0 e size v n xs) (a : Addr) (m c : Nat) (news : List Value) (hl : news.length = m * size) (hnews : ∀ j u, news[j]? = some u → w.cell? (a.add j) = some u) (h1 : ∀ u ∈ news, u.oneCell' = true)
    (h63 : n + m ≤ maxLen) (hbytes : (n + m) * bytes ≤ 140737488355328) (hm : 0 < m) :
    ∃ v' w', (Builtin.append_ #[t, t] ty #[v, .slice (some a) m c]).run P w = .ok v' w' ∧ w'.ownsRow 0 e size v' (n + m) (xs ++ news) ∧ w.grownBy w' v.ownBlock ∧
      (v'.ownBlock = v.ownBlock ∨ v'.ownBlock = some w.heap.size ∧ ∀ b, b < w.heap.size → w'.heap[b]? = w.heap[b]?) ∧ v' ≠ .slice none 0 0 := by
  obtain ⟨v', w', hr, g1, g2, g3, g4⟩ := run_append_own_at (P := P) w 0 t ty e i z size bytes ht hi hz hsize hby hzs hsz v n xs hown a m c news hl hnews h1 h63 hbytes (Nat.zero_le _)
  refine ⟨v', w', hr, g1, g2, ?_, fun hv => by have := (g3.1 hv).2; omega⟩
  subst hsize; subst hby
  have hsmall : n + m ≤ 9223372036854775807 := by simp only [maxLen] at h63; omega
  have hown' := hown
  rcases hown.2 with ⟨rfl, rfl⟩ | ⟨g, cap, cur, rfl, hbg, hg, hnc, hcm, hcs, htake⟩
  · have hx : xs = [] := List.eq_nil_of_length_eq_zero (by simpa using hown.1)
    subst hx
    rcases g4 with g4 | g4
    · exact .inl g4
    · refine .inr ⟨g4, fun b hb => g2.block b hb (by simp [Value.ownBlock])⟩
  · by_cases hroom : n + m ≤ cap
    · have hr2 := run_append_room (P := P) w t ty e i ht hi g n cap cur hg a m c news hl hnews h1 hroom (by rw [hl, hcs, ← Nat.add_mul]; exact Nat.mul_le_mul_right _ hroom)
      rw [hr] at hr2
      injection hr2 with e1 e2
      subst e1
      exact .inl rfl
    · have hr2 := run_append_grow (P := P) w t ty e i z ht hi hz ⟨g, 0, none⟩ n cap xs hown.1 (hown'.cells (g := g) rfl) a m c news hl hnews (by omega) (by omega) (growslice_fits (by omega) hbytes)
      rw [hr] at hr2
      injection hr2 with e1 e2
      subst e1; subst e2
      exact .inr ⟨rfl, fun b hb => heap_alloc_old w.drew _ hb⟩
theorem wp_append_keep {o : Oper} {a : Act} {K : Act → World → Prop} {Q : Exit → Act → World → Prop} (s x : Operand) (t : TypeId)
    (ho : o.op = .call { callee := .builtin .append, args := #[s, x], argTypes := #[t, t] })
    (e : TypeId) (i : TypeInfo) (z : Value) (size bytes : Nat) (ht : P.underlying t = some (.slice e)) (hi : P.info? e = some i) (hz : i.zero = some z)
    (hsize : i.size = size) (hby : i.bytes = bytes) (hzs : z.cells.size = size) (hsz : 0 < size)
    (v : Value) (n : Nat) (xs : List Value) (hs : a.eval s = v) (hown : w.ownsRow 0 e size v n xs) (ad : Addr) (m c : Nat) (news : List Value) (hx : a.eval x = .slice (some ad) m c)
    (hl : news.length = m * size) (hnews : ∀ j u, news[j]? = some u → w.cell? (ad.add j) = some u) (h1 : ∀ u ∈ news, u.oneCell' = true)
    (h63 : n + m ≤ maxLen) (hbytes : (n + m) * bytes ≤ 140737488355328) (hm : 0 < m)
    (h : ∀ v' w', w'.ownsRow 0 e size v' (n + m) (xs ++ news) → w.grownBy w' v.ownBlock → (v'.ownBlock = v.ownBlock ∨ v'.ownBlock = some w.heap.size ∧ ∀ b, b < w.heap.size → w'.heap[b]? = w.heap[b]?) → v' ≠ .slice none 0 0 → K (a.put o.dst v') w') : o.wp P a w K Q := by
  obtain ⟨v', w', hr, g1, g2, g3, g4⟩ := run_append_keep (P := P) w t o.type e i z size bytes ht hi hz hsize hby hzs hsz v n xs hown ad m c news hl hnews h1 h63 hbytes hm
  unfold Oper.wp execOp
  simp only [ho, resolve, invoke, builtin, Sem.run_bind, Sem.run_pure, Result.andThen_ok, List.map_toArray, List.map_cons, List.map_nil, hs, hx, hr]
  exact h v' w' g1 g2 g3 g4
theorem wpList_append_keep {ops : Array Oper} {rest : List Oper} {o : Oper} {a : Act} {Q : Exit → Act → World → Prop} (hgd : o.guard = none) (s x : Operand) (t : TypeId)
    (ho : o.op = .call { callee := .builtin .append, args := #[s, x], argTypes := #[t, t] })
    (e : TypeId) (i : TypeInfo) (z : Value) (size bytes : Nat) (ht : P.underlying t = some (.slice e)) (hi : P.info? e = some i) (hz : i.zero = some z)
    (hsize : i.size = size) (hby : i.bytes = bytes) (hzs : z.cells.size = size) (hsz : 0 < size)
    (v : Value) (n : Nat) (xs : List Value) (hs : a.eval s = v) (hown : w.ownsRow 0 e size v n xs) (ad : Addr) (m c : Nat) (news : List Value) (hx : a.eval x = .slice (some ad) m c)
    (hl : news.length = m * size) (hnews : ∀ j u, news[j]? = some u → w.cell? (ad.add j) = some u) (h1 : ∀ u ∈ news, u.oneCell' = true)
    (h63 : n + m ≤ maxLen) (hbytes : (n + m) * bytes ≤ 140737488355328) (hm : 0 < m)
    (h : ∀ v' w', w'.ownsRow 0 e size v' (n + m) (xs ++ news) → w.grownBy w' v.ownBlock → (v'.ownBlock = v.ownBlock ∨ v'.ownBlock = some w.heap.size ∧ ∀ b, b < w.heap.size → w'.heap[b]? = w.heap[b]?) → v' ≠ .slice none 0 0 → wpList P ops Q rest (a.put o.dst v') w') : wpList P ops Q (o :: rest) a w :=
  wpList_plain hgd fun _ hK => wp_append_keep w s x t ho e i z size bytes ht hi hz hsize hby hzs hsz v n xs hs hown ad m c news hx hl hnews h1 h63 hbytes hm fun v' w' g1 g2 g3 g4 => hK _ _ (h v' w' g1 g2 g3 g4)
end
end Go.Proofs.Ytpampcokonicfaa
/- Lists of elements of any kind: their cells, rows of one's own, what is told in new memory. No program in sight. -/
namespace Go.Proofs.Ytpampcokonicfaa
open Go.RowKit
set_option maxRecDepth 100000
set_option linter.unusedVariables false

/-- a kind of elements: their type, how many cells each has, which -/
structure Knd (α : Type) where
  e : TypeId
  sz : Nat
  cv : α → List Value
  pos : 0 < sz
  len : ∀ x, (cv x).length = sz
  one : ∀ x, ∀ u ∈ cv x, u.oneCell' = true

section
variable {α : Type} (K : Knd α)
def Knd.fl (l : List α) : List Value := l.flatMap K.cv
theorem Knd.fl_nil : K.fl [] = [] := rfl
theorem Knd.fl_app (a b : List α) : K.fl (a ++ b) = K.fl a ++ K.fl b := by simp [Knd.fl]
theorem Knd.fl_one (x : α) : K.fl [x] = K.cv x := by simp [Knd.fl]
theorem Knd.fl_len (l : List α) : (K.fl l).length = l.length * K.sz := by
  induction l with
  | nil => simp [Knd.fl]
  | cons x l ih =>
    have : K.fl (x :: l) = K.cv x ++ K.fl l := by simp [Knd.fl]
    rw [this, List.length_append, ih, K.len, List.length_cons, Nat.add_mul]
    omega
theorem Knd.fl_cells (l : List α) : ∀ u ∈ K.fl l, u.oneCell' = true := by
  intro u hu
  obtain ⟨x, _, hx⟩ := List.mem_flatMap.1 hu
  exact K.one x u hx
theorem Knd.fl_get : ∀ (l : List α) (i c : Nat) (x : α), l[i]? = some x → c < K.sz → (K.fl l)[i * K.sz + c]? = (K.cv x)[c]?
  | [], i, c, x, h, _ => by simp at h
  | y :: l, i, c, x, h, hc => by
    have e : K.fl (y :: l) = K.cv y ++ K.fl l := by simp [Knd.fl]
    rw [e]
    cases i with
    | zero =>
      simp at h
      subst h
      rw [List.getElem?_append_left (by rw [K.len]; omega)]
      simp
    | succ i =>
      have h2 := Knd.fl_get l i c x (by simpa using h) hc
      rw [List.getElem?_append_right (by rw [K.len, Nat.add_mul]; omega), K.len, show (i + 1) * K.sz + c - K.sz = i * K.sz + c from by rw [Nat.add_mul]; omega]
      exact h2
/-- a slice value that owns the elements l, at a row of its own -/
def Knd.O (w : World) (v : Value) (l : List α) : Prop := w.ownsRow 0 K.e K.sz v l.length (K.fl l)
/-- a slice value that reads as l -/
def Knd.R (w : World) (v : Value) (l : List α) : Prop := Sl w K.sz v l.length (K.fl l)
def Knd.ob (v : Value) (l : List α) : Ob := obE K.e K.sz v l.length (K.fl l)
variable {K}
theorem Knd.O.rd {w : World} {v : Value} {l : List α} (h : K.O w v l) : K.R w v l := Sl.of_own h (K.fl_cells l)
theorem Knd.O.keep {w w' : World} {v : Value} {l : List α} (h : K.O w v l) {S : Nat → Prop} (ho : Only S w w') (hd : ∀ x, fpv v x → ¬ S x) : K.O w' v l := ownsRow_keep h ho hd
theorem Knd.O.lt {w : World} {v : Value} {l : List α} (h : K.O w v l) : ∀ x, fpv v x → x < w.heap.size := fun x hx => (World.ownsRow.lt h x hx).2
theorem Knd.O.nil (w : World) : K.O w (.slice none 0 0) [] := World.ownsRow_nil w 0 _ _
theorem Knd.R.nil (w : World) : K.R w (.slice none 0 0) [] := Sl.nil w _
theorem Knd.O.any {w : World} {v : Value} {l : List α} (h : K.O w v l) : ∃ ao cap, v = .slice ao l.length cap := by
  rcases h.2 with ⟨hv, h0⟩ | ⟨g, cap, cur, hv, _⟩
  · exact ⟨none, 0, by rw [h0]; exact hv⟩
  · exact ⟨some ⟨g, 0, none⟩, cap, hv⟩
theorem Knd.O.form {w : World} {v : Value} {l : List α} (h : K.O w v l) (h0 : 0 < l.length) : ∃ g cap, v = .slice (some ⟨g, 0, none⟩) l.length cap := by
  obtain ⟨g, cap, hv, _⟩ := World.ownsRow.form h h0
  exact ⟨g, cap, hv⟩
theorem Knd.R.any {w : World} {v : Value} {l : List α} (h : K.R w v l) : ∃ ao cap, v = .slice ao l.length cap ∧ l.length ≤ cap ∧ cap ≤ 9223372036854775807 ∧ (ao = none → cap = 0) := by
  obtain ⟨ao, cap, hv, h1, h2, h3, _⟩ := h.form
  exact ⟨ao, cap, hv, h1, h2, h3⟩
theorem Knd.R.grow {w w' : World} {v : Value} {l : List α} (h : K.R w v l) (hb : Below w.heap.size w w') : K.R w' v l := Sl.grow h hb
/-- element i, cell by cell -/
theorem Knd.R.get {w : World} {ao : Option Addr} {n cap : Nat} {l : List α} (h : K.R w (.slice ao n cap) l) {i : Nat} {x : α} (hx : l[i]? = some x) : ∃ b off, ao = some ⟨b, off, none⟩ ∧ b < w.heap.size ∧ ∀ c v, (K.cv x)[c]? = some v → w.cell? ⟨b, off + (i * K.sz + c), none⟩ = some v := by
  obtain ⟨ao', cap', hv, _, _, _, h4⟩ := h.form
  injection hv with e1 _ _
  subst e1
  have hc0 : 0 < (K.cv x).length := by rw [K.len]; exact K.pos
  obtain ⟨b, off, hb, hcell⟩ := h4 (i * K.sz + 0) _ ((K.fl_get l i 0 x hx K.pos).trans (List.getElem?_eq_getElem hc0))
  refine ⟨b, off, hb, World.block_lt_of_cell? w _ hcell, fun c v hv => ?_⟩
  have hc : c < K.sz := by
    have := (List.getElem?_eq_some_iff.1 hv).1
    rwa [K.len] at this
  obtain ⟨b2, off2, hb2, hcell2⟩ := h4 (i * K.sz + c) v ((K.fl_get l i c x hx hc).trans hv)
  rw [hb] at hb2
  injection hb2 with e
  injection e with e1 e2
  subst e1; subst e2
  exact hcell2
theorem Knd.O.get {w : World} {g n cap : Nat} {l : List α} (h : K.O w (.slice (some ⟨g, 0, none⟩) n cap) l) {i : Nat} {x : α} (hx : l[i]? = some x) : ∀ c v, (K.cv x)[c]? = some v → w.cell? ⟨g, i * K.sz + c, none⟩ = some v := by
  intro c v hv
  obtain ⟨b, off, hb, _, hc⟩ := Knd.R.get h.rd hx
  injection hb with e
  injection e with e1 e2
  subst e1; subst e2
  have := hc c v hv
  rwa [Nat.zero_add] at this
theorem Knd.O.frozen {w : World} {g n cap : Nat} {l : List α} (h : K.O w (.slice (some ⟨g, 0, none⟩) n cap) l) (j : Nat) : w.frozen? ⟨g, j, none⟩ = false := by
  have hn : n = l.length := by
    rcases h.2 with ⟨hv, _⟩ | ⟨g', cap', cur, hv, _⟩
    · simp at hv
    · simp at hv; exact hv.2.1
  subst hn
  exact World.ownsRow.frozenAt h j

/-- told in new memory -/
def Knd.New (K : Knd α) (l : List α) (w : World) (e : Ending) (w' : World) : Prop :=
  ∃ v, e = .returned v ∧ K.O w' v l ∧ Below w.heap.size w w' ∧ ∀ x, fpv v x → w.heap.size ≤ x
/-- a row that is made in a loop -/
def Knd.Mk (K : Knd α) (l : List α) (w : World) (v : Value) (w1 : World) : Prop := K.O w1 v l ∧ Below w.heap.size w w1 ∧ ∀ x, fpv v x → w.heap.size ≤ x
theorem Knd.Mk.nil (K : Knd α) (w : World) : K.Mk [] w (.slice none 0 0) w := ⟨Knd.O.nil w, Below.refl _ _, fun x hx => by simp [fpv, Value.ownBlock] at hx⟩
theorem Knd.Mk.draw {K : Knd α} {l : List α} {w w1 : World} {v : Value} (h : K.Mk l w v w1) (n : Nat) : K.Mk l w v (w1.drewN n) :=
  ⟨h.1.keep ((Only.refl (fun _ => False) w1).draw n) (fun _ _ h => h), ⟨h.2.1.os, h.2.1.tape, h.2.1.output, h.2.1.size, h.2.1.block⟩, h.2.2⟩
theorem Knd.Mk.below {K : Knd α} {l : List α} {w w1 w2 : World} {v : Value} (h : K.Mk l w v w1) (hb : Below w1.heap.size w1 w2) : K.Mk l w v w2 :=
  ⟨h.1.keep (Only.nothing hb) (fun _ _ h => h), h.2.1.trans (hb.mono h.2.1.size), h.2.2⟩
/-- one more element, behind its literal and an append -/
theorem Knd.Mk.more {K : Knd α} {l : List α} {w w1 w2 : World} {v v' : Value} {x : α} (h : K.Mk l w v w1) {o : Obj} {N : Nat} (hN : N = l.length) {cs : List Value} (hcs : cs = K.fl l ++ K.cv x) (hown : w2.ownsRow 0 K.e K.sz v' (N + 1) cs) (hgrow : (w1.alloc o).grownBy w2 v.ownBlock)
    (hat : v'.ownBlock = v.ownBlock ∨ v'.ownBlock = some (w1.heap.size + 1)) : K.Mk (l ++ [x]) w v' w2 := by
  subst hN; subst hcs
  obtain ⟨q1, q2, q3⟩ := h
  refine ⟨?_, (q2.alloc q2.size _).grown hgrow (by simp; have := q2.size; omega) (fun x hx => q3 x hx), fun y hy => ?_⟩
  · unfold Knd.O
    rw [K.fl_app, K.fl_one, List.length_append]
    exact hown
  · have hy' : v'.ownBlock = some y := hy
    rcases hat with hat | hat
    · exact q3 y (by show v.ownBlock = some y; rw [← hat]; exact hy')
    · rw [hat] at hy'
      injection hy' with hy'
      have := q2.size
      omega
theorem Knd.Mk.alloc {K : Knd α} {l : List α} {w w1 : World} {v : Value} (h : K.Mk l w v w1) (o : Obj) {N : Nat} (hN : N = l.length) : (w1.alloc o).ownsRow 0 K.e K.sz v N (K.fl l) := by
  subst hN
  exact h.1.keep ((Only.refl (fun _ => False) w1).alloc o) (fun _ _ h => h)
theorem Knd.Mk.new {K : Knd α} {l : List α} {w w1 : World} {v : Value} (h : K.Mk l w v w1) : K.New l w (.returned v) w1 := ⟨v, rfl, h⟩
/-- a whole list, behind an append to what was made -/
theorem Knd.Mk.whole {K : Knd α} {l m : List α} {w w1 w2 : World} {v v' : Value} (h : K.Mk l w v w1) {N : Nat} (hN : N = l.length + m.length) (hown : w2.ownsRow 0 K.e K.sz v' N (K.fl l ++ K.fl m)) (hgrow : w1.grownBy w2 v.ownBlock)
    (hat : v'.ownBlock = v.ownBlock ∨ v'.ownBlock = some w1.heap.size) : K.Mk (l ++ m) w v' w2 := by
  subst hN
  obtain ⟨q1, q2, q3⟩ := h
  refine ⟨?_, q2.grown hgrow q2.size (fun x hx => q3 x hx), fun y hy => ?_⟩
  · unfold Knd.O
    rw [K.fl_app, List.length_append]
    exact hown
  · have hy' : v'.ownBlock = some y := hy
    rcases hat with hat | hat
    · exact q3 y (by show v.ownBlock = some y; rw [← hat]; exact hy')
    · rw [hat] at hy'
      injection hy' with hy'
      have := q2.size
      omega

/-! ### the same? -/
def sameTo' (eq : α → α → Bool) (xs ys : List α) : Nat → Nat → Bool
  | 0, _ => true
  | n + 1, k => match xs[k]?, ys[k]? with
    | some x, some y => if eq x y then sameTo' eq xs ys n (k + 1) else false
    | _, _ => true
def sameL (eq : α → α → Bool) (xs ys : List α) : Bool := if xs.length = ys.length then sameTo' eq xs ys xs.length 0 else false
theorem sameTo_step {eq : α → α → Bool} {xs ys : List α} {n k : Nat} {x y : α} {b : Bool} (hx : xs[k]? = some x) (hy : ys[k]? = some y) (h : sameTo' eq xs ys (n + 1) k = b) : (if eq x y then sameTo' eq xs ys n (k + 1) else false) = b := by
  rw [sameTo', hx, hy] at h
  exact h
theorem sameTo_refl (eq : α → α → Bool) (h : ∀ x, eq x x = true) (xs : List α) : ∀ n k, sameTo' eq xs xs n k = true
  | 0, _ => rfl
  | n + 1, k => by
    rw [sameTo']
    cases hx : xs[k]? with
    | none => rfl
    | some x => simp [h, sameTo_refl eq h xs n (k + 1)]
theorem sameL_refl (eq : α → α → Bool) (h : ∀ x, eq x x = true) (xs : List α) : sameL eq xs xs = true := by
  unfold sameL
  rw [if_pos rfl, sameTo_refl eq h]
theorem sameTo_iff (eq : α → α → Bool) (h : ∀ x y, eq x y = true ↔ x = y) (xs ys : List α) (hl : xs.length = ys.length) : ∀ n k, k + n = xs.length → (sameTo' eq xs ys n k = true ↔ ∀ j, k ≤ j → xs[j]? = ys[j]?)
  | 0, k, hk => by
    simp only [sameTo', true_iff]
    intro j hj
    rw [List.getElem?_eq_none (by omega), List.getElem?_eq_none (by omega)]
  | n + 1, k, hk => by
    have hx : xs[k]? = some xs[k] := List.getElem?_eq_getElem (by omega)
    have hy : ys[k]? = some ys[k] := List.getElem?_eq_getElem (by omega)
    rw [sameTo', hx, hy]
    simp only
    by_cases e : eq xs[k] ys[k] = true
    · rw [if_pos e, sameTo_iff eq h xs ys hl n (k + 1) (by omega)]
      have e' := (h _ _).1 e
      constructor
      · intro hh j hj
        by_cases ejk : j = k
        · subst ejk; rw [hx, hy, e']
        · exact hh j (by omega)
      · intro hh j hj
        exact hh j (by omega)
    · rw [if_neg e]
      simp only [Bool.false_eq_true, false_iff]
      intro hh
      have := hh k (Nat.le_refl _)
      rw [hx, hy] at this
      exact e ((h _ _).2 (Option.some.inj this))
theorem sameL_iff (eq : α → α → Bool) (h : ∀ x y, eq x y = true ↔ x = y) (xs ys : List α) : sameL eq xs ys = true ↔ xs = ys := by
  unfold sameL
  by_cases hl : xs.length = ys.length
  · rw [if_pos hl, sameTo_iff eq h xs ys hl _ 0 (by omega)]
    constructor
    · intro hh; exact List.ext_getElem? fun j => hh j (Nat.zero_le _)
    · rintro rfl _ _; rfl
  · rw [if_neg hl]
    simp only [Bool.false_eq_true, false_iff]
    intro e
    exact hl (by rw [e])

/-! ### marks -/
/-- n marks of list k -/
def mks (mk : Int → Int → α) (k : Int) (n : Nat) : List α := (List.range n).map fun (i : Nat) => mk k (i : Int)
theorem mks_len (mk : Int → Int → α) (k : Int) (n : Nat) : (mks mk k n).length = n := by simp [mks]
theorem mks_succ (mk : Int → Int → α) (k : Int) (n : Nat) : mks mk k (n + 1) = mks mk k n ++ [mk k n] := by simp [mks, List.range_succ]
theorem mks_get (mk : Int → Int → α) (k : Int) (n i : Nat) (h : i < n) : (mks mk k n)[i]? = some (mk k i) := by simp [mks, List.getElem?_map, List.getElem?_range h]
def lentM (mk : Int → Int → α) (l : List α) : List α := l ++ mks mk 7 6
theorem lentM_len (mk : Int → Int → α) (l : List α) : (lentM mk l).length = l.length + 6 := by simp [lentM, mks]
/-- the first i elements are marked -/
def overM (mk : Int → Int → α) (l : List α) (i : Nat) : List α := mks mk 9 i ++ l.drop i
theorem overM_len (mk : Int → Int → α) (l : List α) (i : Nat) (h : i ≤ l.length) : (overM mk l i).length = l.length := by simp [overM, mks]; omega
theorem overM_zero (mk : Int → Int → α) (l : List α) : overM mk l 0 = l := by simp [overM, mks]
theorem overM_end (mk : Int → Int → α) (l : List α) : overM mk l l.length = mks mk 9 l.length := by simp [overM]
theorem overM_put (K : Knd α) (mk : Int → Int → α) (l : List α) (i : Nat) (h : i < l.length) : putAt (K.fl (overM mk l i)) (i * K.sz) (K.cv (mk 9 i)) = K.fl (overM mk l (i + 1)) := by
  unfold overM
  have h1 := putAt_app (K.cv (mk 9 i)) (K.fl (mks mk 9 i)) (K.fl (l.drop i)) (by
    rw [K.len, K.fl_len, List.length_drop]
    have := Nat.mul_le_mul_right K.sz (show 1 ≤ l.length - i by omega)
    omega)
  rw [K.fl_len, mks_len] at h1
  rw [K.fl_app, h1, mks_succ, K.fl_app, K.fl_app, K.fl_one, List.drop_eq_getElem_cons h]
  congr 1
  have e : K.fl (l[i] :: l.drop (i + 1)) = K.cv l[i] ++ K.fl (l.drop (i + 1)) := by simp only [Knd.fl, List.flatMap_cons]
  rw [e, K.len, ← K.len l[i], List.drop_left]
theorem Knd.O.put {K : Knd α} {w : World} {g cap N : Nat} {l : List α} (mk : Int → Int → α) {i : Nat} (h : K.O w (.slice (some ⟨g, 0, none⟩) N cap) (overM mk l i)) (hi : i < l.length) (hN : N = l.length) :
    K.O (w.setCells g (i * K.sz) (K.cv (mk 9 i))) (.slice (some ⟨g, 0, none⟩) N cap) (overM mk l (i + 1)) := by
  subst hN
  have hl := overM_len mk l i (by omega)
  have hl2 := overM_len mk l (i + 1) (by omega)
  unfold Knd.O at *
  rw [hl] at h
  have := ownsRow_setCells (K.cv (mk 9 i)) _ _ (i * K.sz) h
  rw [overM_put K mk l i hi] at this
  rw [hl2]
  exact this
/-- marks are the marks of Apart -/
def Mkr.ofK (K : Knd α) (st : TypeId) (mk : Int → Int → α) : Mkr := ⟨st, K.e, K.sz, fun k i => K.cv (mk ((k : Int) + 10) (i : Int)), K.pos, fun _ _ => K.len _, fun _ _ => K.one _⟩
end
theorem header {w : World} {base : Nat} {e : TypeId} {size n : Nat} {v : Value} {xs : List Value} (h : w.ownsRow base e size v n xs) : ∃ ao cap, v = .slice ao n cap ∧ n ≤ cap ∧ cap ≤ 9223372036854775807 ∧ (0 < n → ∃ g, ao = some ⟨g, 0, none⟩) := by
  rcases h.2 with ⟨rfl, rfl⟩ | ⟨g, cap, cur, rfl, _, _, h1, h2, _⟩
  · exact ⟨none, 0, rfl, by omega, by omega, fun h => by omega⟩
  · exact ⟨some ⟨g, 0, none⟩, cap, rfl, h1, h2, fun _ => ⟨g, rfl⟩⟩
end Go.Proofs.Ytpampcokonicfaa
/- Append of so many zero values (the translation's append of a made slice) onto a row of one's own. No program in sight. -/
namespace Go.Proofs.Ytpampcokonicfaa
open Go.RowKit
set_option maxRecDepth 100000
section
variable {P : Program} (w : World)
theorem run_append_zeros (t tn ty e : TypeId) (i : TypeInfo) (z : Value) (kq kn : IntKind) (size bytes : Nat) (ht : P.underlying t = some (.slice e)) (htn : P.underlying tn = some (.int kn)) (hi : P.info? e = some i) (hz : i.zero = some z)
    (hsize : i.size = size) (hby : i.bytes = bytes) (hzs : z.cells.size = size) (hsz : 0 < size) (h1 : ∀ m, ∀ u ∈ (Builtin.zeroCells z.cells m).toList, u.oneCell' = true)
    (v : Value) (n : Nat) (xs : List Value) (hown : w.ownsRow 0 e size v n xs) (m : Nat) (hm : 0 < m) (h63 : n + m ≤ maxLen) (hbytes : (n + m) * bytes ≤ 140737488355328) :
    ∃ v' w', (Builtin.append_ #[t, tn] ty #[v, .int kq (m : Int)]).run P w = .ok v' w' ∧ w'.ownsRow 0 e size v' (n + m) (xs ++ (Builtin.zeroCells z.cells m).toList) ∧ w.grownBy w' v.ownBlock ∧ (v'.ownBlock = v.ownBlock ∨ v'.ownBlock = some w.heap.size) := by
  subst hsize
  subst hby
  have hsmall : n + m ≤ 9223372036854775807 := by simp only [maxLen] at h63; omega
  have hzl : (Builtin.zeroCells z.cells m).toList.length = m * i.size := by rw [Array.length_toList, size_zeroCells, hzs]
  have hmb : m * i.bytes ≤ 140737488355328 := Nat.le_trans (Nat.mul_le_mul_right _ (by omega)) hbytes
  have hlen : (xs ++ (Builtin.zeroCells z.cells m).toList).length = (n + m) * i.size := by rw [List.length_append, hown.1, hzl, Nat.add_mul]
  have grown : ∀ (old : Nat), old < n + m → ∀ (row : Option Nat),
      (w.drew.alloc (.cells (xs.toArray ++ Builtin.zeroCells z.cells m ++ Builtin.zeroCells z.cells (grownCap w (n + m) old e - (n + m))) e)).ownsRow 0 e i.size
        (.slice (some ⟨w.heap.size, 0, none⟩) (n + m) (grownCap w (n + m) old e)) (n + m) (xs ++ (Builtin.zeroCells z.cells m).toList) ∧
      w.grownBy (w.drew.alloc (.cells (xs.toArray ++ Builtin.zeroCells z.cells m ++ Builtin.zeroCells z.cells (grownCap w (n + m) old e - (n + m))) e)) row := by
    intro old ho row
    have hge := grownCap_ge w (n + m) old e
    have hcm : grownCap w (n + m) old e ≤ maxLen := grownCap_le_maxLen w (n + m) old e h63
    refine ⟨⟨hlen, .inr ⟨w.heap.size, _, _, rfl, Nat.zero_le _, heap_alloc_new w.drew _, hge, hcm, ?_, ?_⟩⟩, ⟨rfl, rfl, rfl, by simp, fun k hk _ => heap_alloc_old w.drew _ hk⟩⟩
    · simp only [Array.size_append, List.size_toArray, size_zeroCells, hzs, hown.1, ← Nat.add_mul]
      congr 1
      omega
    · simp only [Array.toList_append]
      rw [← hlen]
      exact List.take_left
  rcases hown.2 with ⟨rfl, rfl⟩ | ⟨g, cap, cur, rfl, _, hg, hnc, hcm, hcs, htake⟩
  · have hx : xs = [] := List.eq_nil_of_length_eq_zero (by simpa using hown.1)
    subst hx
    have hr := Lib.run_append_nil_zeros (P := P) w t tn ty e i z kq kn ht htn hi hz m hm hsz (by omega) (by omega)
    have hgr := grown 0 (by omega) (Value.ownBlock (.slice none 0 0))
    simp only [Nat.zero_add, List.nil_append, Array.empty_append] at hgr ⊢
    exact ⟨_, _, hr, hgr.1, hgr.2, Or.inr rfl⟩
  · by_cases hroom : n + m ≤ cap
    · have hfit : n * i.size + (Builtin.zeroCells z.cells m).toList.length ≤ cur.size := by rw [hzl, hcs, ← Nat.add_mul]; exact Nat.mul_le_mul_right _ hroom
      have hst := run_storeCells_at P g (n * i.size) e (Builtin.zeroCells z.cells m).toList 0 cur w hg (by simpa using hfit) (h1 m)
      simp only [Nat.add_zero] at hst
      have hw : IntKind.i64.wrap (m : Int) = m := by rw [IntKind.wrap_i64]; omega
      have hneg : ¬ ((m : Int) < 0) := by omega
      have h48i : ¬ (281474976710656 < (m : Int) * (i.bytes : Int)) := by
        rw [← Int.natCast_mul]
        omega
      have hns : ¬ (m * i.size = 0) := Nat.mul_ne_zero (by omega) (by omega)
      have hr : (Builtin.append_ #[t, tn] ty #[.slice (some ⟨g, 0, none⟩) n cap, .int kq (m : Int)]).run P w = .ok (.slice (some ⟨g, 0, none⟩) (n + m) cap) (w.setRow g (cur.toList.take (n * i.size) ++ (Builtin.zeroCells z.cells m).toList ++ cur.toList.drop (n * i.size + (Builtin.zeroCells z.cells m).toList.length)).toArray) := by
        simp [Builtin.append_, run_underlying ht, run_underlying htn, sizeOf, typeInfo, zeroValue, hi, hz, asInt, asIntOf, hw, hroom, hneg, hns, h48i, Addr.add_lit, hst]
      refine ⟨_, _, hr, ⟨hlen, .inr ⟨g, cap, _, rfl, Nat.zero_le _, setRow_heap w g cur _ e _ hg, hroom, hcm, ?_, ?_⟩⟩, ⟨rfl, rfl, rfl, by simp, fun k _ hk => setRow_other w g k _ (fun e => hk (by simp [Value.ownBlock, e]))⟩, Or.inl rfl⟩
      · simp only [List.size_toArray, List.length_append, List.length_take, List.length_drop, Array.length_toList] at hfit ⊢
        omega
      · rw [htake, ← hlen]
        exact List.take_left
    · have holds : ∀ j u, xs[j]? = some u → w.cell? ((⟨g, 0, none⟩ : Addr).add j) = some u := hown.cells (g := g) rfl
      have hold := run_firstCells_some (P := P) w.drew i.size n ⟨g, 0, none⟩ n cap xs hown.1 (fun j u hj => holds j u hj)
      have hr := Lib.run_append_grow_zeros (P := P) w t tn ty e i z kq kn ht htn hi hz (some ⟨g, 0, none⟩) n cap xs hold m hm hsz (by omega) (by omega) (by omega) (growslice_fits (by omega) hbytes)
      have hgr := grown cap (by omega) (Value.ownBlock (.slice (some ⟨g, 0, none⟩) n cap))
      exact ⟨_, _, hr, hgr.1, hgr.2, Or.inr rfl⟩
theorem wpList_append_zeros {ops : Array Oper} {rest : List Oper} {o : Oper} {a : Act} {Q : Exit → Act → World → Prop} (hgd : o.guard = none) (s x : Operand) (t tn : TypeId)
    (ho : o.op = .call { callee := .builtin .append, args := #[s, x], argTypes := #[t, tn] })
    (e : TypeId) (i : TypeInfo) (z : Value) (kq kn : IntKind) (size bytes : Nat) (ht : P.underlying t = some (.slice e)) (htn : P.underlying tn = some (.int kn)) (hi : P.info? e = some i) (hz : i.zero = some z)
    (hsize : i.size = size) (hby : i.bytes = bytes) (hzs : z.cells.size = size) (hsz : 0 < size) (h1 : ∀ m, ∀ u ∈ (Builtin.zeroCells z.cells m).toList, u.oneCell' = true)
    (v : Value) (n : Nat) (xs : List Value) (hs : a.eval s = v) (hown : w.ownsRow 0 e size v n xs) (m : Nat) (hx : a.eval x = .int kq (m : Int)) (hm : 0 < m) (h63 : n + m ≤ maxLen) (hbytes : (n + m) * bytes ≤ 140737488355328)
    (h : ∀ v' w', w'.ownsRow 0 e size v' (n + m) (xs ++ (Builtin.zeroCells z.cells m).toList) → w.grownBy w' v.ownBlock → (v'.ownBlock = v.ownBlock ∨ v'.ownBlock = some w.heap.size) → wpList P ops Q rest (a.put o.dst v') w') : wpList P ops Q (o :: rest) a w := by
  obtain ⟨v', w', hr, g1, g2, g3⟩ := run_append_zeros (P := P) w t tn o.type e i z kq kn size bytes ht htn hi hz hsize hby hzs hsz h1 v n xs hown m hm h63 hbytes
  exact Lib.wpList_append_run w hgd s x t tn ho _ _ hs hx v' w' hr (h v' w' g1 g2 g3)
end
theorem zeros_int (m : Nat) : (Builtin.zeroCells (Value.int .i64 0).cells m).toList = List.replicate m (.int .i64 0) := by
  apply List.ext_getElem
  · simp [Builtin.zeroCells, Value.cells]
  · intro j h1 h2
    simp [Builtin.zeroCells, Value.cells, Nat.mod_one]
theorem zeros_int' (m : Nat) : (Builtin.zeroCells #[Value.int .i64 0] m).toList = List.replicate m (.int .i64 0) := zeros_int m
end Go.Proofs.Ytpampcokonicfaa
namespace Go.Proofs.Ytpampcokonicfaa
open Go.RowKit
set_option maxRecDepth 100000
set_option linter.unusedVariables false
set_option linter.unusedSimpArgs false
section
variable {w0 w : World} {obs : List Ob} {a : Act} {o : Oper} {K : Act → World → Prop} {Q : Exit → Act → World → Prop} {ops : Array Oper} {rest : List Oper}
theorem Env.grown (h : Env w0 w obs) (i : Nat) {v : Value} {l : List UInt8} (hi : obs[i]? = some (obB v l)) {v' : Value} {w' : World} {r : List UInt8} {n m : Nat} (hn : n = l.length) (hm : m = r.length) (hown : w'.ownsRow 0 5 1 v' (n + m) (l.map B ++ r.map B)) (hg : w.grownBy w' v.ownBlock) (hat : v'.ownBlock = v.ownBlock ∨ v'.ownBlock = some w.heap.size) : Env w0 w' (obs.set i (obB v' (l ++ r))) := by
  subst hn hm
  refine Env.growB h i hi ?_ (Only.grown (Only.refl _ w) hg (fun k hk => .inl hk)) (fun x hx => ?_)
  · unfold OB
    rw [List.length_append, List.map_append]
    exact hown
  · have hx' : v'.ownBlock = some x := hx
    rcases hat with hat | hat
    · left
      show v.ownBlock = some x
      rw [← hat]
      exact hx
    · right
      rw [hat] at hx'
      injection hx' with hx'
      omega
theorem wp_append_env (h : Env w0 w obs) (i : Nat) {v : Value} {l : List UInt8} (hi : obs[i]? = some (obB v l)) (s x : Operand) (ho : o.op = .call { callee := .builtin .append, args := #[s, x], argTypes := #[22, 22] })
    (hs : a.eval s = v) {y : Value} {r : List UInt8} (hx : a.eval x = y) (hy : Bs w y r) (hn : l.length + r.length ≤ 140737488355328) (kk : ∀ v' w', Env w0 w' (obs.set i (obB v' (l ++ r))) → K (a.put o.dst v') w') : o.wp Try.prog a w K Q := by
  obtain ⟨i0, hi0, hz0, hz1, hz2⟩ := info_parts info8
  have hown := h.bytes i hi
  unfold OB at hown
  refine wp_append_sl w s x 22 ho 5 i0 _ 1 1 Try.underlying22 hi0 hz0 hz1 hz2 rfl (by decide) v l.length (l.map B) hs hown y r.length (r.map B) hx (Sl.of_bytes hy) (by unfold maxLen; omega) (by omega) ?_
  intro v' w' h1 h2 h3 _
  exact kk v' w' (h.grown i hi rfl rfl h1 h2 h3)
theorem wpList_append_env (h : Env w0 w obs) (i : Nat) {v : Value} {l : List UInt8} (hi : obs[i]? = some (obB v l)) (s x : Operand) (hgd : o.guard = none) (ho : o.op = .call { callee := .builtin .append, args := #[s, x], argTypes := #[22, 22] })
    (hs : a.eval s = v) {y : Value} {r : List UInt8} (hx : a.eval x = y) (hy : Bs w y r) (hn : l.length + r.length ≤ 140737488355328) (kk : ∀ v' w', Env w0 w' (obs.set i (obB v' (l ++ r))) → wpList Try.prog ops Q rest (a.put o.dst v') w') : wpList Try.prog ops Q (o :: rest) a w :=
  wpList_plain hgd fun _ hK => wp_append_env h i hi s x ho hs hx hy hn fun v' w' g => hK _ _ (kk v' w' g)
theorem zeros_bytes (m : Nat) : (Builtin.zeroCells (Value.int .u8 0).cells m).toList = (List.replicate m (0 : UInt8)).map B := by
  apply List.ext_getElem
  · simp [Builtin.zeroCells, Value.cells]
  · intro j h1 h2
    simp [Builtin.zeroCells, Value.cells, Nat.mod_one, B]
theorem wpList_zeros_env (h : Env w0 w obs) (i : Nat) {v : Value} {l : List UInt8} (hi : obs[i]? = some (obB v l)) (s x : Operand) (hgd : o.guard = none) (ho : o.op = .call { callee := .builtin .append, args := #[s, x], argTypes := #[22, 3] })
    (hs : a.eval s = v) (m : Nat) (hm : 0 < m) (hx : a.eval x = .int .i64 (m : Int)) (hn : l.length + m ≤ 140737488355328) (kk : ∀ v' w', Env w0 w' (obs.set i (obB v' (l ++ List.replicate m 0))) → wpList Try.prog ops Q rest (a.put o.dst v') w') : wpList Try.prog ops Q (o :: rest) a w := by
  obtain ⟨i0, hi0, hz0, hz1, hz2⟩ := info_parts info8
  have hown := h.bytes i hi
  unfold OB at hown
  refine wpList_append_zeros w hgd s x 22 3 ho 5 i0 _ .i64 .i64 1 1 Try.underlying22 Try.underlying3 hi0 hz0 hz1 hz2 rfl (by decide) (fun m u hu => by
    rw [zeros_bytes] at hu
    obtain ⟨x, _, rfl⟩ := List.mem_map.1 hu
    rfl) v l.length (l.map B) hs hown m hx hm (by unfold maxLen; omega) (by omega) ?_
  intro v' w' g1 g2 g3
  rw [zeros_bytes] at g1
  exact kk v' w' (h.grown i hi (r := List.replicate m 0) rfl (by simp) g1 g2 g3)
end
end Go.Proofs.Ytpampcokonicfaa
