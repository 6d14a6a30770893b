/- SHA-256: a state made, written to, summed. -/
import Derived.Test.YtideobdggdmeiaaSha5
import Derived.Test.YtideobdggdmeiaaCopy
namespace Go.Proofs.Ytideobdggdmeiaa
open Go.RowKit
set_option maxRecDepth 100000
set_option linter.unusedVariables false
set_option linter.unusedSimpArgs false
def A5 : HashF := ⟨64, h05, C5, fun h => h.flatMap (layL 4), fun n => (128 :: List.replicate ((119 - n % 64) % 64) 0) ++ layL 8 (8 * (n : Int)), by decide⟩
theorem none5_nil (w : World) : Calls Try.prog 42 #[.pointer none] w fun e w' => e = .returned (.bool true) ∧ w = w' := by
  go_enter Try.func42, Try.ntmps42
  go_wp2_with fail
  exact bodyPost_ret (results_tmp rfl _ _ _) rfl ⟨rfl, rfl⟩
theorem sC5_made {s : HSt} (hs : Ok5 s) : (sC5 s)[73]? = some (.bool true) := by
  unfold sC5
  rw [List.getElem?_toArray, List.getElem?_append_right (by simp [hs.h])]
  simp only [List.length_map, hs.h]
  rw [show 73 - 8 = 64 + 1 by omega, List.getElem?_cons_succ, List.getElem?_append_right (by simp [hs.wt])]
  simp [hs.wt]
theorem sC5_n {s : HSt} (hs : Ok5 s) : (sC5 s)[8]? = some (.int .i64 (s.n : Int)) := by
  unfold sC5
  rw [List.getElem?_toArray, List.getElem?_append_right (by simp [hs.h])]
  simp [hs.h]
theorem none5_any (b : Nat) (s : HSt) (w : World) (h : Blk w b 80 (sC5 s)) (hs : Ok5 s) :
    Calls Try.prog 42 #[.pointer (some ⟨b, 0, none⟩)] w fun e w' => e = .returned (.bool false) ∧ w = w' := by
  have c := h.cellAt 73 (sC5_made hs)
  clear h
  go_enter Try.func42, Try.ntmps42
  go_wp2_with fail
  exact bodyPost_ret (results_tmp rfl _ _ _) rfl ⟨rfl, rfl⟩
theorem init5_ok : Ok5 A5.init := ⟨rfl, rfl⟩
theorem new5_any (w : World) : Calls Try.prog 28 #[] w fun e w' => ∃ g, e = .returned (.pointer (some ⟨g, 0, none⟩)) ∧ w.heap.size ≤ g ∧ Blk w' g 80 (sC5 A5.init) ∧ Below w.heap.size w w' := by
  go_enter Try.func28, Try.ntmps28
  go_wp2_with (with_reducible change wpList _ _ _ (Oper.mk (some 2) (Op.build _ _) _ _ _ _ :: _) _ _; refine wpList_value (.agg (sC5 A5.init)) rfl (by kernel_rfl) ?_)
  exact bodyPost_ret (results_tmp rfl _ _ _) rfl ⟨w.heap.size, rfl, Nat.le_refl _, Blk.new w _ _, (Below.refl _ _).alloc (Nat.le_refl _) _⟩
/-! ### the words as bytes -/
theorem eight32 : ∀ (l : List Int), l.length = 8 → Value.agg #[Value.int .u32 (l[0]?.getD 0), Value.int .u32 (l[1]?.getD 0), Value.int .u32 (l[2]?.getD 0), Value.int .u32 (l[3]?.getD 0), Value.int .u32 (l[4]?.getD 0), Value.int .u32 (l[5]?.getD 0), Value.int .u32 (l[6]?.getD 0), Value.int .u32 (l[7]?.getD 0)] = .agg (wc32 l)
  | [_, _, _, _, _, _, _, _], _ => rfl
def lays (n : Nat) (L : List Int) (k : Nat) : List UInt8 := (L.take k).flatMap (layL n)
theorem lays_len (n : Nat) (L : List Int) : ∀ k, k ≤ L.length → (lays n L k).length = n * k
  | 0, _ => by simp [lays]
  | k + 1, h => by
    have := lays_len n L k (by omega)
    unfold lays at *
    rw [List.take_add_one, List.getElem?_eq_getElem (by omega), List.flatMap_append, List.length_append, this]
    simp [layL_len, Nat.mul_add]
theorem lays_succ (n : Nat) (L : List Int) (k : Nat) (h : k < L.length) : lays n L (k + 1) = lays n L k ++ layL n (L.getD k 0) := by
  unfold lays
  rw [List.take_add_one, List.getElem?_eq_getElem h, List.flatMap_append, List.getD_eq_getElem?_getD, List.getElem?_eq_getElem h]
  simp
def WordsLoop (L : List UInt8) (w : World) (v : Value) (w1 : World) : Prop := OB w1 v L ∧ Below w.heap.size w w1 ∧ ∀ x, fpv v x → w.heap.size ≤ x
set_option maxHeartbeats 8000000 in
theorem words5_any (b : Nat) (s : HSt) (w : World) (h : Blk w b 80 (sC5 s)) (hs : Ok5 s) :
    Calls Try.prog 44 #[.pointer (some ⟨b, 0, none⟩)] w (NewBytes (A5.L s.h) w) := by
  obtain ⟨i0, hi, hz0, hz1, hz2⟩ := info_parts info8
  have HI := Lib.hid (And.intro hi (And.intro hz0 (And.intro hz1 hz2)))
  clear hi hz0 hz1 hz2
  have HAG := Lib.hid (eight32 s.h hs.h)
  have s0 := h.cellAt 0 (sC5_h hs 0 (by decide))
  have s1 := h.cellAt 1 (sC5_h hs 1 (by decide))
  have s2 := h.cellAt 2 (sC5_h hs 2 (by decide))
  have s3 := h.cellAt 3 (sC5_h hs 3 (by decide))
  have s4 := h.cellAt 4 (sC5_h hs 4 (by decide))
  have s5 := h.cellAt 5 (sC5_h hs 5 (by decide))
  have s6 := h.cellAt 6 (sC5_h hs 6 (by decide))
  have s7 := h.cellAt 7 (sC5_h hs 7 (by decide))
  have HL := Lib.hid hs.h
  clear h hs
  go_enter Try.func44, Try.ntmps44
  go_wp2_with fail
  rw [HAG.out]
  clear s0 s1 s2 s3 s4 s5 s6 s7 HAG
  obtain ⟨L, hL⟩ : ∃ L, s.h = L := ⟨_, rfl⟩
  rw [hL] at HL ⊢
  have HLe := Lib.hid hL
  clear hL
  go_loopw [3, 10] (fun o vi wr => ∃ k : Nat, k ≤ 8 ∧ vi = .int .i64 (k : Int) ∧ WordsLoop (lays 4 L k) w o wr) (fun _ vi _ => 8 - (intOf vi).toNat)
  case atStart => exact ⟨0, by omega, rfl, OB.nil _, Below.refl _ _, fun x hx => by simp [fpv, Value.ownBlock] at hx⟩
  case round =>
    obtain ⟨k, hk, rfl, hr⟩ := hrel
    have HR := Lib.hid hr
    clear hr
    by_cases hlt : k < 8
    · have gx : ∀ w, (Instr.index 77 (.agg (wc32 L)) (.int .i64 (k : Int))).run Try.prog w = .ok (.int .u32 (L.getD k 0)) w := fun w => run_index5 L k (by rw [HL.out]; exact hlt) hlt w
      go_wp2_with fail
      refine (lay32_any _ _).mono ?_
      rintro e w1 ⟨v2, rfl, hn⟩
      have hy := hn.1.sl
      rw [layL_len] at hy
      have HN2 := Lib.hid hn
      have hown : w1.ownsRow 0 5 1 u3 (4 * k) ((lays 4 L k).map B) := by
        have h1 := HR.out.1.keep (Only.nothing hn.2.1) (fun _ _ h => h)
        unfold OB at h1
        rw [lays_len 4 L k (by rw [HL.out]; omega)] at h1
        exact h1
      obtain ⟨hi, hz0, hz1, hz2⟩ := HI.out
      clear hn gx
      go_wp2_with (at_builtin; refine wpList_append_sl _ rfl _ _ 22 rfl 5 i0 _ 1 1 Try.underlying22 hi hz0 hz1 hz2 rfl (by decide) u3 (4 * k) ((lays 4 L k).map B) rfl hown v2 4 ((layL 4 (L.getD k 0)).map B) rfl hy (by unfold maxLen; omega) (by omega) ?_)
      intro v' w2 hown2 hgrow hat hnn
      have HN : Hid (WordsLoop (lays 4 L (k + 1)) w v' w2) := by
        obtain ⟨q1, q2, q3⟩ := HR.out
        obtain ⟨r1, r2, r3⟩ := HN2.out
        refine ⟨?_, ?_, ?_⟩
        · rw [lays_succ 4 L k (by rw [HL.out]; exact hlt)]
          unfold OB
          rw [List.length_append, lays_len 4 L k (by rw [HL.out]; omega), layL_len, List.map_append]
          exact hown2
        · exact (q2.trans (r2.mono q2.size)).grown hgrow (Nat.le_trans q2.size r2.size) (fun x hx => q3 x hx)
        · intro x hx
          have hx' : v'.ownBlock = some x := hx
          rcases hat with hat | hat
          · rw [hat] at hx'; exact q3 x hx'
          · rw [hat] at hx'; simp at hx'; have := q2.size; have := r2.size; omega
      clear hown hown2 hgrow hat hnn hy hi hz0 hz1 hz2
      go_wp2
      go_roundw
      case rel => exact ⟨k + 1, by omega, by go_num, HN.out⟩
      case measure => simp [intOf]; omega
    · obtain rfl : k = 8 := by omega
      have HN : Hid (NewBytes (A5.L s.h) w (.returned u3) wr) := by
        have e : lays 4 L 8 = A5.L L := by unfold lays; rw [List.take_of_length_le (by rw [HL.out]; omega)]; rfl
        rw [HLe.out, ← e]
        exact Lib.hid ⟨u3, rfl, HR.out⟩
      go_wp2
      go_ret
      exact HN.out
end Go.Proofs.Ytideobdggdmeiaa
