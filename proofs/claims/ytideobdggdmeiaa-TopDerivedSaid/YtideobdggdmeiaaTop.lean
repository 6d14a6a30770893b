/- TopDerived: twin, the document's second example. -/
import Derived.Test.YtideobdggdmeiaaHkX
import Derived.Test.YtideobdggdmeiaaPkey
import Derived.Test.YtideobdggdmeiaaTagP
import Derived.Test.YtideobdggdmeiaaMark
namespace Go.Proofs.Ytideobdggdmeiaa
open Go.RowKit
set_option maxRecDepth 100000
set_option linter.unusedVariables false
set_option linter.unusedSimpArgs false
/-- a list of bytes as a string -/
def bst (l : List UInt8) : ByteArray := ⟨l.toArray⟩
theorem bst_eq (xs ys : List UInt8) : ((bst xs).toList == (bst ys).toList) = decide (xs = ys) := by
  unfold bst
  rw [ByteArray.toList_mk, ByteArray.toList_mk, Bool.eq_iff_iff, beq_iff_eq, decide_eq_true_eq]
theorem bs_str {w : World} {v : Value} {l : List UInt8} (h : Bs w v l) (src e dst : TypeId) (hs : Try.prog.underlying src = some (.slice e)) (he : Try.prog.underlying e = some (.int .u8)) (hd : Try.prog.underlying dst = some .string) :
    (convert src dst v).run Try.prog w = .ok (.string (bst l)) w := by
  obtain ⟨ao, cap, rfl, h1, h2, h3, h4⟩ := h.form
  rcases ao with _ | ⟨b, off, sp⟩
  · have h0 : l = [] := by
      rcases l with _ | ⟨x, l⟩
      · rfl
      · obtain ⟨_, _, hh, _⟩ := h4 0 (by simp)
        cases hh
    subst h0
    exact run_convert_bytes_nil w src e hs he _ _ dst hd
  · by_cases h0 : l.length = 0
    · have hl0 : l = [] := List.length_eq_zero_iff.1 h0
      subst hl0
      rw [run_convert_bytes_string w src dst e _ _ _ hs he hd]
      have hx := run_bytesToString (P := Try.prog) w ⟨b, off, sp⟩ 0 cap [] (by
        have := run_loadCells_list (P := Try.prog) w ⟨b, off, sp⟩ [] (fun j v hj => by simp at hj)
        exact this)
      exact hx
    · obtain ⟨b', off', hh, _⟩ := h4 0 (by omega)
      injection hh with hh
      injection hh with e1 e2 e3
      subst e3
      have hx := run_convert_bytes_arg (P := Try.prog) w src e hs he b off l.length cap (l.map fun x => (x.toNat : Int)) (by simp) (fun i hi => by
        obtain ⟨b2, off2, hh2, hc⟩ := h4 i hi
        injection hh2 with hh2
        injection hh2 with e4 e5 _
        rw [e4, e5, hc]
        rw [List.getD_eq_getElem?_getD, List.getD_eq_getElem?_getD, List.getElem?_map, List.getElem?_eq_getElem hi]
        rfl) dst hd
      rw [hx]
      congr 2
      unfold strOfNums bst
      congr 2
      rw [List.map_map]
      have e : ((fun n : Int => UInt8.ofNat n.toNat) ∘ fun x : UInt8 => (x.toNat : Int)) = id := by
        funext x
        simp
      rw [e, List.map_id]
theorem bconv {w : World} {v : Value} {l : List UInt8} (h : Bs w v l) : (convert 22 9 v).run Try.prog w = .ok (.string (bst l)) w :=
  bs_str h _ 5 _ Try.underlying22 Try.underlying5 Try.underlying9
theorem twin_any (u : Value) (l : List UInt8) (w : World) (hu : Bs w u l) (hl : l.length ≤ 1000000) : Calls Try.prog 8 #[u] w (NewBytes l w) := by
  obtain ⟨i0, hi, hz0, hz1, hz2⟩ := info_parts info8
  have hy := Sl.of_bytes hu
  have hown0 : w.ownsRow 0 5 1 (.slice none 0 0) 0 [] := World.ownsRow_nil w 0 _ 1
  clear hu
  go_enter Try.func8, Try.ntmps8
  go_wp2_with (at_builtin; refine wpList_append_sl _ rfl _ _ 22 rfl 5 i0 _ 1 1 Try.underlying22 hi hz0 hz1 hz2 rfl (by decide) (.slice none 0 0) 0 [] rfl hown0 u l.length (l.map B) rfl hy (bl0 (by omega)) (bb0 (by omega)) ?_)
  intro v' w1 hown hgrow hat
  have HN : Hid (NewBytes l w (.returned v') w1) := by
    refine Lib.hid ⟨v', rfl, ?_, (Below.refl w.heap.size w).grown hgrow (Nat.le_refl _) (fun k hk => by simp [Value.ownBlock] at hk), ?_⟩
    · unfold OB
      simpa using hown
    · intro x hx
      have hx' : v'.ownBlock = some x := hx
      rcases hat with hat | hat
      · rw [hat] at hx'; simp [Value.ownBlock] at hx'
      · rw [hat] at hx'; simp at hx'; omega
  clear hown hgrow hat hown0 hy hi hz0 hz1 hz2
  go_wp2
  go_ret
  exact HN.out
set_option maxHeartbeats 1000000 in
theorem tagged_any (w : World) : Calls Try.prog 4 #[] w fun e w' => e = .returned (.bool true) ∧ Below w.heap.size w w' := by
  obtain ⟨w1, hw1⟩ : ∃ y, w.alloc (.cells #[.int .u8 74, .int .u8 101, .int .u8 102, .int .u8 101] 5 (4, 5)) = y := ⟨_, rfl⟩
  obtain ⟨w2, hw2⟩ : ∃ y, w1.alloc (.cells #[.int .u8 119, .int .u8 104, .int .u8 97, .int .u8 116, .int .u8 32, .int .u8 100, .int .u8 111, .int .u8 32, .int .u8 121, .int .u8 97, .int .u8 32, .int .u8 119, .int .u8 97, .int .u8 110, .int .u8 116, .int .u8 32, .int .u8 102, .int .u8 111, .int .u8 114, .int .u8 32, .int .u8 110, .int .u8 111, .int .u8 116, .int .u8 104, .int .u8 105, .int .u8 110, .int .u8 103, .int .u8 63] 5 (28, 29)) = y := ⟨_, rfl⟩
  have b1 : Below w.heap.size w w1 := by rw [← hw1]; exact (Below.refl _ w).alloc (Nat.le_refl _) _
  have b2 : Below w1.heap.size w1 w2 := by rw [← hw2]; exact (Below.refl _ w1).alloc (Nat.le_refl _) _
  have s1 : Bs w1 (.slice (some ⟨w.heap.size, 0, none⟩) 4 4) jefe := by rw [← hw1]; exact Bs.marked w jefe _ _ (by decide) _ rfl
  have s2 : Bs w2 (.slice (some ⟨w1.heap.size, 0, none⟩) 28 28) whatdo := by rw [← hw2]; exact Bs.marked w1 whatdo _ _ (by decide) _ rfl
  have hs1 : w1.heap.size = w.heap.size + 1 := by rw [← hw1]; simp
  have HS := Lib.hid (And.intro (s1.grow b2) s2)
  have HB := Lib.hid (b1.trans (b2.mono b1.size))
  have c1 := conv_const w #[.int .u8 74, .int .u8 101, .int .u8 102, .int .u8 101] 4 w.heap.size rfl
  have c2 := conv_const w1 #[.int .u8 119, .int .u8 104, .int .u8 97, .int .u8 116, .int .u8 32, .int .u8 100, .int .u8 111, .int .u8 32, .int .u8 121, .int .u8 97, .int .u8 32, .int .u8 119, .int .u8 97, .int .u8 110, .int .u8 116, .int .u8 32, .int .u8 102, .int .u8 111, .int .u8 114, .int .u8 32, .int .u8 110, .int .u8 111, .int .u8 116, .int .u8 104, .int .u8 105, .int .u8 110, .int .u8 103, .int .u8 63] 28 w1.heap.size rfl
  simp only [List.size_toArray, List.length_cons, List.length_nil, Nat.reduceAdd] at c1 c2
  rw [hw1] at c1
  rw [hw2] at c2
  clear b1 b2 s1 s2 hw1 hw2 hs1
  go_enter Try.func4, Try.ntmps4
  go_wp2_with fail
  refine (htag_any false w2 _ _ jefe whatdo HS.out.1 HS.out.2 (by decide) (by decide)).mono ?_
  rintro e w3 ⟨v, rfl, q1, q2, q3⟩
  have q1' : OB w3 v (A5.tag jefe whatdo) := q1
  rw [tagged_plain] at q1'
  have d1 := bconv q1'.rd
  have d2 : (bst tag2).toList = [91, 220, 193, 70, 191, 96, 117, 78, 106, 4, 36, 38, 8, 149, 117, 199, 90, 0, 63, 8, 157, 39, 57, 131, 157, 236, 88, 185, 100, 236, 56, 67] := by
    unfold bst
    rw [ByteArray.toList_mk]
    rfl
  have HB3 := Lib.hid (HB.out.trans (q2.mono HB.out.size))
  clear q1 q2 q3 q1' c1 c2 HS
  go_wp2
  go_ret
  exact ⟨rfl, HB3.out⟩
end Go.Proofs.Ytideobdggdmeiaa
