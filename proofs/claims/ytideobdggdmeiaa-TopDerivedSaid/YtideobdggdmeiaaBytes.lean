/- The contracts of the kit's helpers on lists of bytes: CopyBytes, LentBytes, SameBytes, KeptBytes, OverBytes, Pick. Conditions: a list has at most 2^47 - 6 bytes. -/
import Derived.Test.YtideobdggdmeiaaRows
import Derived.Test.YtideobdggdmeiaaSl
import Derived.Test.YtideobdggdmeiaaTame
import Derived.Test.YtideobdggdmeiaaBase
namespace Go.Proofs.Ytideobdggdmeiaa
open Go.RowKit
set_option maxRecDepth 100000

theorem info8 : (Try.prog.info? 5).map (fun i => (i.zero, i.size, i.bytes)) = some (some (.int .u8 0), 1, 1) := by kernel_rfl
/-- a slice value that owns the bytes l, at a row of its own -/
def OB (w : World) (v : Value) (l : List UInt8) : Prop := w.ownsRow 0 5 1 v l.length (l.map B)
theorem bytes_one (l : List UInt8) : ∀ u ∈ l.map B, u.oneCell' = true := by
  intro u hu
  obtain ⟨x, _, rfl⟩ := List.mem_map.1 hu
  rfl
theorem OB.sl {w : World} {v : Value} {l : List UInt8} (h : OB w v l) : Sl w 1 v l.length (l.map B) := Sl.of_own h (bytes_one l)
theorem OB.rd {w : World} {v : Value} {l : List UInt8} (h : OB w v l) : Bs w v l := h.sl.bytes
theorem OB.keep {w w' : World} {v : Value} {l : List UInt8} (h : OB w v l) {S : Nat → Prop} (ho : Only S w w') (hd : ∀ x, fpv v x → ¬ S x) : OB w' v l := by
  refine ⟨h.1, ?_⟩
  rcases h.2 with h2 | ⟨g, cap, cur, rfl, hb, hg, r⟩
  · exact .inl h2
  · exact .inr ⟨g, cap, cur, rfl, hb, (ho.block g (Array.getElem?_eq_some_iff.1 hg).1 (hd g rfl)).trans hg, r⟩
theorem OB.lt {w : World} {v : Value} {l : List UInt8} (h : OB w v l) : ∀ x, fpv v x → x < w.heap.size := fun x hx => (World.ownsRow.lt h x hx).2
theorem OB.nil (w : World) : OB w (.slice none 0 0) [] := World.ownsRow_nil w 0 _ 1
theorem OB.any {w : World} {v : Value} {l : List UInt8} (h : OB w v l) : ∃ ao cap, v = .slice ao l.length cap := by
  rcases h.2 with ⟨hv, h0⟩ | ⟨g, cap, cur, hv, _⟩
  · exact ⟨none, 0, by rw [h0]; exact hv⟩
  · exact ⟨some ⟨g, 0, none⟩, cap, hv⟩
theorem OB.form {w : World} {v : Value} {l : List UInt8} (h : OB w v l) (h0 : 0 < l.length) : ∃ g cap, v = .slice (some ⟨g, 0, none⟩) l.length cap := by
  obtain ⟨g, cap, hv, _⟩ := World.ownsRow.form h h0
  exact ⟨g, cap, hv⟩
theorem OB.set {w : World} {g cap : Nat} {l : List UInt8} (h : OB w (.slice (some ⟨g, 0, none⟩) l.length cap) l) (i : Nat) (x : UInt8) :
    OB (w.setCell ⟨g, i, none⟩ (.int .u8 (x.toNat : Int))) (.slice (some ⟨g, 0, none⟩) l.length cap) (l.set i x) := by
  have h1 := (World.ownsRow.stored h i (.int .u8 (x.toNat : Int))).1
  unfold OB
  rw [List.length_set, List.map_set]
  exact h1

/-- as OB, in a row of whatever type -/
def OT (t : TypeId) (w : World) (v : Value) (l : List UInt8) : Prop := w.ownsRow 0 t 1 v l.length (l.map B)
theorem OT.set {t : TypeId} {w : World} {g cap : Nat} {l : List UInt8} (h : OT t w (.slice (some ⟨g, 0, none⟩) l.length cap) l) (i : Nat) (x : UInt8) :
    OT t (w.setCell ⟨g, i, none⟩ (.int .u8 (x.toNat : Int))) (.slice (some ⟨g, 0, none⟩) l.length cap) (l.set i x) := by
  have h1 := (World.ownsRow.stored h i (.int .u8 (x.toNat : Int))).1
  unfold OT
  rw [List.length_set, List.map_set]
  exact h1
theorem OT.rd {t : TypeId} {w : World} {v : Value} {l : List UInt8} (h : OT t w v l) : Bs w v l := (Sl.of_own h (bytes_one l)).bytes
/-- a block of bytes as a row of one's own -/
theorem Blk.owns {w : World} {g : Nat} {t : TypeId} {l : List UInt8} (h : Blk w g t (barr l)) (hl : l.length ≤ 9223372036854775807) : OT t w (.slice (some ⟨g, 0, none⟩) l.length l.length) l := by
  refine ⟨by simp, .inr ⟨g, l.length, barr l, rfl, Nat.zero_le _, h, Nat.le_refl _, by unfold maxLen; omega, by rw [barr_size]; omega, ?_⟩⟩
  rw [barr_toList, List.take_of_length_le (by simp)]
theorem Blk.of_owns {w : World} {g : Nat} {t : TypeId} {l : List UInt8} (h : OT t w (.slice (some ⟨g, 0, none⟩) l.length l.length) l) : Blk w g t (barr l) := by
  rcases h.2 with ⟨hv, _⟩ | ⟨g', cap, cur, hv, _, hg, _, _, hcs, ht⟩
  · simp at hv
  · injection hv with e1 _ e3
    injection e1 with e1
    injection e1 with e1
    subst e1; subst e3
    have e : cur.toList = l.map B := by
      rw [← ht, List.take_of_length_le (by simp [hcs])]
    have e2 : cur = barr l := by rw [← Array.toArray_toList (xs := cur), e]; rfl
    rw [← e2]
    exact hg

/-- bytes told in new memory -/
def NewBytes (l : List UInt8) (w : World) (e : Ending) (w' : World) : Prop :=
  ∃ v, e = .returned v ∧ OB w' v l ∧ Below w.heap.size w w' ∧ ∀ x, fpv v x → w.heap.size ≤ x

theorem bl0 {n : Nat} (h : n ≤ 140737488355328) : 0 + n ≤ maxLen := by unfold maxLen; omega
theorem bb0 {n : Nat} (h : n ≤ 140737488355328) : (0 + n) * 1 ≤ 140737488355328 := by omega
/-- mark i of list 7: a byte -/
def mark7 (i : Nat) : UInt8 := UInt8.ofNat (50 + i)
def marks7 : List UInt8 := [50, 51, 52, 53, 54, 55]
def lent (l : List UInt8) : List UInt8 := l ++ marks7
theorem marks7_take (i : Nat) (h : i < 6) : marks7.take (i + 1) = marks7.take i ++ [mark7 i] := by
  have : ∀ i, i < 6 → marks7.take (i + 1) = marks7.take i ++ [mark7 i] := by decide
  exact this i h
def LentLoop (l : List UInt8) (w : World) (k : Nat) (v : Value) (w1 : World) : Prop :=
  OB w1 v (l ++ marks7.take k) ∧ Below w.heap.size w w1 ∧ ∀ x, fpv v x → w.heap.size ≤ x
theorem lent_len (l : List UInt8) (k : Nat) (h : k ≤ 6) : (l ++ marks7.take k).length = l.length + k := by
  rw [List.length_append, List.length_take]; simp [marks7]; omega
theorem lent_one (x : UInt8) : ∀ u ∈ [Value.int .u8 (x.toNat : Int)], u.oneCell' = true := by
  intro u hu; simp at hu; subst hu; rfl
theorem bl1 {n : Nat} (h : n + 6 ≤ 140737488355328) {k : Nat} (hk : k < 6) : n + k + 1 ≤ maxLen := by unfold maxLen; omega
theorem bb1 {n : Nat} (h : n + 6 ≤ 140737488355328) {k : Nat} (hk : k < 6) : (n + k + 1) * 1 ≤ 140737488355328 := by omega
/-! ### SameBytes, KeptBytes -/
def sameTo8 (xs ys : List UInt8) : Nat → Nat → Bool
  | 0, _ => true
  | n + 1, k => if xs.getD k 0 = ys.getD k 0 then sameTo8 xs ys n (k + 1) else false
theorem sameTo8_eq (xs ys : List UInt8) (hl : xs.length = ys.length) : ∀ n k, k + n = xs.length → (sameTo8 xs ys n k = true ↔ ∀ j, k ≤ j → xs.getD j 0 = ys.getD j 0)
  | 0, k, h => by
    simp only [sameTo8, true_iff]
    intro j hj
    rw [List.getD_eq_getElem?_getD, List.getD_eq_getElem?_getD, List.getElem?_eq_none (by omega), List.getElem?_eq_none (by omega)]
  | n + 1, k, h => by
    simp only [sameTo8]
    by_cases e : xs.getD k 0 = ys.getD k 0
    · rw [if_pos e, sameTo8_eq xs ys hl n (k + 1) (by omega)]
      constructor
      · intro hh j hj
        by_cases ejk : j = k
        · subst ejk; exact e
        · exact hh j (by omega)
      · intro hh j hj
        exact hh j (by omega)
    · rw [if_neg e]
      simp only [Bool.false_eq_true, false_iff]
      intro hh
      exact e (hh k (Nat.le_refl _))
theorem sameTo8_all (xs ys : List UInt8) (hl : xs.length = ys.length) : sameTo8 xs ys xs.length 0 = decide (xs = ys) := by
  rw [Bool.eq_iff_iff, sameTo8_eq xs ys hl _ 0 (by omega), decide_eq_true_eq]
  constructor
  · intro h
    apply List.ext_getElem hl
    intro j h1 h2
    have := h j (Nat.zero_le _)
    rwa [List.getD_eq_getElem?_getD, List.getD_eq_getElem?_getD, List.getElem?_eq_getElem h1, List.getElem?_eq_getElem h2] at this
  · rintro rfl _ _; rfl
theorem u8_eq_iff (x y : UInt8) : ((x.toNat : Int) == (y.toNat : Int)) = decide (x = y) := by
  by_cases h : x = y
  · subst h; simp
  · have : ¬ (x.toNat : Int) = (y.toNat : Int) := fun e => h (UInt8.toNat_inj.1 (by omega))
    simp [h, this]
/-! ### OverBytes -/
def mark9 (i : Nat) : UInt8 := UInt8.ofNat ((64 + i) % 256)
def overTo (l : List UInt8) (k : Nat) : List UInt8 := (List.range k).map mark9 ++ l.drop k
def over (n : Nat) : List UInt8 := (List.range n).map mark9
theorem overTo_len (l : List UInt8) (k : Nat) (h : k ≤ l.length) : (overTo l k).length = l.length := by simp [overTo]; omega
theorem overTo_zero (l : List UInt8) : overTo l 0 = l := by simp [overTo]
theorem overTo_end (l : List UInt8) : overTo l l.length = over l.length := by simp [overTo, over]
theorem overTo_succ (l : List UInt8) (k : Nat) (h : k < l.length) : (overTo l k).set k (mark9 k) = overTo l (k + 1) := by
  unfold overTo
  rw [List.set_append_right _ _ (by simp), List.length_map, List.length_range, Nat.sub_self, List.range_succ, List.map_append, List.append_assoc]
  congr 1
  rw [List.drop_eq_getElem_cons h]
  rfl
end Go.Proofs.Ytideobdggdmeiaa
