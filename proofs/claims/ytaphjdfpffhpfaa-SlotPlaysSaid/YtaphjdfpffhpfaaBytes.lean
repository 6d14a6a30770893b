/- The contracts of the kit's helpers on lists of bytes: CopyBytes, LentBytes, SameBytes, KeptBytes, OverBytes, Pick. Conditions: a list has at most 2^47 - 6 bytes. -/
import Derived.Test.YtaphjdfpffhpfaaRows
import Derived.Test.YtaphjdfpffhpfaaSl
import Derived.Test.YtaphjdfpffhpfaaTame
import Derived.Test.YtaphjdfpffhpfaaBase
namespace Go.Proofs.Ytaphjdfpffhpfaa
open Go.RowKit
set_option maxRecDepth 100000

theorem info8 : (Try.prog.info? 5).map (fun i => (i.zero, i.size, i.bytes)) = some (some (.int .u8 0), 1, 1) := by kernel_rfl
/-- a slice value that owns the bytes l, at a row of its own -/
def OB (w : World) (v : Value) (l : List UInt8) : Prop := w.ownsRow 0 5 1 v l.length (l.map B)
theorem bytes_one (l : List UInt8) : ∀ u ∈ l.map B, u.oneCell' = true := by
  intro u hu
  obtain ⟨x, _, rfl⟩ := List.mem_map.1 hu
  rfl
theorem OB.sl {w : World} {v : Value} {l : List UInt8} (h : OB w v l) : Sl w 1 v l.length (l.map B) := Sl.of_own h (bytes_one l)
theorem OB.rd {w : World} {v : Value} {l : List UInt8} (h : OB w v l) : Bs w v l := h.sl.bytes
theorem OB.keep {w w' : World} {v : Value} {l : List UInt8} (h : OB w v l) {S : Nat → Prop} (ho : Only S w w') (hd : ∀ x, fpv v x → ¬ S x) : OB w' v l := by
  refine ⟨h.1, ?_⟩
  rcases h.2 with h2 | ⟨g, cap, cur, rfl, hb, hg, r⟩
  · exact .inl h2
  · exact .inr ⟨g, cap, cur, rfl, hb, (ho.block g (Array.getElem?_eq_some_iff.1 hg).1 (hd g rfl)).trans hg, r⟩
theorem OB.lt {w : World} {v : Value} {l : List UInt8} (h : OB w v l) : ∀ x, fpv v x → x < w.heap.size := fun x hx => (World.ownsRow.lt h x hx).2
theorem OB.nil (w : World) : OB w (.slice none 0 0) [] := World.ownsRow_nil w 0 _ 1
theorem OB.any {w : World} {v : Value} {l : List UInt8} (h : OB w v l) : ∃ ao cap, v = .slice ao l.length cap := by
  rcases h.2 with ⟨hv, h0⟩ | ⟨g, cap, cur, hv, _⟩
  · exact ⟨none, 0, by rw [h0]; exact hv⟩
  · exact ⟨some ⟨g, 0, none⟩, cap, hv⟩
theorem OB.form {w : World} {v : Value} {l : List UInt8} (h : OB w v l) (h0 : 0 < l.length) : ∃ g cap, v = .slice (some ⟨g, 0, none⟩) l.length cap := by
  obtain ⟨g, cap, hv, _⟩ := World.ownsRow.form h h0
  exact ⟨g, cap, hv⟩
theorem OB.set {w : World} {g cap : Nat} {l : List UInt8} (h : OB w (.slice (some ⟨g, 0, none⟩) l.length cap) l) (i : Nat) (x : UInt8) :
    OB (w.setCell ⟨g, i, none⟩ (.int .u8 (x.toNat : Int))) (.slice (some ⟨g, 0, none⟩) l.length cap) (l.set i x) := by
  have h1 := (World.ownsRow.stored h i (.int .u8 (x.toNat : Int))).1
  unfold OB
  rw [List.length_set, List.map_set]
  exact h1

/-- as OB, in a row of whatever type -/
def OT (t : TypeId) (w : World) (v : Value) (l : List UInt8) : Prop := w.ownsRow 0 t 1 v l.length (l.map B)
theorem OT.set {t : TypeId} {w : World} {g cap : Nat} {l : List UInt8} (h : OT t w (.slice (some ⟨g, 0, none⟩) l.length cap) l) (i : Nat) (x : UInt8) :
    OT t (w.setCell ⟨g, i, none⟩ (.int .u8 (x.toNat : Int))) (.slice (some ⟨g, 0, none⟩) l.length cap) (l.set i x) := by
  have h1 := (World.ownsRow.stored h i (.int .u8 (x.toNat : Int))).1
  unfold OT
  rw [List.length_set, List.map_set]
  exact h1
theorem OT.rd {t : TypeId} {w : World} {v : Value} {l : List UInt8} (h : OT t w v l) : Bs w v l := (Sl.of_own h (bytes_one l)).bytes
/-- a block of bytes as a row of one's own -/
theorem Blk.owns {w : World} {g : Nat} {t : TypeId} {l : List UInt8} (h : Blk w g t (barr l)) (hl : l.length ≤ 9223372036854775807) : OT t w (.slice (some ⟨g, 0, none⟩) l.length l.length) l := by
  refine ⟨by simp, .inr ⟨g, l.length, barr l, rfl, Nat.zero_le _, h, Nat.le_refl _, by unfold maxLen; omega, by rw [barr_size]; omega, ?_⟩⟩
  rw [barr_toList, List.take_of_length_le (by simp)]
theorem Blk.of_owns {w : World} {g : Nat} {t : TypeId} {l : List UInt8} (h : OT t w (.slice (some ⟨g, 0, none⟩) l.length l.length) l) : Blk w g t (barr l) := by
  rcases h.2 with ⟨hv, _⟩ | ⟨g', cap, cur, hv, _, hg, _, _, hcs, ht⟩
  · simp at hv
  · injection hv with e1 _ e3
    injection e1 with e1
    injection e1 with e1
    subst e1; subst e3
    have e : cur.toList = l.map B := by
      rw [← ht, List.take_of_length_le (by simp [hcs])]
    have e2 : cur = barr l := by rw [← Array.toArray_toList (xs := cur), e]; rfl
    rw [← e2]
    exact hg

/-- bytes told in new memory -/
def NewBytes (l : List UInt8) (w : World) (e : Ending) (w' : World) : Prop :=
  ∃ v, e = .returned v ∧ OB w' v l ∧ Below w.heap.size w w' ∧ ∀ x, fpv v x → w.heap.size ≤ x

theorem bl0 {n : Nat} (h : n ≤ 140737488355328) : 0 + n ≤ maxLen := by unfold maxLen; omega
theorem bb0 {n : Nat} (h : n ≤ 140737488355328) : (0 + n) * 1 ≤ 140737488355328 := by omega
set_option maxHeartbeats 400000 in
theorem copyBytes_any (u : Value) (l : List UInt8) (w : World) (hu : Bs w u l) (hl : l.length ≤ 140737488355328) : Calls Try.prog 33 #[u] w (NewBytes l w) := by
  obtain ⟨i0, hi, hz0, hz1, hz2⟩ := info_parts info8
  have hy := Sl.of_bytes hu
  have hown0 : w.ownsRow 0 5 1 (.slice none 0 0) 0 [] := World.ownsRow_nil w 0 _ 1
  have HU := Lib.hid hu
  clear hu
  go_enter Try.func33, Try.ntmps33
  go_wp2_with (at_builtin; refine wpList_append_sl _ rfl _ _ 35 rfl 5 i0 _ 1 1 Try.underlying35 hi hz0 hz1 hz2 rfl (by decide) (.slice none 0 0) 0 [] rfl hown0 u l.length (l.map B) rfl hy (bl0 hl) (bb0 hl) ?_)
  intro v' w1 hown hgrow hat
  have HN : Hid (NewBytes l w (.returned v') w1) := by
    refine ⟨v', rfl, ?_, (Below.refl w.heap.size w).grown hgrow (Nat.le_refl _) (fun k hk => by simp [Value.ownBlock] at hk), ?_⟩
    · unfold OB
      simpa using hown
    · intro x hx
      have hx' : v'.ownBlock = some x := hx
      rcases hat with hat | hat
      · rw [hat] at hx'; simp [Value.ownBlock] at hx'
      · rw [hat] at hx'; simp at hx'; omega
  clear hown hgrow hat hown0 hy hi hz0 hz1 hz2
  go_wp2
  go_ret
  exact HN.out

/-- mark i of list 7: a byte -/
def mark7 (i : Nat) : UInt8 := UInt8.ofNat (50 + i)
def marks7 : List UInt8 := [50, 51, 52, 53, 54, 55]
def lent (l : List UInt8) : List UInt8 := l ++ marks7
theorem marks7_take (i : Nat) (h : i < 6) : marks7.take (i + 1) = marks7.take i ++ [mark7 i] := by
  have : ∀ i, i < 6 → marks7.take (i + 1) = marks7.take i ++ [mark7 i] := by decide
  exact this i h
theorem mark_any (k i : Int) (w : World) (hk : 0 ≤ k) (hk' : k ≤ 6000000000000) (hi : 0 ≤ i) (hi' : i ≤ 1000000000000000) :
    Calls Try.prog 34 #[.int .i64 k, .int .i64 i] w fun e w' => e = .returned (.int .u8 ((7 * k + i + 1) % 256)) ∧ w = w' := by
  go_enter Try.func34, Try.ntmps34
  go_wp2
  go_ret
  exact ⟨rfl, rfl⟩
def LentLoop (l : List UInt8) (w : World) (k : Nat) (v : Value) (w1 : World) : Prop :=
  OB w1 v (l ++ marks7.take k) ∧ Below w.heap.size w w1 ∧ ∀ x, fpv v x → w.heap.size ≤ x
theorem lent_len (l : List UInt8) (k : Nat) (h : k ≤ 6) : (l ++ marks7.take k).length = l.length + k := by
  rw [List.length_append, List.length_take]; simp [marks7]; omega
theorem lent_one (x : UInt8) : ∀ u ∈ [Value.int .u8 (x.toNat : Int)], u.oneCell' = true := by
  intro u hu; simp at hu; subst hu; rfl
theorem bl1 {n : Nat} (h : n + 6 ≤ 140737488355328) {k : Nat} (hk : k < 6) : n + k + 1 ≤ maxLen := by unfold maxLen; omega
theorem bb1 {n : Nat} (h : n + 6 ≤ 140737488355328) {k : Nat} (hk : k < 6) : (n + k + 1) * 1 ≤ 140737488355328 := by omega
set_option maxHeartbeats 1000000 in
theorem lentBytes_any (u : Value) (l : List UInt8) (w : World) (hu : Bs w u l) (hl : l.length + 6 ≤ 140737488355328) : Calls Try.prog 11 #[u] w (NewBytes (lent l) w) := by
  obtain ⟨i0, hi, hz0, hz1, hz2⟩ := info_parts info8
  have HI := Lib.hid (And.intro hi (And.intro hz0 (And.intro hz1 hz2)))
  clear hi hz0 hz1 hz2
  go_enter Try.func11, Try.ntmps11
  go_wp2_with fail
  refine (copyBytes_any u l w hu (by omega)).mono ?_
  rintro e w0 ⟨v0, rfl, hr0⟩
  have HR0 := Lib.hid hr0
  clear hr0
  go_wp2_with fail
  go_loopw [3, 4] (fun o i w1 => ∃ k : Nat, k ≤ 6 ∧ i = .int .i64 (k : Int) ∧ LentLoop l w k o w1) (fun _ i _ => 6 - (intOf i).toNat)
  case atStart => exact ⟨0, by omega, rfl, by rw [List.take_zero, List.append_nil]; exact HR0.out.1, HR0.out.2.1, HR0.out.2.2⟩
  case round =>
    obtain ⟨k, hk, rfl, hr⟩ := hrel
    have HR := Lib.hid hr
    clear hr
    by_cases hlt : k < 6
    · go_wp2_with fail
      refine (mark_any _ _ _ (by omega) (by omega) (by omega) (by omega)).mono ?_
      rintro e w' ⟨rfl, rfl⟩
      have hm : (7 * 7 + (k : Int) + 1) % 256 = ((mark7 k).toNat : Int) := by
        unfold mark7
        rw [u8_of _ (by omega)]
        omega
      rw [hm]
      clear hm
      have HOWN : (wr.alloc (.cells #[.int .u8 ((mark7 k).toNat : Int)] 5)).ownsRow 0 5 1 u3 (l.length + k) ((l ++ marks7.take k).map B) := by
        have h1 := HR.out.1.keep ((Only.refl (fun _ => False) wr).alloc (.cells #[.int .u8 ((mark7 k).toNat : Int)] 5)) (fun _ _ h => h)
        unfold OB at h1
        rw [lent_len l k (by omega)] at h1
        exact h1
      obtain ⟨hi, hz0, hz1, hz2⟩ := HI.out
      go_wp2_with (at_builtin; refine wpList_append_lies _ rfl _ _ 35 rfl 0 5 i0 _ 1 1 Try.underlying35 hi hz0 hz1 hz2 rfl (by decide) u3 (l.length + k) ((l ++ marks7.take k).map B) rfl HOWN ⟨wr.heap.size, 0, none⟩ 1 1 [.int .u8 ((mark7 k).toNat : Int)] rfl rfl (World.news_of_block (heap_alloc_new _ _)) (lent_one _) (by decide) (bl1 hl hlt) (bb1 hl hlt) (Nat.zero_le _) _ rfl ?_)
      intro g' cap' w2 hown hgrow hat hlt2
      have HN : Hid (LentLoop l w (k + 1) (.slice (some ⟨g', 0, none⟩) (l.length + k + 1) cap') w2) := by
        obtain ⟨q1, q2, q3⟩ := HR.out
        refine ⟨?_, ?_, ?_⟩
        · rw [marks7_take k hlt, ← List.append_assoc]
          unfold OB
          rw [List.length_append, lent_len l k (by omega), List.map_append]
          simpa [B] using hown
        · exact (q2.alloc q2.size _).grown hgrow (by simp; have := q2.size; omega) (fun x hx => q3 x hx)
        · intro x hx
          have e : g' = x := by simpa [fpv, Value.ownBlock] using hx
          subst e
          rcases hat with hat | hat
          · exact q3 g' hat
          · rw [hat]; simp; have := q2.size; omega
      clear hown hgrow hat hlt2 HOWN hi hz0 hz1 hz2
      go_wp2
      go_roundw
      case rel => exact ⟨k + 1, by omega, by go_num, HN.out⟩
      case measure => simp [intOf]; omega
    · obtain rfl : k = 6 := by omega
      have HN : Hid (NewBytes (lent l) w (.returned u3) wr) := ⟨u3, rfl, HR.out⟩
      go_wp2
      go_ret
      exact HN.out

/-! ### SameBytes, KeptBytes -/
def sameTo8 (xs ys : List UInt8) : Nat → Nat → Bool
  | 0, _ => true
  | n + 1, k => if xs.getD k 0 = ys.getD k 0 then sameTo8 xs ys n (k + 1) else false
theorem sameTo8_eq (xs ys : List UInt8) (hl : xs.length = ys.length) : ∀ n k, k + n = xs.length → (sameTo8 xs ys n k = true ↔ ∀ j, k ≤ j → xs.getD j 0 = ys.getD j 0)
  | 0, k, h => by
    simp only [sameTo8, true_iff]
    intro j hj
    rw [List.getD_eq_getElem?_getD, List.getD_eq_getElem?_getD, List.getElem?_eq_none (by omega), List.getElem?_eq_none (by omega)]
  | n + 1, k, h => by
    simp only [sameTo8]
    by_cases e : xs.getD k 0 = ys.getD k 0
    · rw [if_pos e, sameTo8_eq xs ys hl n (k + 1) (by omega)]
      constructor
      · intro hh j hj
        by_cases ejk : j = k
        · subst ejk; exact e
        · exact hh j (by omega)
      · intro hh j hj
        exact hh j (by omega)
    · rw [if_neg e]
      simp only [Bool.false_eq_true, false_iff]
      intro hh
      exact e (hh k (Nat.le_refl _))
theorem sameTo8_all (xs ys : List UInt8) (hl : xs.length = ys.length) : sameTo8 xs ys xs.length 0 = decide (xs = ys) := by
  rw [Bool.eq_iff_iff, sameTo8_eq xs ys hl _ 0 (by omega), decide_eq_true_eq]
  constructor
  · intro h
    apply List.ext_getElem hl
    intro j h1 h2
    have := h j (Nat.zero_le _)
    rwa [List.getD_eq_getElem?_getD, List.getD_eq_getElem?_getD, List.getElem?_eq_getElem h1, List.getElem?_eq_getElem h2] at this
  · rintro rfl _ _; rfl
theorem u8_eq_iff (x y : UInt8) : ((x.toNat : Int) == (y.toNat : Int)) = decide (x = y) := by
  by_cases h : x = y
  · subst h; simp
  · have : ¬ (x.toNat : Int) = (y.toNat : Int) := fun e => h (UInt8.toNat_inj.1 (by omega))
    simp [h, this]
set_option maxHeartbeats 1000000 in
theorem sameBytes_any (u v : Value) (xs ys : List UInt8) (w : World) (hu : Bs w u xs) (hv : Bs w v ys) :
    Calls Try.prog 18 #[u, v] w fun e w' => e = .returned (.bool (decide (xs = ys))) ∧ ∃ m, w' = w.drewN m := by
  have HU := Lib.hid hu
  have HV := Lib.hid hv
  obtain ⟨ao, cap, rfl, h1, h2, _, c1⟩ := hu.form
  obtain ⟨bo, dap, rfl, h3, h4, _, c2⟩ := hv.form
  clear hu hv
  have C1 := Lib.hid c1
  have C2 := Lib.hid c2
  clear c1 c2
  have hla : xs.length ≤ 9223372036854775807 := by omega
  have hlb : ys.length ≤ 9223372036854775807 := by omega
  by_cases hl : xs.length = ys.length
  · have HS := Lib.hid (sameTo8_all xs ys hl)
    have hlI : ((xs.length : Int) != (ys.length : Int)) = false := by rw [hl]; simp
    have HL := Lib.hid hl
    clear hl
    go_enter Try.func18, Try.ntmps18
    go_wp2_with fail
    go_loopw [5] (fun i w1 => ∃ k : Nat, k ≤ xs.length ∧ i = .int .i64 (k : Int) ∧ Hid (sameTo8 xs ys (xs.length - k) k = decide (xs = ys)) ∧ ∃ m, w1 = w.drewN m) (fun i _ => xs.length - (intOf i).toNat)
    case atStart => exact ⟨0, Nat.zero_le _, rfl, HS, 0, rfl⟩
    case round =>
      obtain ⟨k, hk, rfl, HE, m, rfl⟩ := hrel
      by_cases hlt : k < xs.length
      · have hlt2 : k < ys.length := by rw [← HL.out]; exact hlt
        obtain ⟨g, off, rfl, d1⟩ := C1.out k hlt
        obtain ⟨g2, off2, rfl, e1⟩ := C2.out k hlt2
        have HE2 : Hid ((if xs.getD k 0 = ys.getD k 0 then sameTo8 xs ys (xs.length - (k + 1)) (k + 1) else false) = decide (xs = ys)) := by
          have h := HE.out
          rw [show xs.length - k = (xs.length - (k + 1)) + 1 from by omega] at h
          exact h
        clear HE
        generalize xs.getD k 0 = x at d1 HE2
        generalize ys.getD k 0 = y at e1 HE2
        by_cases hxy : x = y
        · have HE3 : Hid (sameTo8 xs ys (xs.length - (k + 1)) (k + 1) = decide (xs = ys)) := by
            have h := HE2.out
            rw [if_pos hxy] at h
            exact h
          have hb : ((x.toNat : Int) == (y.toNat : Int)) = true := by rw [u8_eq_iff]; simpa using hxy
          clear hxy HE2
          go_wp2_with fail
          go_quiet (fail)
          go_wp2_with fail
          go_roundw
          case rel => exact ⟨k + 1, by omega, by go_num, HE3, m + nq, rfl⟩
          case measure => simp [intOf]; omega
        · have HE3 : Hid (decide (xs = ys) = false) := by
            have h := HE2.out
            rw [if_neg hxy] at h
            exact h.symm
          have hb : ((x.toNat : Int) == (y.toNat : Int)) = false := by rw [u8_eq_iff]; simpa using hxy
          clear hxy HE2
          go_wp2_with fail
          go_quiet (fail)
          go_wp2
          go_ret
          exact ⟨by rw [HE3.out]; rfl, m + nq, by simp⟩
      · obtain rfl : k = xs.length := by omega
        have HF : Hid (decide (xs = ys) = true) := by
          have h := HE.out
          rw [Nat.sub_self] at h
          exact h.symm
        go_wp2
        go_ret
        exact ⟨by rw [HF.out]; rfl, m, rfl⟩
  · have hlI : ((xs.length : Int) != (ys.length : Int)) = true := by simp; omega
    have HF : Hid (decide (xs = ys) = false) := Lib.hid (by simp; intro h; exact hl (by rw [h]))
    clear hl
    go_enter Try.func18, Try.ntmps18
    go_wp2
    go_ret
    exact ⟨by rw [HF.out]; rfl, 0, rfl⟩
set_option maxHeartbeats 400000 in
theorem keptBytes_any (u v : Value) (xs l : List UInt8) (w : World) (hu : Bs w u xs) (hv : Bs w v l) (hl : l.length + 6 ≤ 140737488355328) :
    Calls Try.prog 13 #[u, v] w fun e w' => e = .returned (.bool (decide (xs = lent l))) ∧ Below w.heap.size w w' := by
  have HU := Lib.hid hu
  clear hu
  go_enter Try.func13, Try.ntmps13
  go_wp2_with fail
  refine (lentBytes_any v l w hv hl).mono ?_
  rintro e w1 ⟨v1, rfl, h1, h2, h3⟩
  have HB := Lib.hid h2
  have h4 := HU.out.grow h2
  clear h2
  go_wp2_with fail
  refine (sameBytes_any u v1 xs (lent l) w1 h4 h1.rd).mono ?_
  rintro e w2 ⟨rfl, m, rfl⟩
  go_wp2
  go_ret
  exact ⟨rfl, HB.out.os, HB.out.tape, HB.out.output, HB.out.size, HB.out.block⟩

/-! ### OverBytes -/
def mark9 (i : Nat) : UInt8 := UInt8.ofNat ((64 + i) % 256)
def overTo (l : List UInt8) (k : Nat) : List UInt8 := (List.range k).map mark9 ++ l.drop k
def over (n : Nat) : List UInt8 := (List.range n).map mark9
theorem overTo_len (l : List UInt8) (k : Nat) (h : k ≤ l.length) : (overTo l k).length = l.length := by simp [overTo]; omega
theorem overTo_zero (l : List UInt8) : overTo l 0 = l := by simp [overTo]
theorem overTo_end (l : List UInt8) : overTo l l.length = over l.length := by simp [overTo, over]
theorem overTo_succ (l : List UInt8) (k : Nat) (h : k < l.length) : (overTo l k).set k (mark9 k) = overTo l (k + 1) := by
  unfold overTo
  rw [List.set_append_right _ _ (by simp), List.length_map, List.length_range, Nat.sub_self, List.range_succ, List.map_append, List.append_assoc]
  congr 1
  rw [List.drop_eq_getElem_cons h]
  rfl
set_option maxHeartbeats 1000000 in
theorem overBytes_any (v : Value) (l : List UInt8) (w : World) (hv : OB w v l) (hl : l.length ≤ 140737488355328) :
    Calls Try.prog 15 #[v] w fun e w' => e = .returned (.tuple #[]) ∧ OB w' v (over l.length) ∧ Only (fpv v) w w' := by
  by_cases h0 : l = []
  · subst h0
    obtain ⟨ao, cap, rfl⟩ := hv.any
    have HV := Lib.hid hv
    clear hv
    go_enter Try.func15, Try.ntmps15
    go_wp2_with fail
    go_loop [2] (fun i => i = .int .i64 0) (fun _ => 0)
    case atStart => rfl
    case round =>
      subst hrel
      go_wp2
      refine bodyPost_end (results_none rfl _ _ _) rfl ?_
      exact ⟨rfl, HV.out, Only.refl _ _⟩
  · have hpos : 0 < l.length := List.length_pos_iff.2 h0
    obtain ⟨g, cap, rfl⟩ := hv.form hpos
    have HV := Lib.hid hv
    clear hv h0
    go_enter Try.func15, Try.ntmps15
    go_wp2_with fail
    go_loopw [2] (fun i w1 => ∃ k : Nat, k ≤ l.length ∧ i = .int .i64 (k : Int) ∧ OB w1 (.slice (some ⟨g, 0, none⟩) l.length cap) (overTo l k) ∧ Only (fun x => x = g) w w1) (fun i _ => l.length - (intOf i).toNat)
    case atStart => exact ⟨0, Nat.zero_le _, rfl, by rw [overTo_zero]; exact HV.out, Only.refl _ _⟩
    case round =>
      obtain ⟨k, hk, rfl, ho, hf⟩ := hrel
      by_cases hlt : k < l.length
      · have hlen := overTo_len l k (by omega)
        have ho' : OB wr (.slice (some ⟨g, 0, none⟩) (overTo l k).length cap) (overTo l k) := by rw [hlen]; exact ho
        have c1 : wr.cell? ⟨g, k, none⟩ = some (.int .u8 (((overTo l k).getD k 0).toNat : Int)) := by
          rw [World.ownsRow.cellAt ho' k (by omega), List.getElem?_map, List.getD_eq_getElem?_getD, List.getElem?_eq_getElem (by omega)]
          rfl
        have f1 := World.ownsRow.frozenAt ho' k
        have HO := Lib.hid ho'
        have HF := Lib.hid hf
        have HLEN := Lib.hid hlen
        generalize ((overTo l k).getD k 0) = z at c1
        clear ho ho' hf hlen
        go_wp2_with fail
        refine (mark_any _ _ _ (by omega) (by omega) (by omega) (by omega)).mono ?_
        rintro e w' ⟨rfl, rfl⟩
        have hm : (7 * 9 + (k : Int) + 1) % 256 = ((mark9 k).toNat : Int) := by
          unfold mark9
          rw [u8_of _ (by omega)]
          omega
        rw [hm]
        clear hm
        go_wp2
        go_roundw
        case rel =>
          refine ⟨k + 1, by omega, by go_num, ?_, HF.out.set (.inl rfl) _⟩
          have h := HO.out.set k (mark9 k)
          rw [HLEN.out, overTo_succ l k hlt] at h
          exact h
        case measure => simp [intOf]; omega
      · obtain rfl : k = l.length := by omega
        have HN : Hid (OB wr (.slice (some ⟨g, 0, none⟩) l.length cap) (over l.length) ∧ Only (fpv (.slice (some ⟨g, 0, none⟩) l.length cap)) w wr) := by
          rw [overTo_end] at ho
          exact ⟨ho, hf.mono (fun x hx => by subst hx; rfl)⟩
        clear ho hf
        go_wp2
        refine bodyPost_end (results_none rfl _ _ _) rfl ?_
        exact ⟨rfl, HN.out⟩
end Go.Proofs.Ytaphjdfpffhpfaa
