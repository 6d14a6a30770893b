/- Sizes: the sizes of a kind's events, out of Hist. -/
import Derived.Test.YtfielodchoghlaaRows
import Derived.Test.YtfielodchoghlaaHist
import Derived.Test.YtfielodchoghlaaInts
namespace Go.Proofs.Ytfielodchoghlaa
open Go.RowKit
set_option maxRecDepth 100000
set_option linter.unusedVariables false
set_option linter.unusedSimpArgs false
def sizesL (h : List Rn) (kk : Int) : List Int := (h.filter fun x => decide (x.k = kk)).map (·.s)
theorem sizes_take {h : List Rn} {k : Nat} {r : Rn} (kk : Int) (hx : h[k]? = some r) : sizesL (h.take (k + 1)) kk = sizesL (h.take k) kk ++ if r.k = kk then [r.s] else [] := by
  unfold sizesL
  rw [List.take_add_one, hx]
  by_cases c : r.k = kk <;> simp [c]
theorem sizes_len (h : List Rn) (kk : Int) : (sizesL h kk).length ≤ h.length := by
  unfold sizesL
  rw [List.length_map]
  exact List.length_filter_le _ _
set_option maxHeartbeats 2000000 in
theorem sizes_any (u : Value) (rs : List Rn) (kk : Int) (w : World) (hu : KN.R w u rs) (hm : mayL rs = true) (hok : ∀ r ∈ rs, okRn r) :
    Calls Try.prog 28 #[u, .int .u8 kk] w fun e w' => ∃ h, IsHist rs h ∧ KI.New (sizesL h kk) w e w' := by
  obtain ⟨hlen, hcs⟩ := may_ok hm
  have HH := Lib.hid (hist_any u rs w hu hm hok)
  obtain ⟨i0, hi, hz0, hz1, hz2⟩ := info_parts infoI
  have HI := Lib.hid (And.intro hi (And.intro hz0 (And.intro hz1 hz2)))
  clear hu hm hok hcs hi hz0 hz1 hz2
  go_enter Try.func28, Try.ntmps28
  go_wp2_with fail
  refine HH.out.mono ?_
  rintro e w1 ⟨h, hh, v, rfl, ho, hb, hn⟩
  have hhl := hh.len
  have hl20 : h.length ≤ 1048576 := by omega
  have HU := Lib.hid ho.rd
  have HB := Lib.hid hb
  have HIS := Lib.hid hh
  obtain ⟨ao, cap, rfl, _, _, _⟩ := HU.out.any
  clear ho hb hn hh hhl HH
  go_wp2_with fail
  go_loopw [5, 11] (fun o i w2 => ∃ (k : Nat), k ≤ h.length ∧ i = .int .i64 (k : Int) ∧ Hid (KI.Mk (sizesL (h.take k) kk) w1 o w2)) (fun _ i _ => h.length - (intOf i).toNat)
  case atStart => exact ⟨0, Nat.zero_le _, rfl, Lib.hid (by rw [List.take_zero]; exact Knd.Mk.nil KI w1)⟩
  case round =>
    obtain ⟨k, hk, rfl, HR⟩ := hrel
    by_cases hlt : k < h.length
    · obtain ⟨⟨rk, rsz, rc⟩, hx⟩ : ∃ x, h[k]? = some x := ⟨_, List.getElem?_eq_getElem hlt⟩
      obtain ⟨g, off, rfl, _, d1, d2, d3⟩ := runAt HU.out HR.out.2.1 hx
      have hs := sizes_take kk hx
      have hsl := sizes_len (h.take k) kk
      rw [List.length_take] at hsl
      obtain ⟨L, hL⟩ : ∃ L, (sizesL (h.take k) kk).length = L := ⟨_, rfl⟩
      rw [hL] at hsl
      have hL20 : L ≤ 1048576 := by omega
      have HL := Lib.hid hL
      have HRa := Lib.hid (HR.out.below ((Below.refl _ _).alloc (Nat.le_refl _) (.cells #[.int .u8 rk, .int .i64 rsz, .int .i64 rc] 51)))
      by_cases c : rk = kk
      · have t : (rk == kk) = true := by simpa using c
        rw [if_pos c] at hs
        have HS := Lib.hid hs
        clear hx hs hsl hL HR c
        go_upto_region 6 with fail
        have h1 : Blk (wr.alloc (.cells #[.int .u8 rk, .int .i64 rsz, .int .i64 rc] 51)) wr.heap.size 51 #[.int .u8 rk, .int .i64 rsz, .int .i64 rc] := Blk.new _ _ _
        obtain ⟨b5, hb5⟩ : ∃ b, wr.heap.size = b := ⟨_, rfl⟩
        obtain ⟨wa, hwa⟩ : ∃ y, wr.alloc (.cells #[.int .u8 rk, .int .i64 rsz, .int .i64 rc] 51) = y := ⟨_, rfl⟩
        rw [hwa] at HRa h1
        rw [hb5] at h1
        try rw [hwa]
        try rw [hb5]
        clear hwa hb5
        have f1 := h1.cellAt 1 rfl
        have HOWN := HRa.out.alloc (.cells #[.int .i64 rsz] 3) (N := L) (by rw [HL.out])
        clear h1
        obtain ⟨hi, hz0, hz1, hz2⟩ := HI.out
        go_wp2_with (at_builtin; refine wpList_append_keep _ rfl _ _ 22 rfl 3 i0 _ 1 8 Try.underlying22 hi hz0 hz1 hz2 rfl (by decide) u5 L (KI.fl (sizesL (h.take k) kk)) rfl HOWN ⟨wa.heap.size, 0, none⟩ 1 1 [.int .i64 rsz] rfl rfl (World.news_of_block (heap_alloc_new _ _)) (KI.one rsz) (by unfold maxLen; omega) (by omega) (by decide) ?_)
        intro v' w2 hown hgrow hat hne
        have hat2 : v'.ownBlock = u5.ownBlock ∨ v'.ownBlock = some (wa.heap.size + 1) := by
          rcases hat with hat | hat
          · exact .inl hat
          · exact .inr (by simpa using hat.1)
        have HN : Hid (KI.Mk (sizesL (h.take (k + 1)) kk) w1 v' w2) := by
          rw [HS.out]
          exact Lib.hid (HRa.out.more (by rw [HL.out]) rfl hown hgrow hat2)
        clear hown hgrow hat hne hat2 HOWN hi hz0 hz1 hz2 f1 HRa
        go_wp2
        go_roundw
        case rel => exact ⟨k + 1, by omega, by go_num, HN⟩
        case measure => simp [intOf]; omega
      · have t : (rk == kk) = false := by simpa using c
        rw [if_neg c, List.append_nil] at hs
        have HN : Hid (KI.Mk (sizesL (h.take (k + 1)) kk) w1 u5 (wr.alloc (.cells #[.int .u8 rk, .int .i64 rsz, .int .i64 rc] 51))) := by rw [hs]; exact HRa
        clear hx hs hsl hL HR c HRa
        go_wp2
        go_roundw
        case rel => exact ⟨k + 1, by omega, by go_num, HN⟩
        case measure => simp [intOf]; omega
    · obtain rfl : k = h.length := by omega
      have HN : Hid (∃ h, IsHist rs h ∧ KI.New (sizesL h kk) w (.returned u5) wr) := by
        have h1 := HR.out
        rw [List.take_length] at h1
        exact Lib.hid ⟨h, HIS.out, u5, rfl, h1.1, HB.out.trans (h1.2.1.mono HB.out.size), fun x hx => Nat.le_trans HB.out.size (h1.2.2 x hx)⟩
      clear HR
      go_wp2
      go_ret
      exact HN.out
end Go.Proofs.Ytfielodchoghlaa
