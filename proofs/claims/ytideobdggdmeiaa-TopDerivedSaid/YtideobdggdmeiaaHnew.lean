/- HMAC: a Mac made. -/
import Derived.Test.YtideobdggdmeiaaHmac
import Derived.Deep.Cut
import Derived.Deep.CutRange
namespace Go.Proofs.Ytideobdggdmeiaa
open Go.RowKit
set_option maxRecDepth 100000
set_option linter.unusedVariables false
set_option linter.unusedSimpArgs false
theorem flat_len (n : Nat) : ∀ (L : List Int), (L.flatMap (layL n)).length = n * L.length
  | [] => by simp
  | x :: r => by rw [List.flatMap_cons, List.length_append, flat_len n r, layL_len, List.length_cons, Nat.mul_add]; omega
theorem sumOf5_len {s : HSt} (hs : Ok5 s) : (A5.sumOf s).length = 32 := by
  have h := (feed5_ok hs (A5.pad s.n)).h
  show ((A5.feed s (A5.pad s.n)).h.flatMap (layL 4)).length = 32
  rw [flat_len, h]
theorem sumOf6_len {s : HSt} (hs : Ok6 s) : (A6.sumOf s).length = 64 := by
  have h := (feed6_ok hs (A6.pad s.n)).h
  show ((A6.feed s (A6.pad s.n)).h.flatMap (layL 8)).length = 64
  rw [flat_len, h]
theorem hash_len (g : Bool) (l : List UInt8) : ((HA g).hash l).length = szN g := by
  cases g
  · exact sumOf5_len (feed5_ok init5_ok l)
  · exact sumOf6_len (feed6_ok init6_ok l)
theorem keyB_len (g : Bool) (k : List UInt8) : ((HA g).keyB k).length ≤ bkN g := by
  unfold HashF.keyB
  rw [HA_B]
  split
  · rw [hash_len]; cases g <;> decide
  · omega
def macV (g : Bool) (bi bo bf : Nat) : Array Value := #[.int .i64 (szN g), .iface (tyD g) (.agg #[.pointer (some ⟨bi, 0, none⟩)]), .iface (tyD g) (.agg #[.pointer (some ⟨bo, 0, none⟩)]), .iface (tyD g) (.agg #[.pointer (some ⟨bf, 0, none⟩)])]
structure HMac (g : Bool) (w : World) (b bi bo bf : Nat) (k : List UInt8) (s : HSt) : Prop where
  blk : Blk w b 57 (macV g bi bo bf)
  inn : StD g w bi s
  out : StD g w bo ((HA g).outer k)
  fst : StD g w bf ((HA g).inner k)
  n1 : b ≠ bi
  n2 : b ≠ bo
  n3 : b ≠ bf
  n4 : bi ≠ bo
  n5 : bi ≠ bf
def NewMac (g : Bool) (k : List UInt8) (w : World) (e : Ending) (w' : World) : Prop :=
  ∃ b bi bo bf : Nat, e = .returned (.tuple #[.pointer (some ⟨b, 0, none⟩), .int .i64 0]) ∧ w.heap.size ≤ b ∧ w.heap.size ≤ bi ∧ w.heap.size ≤ bo ∧ w.heap.size ≤ bf ∧ HMac g w' b bi bo bf k ((HA g).inner k) ∧ Below w.heap.size w w'
/-- ahead of the Mac's being made: the key as it is used -/
structure NInv (g : Bool) (w : World) (hb : Nat) (k : List UInt8) (uv : Value) (wr : World) : Prop where
  below : Below w.heap.size w wr
  hash : Blk wr hb 51 (hashV g)
  src : Bs wr uv ((HA g).keyB k)
set_option maxHeartbeats 4000000 in
theorem hnew_any (g : Bool) (w : World) (u : Value) (k : List UInt8) (hu : Bs w u k) (hk : k.length ≤ 1152921504606846976) :
    Calls Try.prog 11 #[.pointer none, .int .u8 (algN g), u] w (NewMac g k w) := by
  have HU := Lib.hid hu
  have HK := Lib.hid hk
  obtain ⟨ao, cap, rfl, hform⟩ := hu.form
  clear hu hk hform
  go_enter Try.func11, Try.ntmps11
  go_wp2_with fail
  refine (of_any g w).mono ?_
  rintro e w1 ⟨rfl, hb1⟩
  have HB1 := Lib.hid hb1
  clear hb1
  obtain ⟨V, hV⟩ : ∃ V, hashV g = V := ⟨_, rfl⟩
  have HV : Hid (hashV g = V) := hV
  have hsz : V.size = 7 := by rw [← hV]; rfl
  have hone : ∀ v ∈ V.toList, v.oneCell' = true := by rw [← hV]; exact hashV_one g
  rw [hV]
  clear hV
  go_upto_region 4 with ((with_reducible change wpList _ _ _ (Oper.mk _ (Op.store 51 _ _) _ _ _ _ :: _) _ _); refine wpList_store_blk w1.heap.size V rfl rfl (Blk.new w1 51 hashZ) sizeHash hsz rfl hone ?_)
  obtain ⟨hb, hhb⟩ : ∃ h, w1.heap.size = h := ⟨_, rfl⟩
  obtain ⟨w2, hw2⟩ : ∃ y, (w1.alloc (.cells #[.int .u8 0, .int .i64 0, .int .i64 0, .int .u8 0, .int .i64 0, .nilFunc, .nilFunc] 51)).setRow w1.heap.size V = y := ⟨_, rfl⟩
  have HB2 : Hid (Below w.heap.size w w2) := by rw [← hw2]; exact Lib.hid (below_row (HB1.out.alloc HB1.out.size _) HB1.out.size _)
  have HH2 : Hid (Blk w2 hb 51 V) := by rw [← hw2, hhb]; exact Lib.hid (Blk.row (Blk.at hhb.symm rfl) _)
  have HHB : Hid (w.heap.size ≤ hb) := by rw [← hhb]; exact Lib.hid HB1.out.size
  rw [hw2, hhb]
  clear hw2 hhb HB1
  have HU2 : Hid (Bs w2 (.slice ao k.length cap) k) := Lib.hid (HU.out.grow HB2.out)
  have c2 : w2.cell? ⟨hb, 2, none⟩ = some (.int .i64 (bkN g : Int)) := by
    have h := HH2.out
    rw [← HV.out] at h
    exact h.cellAt 2 rfl
  go_upto_if 23 with fail
  obtain ⟨bb, hbb⟩ : ∃ bb, decide (bkN g < k.length) = bb := ⟨_, rfl⟩
  rw [hbb]
  have HBB := Lib.hid hbb
  clear hbb
  go_cut [2] from 20 to 29 (fun s2 wx => Hid (NInv g w hb k s2 wx))
  case first =>
    by_cases hlong : bkN g < k.length
    · obtain rfl : bb = true := by rw [← HBB.out, decide_eq_true_eq]; exact hlong
      have c6 : w2.cell? ⟨hb, 6, none⟩ = some (.func (.func (fHash g)) #[] #[]) := by
        have h := HH2.out
        rw [← HV.out] at h
        exact h.cellAt 6 rfl
      have hcall := callH g
      have HLONG := Lib.hid hlong
      clear hlong hsz hone
      go_wp2_with fail
      refine (stH g w2 _ k HU2.out HK.out).mono ?_
      rintro e w3 ⟨v, rfl, q1, q2, q3⟩
      have HN : Hid (NInv g w hb k v w3) := Lib.hid ⟨HB2.out.trans (q2.mono HB2.out.size), by rw [HV.out]; exact HH2.out.below q2 HH2.out.lt, by
        have e : (HA g).keyB k = (HA g).hash k := by unfold HashF.keyB; rw [HA_B, if_pos HLONG.out]
        rw [e]; exact q1.rd⟩
      clear q1 q2 q3 c2 c6 hcall
      go_wp2
      go_meet
      exact HN
    · obtain rfl : bb = false := by rw [← HBB.out, decide_eq_false_iff_not]; exact hlong
      have HN : Hid (NInv g w hb k (.slice ao k.length cap) w2) := Lib.hid ⟨HB2.out, by rw [HV.out]; exact HH2.out, by
        have e : (HA g).keyB k = k := by unfold HashF.keyB; rw [HA_B, if_neg hlong]
        rw [e]; exact HU2.out⟩
      clear hlong hsz hone
      go_wp2
      go_meet
      exact HN
  case rest =>
    have c1 : wc.cell? ⟨hb, 1, none⟩ = some (.int .i64 (szN g : Int)) := hcut.out.hash.cellAt 1 rfl
    have HHL : Hid (hb < wc.heap.size) := Lib.hid hcut.out.hash.lt
    have HWC : Hid (w.heap.size ≤ wc.heap.size) := Lib.hid hcut.out.below.size
    go_upto_region 7 with fail
    obtain ⟨mb, hmb⟩ : ∃ m, wc.heap.size = m := ⟨_, rfl⟩
    have HMB : Hid (wc.heap.size = mb) := hmb
    rw [hmb]
    have H3 : Hid (Below mb wc (wc.alloc (.cells #[.int .i64 (szN g : Int), .nilIface, .nilIface, .nilIface] 57)) ∧ Blk (wc.alloc (.cells #[.int .i64 (szN g : Int), .nilIface, .nilIface, .nilIface] 57)) mb 57 #[.int .i64 (szN g : Int), .nilIface, .nilIface, .nilIface]) :=
      Lib.hid ⟨(Below.refl _ wc).alloc (by omega) _, Blk.at hmb.symm rfl⟩
    obtain ⟨w3, hw3⟩ : ∃ y, wc.alloc (.cells #[.int .i64 (szN g : Int), .nilIface, .nilIface, .nilIface] 57) = y := ⟨_, rfl⟩
    rw [hw3] at H3 ⊢
    clear hw3 hmb c1
    have GR : Hid (∀ wx, Below mb wc wx → Bs wx u2 ((HA g).keyB k) ∧ Blk wx hb 51 (hashV g) ∧ Below w.heap.size w wx) := Lib.hid fun wx h => by
      have h1 : Below wc.heap.size wc wx := by rw [HMB.out]; exact h
      exact ⟨hcut.out.src.grow h1, hcut.out.hash.below h1 HHL.out, hcut.out.below.trans (h1.mono HWC.out)⟩
    have K1 := Lib.hid (keyed_any g w3 u2 ((HA g).keyB k) 54 (GR.out _ H3.out.1).1 (keyB_len g k))
    have HB3 := Lib.hid (GR.out _ H3.out.1).2.1
    clear hcut hsz hone HBB HU2 HU HB2 HH2 c2
    go_wp2_with ((with_reducible change wpList _ _ _ (Oper.mk _ (Op.load 51 _) _ _ _ _ :: _) _ _); refine wpList_load_blk hb rfl HB3.out Try.underlying51 rfl sizeHash rfl ?_)
    refine K1.out.mono ?_
    rintro e w4 ⟨bf, rfl, q1, q2, q3⟩
    have H4 : Hid (Below mb wc w4) := Lib.hid (H3.out.1.trans (q3.mono (by have := H3.out.2.lt; omega)))
    have HM4 : Hid (Blk w4 mb 57 #[.int .i64 (szN g : Int), .nilIface, .nilIface, .nilIface]) := Lib.hid (H3.out.2.below q3 H3.out.2.lt)
    have HBF : Hid (mb < bf) := Lib.hid (by have := H3.out.2.lt; omega)
    have HST4 : Hid (StD g w4 bf ((HA g).inner k)) := Lib.hid q2
    have c3 := HM4.out.cellAt 3 rfl
    have f3 := HM4.out.unfrozen 3
    clear q1 q2 q3 K1 H3 HB3
    go_upto_region 8 with fail
    obtain ⟨w5, hw5⟩ : ∃ y, w4.setCell ⟨mb, 3, none⟩ (.iface (tyD g) (.agg #[.pointer (some ⟨bf, 0, none⟩)])) = y := ⟨_, rfl⟩
    have HM5 : Hid (Blk w5 mb 57 #[.int .i64 (szN g : Int), .nilIface, .nilIface, .iface (tyD g) (.agg #[.pointer (some ⟨bf, 0, none⟩)])]) := by
      rw [← hw5]
      exact Lib.hid (HM4.out.set 3 _)
    have H5 : Hid (Below mb wc w5) := by rw [← hw5]; exact Lib.hid (Below.setCell H4.out (Nat.le_refl _) _)
    have O5 : Hid (Only (fun x => x = mb) w4 w5) := by rw [← hw5]; exact Lib.hid ((Only.refl (fun x => x = mb) w4).set (p := ⟨mb, 3, none⟩) (.inl rfl) _)
    rw [hw5]
    clear hw5 c3 f3 HM4
    have HST5 : Hid (StD g w5 bf ((HA g).inner k)) := Lib.hid (HST4.out.only O5.out (by have := HBF.out; omega))
    have K2 := Lib.hid (keyed_any g w5 u2 ((HA g).keyB k) 92 (GR.out _ H5.out).1 (keyB_len g k))
    have HB5 := Lib.hid (GR.out _ H5.out).2.1
    clear HST4 O5 H4
    go_wp2_with ((with_reducible change wpList _ _ _ (Oper.mk _ (Op.load 51 _) _ _ _ _ :: _) _ _); refine wpList_load_blk hb rfl HB5.out Try.underlying51 rfl sizeHash rfl ?_)
    refine K2.out.mono ?_
    rintro e w6 ⟨bo, rfl, q1, q2, q3⟩
    have H6 : Hid (Below mb wc w6) := Lib.hid (H5.out.trans (q3.mono (by have := HM5.out.lt; omega)))
    have HM6 := Lib.hid (HM5.out.below q3 HM5.out.lt)
    have HBO : Hid (mb < bo ∧ bf < bo) := Lib.hid (by have := HM5.out.lt; have := HST5.out.lt; omega)
    have HSO6 : Hid (StD g w6 bo ((HA g).outer k)) := Lib.hid q2
    have HST6 : Hid (StD g w6 bf ((HA g).inner k)) := Lib.hid (HST5.out.below q3 HST5.out.lt)
    have c2 := HM6.out.cellAt 2 rfl
    have f2 := HM6.out.unfrozen 2
    clear q1 q2 q3 K2 HM5 HB5 HST5 H5
    go_upto_region 9 with fail
    obtain ⟨w7, hw7⟩ : ∃ y, w6.setCell ⟨mb, 2, none⟩ (.iface (tyD g) (.agg #[.pointer (some ⟨bo, 0, none⟩)])) = y := ⟨_, rfl⟩
    have HM7 : Hid (Blk w7 mb 57 #[.int .i64 (szN g : Int), .nilIface, .iface (tyD g) (.agg #[.pointer (some ⟨bo, 0, none⟩)]), .iface (tyD g) (.agg #[.pointer (some ⟨bf, 0, none⟩)])]) := by
      rw [← hw7]
      exact Lib.hid (HM6.out.set 2 _)
    have H7 : Hid (Below mb wc w7) := by rw [← hw7]; exact Lib.hid (Below.setCell H6.out (Nat.le_refl _) _)
    have O7 : Hid (Only (fun x => x = mb) w6 w7) := by rw [← hw7]; exact Lib.hid ((Only.refl (fun x => x = mb) w6).set (p := ⟨mb, 2, none⟩) (.inl rfl) _)
    rw [hw7]
    clear hw7 c2 f2 HM6
    have HST7 : Hid (StD g w7 bf ((HA g).inner k)) := Lib.hid (HST6.out.only O7.out (by have := HBF.out; omega))
    have HSO7 : Hid (StD g w7 bo ((HA g).outer k)) := Lib.hid (HSO6.out.only O7.out (by have := HBO.out; omega))
    clear HST6 HSO6 O7 H6
    have c3 := HM7.out.cellAt 3 rfl
    have hm := methC g bf
    simp [Made.depth] at hm
    have hcC := callC g
    go_wp2_with fail
    refine (stC g bf _ w7 HST7.out).mono ?_
    rintro e w8 ⟨bi, rfl, q1, q2, q3⟩
    have HM8 := Lib.hid (HM7.out.below q3 HM7.out.lt)
    have c1 := HM8.out.cellAt 1 rfl
    have f1 := HM8.out.unfrozen 1
    have HN : Hid (NewMac g k w (.returned (.tuple #[.pointer (some ⟨mb, 0, none⟩), .int .i64 0])) (w8.setCell ⟨mb, 1, none⟩ (.iface (tyD g) (.agg #[.pointer (some ⟨bi, 0, none⟩)])))) := by
      have l1 := HM7.out.lt
      have l2 := HST7.out.lt
      have l3 := HSO7.out.lt
      have l4 := HBF.out
      have l5 := HBO.out
      have l6 := HWC.out
      have l7 := HMB.out
      have O : Only (fun x => x = mb) w8 (w8.setCell ⟨mb, 1, none⟩ (.iface (tyD g) (.agg #[.pointer (some ⟨bi, 0, none⟩)]))) := (Only.refl (fun x => x = mb) w8).set (p := ⟨mb, 1, none⟩) (.inl rfl) _
      have H9 : Below mb wc (w8.setCell ⟨mb, 1, none⟩ (.iface (tyD g) (.agg #[.pointer (some ⟨bi, 0, none⟩)]))) := Below.setCell (H7.out.trans (q3.mono (by omega))) (Nat.le_refl _) _
      refine Lib.hid ⟨mb, bi, bo, bf, rfl, by omega, by omega, by omega, by omega, ⟨HM8.out.set 1 _, q2.only O (by omega), (HSO7.out.below q3 l3).only O (by omega), (HST7.out.below q3 l2).only O (by omega), by omega, by omega, by omega, by omega, by omega⟩, (GR.out _ H9).2.2⟩
    clear q1 q2 q3 c3 hm hcC
    go_wp2_with fail
    go_ret2
    exact HN.out
end Go.Proofs.Ytideobdggdmeiaa
