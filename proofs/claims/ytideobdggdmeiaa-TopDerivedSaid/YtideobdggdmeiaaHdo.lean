/- HMAC: Write, Sum, Reset, Tag. -/
import Derived.Test.YtideobdggdmeiaaHnew
namespace Go.Proofs.Ytideobdggdmeiaa
open Go.RowKit
set_option maxRecDepth 100000
set_option linter.unusedVariables false
set_option linter.unusedSimpArgs false
theorem HMac.below {g : Bool} {w w' : World} {b bi bo bf : Nat} {k : List UInt8} {s : HSt} (h : HMac g w b bi bo bf k s) (hb : Below w.heap.size w w') : HMac g w' b bi bo bf k s :=
  ⟨h.blk.below hb h.blk.lt, h.inn.below hb h.inn.lt, h.out.below hb h.out.lt, h.fst.below hb h.fst.lt, h.n1, h.n2, h.n3, h.n4, h.n5⟩
theorem his_any (g : Bool) (w : World) (b bi bo bf : Nat) (k : List UInt8) (s : HSt) (h : HMac g w b bi bo bf k s) :
    Calls Try.prog 22 #[.pointer (some ⟨b, 0, none⟩)] w fun e w' => e = .returned (.bool true) ∧ w = w' := by
  have c1 : w.cell? ⟨b, 1, none⟩ = some (.iface (tyD g) (.agg #[.pointer (some ⟨bi, 0, none⟩)])) := h.blk.cellAt 1 rfl
  clear h
  go_enter Try.func22, Try.ntmps22
  go_wp2_with fail
  go_ret
  exact ⟨rfl, rfl⟩
set_option maxHeartbeats 1000000 in
theorem hwrite_any (g : Bool) (w : World) (b bi bo bf : Nat) (k : List UInt8) (s : HSt) (u : Value) (l : List UInt8) (h : HMac g w b bi bo bf k s) (hu : Bs w u l) (hne : l ≠ [] → ∀ x, u.ownBlock = some x → x ≠ bi) (hn : s.n + l.length ≤ 4611686018427387904) :
    Calls Try.prog 12 #[.pointer (some ⟨b, 0, none⟩), .pointer none, u] w fun e w' => e = .returned (.int .i64 0) ∧ HMac g w' b bi bo bf k ((HA g).feed s l) ∧ Only (fun x => x = bi) w w' := by
  have H1 := Lib.hid (his_any g w b bi bo bf k s h)
  have H2 := Lib.hid (stW g bi s w u l h.inn hu hne hn)
  have c1 : w.cell? ⟨b, 1, none⟩ = some (.iface (tyD g) (.agg #[.pointer (some ⟨bi, 0, none⟩)])) := h.blk.cellAt 1 rfl
  have hm := methW g bi
  simp [Made.depth] at hm
  have hcW := callW g
  have H := Lib.hid h
  clear h hu hne
  go_enter Try.func12, Try.ntmps12
  go_wp2_with fail
  refine H1.out.mono ?_
  rintro e w1 ⟨rfl, rfl⟩
  go_wp2_with fail
  refine H2.out.mono ?_
  rintro e w2 ⟨rfl, q1, q2⟩
  have HN : Hid (HMac g w2 b bi bo bf k ((HA g).feed s l) ∧ Only (fun x => x = bi) w w2) :=
    Lib.hid ⟨⟨H.out.blk.only q2 H.out.n1, q1, H.out.out.only q2 (Ne.symm H.out.n4), H.out.fst.only q2 (Ne.symm H.out.n5), H.out.n1, H.out.n2, H.out.n3, H.out.n4, H.out.n5⟩, q2⟩
  clear q1 q2 c1 hm hcW
  go_wp2_with fail
  go_ret
  exact ⟨rfl, HN.out⟩
theorem outer_n (g : Bool) (k : List UInt8) : ((HA g).outer k).n = bkN g := by
  unfold HashF.outer
  rw [HashF.feed_n]
  show 0 + ((HA g).padK _ _).length = _
  rw [show ((HA g).padK ((HA g).keyB k) 92).length = (HA g).B from by simp [HashF.padK], HA_B]
  omega
theorem inner_n (g : Bool) (k : List UInt8) : ((HA g).inner k).n = bkN g := by
  unfold HashF.inner
  rw [HashF.feed_n]
  show 0 + ((HA g).padK _ _).length = _
  rw [show ((HA g).padK ((HA g).keyB k) 54).length = (HA g).B from by simp [HashF.padK], HA_B]
  omega
theorem sumOf_len (g : Bool) {w : World} {b : Nat} {s : HSt} (h : StD g w b s) : ((HA g).sumOf s).length = szN g := by
  cases g
  · exact sumOf5_len h.2
  · exact sumOf6_len h.2
theorem szN_le (g : Bool) : szN g ≤ 64 := by cases g <;> decide
set_option maxHeartbeats 1000000 in
theorem hsum_any (g : Bool) (w : World) (b bi bo bf : Nat) (k : List UInt8) (s : HSt) (h : HMac g w b bi bo bf k s) (hn : s.n ≤ 1152921504606846976) :
    Calls Try.prog 13 #[.pointer (some ⟨b, 0, none⟩), .pointer none] w (NewBytesE ((HA g).macSum k s) w) := by
  have H1 := Lib.hid (his_any g w b bi bo bf k s h)
  have H2 := Lib.hid (stS g bi s w h.inn hn)
  have c1 : w.cell? ⟨b, 1, none⟩ = some (.iface (tyD g) (.agg #[.pointer (some ⟨bi, 0, none⟩)])) := h.blk.cellAt 1 rfl
  have hm1 := methS g bi
  have hm2 := methC g bo
  simp [Made.depth] at hm1 hm2
  have hcS := callS g
  have hcC := callC g
  have hcW := callW g
  have H := Lib.hid h
  have HSL : Hid (((HA g).sumOf s).length ≤ 64) := Lib.hid (by rw [sumOf_len g h.inn]; exact szN_le g)
  clear h
  go_enter Try.func13, Try.ntmps13
  go_wp2_with fail
  refine H1.out.mono ?_
  rintro e w1 ⟨rfl, rfl⟩
  go_wp2_with fail
  refine H2.out.mono ?_
  rintro e w2 ⟨v2, rfl, q1, q2, q3⟩
  have HV2 : Hid (Bs w2 v2 ((HA g).sumOf s)) := Lib.hid q1.rd
  have HB2 := Lib.hid q2
  have HO2 : Hid (∀ x, v2.ownBlock = some x → x < w2.heap.size) := Lib.hid q1.lt
  have HT2 : Hid (StD g w2 bo ((HA g).outer k)) := Lib.hid (H.out.out.below q2 H.out.out.lt)
  have c2 : w2.cell? ⟨b, 2, none⟩ = some (.iface (tyD g) (.agg #[.pointer (some ⟨bo, 0, none⟩)])) := (H.out.blk.below q2 H.out.blk.lt).cellAt 2 rfl
  clear q1 q2 q3 c1 hm1 H1 H2
  go_wp2_with fail
  refine (stC g bo _ w2 HT2.out).mono ?_
  rintro e w3 ⟨b3, rfl, r1, r2, r3⟩
  have HB3 : Hid (Below w.heap.size w w3) := Lib.hid (HB2.out.trans (r3.mono HB2.out.size))
  have HL3 : Hid (w.heap.size ≤ b3) := Lib.hid (Nat.le_trans HB2.out.size r1)
  have HW := Lib.hid (stW g b3 _ w3 v2 _ r2 (HV2.out.grow r3) (fun _ x hx => by have := HO2.out x hx; omega) (by rw [outer_n]; have := HSL.out; have := bkN_le g; omega))
  have hm3 := methW g b3
  have hm4 := methS g b3
  simp [Made.depth] at hm3 hm4
  clear r1 r2 r3 c2 hm2 hcC
  go_wp2_with fail
  refine HW.out.mono ?_
  rintro e w4 ⟨rfl, q1, q2⟩
  have HB4 : Hid (Below w.heap.size w w4) := Lib.hid (HB3.out.trans (q2.below0 (fun x hx => by have := HL3.out; omega) HB3.out.size))
  have HS := Lib.hid (stS g b3 _ w4 q1 (by rw [HashF.feed_n, outer_n]; have := HSL.out; have := bkN_le g; omega))
  clear q1 q2 hm3 hcW HW
  go_wp2_with fail
  refine HS.out.mono ?_
  rintro e w5 ⟨v5, rfl, q1, q2, q3⟩
  have HN : Hid (NewBytesE ((HA g).macSum k s) w (.returned (.tuple #[v5, .int .i64 0])) w5) := Lib.hid ⟨v5, rfl, q1, HB4.out.trans (q2.mono HB4.out.size), fun x hx => Nat.le_trans HB4.out.size (q3 x hx)⟩
  clear q1 q2 q3 hm4 hcS
  go_wp2_with fail
  go_ret2
  exact HN.out
set_option maxHeartbeats 1000000 in
theorem hreset_any (g : Bool) (w : World) (b bi bo bf : Nat) (k : List UInt8) (s : HSt) (h : HMac g w b bi bo bf k s) :
    Calls Try.prog 34 #[.pointer (some ⟨b, 0, none⟩)] w fun e w' => ∃ bi', e = .returned (.int .i64 0) ∧ w.heap.size ≤ bi' ∧ HMac g w' b bi' bo bf k ((HA g).inner k) ∧ Only (fun x => x = b) w w' := by
  have H1 := Lib.hid (his_any g w b bi bo bf k s h)
  have c3 : w.cell? ⟨b, 3, none⟩ = some (.iface (tyD g) (.agg #[.pointer (some ⟨bf, 0, none⟩)])) := h.blk.cellAt 3 rfl
  have hm := methC g bf
  simp [Made.depth] at hm
  have hcC := callC g
  have H := Lib.hid h
  clear h
  go_enter Try.func34, Try.ntmps34
  go_wp2_with fail
  refine H1.out.mono ?_
  rintro e w1 ⟨rfl, rfl⟩
  go_wp2_with fail
  refine (stC g bf _ w H.out.fst).mono ?_
  rintro e w2 ⟨b2, rfl, r1, r2, r3⟩
  have HM2 := Lib.hid (H.out.blk.below r3 H.out.blk.lt)
  have c1 : w2.cell? ⟨b, 1, none⟩ = some (.iface (tyD g) (.agg #[.pointer (some ⟨bi, 0, none⟩)])) := HM2.out.cellAt 1 rfl
  have f1 := HM2.out.unfrozen 1
  have HN : Hid (w.heap.size ≤ b2 ∧ HMac g (w2.setCell ⟨b, 1, none⟩ (.iface (tyD g) (.agg #[.pointer (some ⟨b2, 0, none⟩)]))) b b2 bo bf k ((HA g).inner k) ∧ Only (fun x => x = b) w (w2.setCell ⟨b, 1, none⟩ (.iface (tyD g) (.agg #[.pointer (some ⟨b2, 0, none⟩)])))) := by
    have l1 := H.out.blk.lt
    have l2 := H.out.out.lt
    have l3 := H.out.fst.lt
    have n2 := H.out.n2
    have n3 := H.out.n3
    have O : Only (fun x => x = b) w2 (w2.setCell ⟨b, 1, none⟩ (.iface (tyD g) (.agg #[.pointer (some ⟨b2, 0, none⟩)]))) := (Only.refl (fun x => x = b) w2).set (p := ⟨b, 1, none⟩) (.inl rfl) _
    exact Lib.hid ⟨r1, ⟨HM2.out.set 1 _, r2.only O (by omega), (H.out.out.below r3 l2).only O (by omega), (H.out.fst.below r3 l3).only O (by omega), by omega, n2, n3, by omega, by omega⟩, (Only.of_below r3 _).trans O (fun x hx => .inl hx)⟩
  clear r1 r2 r3 c3 hm hcC
  go_wp2_with fail
  go_ret
  exact ⟨b2, rfl, HN.out⟩
set_option maxHeartbeats 1000000 in
theorem htag_any (g : Bool) (w : World) (u v : Value) (k m : List UInt8) (hu : Bs w u k) (hv : Bs w v m) (hk : k.length ≤ 1152921504606846976) (hm : m.length ≤ 1000000000000000000) :
    Calls Try.prog 7 #[.pointer none, .int .u8 (algN g), u, v] w (NewBytesE ((HA g).tag k m) w) := by
  have H1 := Lib.hid (hnew_any g w u k hu hk)
  have HV := Lib.hid hv
  have HVI := Lib.hid hv.inside
  have HML := Lib.hid hm
  clear hu hv hm
  go_enter Try.func7, Try.ntmps7
  go_wp2_with fail
  refine H1.out.mono ?_
  rintro e w1 ⟨b, bi, bo, bf, rfl, p1, p2, p3, p4, p5, p6⟩
  have HB1 := Lib.hid p6
  have HL := Lib.hid p2
  have HW := Lib.hid (hwrite_any g w1 b bi bo bf k _ v m p5 (HV.out.grow p6) (fun h0 x hx => by have := HVI.out h0 x hx; omega) (by rw [inner_n]; have := HML.out; have := bkN_le g; omega))
  clear p1 p2 p3 p4 p5 p6
  go_wp2_with fail
  refine HW.out.mono ?_
  rintro e w2 ⟨rfl, q1, q2⟩
  have HB2 : Hid (Below w.heap.size w w2) := Lib.hid (HB1.out.trans (q2.below0 (fun x hx => by have := HL.out; omega) HB1.out.size))
  have HS := Lib.hid (hsum_any g w2 b bi bo bf k _ q1 (by rw [HashF.feed_n, inner_n]; have := HML.out; have := bkN_le g; omega))
  clear q1 q2
  go_wp2_with fail
  refine HS.out.mono ?_
  rintro e w3 ⟨v3, rfl, q1, q2, q3⟩
  have HN : Hid (NewBytesE ((HA g).tag k m) w (.returned (.tuple #[v3, .int .i64 0])) w3) := Lib.hid ⟨v3, rfl, q1, HB2.out.trans (q2.mono HB2.out.size), fun x hx => Nat.le_trans HB2.out.size (q3 x hx)⟩
  clear q1 q2 q3
  go_wp2_with fail
  go_ret2
  exact HN.out
end Go.Proofs.Ytideobdggdmeiaa
