/- PBKDF2: Key. -/
import Derived.Test.YtideobdggdmeiaaPblk
namespace Go.Proofs.Ytideobdggdmeiaa
open Go.RowKit
set_option maxRecDepth 100000
set_option linter.unusedVariables false
set_option linter.unusedSimpArgs false
def pbAll (g : Bool) (k salt : List UInt8) (c : Nat) : Nat → List UInt8
  | 0 => []
  | j + 1 => pbAll g k salt c j ++ pbT g k salt ((j + 1 : Nat) : Int) c
theorem pbAll_len (g : Bool) (k salt : List UInt8) (c : Nat) : ∀ j, (pbAll g k salt c j).length = szN g * j
  | 0 => rfl
  | j + 1 => by rw [pbAll, List.length_append, pbAll_len g k salt c j, pbT_len, Nat.mul_add]; omega
/-- the closure's boxes -/
structure KW (A : Nat → Prop) (g : Bool) (L0 : Nat) (bI bL bM bS bC b bo bf : Nat) (k : List UInt8) (us : Value) (salt : List UInt8) (c : Nat) (i : Nat) (W : World) : Prop where
  ci : Blk W bI 42 #[.int .u32 (i : Int)]
  cl : Blk W bL 34 #[.pointer none]
  cm : Blk W bM 35 #[.pointer (some ⟨b, 0, none⟩)]
  cs : Blk W bS 22 #[us]
  cc : Blk W bC 3 #[.int .i64 ((c + 1 : Nat) : Int)]
  mac : ∃ bi s, L0 ≤ bi ∧ HMac g W b bi bo bf k s ∧ bI ≠ bi ∧ ¬ A bi
  src : Bs W us salt
  low : salt ≠ [] → ∀ x, us.ownBlock = some x → x < L0
  l0 : L0 ≤ b ∧ L0 ≤ bI
  ne : bI ≠ bL ∧ bI ≠ bM ∧ bI ≠ bS ∧ bI ≠ bC ∧ bI ≠ b ∧ bI ≠ bo ∧ bI ≠ bf
  nb : b ≠ bL ∧ b ≠ bM ∧ b ≠ bS ∧ b ≠ bC
theorem KW.below {A : Nat → Prop} {g : Bool} {L0 bI bL bM bS bC b bo bf : Nat} {k : List UInt8} {us : Value} {salt : List UInt8} {c i : Nat} {W W' : World} (h : KW A g L0 bI bL bM bS bC b bo bf k us salt c i W) (hb : Below W.heap.size W W') : KW A g L0 bI bL bM bS bC b bo bf k us salt c i W' := by
  obtain ⟨bi, s, q1, q2, q3, q4⟩ := h.mac
  exact ⟨h.ci.below hb h.ci.lt, h.cl.below hb h.cl.lt, h.cm.below hb h.cm.lt, h.cs.below hb h.cs.lt, h.cc.below hb h.cc.lt, ⟨bi, s, q1, q2.below hb, q3, q4⟩, h.src.grow hb, h.low, h.l0, h.ne, h.nb⟩
theorem wrong_any (g : Bool) (c : Nat) (hc : c < 1048576) (w : World) : Calls Try.prog 17 #[.int .u8 (algN g), .int .i64 ((c + 1 : Nat) : Int)] w fun e w' => e = .returned (.int .i64 0) ∧ w = w' := by
  have h1 : decide (((c : Int) + 1) < 1) = false := by rw [decide_eq_false_iff_not]; omega
  have h2 : decide (1048576 < ((c : Int) + 1)) = false := by rw [decide_eq_false_iff_not]; omega
  cases g
  · show Calls Try.prog 17 #[.int .u8 1, .int .i64 ((c + 1 : Nat) : Int)] w _
    go_enter Try.func17, Try.ntmps17
    go_wp2
    go_ret
    exact ⟨rfl, rfl⟩
  · show Calls Try.prog 17 #[.int .u8 2, .int .i64 ((c + 1 : Nat) : Int)] w _
    go_enter Try.func17, Try.ntmps17
    go_wp2
    go_ret
    exact ⟨rfl, rfl⟩
set_option maxHeartbeats 2000000 in
theorem key1_any (A : Nat → Prop) (g : Bool) (L0 bI bL bM bS bC b bo bf : Nat) (k : List UInt8) (us : Value) (salt : List UInt8) (c i : Nat) (W : World) (h : KW A g L0 bI bL bM bS bC b bo bf k us salt c i W) (hA : ∀ x, A x → x < W.heap.size) (hi : i < 1000000) (hc : c < 1048576) (hsl : salt.length ≤ 100000) :
    Calls Try.prog 18 #[.pointer (some ⟨bI, 0, none⟩), .pointer (some ⟨bL, 0, none⟩), .pointer (some ⟨bM, 0, none⟩), .pointer (some ⟨bS, 0, none⟩), .pointer (some ⟨bC, 0, none⟩)] W fun e W' => ∃ v, e = .returned v ∧ Bs W' v (pbT g k salt ((i + 1 : Nat) : Int) c) ∧ (∀ x, v.ownBlock = some x → W.heap.size ≤ x ∧ x < W'.heap.size) ∧ KW A g L0 bI bL bM bS bC b bo bf k us salt c (i + 1) W' ∧ Only (fun x => x = b ∨ x = bI) W W' := by
  have H := Lib.hid h
  have HSL := Lib.hid hsl
  have HA := Lib.hid hA
  have c0 : W.cell? ⟨bI, 0, none⟩ = some (.int .u32 (i : Int)) := h.ci.cellAt 0 rfl
  have f0 := h.ci.unfrozen 0
  have hw : IntKind.u32.wrap ((i : Int) + 1) = (i : Int) + 1 := by show ((i : Int) + 1) % 4294967296 = _; omega
  have HS : Hid (Only (fun x => x = bI) W (W.setCell ⟨bI, 0, none⟩ (.int .u32 ((i : Int) + 1)))) := Lib.hid ((Only.refl (fun x => x = bI) W).set (p := ⟨bI, 0, none⟩) (.inl rfl) _)
  obtain ⟨W1, hW1⟩ : ∃ y, W.setCell ⟨bI, 0, none⟩ (.int .u32 ((i : Int) + 1)) = y := ⟨_, rfl⟩
  have HW1 := Lib.hid hW1
  rw [hW1] at HS
  have H1 : Hid (KW A g L0 bI bL bM bS bC b bo bf k us salt c (i + 1) W1) := by
    obtain ⟨bi, s, q1, q2, q3, q4⟩ := h.mac
    obtain ⟨n1, n2, n3, n4, n5, n6, n7⟩ := h.ne
    refine Lib.hid ⟨?_, h.cl.only HS.out (Ne.symm n1), h.cm.only HS.out (Ne.symm n2), h.cs.only HS.out (Ne.symm n3), h.cc.only HS.out (Ne.symm n4), ⟨bi, s, q1, ⟨q2.blk.only HS.out (Ne.symm n5), q2.inn.only HS.out (Ne.symm q3), q2.out.only HS.out (Ne.symm n6), q2.fst.only HS.out (Ne.symm n7), q2.n1, q2.n2, q2.n3, q2.n4, q2.n5⟩, q3, q4⟩, h.src.onlyE HS.out (fun h0 x hx => by have := h.low h0 x hx; have := h.l0.2; omega), h.low, h.l0, h.ne, h.nb⟩
    rw [← hW1]
    exact h.ci.set 0 _
  clear h hsl hW1 hA
  go_enter Try.func18, Try.ntmps18
  go_upto_region 2 with fail
  rw [HW1.out]
  have d0 : W1.cell? ⟨bI, 0, none⟩ = some (.int .u32 ((i : Int) + 1)) := H1.out.ci.cellAt 0 rfl
  have d1 : W1.cell? ⟨bL, 0, none⟩ = some (.pointer none) := H1.out.cl.cellAt 0 rfl
  have d2 : W1.cell? ⟨bM, 0, none⟩ = some (.pointer (some ⟨b, 0, none⟩)) := H1.out.cm.cellAt 0 rfl
  have d3 : W1.cell? ⟨bS, 0, none⟩ = some us := H1.out.cs.cellAt 0 rfl
  have d4 : W1.cell? ⟨bC, 0, none⟩ = some (.int .i64 ((c : Int) + 1)) := H1.out.cc.cellAt 0 rfl
  obtain ⟨bi, s, q1, q2, q3, q4⟩ := H1.out.mac
  have HB := block_any g W1 b bi bo bf k s q2 us salt H1.out.src (fun h0 x hx => by have := H1.out.low h0 x hx; have := H1.out.l0.1; omega) HSL.out c (by omega) ((i + 1 : Nat) : Int)
  rw [show ((c + 1 : Nat) : Int) = (c : Int) + 1 from rfl] at HB
  have HBB : Hid (Calls Try.prog 19 #[.pointer none, .pointer (some ⟨b, 0, none⟩), us, .int .i64 ((c : Int) + 1), .int .u32 ((i : Int) + 1)] W1 fun e w' => ∃ v, e = .returned v ∧ MacGave g W1 b bo bf k (pbT g k salt ((i + 1 : Nat) : Int) c) v w') := Lib.hid HB
  clear HB c0 f0 hw q1 q2 q3 q4
  go_wp2_with fail
  refine HBB.out.mono ?_
  rintro e W2 ⟨v, rfl, hg⟩
  have HN : Hid (Bs W2 v (pbT g k salt ((i + 1 : Nat) : Int) c) ∧ (∀ x, v.ownBlock = some x → W.heap.size ≤ x ∧ x < W2.heap.size) ∧ KW A g L0 bI bL bM bS bC b bo bf k us salt c (i + 1) W2 ∧ Only (fun x => x = b ∨ x = bI) W W2) := by
    have h := H1.out
    obtain ⟨bi', s', r1, r2⟩ := hg.mac
    obtain ⟨n1, n2, n3, n4, n5, n6, n7⟩ := h.ne
    obtain ⟨m1, m2, m3, m4⟩ := h.nb
    have hl := HS.out.size
    have hl0 := h.l0
    have hci := h.ci.lt
    have hb := h.mac
    have hbl : b < W1.heap.size := by obtain ⟨_, _, _, q, _⟩ := hb; exact q.blk.lt
    refine Lib.hid ⟨hg.rd, fun x hx => ⟨Nat.le_trans hl (hg.new x hx).1, (hg.new x hx).2⟩, ⟨h.ci.only hg.only n5, h.cl.only hg.only (Ne.symm m1), h.cm.only hg.only (Ne.symm m2), h.cs.only hg.only (Ne.symm m3), h.cc.only hg.only (Ne.symm m4), ⟨bi', s', by omega, r2, by omega, fun ha => by have := HA.out _ ha; omega⟩, h.src.onlyE hg.only (fun h0 x hx => by have := h.low h0 x hx; omega), h.low, h.l0, h.ne, h.nb⟩, ?_⟩
    exact (HS.out.mono (fun x hx => .inr hx)).trans (hg.only.mono (S' := fun x => x = b ∨ x = bI) (fun x hx => .inl hx)) (fun x hx => .inl hx)
  clear hg d0 d1 d2 d3 d4
  go_wp2_with fail
  go_ret
  exact ⟨_, rfl, HN.out⟩
/-- the front of a list that is read -/
theorem Bs.front {w : World} {ao : Option Addr} {n cap : Nat} {l : List UInt8} (h : Bs w (.slice ao n cap) l) (k : Nat) (hk : k ≤ l.length) (h0 : 0 < k) : Bs w (.slice ao k k) (l.take k) := by
  obtain ⟨ao', cap', hv, h1, h2, h3, h4⟩ := h.form
  injection hv with r1 r2 r3
  subst r1
  have hl : (l.take k).length = k := by rw [List.length_take]; omega
  have hne : ao ≠ none := by
    obtain ⟨b, off, hb, _⟩ := h4 0 (by omega)
    rw [hb]
    exact fun h => by cases h
  refine ⟨⟨ao, k, by rw [hl], by rw [hl]; exact Nat.le_refl _, by omega, fun hn => absurd hn hne, ?_⟩⟩
  intro j hj
  rw [hl] at hj
  obtain ⟨b, off, hb, hc⟩ := h4 j (by omega)
  refine ⟨b, off, hb, ?_⟩
  rw [hc, List.getD_eq_getElem?_getD, List.getD_eq_getElem?_getD, List.getElem?_take_of_lt hj]
structure PKInv (g : Bool) (w : World) (L1 bI bL bM bS bC b bo bf : Nat) (k : List UInt8) (us : Value) (salt : List UInt8) (c : Nat) (j : Nat) (ov : Value) (wr : World) : Prop where
  kw : KW (fpv ov) g w.heap.size bI bL bM bS bC b bo bf k us salt c j wr
  row : OB wr ov (pbAll g k salt c j)
  hi : ∀ x, fpv ov x → L1 ≤ x
  below : Below w.heap.size w wr
  l1 : L1 ≤ wr.heap.size
theorem KW.other {A A' : Nat → Prop} {g : Bool} {L0 L1 bI bL bM bS bC b bo bf : Nat} {k : List UInt8} {us : Value} {salt : List UInt8} {c i : Nat} {W W' : World} (h : KW A g L0 bI bL bM bS bC b bo bf k us salt c i W) (ho : Only A W W') (hA : ∀ x, A x → L1 ≤ x)
    (hl : bI < L1 ∧ bL < L1 ∧ bM < L1 ∧ bS < L1 ∧ bC < L1 ∧ b < L1 ∧ bo < L1 ∧ bf < L1 ∧ L0 ≤ L1) (hA' : ∀ x, A' x → A x ∨ W.heap.size ≤ x) : KW A' g L0 bI bL bM bS bC b bo bf k us salt c i W' := by
  obtain ⟨l1, l2, l3, l4, l5, l6, l7, l8, l9⟩ := hl
  obtain ⟨bi, s, q1, q2, q3, q4⟩ := h.mac
  have key : ∀ x, x < L1 → ¬ A x := fun x hx ha => by have := hA x ha; omega
  refine ⟨h.ci.only ho (key _ l1), h.cl.only ho (key _ l2), h.cm.only ho (key _ l3), h.cs.only ho (key _ l4), h.cc.only ho (key _ l5), ⟨bi, s, q1, ⟨q2.blk.only ho (key _ l6), q2.inn.only ho q4, q2.out.only ho (key _ l7), q2.fst.only ho (key _ l8), q2.n1, q2.n2, q2.n3, q2.n4, q2.n5⟩, q3, fun ha => ?_⟩, h.src.onlyE ho (fun h0 x hx ha => by have := h.low h0 x hx; have := hA x ha; omega), h.low, h.l0, h.ne, h.nb⟩
  rcases hA' _ ha with h1 | h1
  · exact q4 h1
  · have := q2.inn.lt; omega
set_option maxHeartbeats 4000000 in
theorem pkey_any (g : Bool) (w : World) (up us : Value) (key salt : List UInt8) (hup : Bs w up key) (hus : Bs w us salt) (hkl : key.length ≤ 1000000) (hsl : salt.length ≤ 100000) (c : Nat) (hc : c < 1048576) (n : Nat) (hn0 : 0 < n) (hn : n ≤ 16320) :
    Calls Try.prog 10 #[.pointer none, .int .u8 (algN g), up, us, .int .i64 ((c : Int) + 1), .int .i64 (n : Int)] w fun e w' => ∃ v j, e = .returned (.tuple #[v, .int .i64 0]) ∧ n ≤ (pbAll g key salt c j).length ∧ Bs w' v ((pbAll g key salt c j).take n) ∧ Below w.heap.size w w' := by
  have HUP := Lib.hid hup
  have HUS := Lib.hid hus
  have HUI := Lib.hid hus.inside
  have HKL := Lib.hid hkl
  have HSL := Lib.hid hsl
  obtain ⟨ao, cap, rfl, hform⟩ := hus.form
  have HW := Lib.hid (wrong_any g c hc)
  rw [show ((c + 1 : Nat) : Int) = (c : Int) + 1 from rfl] at HW
  clear hup hus hkl hsl hform
  go_enter Try.func10, Try.ntmps10
  go_wp2_with fail
  obtain ⟨bL, hbL⟩ : ∃ x, w.heap.size = x := ⟨_, rfl⟩
  have HL : Hid (w.heap.size = bL) := hbL
  rw [hbL, show bL + 1 + 1 = bL + 2 from rfl]
  obtain ⟨w1, hw1⟩ : ∃ y, ((w.alloc (.cells #[.pointer none] 34)).alloc (.cells #[.slice ao salt.length cap] 22)).alloc (.cells #[.int .i64 ((c : Int) + 1)] 3) = y := ⟨_, rfl⟩
  have H1 : Hid (Below w.heap.size w w1 ∧ Blk w1 bL 34 #[.pointer none] ∧ Blk w1 (bL + 1) 22 #[.slice ao salt.length cap] ∧ Blk w1 (bL + 2) 3 #[.int .i64 ((c : Int) + 1)] ∧ bL + 2 < w1.heap.size) := by
    have e1 : (w.alloc (.cells #[.pointer none] 34)).heap.size = bL + 1 := by simp [hbL]
    have e2 : ((w.alloc (.cells #[.pointer none] 34)).alloc (.cells #[.slice ao salt.length cap] 22)).heap.size = bL + 2 := by simp [hbL]
    have h3 : Blk w1 (bL + 2) 3 #[.int .i64 ((c : Int) + 1)] := by rw [← hw1]; exact Blk.at e2.symm rfl
    refine Lib.hid ⟨?_, ?_, ?_, h3, h3.lt⟩
    · rw [← hw1]; exact (((Below.refl _ w).alloc (Nat.le_refl _) _).alloc (by omega) _).alloc (by omega) _
    · rw [← hw1]; exact ((Blk.at hbL.symm rfl).alloc _).alloc _
    · rw [← hw1]; exact (Blk.at e1.symm rfl).alloc _
  rw [hw1]
  clear hw1 hbL
  refine (HW.out w1).mono ?_
  rintro e w1' ⟨rfl, rfl⟩
  have d1 : w1.cell? ⟨bL, 0, none⟩ = some (.pointer none) := H1.out.2.1.cellAt 0 rfl
  have t1 : decide ((n : Int) < 0) = false := by rw [decide_eq_false_iff_not]; omega
  have t2 : decide ((16320 : Int) < (n : Int)) = false := by rw [decide_eq_false_iff_not]; omega
  go_wp2_with fail
  refine (hnew_any g w1 up key (HUP.out.grow H1.out.1) (by have := HKL.out; omega)).mono ?_
  rintro e w2 ⟨b, bi, bo, bf, rfl, p1, p2, p3, p4, p5, p6⟩
  have HM := Lib.hid p5
  have HB2 := Lib.hid p6
  have HP := Lib.hid (And.intro p1 (And.intro p2 (And.intro p3 p4)))
  clear p1 p2 p3 p4 p5 p6 d1 t1 t2 HW
  go_wp2_with fail
  obtain ⟨bM, hbM⟩ : ∃ x, w2.heap.size = x := ⟨_, rfl⟩
  obtain ⟨bI, hbI⟩ : ∃ x, bM + 1 = x := ⟨_, rfl⟩
  obtain ⟨w3, hw3⟩ : ∃ y, (w2.alloc (.cells #[.pointer (some ⟨b, 0, none⟩)] 35)).alloc (.cells #[.int .u32 0] 42) = y := ⟨_, rfl⟩
  obtain ⟨L1, hL1⟩ : ∃ x, w3.heap.size = x := ⟨_, rfl⟩
  have HLL : Hid (bI < L1 ∧ bL < L1 ∧ bM < L1 ∧ bL + 1 < L1 ∧ bL + 2 < L1 ∧ b < L1 ∧ bo < L1 ∧ bf < L1 ∧ w.heap.size ≤ L1 ∧ L1 ≤ w3.heap.size) := by
    have e1 : w3.heap.size = w2.heap.size + 2 := by rw [← hw3]; simp
    have h1 := H1.out.2.2.2.2
    have h2 := HB2.out.size
    have h3 := HM.out.blk.lt
    have h4 := HM.out.out.lt
    have h5 := HM.out.fst.lt
    have h6 := HL.out
    exact Lib.hid (by omega)
  have HI : Hid (PKInv g w L1 bI bL bM (bL + 1) (bL + 2) b bo bf key (.slice ao salt.length cap) salt c 0 (.slice none 0 0) w3) := by
    have e1 : (w2.alloc (.cells #[.pointer (some ⟨b, 0, none⟩)] 35)).heap.size = bI := by simp [hbM, hbI]
    have B3 : Below w2.heap.size w2 w3 := by rw [← hw3]; exact ((Below.refl _ w2).alloc (Nat.le_refl _) _).alloc (by simp) _
    have B13 : Below w1.heap.size w1 w3 := HB2.out.trans (B3.mono HB2.out.size)
    have hm := HM.out
    have h1 := H1.out
    obtain ⟨p1, p2, p3, p4⟩ := HP.out
    have hbL := HL.out
    have l2 := h1.2.2.2.2
    have m1 := hm.blk.lt
    have m2 := hm.inn.lt
    have m3 := hm.out.lt
    have m4 := hm.fst.lt
    have BB : Below w.heap.size w w3 := h1.1.trans (B13.mono h1.1.size)
    refine Lib.hid ⟨⟨?_, h1.2.1.below B13 (by omega), ?_, h1.2.2.1.below B13 (by omega), h1.2.2.2.1.below B13 (by omega), ⟨bi, _, by omega, hm.below B3, by omega, fun h => by simp [fpv, Value.ownBlock] at h⟩, HUS.out.grow BB, HUI.out, by omega, by omega, by omega⟩, OB.nil _, fun x hx => by simp [fpv, Value.ownBlock] at hx, BB, HLL.out.2.2.2.2.2.2.2.2.2⟩
    · rw [← hw3]; exact Blk.at e1.symm rfl
    · rw [← hw3, ← hbM]; exact (Blk.new _ _ _).alloc _
  rw [hbM, hbI, hw3]
  clear hbM hbI hw3 hL1 HM HB2 HP H1 HUP HKL HUS HUI HL
  obtain ⟨i0, hi, hz0, hz1, hz2⟩ := info_parts info8
  have HI8 := Lib.hid (And.intro hi (And.intro hz0 (And.intro hz1 hz2)))
  clear hi hz0 hz1 hz2
  obtain ⟨sz, hsz⟩ : ∃ sz, szN g = sz := ⟨_, rfl⟩
  have HSZ : Hid (szN g = sz) := hsz
  have hsz1 : 32 ≤ sz ∧ sz ≤ 64 := by rw [← hsz]; cases g <;> decide
  clear hsz
  go_loopw [19] (fun ov wr => ∃ j : Nat, Hid (PKInv g w L1 bI bL bM (bL + 1) (bL + 2) b bo bf key (.slice ao salt.length cap) salt c j ov wr) ∧ Hid (sz * j ≤ n + sz)) (fun ov _ => n + 100 - (match ov with | .slice _ m _ => m | _ => 0))
  case atStart => exact ⟨0, HI, Lib.hid (by omega)⟩
  case round =>
    clear HI
    obtain ⟨j, HI, HJ⟩ := hrel
    obtain ⟨oa, ocap, rfl⟩ := HI.out.row.any
    have hlen : (pbAll g key salt c j).length = sz * j := by rw [pbAll_len, HSZ.out]
    obtain ⟨m, hm⟩ : ∃ m, sz * j = m := ⟨_, rfl⟩
    rw [hm] at hlen HJ
    rw [hlen] at HI ⊢
    have HLEN := Lib.hid hlen
    have HM := Lib.hid hm
    clear hlen hm
    by_cases hlt : m < n
    · have hj1 : j < 1000000 := by
        rcases Nat.lt_or_ge j 1000000 with h | h
        · exact h
        · have h1 := HM.out
          have h2 : sz * 1000000 ≤ sz * j := Nat.mul_le_mul_left _ h
          omega
      have HK := Lib.hid (key1_any (fpv (.slice oa m ocap)) g w.heap.size bI bL bM (bL + 1) (bL + 2) b bo bf key _ salt c j wr HI.out.kw HI.out.row.lt hj1 hc HSL.out)
      have hlt2 : (m : Int) < (n : Int) := by omega
      have HLT := Lib.hid hlt
      clear hlt hj1
      go_wp2_with fail
      refine HK.out.mono ?_
      rintro e w4 ⟨v4, rfl, q1, q2, q3, q4⟩
      have HV := Lib.hid q1
      have HQ2 := Lib.hid q2
      have HQ3 := Lib.hid q3
      have HQ4 := Lib.hid q4
      have hy := Sl.of_bytes q1
      rw [pbT_len, HSZ.out] at hy
      obtain ⟨a4, c4, rfl, _⟩ := q1.form
      rw [pbT_len, HSZ.out] at hy HV HQ2 ⊢
      have hown : w4.ownsRow 0 5 1 (.slice oa m ocap) m ((pbAll g key salt c j).map B) := by
        have h := HI.out.row.keep q4 (fun x hx hh => by
          have h1 := HI.out.hi x hx
          have h2 := HLL.out
          omega)
        unfold OB at h
        rw [HLEN.out] at h
        exact h
      have hbd : Hid (m + sz ≤ 20000) := Lib.hid (by have := HLT.out; omega)
      have hbd1 : m + sz ≤ maxLen := by unfold maxLen; have := hbd.out; omega
      have hbd2 : (m + sz) * 1 ≤ 140737488355328 := by have := hbd.out; omega
      obtain ⟨hi, hz0, hz1, hz2⟩ := HI8.out
      clear q1 q2 q3 q4 hlt2
      go_wp2_with (at_builtin; refine wpList_append_sl _ rfl _ _ 22 rfl 5 i0 _ 1 1 Try.underlying22 hi hz0 hz1 hz2 rfl (by decide) (.slice oa m ocap) m ((pbAll g key salt c j).map B) rfl hown (.slice a4 sz c4) sz ((pbT g key salt ((j + 1 : Nat) : Int) c).map B) rfl hy hbd1 hbd2 ?_)
      intro v' w5 hown5 hgrow hat hnn
      have HN : Hid (PKInv g w L1 bI bL bM (bL + 1) (bL + 2) b bo bf key (.slice ao salt.length cap) salt c (j + 1) v' w5) := by
        have ho : Only (fpv (.slice oa m ocap)) w4 w5 := (Only.refl _ w4).grown hgrow (fun k hk => .inl hk)
        obtain ⟨l1, l2, l3, l4, l5, l6, l7, l8, l9, l10⟩ := HLL.out
        have hs := HQ4.out.size
        have hL := HI.out.below.size
        have hl0 := HI.out.kw.l0
        have b4 : Below w.heap.size w w4 := HI.out.below.trans (HQ4.out.below0 (fun x hx h => by omega) hL)
        have hw4 : L1 ≤ w4.heap.size := by
          have h1 := HI.out.l1
          omega
        refine Lib.hid ⟨HQ3.out.other ho HI.out.hi ⟨l1, l2, l3, l4, l5, l6, l7, l8, l9⟩ (fun x hx => ?_), ?_, fun x hx => ?_, b4.trans (ho.below0 (fun x hx h => by have := HI.out.hi x h; omega) b4.size), Nat.le_trans hw4 ho.size⟩
        · have hx' : v'.ownBlock = some x := hx
          rcases hat with hat | hat
          · rw [hat] at hx'; exact .inl hx'
          · rw [hat] at hx'; injection hx' with hx'; exact .inr (by omega)
        · unfold OB
          rw [pbAll, List.length_append, HLEN.out, pbT_len, HSZ.out, List.map_append]
          exact hown5
        · have hx' : v'.ownBlock = some x := hx
          rcases hat with hat | hat
          · rw [hat] at hx'; exact HI.out.hi x hx'
          · rw [hat] at hx'; injection hx' with hx'; omega
      clear hown hown5 hgrow hat hnn hy hi hz0 hz1 hz2 hbd1 hbd2
      obtain ⟨oa', cap', rfl⟩ := HN.out.row.any
      have HL2 : Hid ((pbAll g key salt c (j + 1)).length = m + sz) := Lib.hid (by rw [pbAll, List.length_append, HLEN.out, pbT_len, HSZ.out])
      rw [HL2.out] at HN ⊢
      go_wp2
      go_roundw
      case rel => exact ⟨j + 1, HN, Lib.hid (by rw [Nat.mul_add]; have := HM.out; have := HLT.out; omega)⟩
      case measure => have := HLT.out; show n + 100 - (m + sz) < n + 100 - m; omega
    · have hlt2 : decide ((m : Int) < (n : Int)) = false := by rw [decide_eq_false_iff_not]; omega
      have hmn : n ≤ m := by omega
      have HF : Hid (Bs wr (.slice oa n n) ((pbAll g key salt c j).take n)) := Lib.hid (HI.out.row.rd.front n (by rw [HLEN.out]; exact hmn) hn0)
      obtain ⟨ga, gcap, hga⟩ := HI.out.row.form (by rw [HLEN.out]; omega)
      have hcap : m ≤ ocap := by
        have h := HI.out.row.rd.form
        obtain ⟨_, _, hv, h1, _⟩ := h
        injection hv with _ _ h3
        rw [HLEN.out] at h1
        omega
      injection hga with r1 r2 r3
      subst r1
      have HB := Lib.hid HI.out.below
      have hnc : n ≤ ocap := by omega
      have HMN := Lib.hid hmn
      clear HI r2 r3 hmn
      go_wp2_with fail
      go_ret2
      exact ⟨_, j, rfl, by rw [HLEN.out]; exact HMN.out, HF.out, HB.out⟩
end Go.Proofs.Ytideobdggdmeiaa
