/- The pivot that the sort of a row of runs chooses. -/
import Derived.Test.YtfielodchoghlaaRows
import Derived.Test.YtfielodchoghlaaSrt
import Derived.Test.YtfielodchoghlaaHeld
import Derived.Deep.Cut
namespace Go.Proofs.Ytfielodchoghlaa
open Go.RowKit Go.Lib
set_option maxRecDepth 100000
set_option linter.unusedVariables false
set_option linter.unusedSimpArgs false
/-- a world of the choice: the counter in block C holds s -/
structure Pv (w0 : World) (b : Nat) (d : Array Rn) (C : Nat) (s : Nat) (W : World) : Prop where
  sq : SQ w0 b d W
  lt : C < W.heap.size
  new : w0.heap.size ≤ C
  c : W.cell? ⟨C, 0, none⟩ = some (.int .i64 (s : Int))
  fz : W.frozen? ⟨C, 0, none⟩ = false
/-- all that lay stays as it was, but the counter -/
structure Keep (C : Nat) (W W' : World) : Prop where
  size : W.heap.size ≤ W'.heap.size
  cell : ∀ a : Addr, a.block < W.heap.size → a.block ≠ C → W'.cell? a = W.cell? a
theorem Keep.refl (C : Nat) (W : World) : Keep C W W := ⟨Nat.le_refl _, fun _ _ _ => rfl⟩
theorem Keep.trans {C : Nat} {W W1 W2 : World} (h : Keep C W W1) (k : Keep C W1 W2) : Keep C W W2 :=
  ⟨Nat.le_trans h.size k.size, fun a ha hn => (k.cell a (Nat.lt_of_lt_of_le ha h.size) hn).trans (h.cell a ha hn)⟩
theorem Keep.below {C : Nat} {W W1 : World} (h : Below W.heap.size W W1) : Keep C W W1 := ⟨h.size, fun a ha _ => h.cell ha⟩
theorem Keep.set {C : Nat} (W : World) (v : Value) : Keep C W (W.setCell ⟨C, 0, none⟩ v) := by
  refine ⟨by simp, fun a ha hn => World.cell?_setCell_other _ _ _ _ (fun e => hn (by rw [← e]))⟩
section
variable {w0 W W1 : World} {b C s : Nat} {d : Array Rn}
theorem Pv.below (h : Pv w0 b d C s W) (hb : Below W.heap.size W W1) : Pv w0 b d C s W1 :=
  ⟨h.sq.below hb, Nat.lt_of_lt_of_le h.lt hb.size, h.new, (hb.cell (p := ⟨C, 0, none⟩) h.lt).trans h.c, (hb.frozen (p := ⟨C, 0, none⟩) h.lt).trans h.fz⟩
theorem Pv.set (h : Pv w0 b d C s W) (n : Nat) : Pv w0 b d C n (W.setCell ⟨C, 0, none⟩ (.int .i64 (n : Int))) := by
  refine ⟨h.sq.setNew h.new _, by have := h.lt; simpa using this, h.new, ?_, ?_⟩
  · exact World.cell?_setCell_same _ _ _ h.c
  · have := h.fz
    simpa using this
end
section
variable {g : Nat} {lb : Array Value} {sf : Nat} {sb : Array Value} {b : Nat} {d : Array Rn} {w0 W : World} {C s : Nat}
set_option maxHeartbeats 2000000 in
theorem order2_any (h : CS g lb sf sb b d w0) (p : Pv w0 b d C s W) (x y : Nat) (hx : x < d.size) (hy : y < d.size) (hs : s < 1000) :
    Calls Try.prog 76 #[boxV g lb sf sb, .int .i64 x, .int .i64 y, .pointer (some ⟨C, 0, none⟩)] W fun e W' =>
      e = .returned (.tuple #[.int .i64 ((Sort.order2 ltR d x y s).1 : Int), .int .i64 ((Sort.order2 ltR d x y s).2.1 : Int)]) ∧ Pv w0 b d C (Sort.order2 ltR d x y s).2.2 W' ∧ Keep C W W' := by
  have hb1 : Below W.heap.size W (W.alloc (.cells #[.func (.func g) #[] lb, .func (.func sf) #[] sb] 82)) := (Below.refl _ _).alloc (Nat.le_refl _) _
  have HP := Lib.hid (p.below hb1)
  have HK := Lib.hid (Keep.below (C := C) hb1)
  have hl := h.less d _ (p.below hb1).sq rfl y x hy hx
  have eg := h.eg
  have hsz := h.sz
  have q0 : (W.alloc (.cells #[.func (.func g) #[] lb, .func (.func sf) #[] sb] 82)).cell? ⟨W.heap.size, 0, none⟩ = some (.func (.func g) #[] lb) := by simp
  unfold boxV
  clear h p hb1
  obtain ⟨lv, hlv⟩ : ∃ v, ltR d[y]! d[x]! = v := ⟨_, rfl⟩
  rw [hlv] at hl
  have HL := Lib.hid hl
  clear hl
  unfold Sort.order2
  rw [hlv]
  clear hlv
  obtain ⟨B, hB⟩ : ∃ B, W.heap.size = B := ⟨_, rfl⟩
  obtain ⟨w1, hw1⟩ : ∃ y, W.alloc (.cells #[.func (.func g) #[] lb, .func (.func sf) #[] sb] 82) = y := ⟨_, rfl⟩
  go_enter Try.func76, Try.ntmps76
  go_upto_region 1 with fail
  rw [hw1] at HP HK HL q0
  rw [hB] at q0
  try rw [hw1]
  try rw [hB]
  clear hw1 hB
  go_wp2_with fail
  refine HL.out.mono ?_
  rintro e w2 ⟨rfl, hb2⟩
  have HP2 := Lib.hid (HP.out.below hb2)
  have HK2 := Lib.hid (HK.out.trans (Keep.below hb2))
  clear hb2 HL HP HK q0
  have k0 := HP2.out.c
  have k1 := HP2.out.fz
  cases lv with
  | true =>
    go_wp2_with fail
    (try simp only [Exit.inBlock, Exit.then])
    exact bodyPost_ret (v := .tuple #[.int .i64 (y : Int), .int .i64 (x : Int)]) (by simp [results, Try.results76, go_sem]) rfl ⟨rfl, HP2.out.set (s + 1), HK2.out.trans (Keep.set _ _)⟩
  | false =>
    go_wp2_with fail
    (try simp only [Exit.inBlock, Exit.then])
    exact bodyPost_ret (v := .tuple #[.int .i64 (x : Int), .int .i64 (y : Int)]) (by simp [results, Try.results76, go_sem]) rfl ⟨rfl, HP2.out, HK2.out⟩
theorem order2_mem (x y s : Nat) : ((Sort.order2 ltR d x y s).1 = x ∧ (Sort.order2 ltR d x y s).2.1 = y ∧ (Sort.order2 ltR d x y s).2.2 = s) ∨ ((Sort.order2 ltR d x y s).1 = y ∧ (Sort.order2 ltR d x y s).2.1 = x ∧ (Sort.order2 ltR d x y s).2.2 = s + 1) := by
  unfold Sort.order2
  split
  · exact .inr ⟨rfl, rfl, rfl⟩
  · exact .inl ⟨rfl, rfl, rfl⟩
set_option maxHeartbeats 2000000 in
theorem median_any (h : CS g lb sf sb b d w0) (p : Pv w0 b d C s W) (x y z : Nat) (hx : x < d.size) (hy : y < d.size) (hz : z < d.size) (hs : s < 900) :
    Calls Try.prog 75 #[boxV g lb sf sb, .int .i64 x, .int .i64 y, .int .i64 z, .pointer (some ⟨C, 0, none⟩)] W fun e W' =>
      e = .returned (.int .i64 ((Sort.median ltR d x y z s).1 : Int)) ∧ Pv w0 b d C (Sort.median ltR d x y z s).2 W' ∧ Keep C W W' := by
  have hb1 : Below W.heap.size W (W.alloc (.cells #[.func (.func g) #[] lb, .func (.func sf) #[] sb] 82)) := (Below.refl _ _).alloc (Nat.le_refl _) _
  have HP := Lib.hid (p.below hb1)
  have HK := Lib.hid (Keep.below (C := C) hb1)
  have HCS := Lib.hid h
  have q0 : (W.alloc (.cells #[.func (.func g) #[] lb, .func (.func sf) #[] sb] 82)).cell? ⟨W.heap.size, 0, none⟩ = some (.func (.func g) #[] lb) := by simp
  have q1 : (W.alloc (.cells #[.func (.func g) #[] lb, .func (.func sf) #[] sb] 82)).cell? ⟨W.heap.size, 1, none⟩ = some (.func (.func sf) #[] sb) := by simp
  have hB1 : W.heap.size < (W.alloc (.cells #[.func (.func g) #[] lb, .func (.func sf) #[] sb] 82)).heap.size := by
    show W.heap.size < (W.heap.push _).size
    simp
  have hB2 : W.heap.size ≠ C := by have := p.lt; omega
  unfold boxV
  clear h p hb1
  have m1 := order2_mem (d := d) x y s
  have ha := order2_any HCS.out HP.out x y hx hy (by omega)
  unfold Sort.median
  dsimp only
  obtain ⟨⟨x1, y1, s1⟩, hr1⟩ : ∃ r, Sort.order2 ltR d x y s = r := ⟨_, rfl⟩
  rw [hr1] at ha m1
  rw [hr1]
  dsimp only at ha m1 ⊢
  obtain ⟨⟨y2, z2, s2⟩, hr2⟩ : ∃ r, Sort.order2 ltR d y1 z s1 = r := ⟨_, rfl⟩
  have m2 := order2_mem (d := d) y1 z s1
  rw [hr2] at m2
  rw [hr2]
  dsimp only at m2 ⊢
  obtain ⟨⟨x3, y3, s3⟩, hr3⟩ : ∃ r, Sort.order2 ltR d x1 y2 s2 = r := ⟨_, rfl⟩
  rw [hr3]
  dsimp only
  have HR2 := Lib.hid hr2
  have HR3 := Lib.hid hr3
  unfold boxV at ha
  have HA := Lib.hid ha
  have M := Lib.hid (And.intro m1 m2)
  clear ha hr1 hr2 hr3 m1 m2
  obtain ⟨B, hB⟩ : ∃ B, W.heap.size = B := ⟨_, rfl⟩
  obtain ⟨w1, hw1⟩ : ∃ y, W.alloc (.cells #[.func (.func g) #[] lb, .func (.func sf) #[] sb] 82) = y := ⟨_, rfl⟩
  go_enter Try.func75, Try.ntmps75
  go_upto_region 1 with fail
  rw [hw1] at HP HK HA q0 q1 hB1
  rw [hB] at q0 q1 hB1 hB2
  try rw [hw1]
  try rw [hB]
  clear hw1 hB
  have HB := Lib.hid (And.intro hB1 hB2)
  clear hB1 hB2
  go_wp2_with fail
  refine HA.out.mono ?_
  rintro e w2 ⟨rfl, hp2, hk2⟩
  have q0 := (hk2.cell ⟨B, 0, none⟩ HB.out.1 HB.out.2).trans q0
  have q1 := (hk2.cell ⟨B, 1, none⟩ HB.out.1 HB.out.2).trans q1
  have HB := Lib.hid (And.intro (Nat.lt_of_lt_of_le HB.out.1 hk2.size) HB.out.2)
  have HP2 := Lib.hid hp2
  have HK2 := Lib.hid (HK.out.trans hk2)
  clear hp2 hk2 HA HP HK
  have hb := order2_any HCS.out HP2.out y1 z (by have := M.out; omega) hz (by have := M.out; omega)
  rw [HR2.out] at hb
  unfold boxV at hb
  dsimp only at hb
  have HA := Lib.hid hb
  clear hb
  go_wp2_with fail
  refine HA.out.mono ?_
  rintro e w3 ⟨rfl, hp3, hk3⟩
  have q0 := (hk3.cell ⟨B, 0, none⟩ HB.out.1 HB.out.2).trans q0
  have q1 := (hk3.cell ⟨B, 1, none⟩ HB.out.1 HB.out.2).trans q1
  have HP3 := Lib.hid hp3
  have HK3 := Lib.hid (HK2.out.trans hk3)
  clear hp3 hk3 HA HP2 HK2 HB
  have hc := order2_any HCS.out HP3.out x1 y2 (by have := M.out; omega) (by have := M.out; omega) (by have := M.out; omega)
  rw [HR3.out] at hc
  unfold boxV at hc
  dsimp only at hc
  have HA := Lib.hid hc
  clear hc
  go_wp2_with fail
  refine HA.out.mono ?_
  rintro e w4 ⟨rfl, hp4, hk4⟩
  have HP4 := Lib.hid hp4
  have HK4 := Lib.hid (HK3.out.trans hk4)
  clear hp4 hk4 HA HP3 HK3 q0 q1
  go_wp2_with fail
  go_ret
  exact ⟨rfl, HP4.out, HK4.out⟩
theorem median_mem (x y z s : Nat) : ((Sort.median ltR d x y z s).1 = x ∨ (Sort.median ltR d x y z s).1 = y ∨ (Sort.median ltR d x y z s).1 = z) ∧ (Sort.median ltR d x y z s).2 ≤ s + 3 := by
  unfold Sort.median
  dsimp only
  have m1 := order2_mem (d := d) x y s
  have m2 := order2_mem (d := d) (Sort.order2 ltR d x y s).2.1 z (Sort.order2 ltR d x y s).2.2
  have m3 := order2_mem (d := d) (Sort.order2 ltR d x y s).1 (Sort.order2 ltR d (Sort.order2 ltR d x y s).2.1 z (Sort.order2 ltR d x y s).2.2).1 (Sort.order2 ltR d (Sort.order2 ltR d x y s).2.1 z (Sort.order2 ltR d x y s).2.2).2.2
  omega
set_option maxHeartbeats 2000000 in
theorem medianAdj_any (h : CS g lb sf sb b d w0) (p : Pv w0 b d C s W) (x : Nat) (hx : 1 ≤ x) (hx2 : x + 1 < d.size) (hs : s < 900) :
    Calls Try.prog 74 #[boxV g lb sf sb, .int .i64 x, .pointer (some ⟨C, 0, none⟩)] W fun e W' =>
      e = .returned (.int .i64 ((Sort.medianAdjacent ltR d x s).1 : Int)) ∧ Pv w0 b d C (Sort.medianAdjacent ltR d x s).2 W' ∧ Keep C W W' := by
  have hb1 : Below W.heap.size W (W.alloc (.cells #[.func (.func g) #[] lb, .func (.func sf) #[] sb] 82)) := (Below.refl _ _).alloc (Nat.le_refl _) _
  have HK := Lib.hid (Keep.below (C := C) hb1)
  have hm := median_any h (p.below hb1) (x - 1) x (x + 1) (by omega) (by omega) hx2 hs
  rw [show (((x - 1 : Nat)) : Int) = (x : Int) - 1 by omega, show (((x + 1 : Nat)) : Int) = (x : Int) + 1 by omega] at hm
  have hsz := h.sz
  have q0 : (W.alloc (.cells #[.func (.func g) #[] lb, .func (.func sf) #[] sb] 82)).cell? ⟨W.heap.size, 0, none⟩ = some (.func (.func g) #[] lb) := by simp
  have q1 : (W.alloc (.cells #[.func (.func g) #[] lb, .func (.func sf) #[] sb] 82)).cell? ⟨W.heap.size, 1, none⟩ = some (.func (.func sf) #[] sb) := by simp
  unfold boxV at *
  clear h p hb1
  unfold Sort.medianAdjacent
  obtain ⟨⟨rv, rs⟩, hr⟩ : ∃ r, Sort.median ltR d (x - 1) x (x + 1) s = r := ⟨_, rfl⟩
  rw [hr] at hm
  rw [hr]
  dsimp only at hm ⊢
  have HM := Lib.hid hm
  clear hm hr
  obtain ⟨B, hB⟩ : ∃ B, W.heap.size = B := ⟨_, rfl⟩
  obtain ⟨w1, hw1⟩ : ∃ y, W.alloc (.cells #[.func (.func g) #[] lb, .func (.func sf) #[] sb] 82) = y := ⟨_, rfl⟩
  go_enter Try.func74, Try.ntmps74
  go_upto_region 1 with fail
  rw [hw1] at HM HK q0 q1
  rw [hB] at q0 q1
  try rw [hw1]
  try rw [hB]
  clear hw1 hB
  go_wp2_with fail
  refine HM.out.mono ?_
  rintro e w2 ⟨rfl, hp2, hk2⟩
  have HP2 := Lib.hid hp2
  have HK2 := Lib.hid (HK.out.trans hk2)
  clear hp2 hk2 HM HK q0 q1
  go_wp2_with fail
  go_ret
  exact ⟨rfl, HP2.out, HK2.out⟩
end
end Go.Proofs.Ytfielodchoghlaa
