/- HKDF: the iterator over the blocks. -/
import Derived.Test.YtideobdggdmeiaaPblk
import Derived.Test.YtideobdggdmeiaaRangeW
import Derived.Shelf.Abstract
import Derived.Shelf.RegionOpen
import Derived.WalkKit
import Derived.OwnWalkIn
import Derived.TacticsInMore
import Derived.LoopNIn
import Derived.LoopIn
namespace Go.Proofs.Ytideobdggdmeiaa
open Go.RowKit
set_option maxRecDepth 100000
set_option linter.unusedVariables false
set_option linter.unusedSimpArgs false
def hkT (g : Bool) (k info : List UInt8) : Nat → List UInt8
  | 0 => []
  | j + 1 => (HA g).tag k (hkT g k info j ++ info ++ [UInt8.ofNat (j + 1)])
def hkAll (g : Bool) (k info : List UInt8) : Nat → List UInt8
  | 0 => []
  | j + 1 => hkAll g k info j ++ hkT g k info (j + 1)
theorem hkT_len (g : Bool) (k info : List UInt8) (j : Nat) : (hkT g k info (j + 1)).length = szN g := tag_len _ _ _
theorem hkAll_len (g : Bool) (k info : List UInt8) : ∀ j, (hkAll g k info j).length = szN g * j
  | 0 => rfl
  | j + 1 => by rw [hkAll, List.length_append, hkAll_len g k info j, hkT_len, Nat.mul_add]; omega
theorem hkT_le (g : Bool) (k info : List UInt8) : ∀ j, (hkT g k info j).length ≤ 64
  | 0 => by simp [hkT]
  | j + 1 => by rw [hkT_len]; exact szN_le g
/-! ### what is no cells may turn -/
/-- blocks that hold no cells -/
def NoC (S : Nat → Prop) (W : World) : Prop := ∀ x, S x → ∀ cs t f, W.heap[x]? ≠ some (.cells cs t f)
theorem Blk.keepN {S : Nat → Prop} {W W' : World} {b : Nat} {t : TypeId} {cs : Array Value} (h : Blk W b t cs) (ho : Only S W W') (hn : NoC S W) : Blk W' b t cs := h.only ho (fun hs => hn b hs _ _ _ h)
theorem StD.keepN {g : Bool} {S : Nat → Prop} {W W' : World} {b : Nat} {s : HSt} (h : StD g W b s) (ho : Only S W W') (hn : NoC S W) : StD g W' b s := by
  cases g
  · exact h.only ho (fun hs => hn b hs _ _ _ h.1)
  · exact h.only ho (fun hs => hn b hs _ _ _ h.1)
theorem HMac.keepN {g : Bool} {S : Nat → Prop} {W W' : World} {b bi bo bf : Nat} {k : List UInt8} {s : HSt} (h : HMac g W b bi bo bf k s) (ho : Only S W W') (hn : NoC S W) : HMac g W' b bi bo bf k s :=
  ⟨h.blk.keepN ho hn, h.inn.keepN ho hn, h.out.keepN ho hn, h.fst.keepN ho hn, h.n1, h.n2, h.n3, h.n4, h.n5⟩
theorem cell_cells {W : World} {a : Addr} {v : Value} (hc : W.cell? a = some v) : ∃ cs t f, W.heap[a.block]? = some (.cells cs t f) := by
  unfold World.cell? at hc
  split at hc
  · exact ⟨_, _, _, by assumption⟩
  · cases hc
theorem Bs.keepN {S : Nat → Prop} {W W' : World} {v : Value} {l : List UInt8} (h : Bs W v l) (ho : Only S W W') (hn : NoC S W) : Bs W' v l := by
  refine h.onlyE ho (fun h0 b hb hs => ?_)
  obtain ⟨ao, cap, rfl, _, _, _, h4⟩ := h.form
  obtain ⟨b2, off, rfl, hc⟩ := h4 0 (List.length_pos_iff.2 h0)
  obtain ⟨cs, t, f, hh⟩ := cell_cells hc
  have : b2 = b := by simpa [Value.ownBlock] using hb
  subst this
  exact hn _ hs _ _ _ hh
theorem OB.keepN {S : Nat → Prop} {W W' : World} {v : Value} {l : List UInt8} (h : OB W v l) (ho : Only S W W') (hn : NoC S W) : OB W' v l := by
  refine h.keep ho (fun x hx hs => ?_)
  rcases h.2 with ⟨hv, _⟩ | ⟨g, cap, cur, hv, _, hg, _⟩
  · have hx' : v.ownBlock = some x := hx
    rw [hv] at hx'
    simp [Value.ownBlock] at hx'
  · have hx' : v.ownBlock = some x := hx
    rw [hv] at hx'
    have : g = x := by simpa [Value.ownBlock] using hx'
    subst this
    exact hn _ hs _ _ _ hg
/-! ### the worlds of the loop -/
structure HF where
  g : Bool
  w0 : World
  L1 : Nat
  bm : Nat
  bl : Nat
  bI : Nat
  bn : Nat
  ob : Nat
  b : Nat
  bo : Nat
  bf : Nat
  k : List UInt8
  info : List UInt8
  ui : Value
  n : Nat
structure HF.Ok (p : HF) : Prop where
  lt : p.bm < p.L1 ∧ p.bl < p.L1 ∧ p.bI < p.L1 ∧ p.bn < p.L1 ∧ p.ob < p.L1 ∧ p.b < p.L1 ∧ p.bo < p.L1 ∧ p.bf < p.L1 ∧ p.w0.heap.size ≤ p.L1
  nb : p.b ≠ p.bm ∧ p.b ≠ p.bl ∧ p.b ≠ p.bI ∧ p.b ≠ p.bn ∧ p.b ≠ p.ob
  no : p.ob ≠ p.bm ∧ p.ob ≠ p.bl ∧ p.ob ≠ p.bI ∧ p.ob ≠ p.bn ∧ p.ob ≠ p.bo ∧ p.ob ≠ p.bf
  new : p.w0.heap.size ≤ p.b ∧ p.w0.heap.size ≤ p.ob
  low : p.info ≠ [] → ∀ x, p.ui.ownBlock = some x → x < p.w0.heap.size
  il : p.info.length ≤ 1000000
structure HSx (p : HF) (v : Value) (tl al : List UInt8) (bi : Nat) (s : HSt) (ov : Value) (W : World) : Prop where
  cm : Blk W p.bm 35 #[.pointer (some ⟨p.b, 0, none⟩)]
  cl : Blk W p.bl 34 #[.pointer none]
  ci : Blk W p.bI 22 #[p.ui]
  cn : Blk W p.bn 3 #[.int .i64 (p.n : Int)]
  info : Bs W p.ui p.info
  t : Bs W v tl
  tn : ∀ x, v.ownBlock = some x → p.L1 ≤ x ∧ x < W.heap.size
  mac : HMac p.g W p.b bi p.bo p.bf p.k s
  ob : Blk W p.ob 22 #[ov]
  row : OB W ov al
  ap : ∀ x, fpv ov x → p.L1 ≤ x ∧ x ≠ bi ∧ v.ownBlock ≠ some x
  nb : p.ob ≠ bi
  below : Below p.w0.heap.size p.w0 W
  l1 : p.L1 ≤ W.heap.size
def HS (p : HF) (v : Value) (tl al : List UInt8) (W : World) : Prop := ∃ bi s ov, HSx p v tl al bi s ov W
theorem HSx.reset {p : HF} (hp : p.Ok) {v : Value} {tl al : List UInt8} {bi bi' : Nat} {s s' : HSt} {ov : Value} {W W' : World} (h : HSx p v tl al bi s ov W) (hm : HMac p.g W' p.b bi' p.bo p.bf p.k s') (hb : W.heap.size ≤ bi') (ho : Only (fun x => x = p.b) W W') : HSx p v tl al bi' s' ov W' := by
  obtain ⟨l1, l2, l3, l4, l5, l6, l7, l8, l9⟩ := hp.lt
  obtain ⟨n1, n2, n3, n4, n5⟩ := hp.nb
  have hn := hp.new
  have hl := h.l1
  refine ⟨h.cm.only ho (Ne.symm n1), h.cl.only ho (Ne.symm n2), h.ci.only ho (Ne.symm n3), h.cn.only ho (Ne.symm n4), h.info.onlyE ho (fun h0 x hx => by have := hp.low h0 x hx; omega), h.t.onlyE ho (fun _ x hx => by have := h.tn x hx; omega), fun x hx => ⟨(h.tn x hx).1, Nat.lt_of_lt_of_le (h.tn x hx).2 ho.size⟩, hm, h.ob.only ho (Ne.symm n5), h.row.keep ho (fun x hx => by have := (h.ap x hx).1; omega), fun x hx => ⟨(h.ap x hx).1, ?_, (h.ap x hx).2.2⟩, by omega, h.below.trans (ho.below0 (fun x hx => by omega) h.below.size), Nat.le_trans h.l1 ho.size⟩
  have := h.row.lt x hx
  omega
theorem HSx.write {p : HF} (hp : p.Ok) {v : Value} {tl al : List UInt8} {bi : Nat} {s s' : HSt} {ov : Value} {W W' : World} (h : HSx p v tl al bi s ov W) (hm : HMac p.g W' p.b bi p.bo p.bf p.k s') (hb : p.L1 ≤ bi) (hv : ∀ x, v.ownBlock = some x → x ≠ bi) (ho : Only (fun x => x = bi) W W') : HSx p v tl al bi s' ov W' := by
  obtain ⟨l1, l2, l3, l4, l5, l6, l7, l8, l9⟩ := hp.lt
  refine ⟨h.cm.only ho (by omega), h.cl.only ho (by omega), h.ci.only ho (by omega), h.cn.only ho (by omega), h.info.onlyE ho (fun h0 x hx => by have := hp.low h0 x hx; omega), h.t.onlyE ho (fun _ x hx => hv x hx), fun x hx => ⟨(h.tn x hx).1, Nat.lt_of_lt_of_le (h.tn x hx).2 ho.size⟩, hm, h.ob.only ho h.nb, h.row.keep ho (fun x hx => (h.ap x hx).2.1), h.ap, h.nb, h.below.trans (ho.below0 (fun x hx => by omega) h.below.size), Nat.le_trans h.l1 ho.size⟩
theorem HSx.grow {p : HF} {v : Value} {tl al : List UInt8} {bi : Nat} {s : HSt} {ov : Value} {W W' : World} (h : HSx p v tl al bi s ov W) (hb : Below W.heap.size W W') : HSx p v tl al bi s ov W' :=
  ⟨h.cm.below hb h.cm.lt, h.cl.below hb h.cl.lt, h.ci.below hb h.ci.lt, h.cn.below hb h.cn.lt, h.info.grow hb, h.t.grow hb, fun x hx => ⟨(h.tn x hx).1, Nat.lt_of_lt_of_le (h.tn x hx).2 hb.size⟩, h.mac.below hb, h.ob.below hb h.ob.lt, h.row.keep (Only.nothing hb) (fun _ _ h => h), h.ap, h.nb, h.below.trans (hb.mono h.below.size), Nat.le_trans h.l1 hb.size⟩
theorem HSx.told {p : HF} {v v' : Value} {tl tl' al : List UInt8} {bi : Nat} {s : HSt} {ov : Value} {W W' : World} (h : HSx p v tl al bi s ov W) (hb : Below W.heap.size W W') (hr : OB W' v' tl') (hn : ∀ x, fpv v' x → W.heap.size ≤ x) : HSx p v' tl' al bi s ov W' := by
  have k := h.grow hb
  refine ⟨k.cm, k.cl, k.ci, k.cn, k.info, hr.rd, fun x hx => ⟨Nat.le_trans h.l1 (hn x hx), hr.lt x hx⟩, k.mac, k.ob, k.row, fun x hx => ⟨(h.ap x hx).1, (h.ap x hx).2.1, fun hh => ?_⟩, k.nb, k.below, k.l1⟩
  have h1 := h.row.lt x hx
  have h2 := hn x hh
  omega
theorem HS.keepN {p : HF} {v : Value} {tl al : List UInt8} {W W' : World} (h : HS p v tl al W) {S : Nat → Prop} (ho : Only S W W') (hn : NoC S W) (hL : ∀ x, S x → p.w0.heap.size ≤ x) : HS p v tl al W' := by
  obtain ⟨bi, s, ov, h⟩ := h
  exact ⟨bi, s, ov, h.cm.keepN ho hn, h.cl.keepN ho hn, h.ci.keepN ho hn, h.cn.keepN ho hn, h.info.keepN ho hn, h.t.keepN ho hn, fun x hx => ⟨(h.tn x hx).1, Nat.lt_of_lt_of_le (h.tn x hx).2 ho.size⟩, h.mac.keepN ho hn, h.ob.keepN ho hn, h.row.keepN ho hn, h.ap, h.nb, h.below.trans (ho.below0 (fun x hx hs => by have := hL x hs; omega) h.below.size), Nat.le_trans h.l1 ho.size⟩
/-- what the loop's own book-keeping turns -/
theorem grown_noC {B : Nat} {W W' : World} {row : Option Nat} (hg : W.grownBy W' row) (hr : ∀ r, row = some r → B ≤ r ∧ ∃ o : Obj, W.heap[r]? = some o ∧ o.isCells = false) : Only (fun x => row = some x) W W' ∧ NoC (fun x => row = some x) W := by
  refine ⟨(Only.refl _ W).grown hg (fun k e => .inl e), fun x hx cs t f hh => ?_⟩
  obtain ⟨_, o, ho, hc⟩ := hr x hx
  rw [ho] at hh
  injection hh with hh
  subst hh
  cases hc
theorem HS.own {p : HF} (hL : p.w0.heap.size ≤ p.L1) (tl al : List UInt8) : OwnFrom p.L1 (fun (v : Value) W => HS p v tl al W) := by
  intro v W W' row h hg hr
  obtain ⟨ho, hn⟩ := grown_noC hg hr
  exact h.keepN ho hn (fun x hx => by have := (hr x hx).1; omega)
def HC (p : HF) (j : Nat) (v : Value) (W : World) : Prop := HS p v (hkT p.g p.k p.info j) (hkAll p.g p.k p.info j) W ∧ szN p.g * j < p.n
def HY (p : HF) (j : Nat) (v : Value) (W : World) : Prop := HS p v (hkT p.g p.k p.info (j + 1)) (hkAll p.g p.k p.info j) W ∧ szN p.g * j < p.n
theorem Bs.byte (w : World) (x : UInt8) : Bs (w.alloc (.cells #[.int .u8 (x.toNat : Int)] 5)) (.slice (some ⟨w.heap.size, 0, none⟩) 1 1) [x] :=
  ⟨some ⟨w.heap.size, 0, none⟩, 1, rfl, by simp, by omega, fun h => by simp at h, fun j hj => ⟨w.heap.size, 0, rfl, by
    obtain rfl : j = 0 := by simp at hj; omega
    exact (Blk.new w 5 #[.int .u8 (x.toNat : Int)]).cellAt 0 rfl⟩⟩
set_option maxHeartbeats 4000000 in
theorem iter_any (p : HF) (hp : p.Ok) (hn : p.n ≤ 255 * szN p.g) (w : World) (hw : w.heap.size = p.L1) (X : World → Prop) (l : Nat) (G Gx : World → Prop) (W : World) (hG : ∀ A B, G A → Only (fun x => x < w.heap.size) A B → G B) (hGx : ∀ A B, Gx A → Only (fun x => x < w.heap.size) A B → Gx B)
    (hy : ∀ j v W1, HY p j v W1 → G W1 → YieldAt Fence.wide 1 Try.prog l #[v] W1 fun e W' => (e = .returned (.bool true) ∧ HC p (j + 1) v W' ∧ G W') ∨ (e = .returned (.bool false) ∧ X W' ∧ Gx W'))
    (h0 : HC p 0 (.slice none 0 0) W) (hg0 : G W) :
    CallsIn Fence.wide 2 Try.prog 33 (#[.func (.yield l) #[] #[]] ++ #[.pointer (some ⟨p.bm, 0, none⟩), .pointer (some ⟨p.bl, 0, none⟩), .pointer (some ⟨p.bI, 0, none⟩)]) W fun e W' => (∃ v, e = .returned v) ∧ X W' ∧ Gx W' := by
  have HG := Lib.hid hG
  have HGX := Lib.hid hGx
  have HYY := Lib.hid hy
  have HP := Lib.hid hp
  have HW := Lib.hid hw
  have HN := Lib.hid hn
  have H0 : Hid (HC p 0 (.slice none 0 0) W) := Lib.hid h0
  have G0 : Hid (G W) := Lib.hid hg0
  clear hG hGx hy hp hw hn h0 hg0
  refine callsIn_of_wp Try.func33 rfl trivial ?_ rfl
  simp only [Try.ntmps33, List.size_toArray, List.length_cons, List.length_nil, Nat.reduceAdd, Nat.reduceSub, Array.replicate_succ, Array.replicate_zero, List.push_toArray, List.append_toArray, List.nil_append, List.cons_append]
  gi_wp2
  gi_loopw [5, 6] (fun tv iv wr => ∃ j : Nat, iv = .int .u8 ((j : Int) + 1) ∧ Hid (HC p j tv wr) ∧ Hid (G wr)) (fun _ iv _ => 256 - (intOf iv).toNat)
  case atStart => exact ⟨0, rfl, H0, G0⟩
  case round =>
    clear H0 G0
    obtain ⟨j, rfl, HC0, HG0⟩ := hrel
    have hj : j < 255 := by
      have h1 := HC0.out.2
      have h2 := HN.out
      rcases Nat.lt_or_ge j 255 with h | h
      · exact h
      · have h3 : szN p.g * 255 ≤ szN p.g * j := Nat.mul_le_mul_left _ h
        rw [Nat.mul_comm] at h2
        omega
    obtain ⟨bi, s, ov, hx⟩ := HC0.out.1
    have HX := Lib.hid hx
    have HLN := Lib.hid HC0.out.2
    have c1 : wr.cell? ⟨p.bm, 0, none⟩ = some (.pointer (some ⟨p.b, 0, none⟩)) := hx.cm.cellAt 0 rfl
    clear hx HC0
    gi_wp2_with fail
    refine ⟨trivial, (callsIn_wide.2 (hreset_any p.g wr p.b bi p.bo p.bf p.k s HX.out.mac)).mono ?_⟩
    rintro e w1 ⟨b1, rfl, q1, q2, q3⟩
    have HX1 : Hid (HSx p u5 (hkT p.g p.k p.info j) (hkAll p.g p.k p.info j) b1 ((HA p.g).inner p.k) ov w1) := Lib.hid (HX.out.reset HP.out q2 q1 q3)
    have O1 : Hid (Only (fun x => x = p.b) wr w1) := Lib.hid q3
    have HB1 : Hid (wr.heap.size ≤ b1) := Lib.hid q1
    have HV : Hid (∀ x, u5.ownBlock = some x → x ≠ b1) := Lib.hid fun x hx => by have := (HX.out.tn x hx).2; omega
    have HL1 : Hid (p.L1 ≤ b1) := Lib.hid (Nat.le_trans HX.out.l1 q1)
    have c1 : w1.cell? ⟨p.bm, 0, none⟩ = some (.pointer (some ⟨p.b, 0, none⟩)) := HX1.out.cm.cellAt 0 rfl
    have c2 : w1.cell? ⟨p.bl, 0, none⟩ = some (.pointer none) := HX1.out.cl.cellAt 0 rfl
    have HW1 := Lib.hid (hwrite_any p.g w1 p.b b1 p.bo p.bf p.k _ u5 _ HX1.out.mac HX1.out.t (fun _ x hx => HV.out x hx) (by rw [inner_n]; have := hkT_le p.g p.k p.info j; have := bkN_le p.g; omega))
    clear q1 q2 q3
    gi_wp2_with fail
    refine ⟨trivial, (callsIn_wide.2 HW1.out).mono ?_⟩
    rintro e w2 ⟨rfl, q1, q2⟩
    have HX2 := Lib.hid (HX1.out.write HP.out q1 HL1.out HV.out q2)
    have O2 : Hid (Only (fun x => x = p.b) wr w2) := Lib.hid (O1.out.trans q2 (fun x hx => .inr (by have := HB1.out; omega)))
    have c1 : w2.cell? ⟨p.bm, 0, none⟩ = some (.pointer (some ⟨p.b, 0, none⟩)) := HX2.out.cm.cellAt 0 rfl
    have c2 : w2.cell? ⟨p.bl, 0, none⟩ = some (.pointer none) := HX2.out.cl.cellAt 0 rfl
    have c3 : w2.cell? ⟨p.bI, 0, none⟩ = some p.ui := HX2.out.ci.cellAt 0 rfl
    have HW2 := Lib.hid (hwrite_any p.g w2 p.b b1 p.bo p.bf p.k _ p.ui _ HX2.out.mac HX2.out.info (fun h0 x hx => by have := HP.out.low h0 x hx; have := HP.out.lt; have := HL1.out; omega) (by rw [HashF.feed_n, inner_n]; have := hkT_le p.g p.k p.info j; have := bkN_le p.g; have := HP.out.il; omega))
    clear q1 q2 HW1 HX1 O1
    gi_wp2_with fail
    refine ⟨trivial, (callsIn_wide.2 HW2.out).mono ?_⟩
    rintro e w3 ⟨rfl, q1, q2⟩
    have HX3 := Lib.hid (HX2.out.write HP.out q1 HL1.out HV.out q2)
    have O3 : Hid (Only (fun x => x = p.b) wr w3) := Lib.hid (O2.out.trans q2 (fun x hx => .inr (by have := HB1.out; omega)))
    have c1 : w3.cell? ⟨p.bm, 0, none⟩ = some (.pointer (some ⟨p.b, 0, none⟩)) := HX3.out.cm.cellAt 0 rfl
    have c2 : w3.cell? ⟨p.bl, 0, none⟩ = some (.pointer none) := HX3.out.cl.cellAt 0 rfl
    have hb : (((UInt8.ofNat (j + 1)).toNat : Nat) : Int) = (j : Int) + 1 := by rw [u8_of _ (by omega)]; omega
    have HBY : Hid (Bs (w3.alloc (.cells #[.int .u8 ((j : Int) + 1)] 5)) (.slice (some ⟨w3.heap.size, 0, none⟩) 1 1) [UInt8.ofNat (j + 1)]) := by
      have h := Bs.byte w3 (UInt8.ofNat (j + 1))
      rw [hb] at h
      exact Lib.hid h
    have HB4 : Hid (Below w3.heap.size w3 (w3.alloc (.cells #[.int .u8 ((j : Int) + 1)] 5))) := Lib.hid ((Below.refl _ _).alloc (Nat.le_refl _) _)
    clear q1 q2 HW2 HX2 O2 hb c3
    gi_wp2_with fail
    obtain ⟨w4, hw4⟩ : ∃ y, w3.alloc (.cells #[.int .u8 ((j : Int) + 1)] 5) = y := ⟨_, rfl⟩
    rw [hw4] at HBY HB4 ⊢
    clear hw4
    have HX4 := Lib.hid (HX3.out.grow HB4.out)
    have HW4 := Lib.hid (hwrite_any p.g w4 p.b b1 p.bo p.bf p.k _ _ _ HX4.out.mac HBY.out (fun _ x hx => by
      have h1 : w3.heap.size = x := by simpa [Value.ownBlock] using hx
      have h2 := HX3.out.mac.inn.lt
      omega) (by rw [HashF.feed_n, HashF.feed_n, inner_n]; have := hkT_le p.g p.k p.info j; have := bkN_le p.g; have := HP.out.il; simp; omega))
    refine ⟨trivial, (callsIn_wide.2 HW4.out).mono ?_⟩
    rintro e w5 ⟨rfl, q1, q2⟩
    have HX5 := Lib.hid (HX4.out.write HP.out q1 HL1.out HV.out q2)
    have O5 : Hid (Only (fun x => x = p.b) wr w5) := Lib.hid ((O3.out.trans (Only.of_below HB4.out (fun x => x = p.b)) (fun x hx => .inl hx)).trans q2 (fun x hx => .inr (by have := HB1.out; omega)))
    have c1 : w5.cell? ⟨p.bm, 0, none⟩ = some (.pointer (some ⟨p.b, 0, none⟩)) := HX5.out.cm.cellAt 0 rfl
    have c2 : w5.cell? ⟨p.bl, 0, none⟩ = some (.pointer none) := HX5.out.cl.cellAt 0 rfl
    have HS5 := Lib.hid (hsum_any p.g w5 p.b b1 p.bo p.bf p.k _ HX5.out.mac (by rw [HashF.feed_n, HashF.feed_n, HashF.feed_n, inner_n]; have := hkT_le p.g p.k p.info j; have := bkN_le p.g; have := HP.out.il; simp; omega))
    clear q1 q2 HW4 HX4 HX3 O3 HBY HB4
    gi_wp2_with fail
    refine ⟨trivial, (callsIn_wide.2 HS5.out).mono ?_⟩
    rintro e w6 ⟨v6, rfl, q1, q2, q3⟩
    have e6 : (HA p.g).macSum p.k ((HA p.g).feed ((HA p.g).feed ((HA p.g).feed ((HA p.g).inner p.k) (hkT p.g p.k p.info j)) p.info) [UInt8.ofNat (j + 1)]) = hkT p.g p.k p.info (j + 1) := by
      rw [hkT, HashF.tag, HashF.feed_app, HashF.feed_app]
    rw [e6] at q1
    have HY6 : Hid (HY p j v6 w6) := Lib.hid ⟨⟨b1, _, ov, HX5.out.told q2 q1 q3⟩, HLN.out⟩
    have HG6 : Hid (G w6) := Lib.hid (HG.out wr w6 HG0.out ((O5.out.trans (Only.of_below q2 (fun x => x = p.b)) (fun x hx => .inl hx)).mono (fun x hx => by have := HP.out.lt; have := HW.out; omega)))
    clear q1 q2 q3 e6 c1 c2 HS5 HX5 O5 HX HG0 HB1 HV HL1
    obtain ⟨fn, tmps, assign, body, hyl, hround⟩ := HYY.out j v6 w6 HY6.out HG6.out
    have HR := Lib.hid hround
    clear hround HY6 HG6
    gi_wp2_with fail
    refine HR.out.mono ?_
    rintro e W3 (⟨rfl, hc, hg⟩ | ⟨rfl, hx, hgx⟩)
    · have hj1 : j + 1 < 255 := by
        have h1 := hc.2
        have h2 := HN.out
        rcases Nat.lt_or_ge (j + 1) 255 with h | h
        · exact h
        · have h3 : szN p.g * 255 ≤ szN p.g * (j + 1) := Nat.mul_le_mul_left _ h
          rw [Nat.mul_comm] at h2
          omega
      have HC1 := Lib.hid hc
      have HG1 := Lib.hid hg
      have hwr : ((j : Int) + 1 + 1) % 256 = (j : Int) + 1 + 1 := by omega
      clear hc hg
      gi_wp2
      go_roundw
      case rel => exact ⟨j + 1, by go_num, HC1, HG1⟩
      case measure => simp [intOf]; omega
    · have HX3 := Lib.hid (And.intro hx hgx)
      clear hx hgx
      gi_wp2
      refine bodyPost_ret (results_none rfl _ _ _) rfl ?_
      exact ⟨⟨_, rfl⟩, HX3.out⟩
end Go.Proofs.Ytideobdggdmeiaa
