/- HKDF: Expand. -/
import Derived.Test.YtideobdggdmeiaaHkI
import Derived.Test.YtideobdggdmeiaaRound
namespace Go.Proofs.Ytideobdggdmeiaa
open Go.RowKit
set_option maxRecDepth 100000
set_option linter.unusedVariables false
set_option linter.unusedSimpArgs false
attribute [local go_sem] Oper.semAt_some
theorem wpListIn_append_sl {P : Program} {n l : Nat} {w : World} {ops : Array Oper} {rest : List Oper} {o : Oper} {a : Act} {Q : Exit → Act → World → Prop} (hgd : o.guard = none) (s x : Operand) (t : TypeId)
    (ho : o.op = .call { callee := .builtin .append, args := #[s, x], argTypes := #[t, t] })
    (e : TypeId) (i : TypeInfo) (z : Value) (size bytes : Nat) (ht : P.underlying t = some (.slice e)) (hi : P.info? e = some i) (hz : i.zero = some z)
    (hsize : i.size = size) (hby : i.bytes = bytes) (hzs : z.cells.size = size) (hsz : 0 < size)
    (v : Value) (m : Nat) (xs : List Value) (hs : a.eval s = v) (hown : w.ownsRow 0 e size v m xs) (y : Value) (m2 : Nat) (news : List Value) (hx : a.eval x = y) (hy : Sl w size y m2 news)
    (h63 : m + m2 ≤ maxLen) (hbytes : (m + m2) * bytes ≤ 140737488355328)
    (h : ∀ v' w', w'.ownsRow 0 e size v' (m + m2) (xs ++ news) → w.grownBy w' v.ownBlock → (v'.ownBlock = v.ownBlock ∨ v'.ownBlock = some w.heap.size) → wpListIn (Fence.wide.inRound l) n P ops Q rest (a.put o.dst v') w') : wpListIn (Fence.wide.inRound l) n P ops Q (o :: rest) a w :=
  wpListIn_plain hgd fun _ hK => wpIn_lift_op (by rw [ho]; intro c hc; cases hc) (wp_append_sl w s x t ho e i z size bytes ht hi hz hsize hby hzs hsz v m xs hs hown y m2 news hx hy h63 hbytes fun v' w' g1 g2 g3 _ => hK _ _ (h v' w' g1 g2 g3))
/-- the loop was left -/
def HXx (p : HF) (W : World) : Prop := ∃ J ov, p.n ≤ szN p.g * J ∧ szN p.g * J ≤ p.n + 64 ∧ Blk W p.ob 22 #[ov] ∧ OB W ov (hkAll p.g p.k p.info J) ∧ Blk W p.bn 3 #[.int .i64 (p.n : Int)] ∧ Below p.w0.heap.size p.w0 W
theorem HXx.own {p : HF} (hL : p.w0.heap.size ≤ p.L1) : OwnFrom p.L1 (fun (_ : Unit) W => HXx p W) := by
  intro v W W' row h hg hr
  obtain ⟨ho, hn⟩ := grown_noC hg hr
  obtain ⟨J, ov, q0, q0', q1, q2, q3, q4⟩ := h
  exact ⟨J, ov, q0, q0', q1.keepN ho hn, q2.keepN ho hn, q3.keepN ho hn, q4.trans (ho.below0 (fun x hx hs => by have := (hr x hs).1; omega) q4.size)⟩
theorem keeps_cells {B : Nat} {S : Nat → Prop} {W W' : World} (ho : Only S W W') (hS : ∀ x, S x → ∃ cs t f, W.heap[x]? = some (.cells cs t f)) : KeepsFrom B W W' :=
  ⟨ho.size, fun k o _ hk hc => (ho.block k (Array.getElem?_eq_some_iff.1 hk).1 (fun hs => by
    obtain ⟨cs, t, f, hh⟩ := hS k hs
    rw [hk] at hh
    injection hh with hh
    subst hh
    cases hc)).trans hk⟩
theorem OB.cells {W : World} {v : Value} {l : List UInt8} (h : OB W v l) : ∀ x, fpv v x → ∃ cs t f, W.heap[x]? = some (.cells cs t f) := by
  intro x hx
  have hx' : v.ownBlock = some x := hx
  rcases h.2 with ⟨hv, _⟩ | ⟨g, cap, cur, hv, _, hg, _⟩
  · rw [hv] at hx'
    simp [Value.ownBlock] at hx'
  · rw [hv] at hx'
    have : g = x := by simpa [Value.ownBlock] using hx'
    subst this
    exact ⟨_, _, _, hg⟩
/-- the body's step: an append to what is out, stored back -/
theorem HSx.out {p : HF} (hp : p.Ok) {v : Value} {tl al al' : List UInt8} {bi : Nat} {s : HSt} {ov ov' : Value} {W W1 : World} (h : HSx p v tl al bi s ov W) (ho : Only (fpv ov) W W1) (hr : OB W1 ov' al') (hat : ∀ x, fpv ov' x → fpv ov x ∨ x = W.heap.size) :
    HSx p v tl al' bi s ov' (W1.setCell ⟨p.ob, 0, none⟩ ov') ∧ KeepsFrom p.L1 W (W1.setCell ⟨p.ob, 0, none⟩ ov') := by
  obtain ⟨l1, l2, l3, l4, l5, l6, l7, l8, l9⟩ := hp.lt
  obtain ⟨n1, n2, n3, n4, n5⟩ := hp.nb
  obtain ⟨m1, m2, m3, m4, m5, m6⟩ := hp.no
  have hn := hp.new
  have hl := h.l1
  have hob : ∀ x, fpv ov x → x ≠ p.ob := fun x hx => by have := (h.ap x hx).1; omega
  have O : Only (fun x => fpv ov x ∨ x = p.ob) W (W1.setCell ⟨p.ob, 0, none⟩ ov') := (ho.mono (fun x hx => .inl hx)).set (p := ⟨p.ob, 0, none⟩) (.inl (.inr rfl)) _
  have key : ∀ x, x < p.L1 → x ≠ p.ob → ¬ (fpv ov x ∨ x = p.ob) := fun x hx hne hh => by
    rcases hh with hh | hh
    · have := (h.ap x hh).1; omega
    · exact hne hh
  have hbi : ¬ (fpv ov bi ∨ bi = p.ob) := fun hh => by
    rcases hh with hh | hh
    · exact (h.ap bi hh).2.1 rfl
    · exact h.nb hh.symm
  refine ⟨⟨h.cm.only O (key _ l1 (Ne.symm m1)), h.cl.only O (key _ l2 (Ne.symm m2)), h.ci.only O (key _ l3 (Ne.symm m3)), h.cn.only O (key _ l4 (Ne.symm m4)), h.info.onlyE O (fun h0 x hx => key x (by have := hp.low h0 x hx; omega) (by have := hp.low h0 x hx; omega)), h.t.onlyE O (fun _ x hx hh => ?_), fun x hx => ⟨(h.tn x hx).1, Nat.lt_of_lt_of_le (h.tn x hx).2 O.size⟩,
    ⟨h.mac.blk.only O (key _ l6 n5), h.mac.inn.only O hbi, h.mac.out.only O (key _ l7 (Ne.symm m5)), h.mac.fst.only O (key _ l8 (Ne.symm m6)), h.mac.n1, h.mac.n2, h.mac.n3, h.mac.n4, h.mac.n5⟩, ?_, ?_, fun x hx => ?_, h.nb, h.below.trans (O.below0 (fun x hx hh => ?_) h.below.size), Nat.le_trans h.l1 O.size⟩, keeps_cells O (fun x hx => ?_)⟩
  · rcases hh with hh | hh
    · exact (h.ap x hh).2.2 hx
    · have := (h.tn x hx).1; omega
  · have hb := h.ob.only ho (fun hh => hob _ hh rfl)
    exact hb.set 0 ov'
  · refine hr.keep ((Only.refl (fun x => x = p.ob) W1).set (p := ⟨p.ob, 0, none⟩) (.inl rfl) _) (fun x hx => ?_)
    rcases hat x hx with hh | hh
    · exact hob x hh
    · omega
  · rcases hat x hx with hh | hh
    · exact h.ap x hh
    · have := h.mac.inn.lt
      refine ⟨by omega, by omega, fun hv => ?_⟩
      have := (h.tn x hv).2
      omega
  · rcases hh with hh | hh
    · have := (h.ap x hh).1; omega
    · omega
  · rcases hx with hx | hx
    · exact h.row.cells x hx
    · subst hx; exact ⟨_, _, _, h.ob⟩
theorem may_any (g : Bool) (n : Nat) (hn : n ≤ 255 * szN g) (w : World) : Calls Try.prog 14 #[.int .u8 (algN g), .int .i64 (n : Int)] w fun e w' => e = .returned (.int .i64 0) ∧ Below w.heap.size w w' := by
  have HN := Lib.hid hn
  clear hn
  go_enter Try.func14, Try.ntmps14
  go_wp2_with fail
  refine (of_any g w).mono ?_
  rintro e w1 ⟨rfl, hb1⟩
  have HB1 := Lib.hid hb1
  clear hb1
  obtain ⟨V, hV⟩ : ∃ V, hashV g = V := ⟨_, rfl⟩
  have HV : Hid (hashV g = V) := hV
  have hsz : V.size = 7 := by rw [← hV]; rfl
  have hone : ∀ v ∈ V.toList, v.oneCell' = true := by rw [← hV]; exact hashV_one g
  rw [hV]
  clear hV
  go_upto_region 2 with ((with_reducible change wpList _ _ _ (Oper.mk _ (Op.store 51 _ _) _ _ _ _ :: _) _ _); refine wpList_store_blk w1.heap.size V rfl rfl (Blk.new w1 51 hashZ) sizeHash hsz rfl hone ?_)
  obtain ⟨hb, hhb⟩ : ∃ h, w1.heap.size = h := ⟨_, rfl⟩
  obtain ⟨w2, hw2⟩ : ∃ y, (w1.alloc (.cells #[.int .u8 0, .int .i64 0, .int .i64 0, .int .u8 0, .int .i64 0, .nilFunc, .nilFunc] 51)).setRow w1.heap.size V = y := ⟨_, rfl⟩
  have HB2 : Hid (Below w.heap.size w w2) := by rw [← hw2]; exact Lib.hid (below_row (HB1.out.alloc HB1.out.size _) HB1.out.size _)
  have HH2 : Blk w2 hb 51 V := by rw [← hw2, hhb]; exact Blk.row (Blk.at hhb.symm rfl) _
  rw [hw2, hhb]
  clear hw2 hhb HB1
  have c1 : w2.cell? ⟨hb, 1, none⟩ = some (.int .i64 (szN g : Int)) := by
    rw [← HV.out] at HH2
    exact HH2.cellAt 1 rfl
  have hs := szN_le g
  obtain ⟨sz, hsz2⟩ : ∃ sz, szN g = sz := ⟨_, rfl⟩
  rw [hsz2] at c1 hs HN
  have hw : IntKind.i64.wrap (255 * (sz : Int)) = 255 * (sz : Int) := IntWalk.i64_in _ (by omega)
  have t1 : decide ((n : Int) < 0) = false := by rw [decide_eq_false_iff_not]; omega
  have t2 : decide (255 * (sz : Int) < (n : Int)) = false := by rw [decide_eq_false_iff_not]; have := HN.out; omega
  clear HH2 hsz hone hsz2
  go_wp2
  go_ret
  exact ⟨rfl, HB2.out⟩
theorem blocks_any (b : Nat) (ao : Option Addr) (m cap : Nat) (w : World) : Calls Try.prog 23 #[.pointer none, .pointer (some ⟨b, 0, none⟩), .slice ao m cap] w fun e w' => ∃ bl bm bI : Nat, e = .returned (.func (.func 33) #[] #[.pointer (some ⟨bm, 0, none⟩), .pointer (some ⟨bl, 0, none⟩), .pointer (some ⟨bI, 0, none⟩)]) ∧
    w.heap.size ≤ bl ∧ w.heap.size ≤ bm ∧ w.heap.size ≤ bI ∧ Blk w' bm 35 #[.pointer (some ⟨b, 0, none⟩)] ∧ Blk w' bl 34 #[.pointer none] ∧ Blk w' bI 22 #[.slice ao m cap] ∧ Below w.heap.size w w' := by
  go_enter Try.func23, Try.ntmps23
  go_wp2
  go_ret
  refine ⟨w.heap.size, w.heap.size + 1, w.heap.size + 1 + 1, rfl, Nat.le_refl _, by omega, by omega, ?_, ?_, Blk.at (by simp) rfl, (((Below.refl _ w).alloc (Nat.le_refl _) _).alloc (by simp) _).alloc (by simp; omega) _⟩
  · exact (Blk.at (by simp) rfl).alloc _
  · exact ((Blk.at rfl rfl).alloc _).alloc _
end Go.Proofs.Ytideobdggdmeiaa
