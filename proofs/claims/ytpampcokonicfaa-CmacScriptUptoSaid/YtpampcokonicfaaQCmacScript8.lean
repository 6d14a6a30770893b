/- The document's cipher: KeyLen, Form, Clone, Wipe, New over a law's world. -/
import Derived.Test.YtpampcokonicfaaRows
import Derived.RangeFuncNested
import Derived.RangeFuncBound
import Derived.RangeFuncCalls
import Derived.RangeFuncLeaves
import Derived.Shelf.Abstract
import Derived.Shelf.RegionOpen
import Derived.WalkKit
import Derived.OwnWalkIn
import Derived.TacticsInMore
import Derived.LoopNIn
import Derived.LoopIn
import Derived.Deep.DeepCutAuto
import Derived.Deep.CutBlock
import Derived.Test.YtpampcokonicfaaQCmacScript0
import Derived.Test.YtpampcokonicfaaQCmacScript1
import Derived.Test.YtpampcokonicfaaQCmacScript3
import Derived.Test.YtpampcokonicfaaQCmacScript4
import Derived.Test.YtpampcokonicfaaQCmacScript5
import Derived.Test.YtpampcokonicfaaQCmacScript6
import Derived.Test.YtpampcokonicfaaQCmacScript7
/- The document's CMAC of a whole message: Of. -/
namespace Go.Proofs.Ytpampcokonicfaa
open Go.RowKit
set_option maxRecDepth 100000
set_option linter.unusedVariables false
set_option linter.unusedSimpArgs false
def obRA (a g n cap : Nat) (K : List UInt8) : Ob where
  at' w F := RA w a g n cap K ∧ F = fun x => x = a ∨ x = g
  keep h ho hd := ⟨h.1.only ho (hd _ (by rw [h.2]; exact .inl rfl)) (hd _ (by rw [h.2]; exact .inr rfl)), h.2⟩
  lt h := by
    rw [h.2]
    rintro x (rfl | rfl)
    · exact h.1.lt
    · exact h.1.glt
theorem Env.ra {w0 w : World} {obs : List Ob} (h : Env w0 w obs) (i : Nat) {a g n cap : Nat} {K : List UInt8} (hi : obs[i]? = some (obRA a g n cap K)) : RA w a g n cap K := by
  obtain ⟨F, h1, _⟩ := h.get i hi
  exact h1.1
theorem Bs.one (w : World) (x : UInt8) : Bs (w.alloc (.cells #[.int .u8 (x.toNat : Int)] 5)) (.slice (some ⟨w.heap.size, 0, none⟩) 1 1) [x] := by
  refine ⟨some ⟨w.heap.size, 0, none⟩, 1, rfl, Nat.le_refl _, by decide, (fun h => by cases h), fun j hj => ⟨w.heap.size, 0, rfl, ?_⟩⟩
  have hj0 : j = 0 := by simpa using hj
  subst hj0
  have hb : Blk (w.alloc (.cells #[.int .u8 (x.toNat : Int)] 5)) w.heap.size 5 #[.int .u8 (x.toNat : Int)] := Blk.at rfl rfl
  exact hb.cellAt 0 rfl
theorem Env.bytesNew {w w' : World} {obs : List Ob} (h : Env w w' obs) (i : Nat) {v : Value} {l : List UInt8} (hi : obs[i]? = some (obB v l)) : NewBytes l w (.returned v) w' := by
  obtain ⟨F, ⟨h1, rfl⟩, h2, _⟩ := h.get i hi
  exact ⟨v, rfl, h1, h.base, fun x hx => by
    rcases Nat.lt_or_ge x w.heap.size with hlt | hge
    · exact absurd hx (h2 x hlt)
    · exact hge⟩
/-- the two blocks of a message's end: what is xored at the last -/
def endB (key p : List UInt8) : List UInt8 :=
  if lastN p = 16 then xorB (blkAt p (lastB p.length)) (dbl (topOf key)) else xorB ((blkAt p (lastB p.length)).set (lastN p) 128) (dbl (dbl (topOf key)))
theorem endB_len (key p : List UInt8) : (endB key p).length = 16 := by unfold endB; split <;> exact xorB_len _ _
theorem tagR_end (key p : List UInt8) : tagR key p = enc (sched key) (key.length / 4 + 6) (xorB (chainN (enc (sched key) (key.length / 4 + 6)) p (lastB p.length)) (endB key p)) := rfl
set_option maxHeartbeats 4000000 in
theorem rof13_any (v u : Value) (key p : List UInt8) (w : World) (hv : Bs w v key) (hu : Bs w u p) (hk : RightLen key.length) (hl : p.length ≤ 140737488350000) :
    Calls Try.prog 76 #[v, u] w (NewBytes (tagR key p) w) := by
  have HV := Lib.hid hv
  have HU := Lib.hid hu
  obtain ⟨uo, uc, rfl, hu1, hu2, _, _⟩ := hu.form
  obtain ⟨kk, hkk⟩ : ∃ kk, key.length = 4 * kk ∧ (kk = 4 ∨ kk = 6 ∨ kk = 8) := by
    rcases hk with h | h | h
    · exact ⟨4, h, .inl rfl⟩
    · exact ⟨6, h, .inr (.inl rfl)⟩
    · exact ⟨8, h, .inr (.inr rfl)⟩
  have HKK := Lib.hid hkk
  have hR : key.length / 4 + 6 = kk + 6 := by omega
  have HTG : Hid (tagR key p = enc (sched key) (kk + 6) (xorB (chainN (enc (sched key) (kk + 6)) p (lastB p.length)) (endB key p))) := by rw [tagR_end, hR]; exact Lib.hid rfl
  have HTO : Hid (topOf key = enc (sched key) (kk + 6) zB) := by unfold topOf; rw [hR]; exact Lib.hid rfl
  have h0 : Env w w [] := Env.start w
  have H0 := Lib.hid h0
  clear hv hu hk h0 hR hkk
  go_enter Try.func76, Try.ntmps76
  go_wp2_with fail
  refine (rof_any v key kk w HV.out HKK.out.1 HKK.out.2).mono ?_
  rintro e w1 ⟨a, g, cap, rfl, ra, hb1, ha, hg⟩
  have H1 : Hid (Env w w1 [obRA a g (4 * (kk + 7)) cap (sched key)]) := Lib.hid (H0.out.push (F' := fun x => x = a ∨ x = g) (obRA a g (4 * (kk + 7)) cap (sched key)) ⟨ra, rfl⟩ hb1 (fun x hx => by rcases hx with rfl | rfl; exact ha; exact hg))
  clear ra hb1 ha hg H0
  go_wp2_with fail
  change Calls _ _ #[_, .agg (barr zB)] _ _
  refine (rencrypt_any a g (4 * (kk + 7)) cap (sched key) zB w1 (H1.out.ra 0 rfl) (by simp [zB]) (kk + 6) (by omega) (by have := HKK.out.2; omega)).mono ?_
  rintro e w2 ⟨rfl, hb⟩
  rw [← HTO.out]
  have H2 := Lib.hid (H1.out.below hb)
  clear hb H1
  have htl : (topOf key).length = 16 := by rw [HTO.out, enc_len]
  go_wp2_with fail
  refine (rdbl_any (topOf key) htl w2).mono ?_
  rintro e w3 ⟨rfl, hb⟩
  have H3 := Lib.hid (H2.out.below hb)
  clear hb H2
  obtain ⟨one, hone⟩ : ∃ y, dbl (topOf key) = y := ⟨_, rfl⟩
  rw [hone]
  have hol : one.length = 16 := by rw [← hone]; exact dbl_length _
  have hos : (barr one).size = 16 := by rw [barr_size, hol]
  have HONE := Lib.hid hone
  clear hone
  -- HALF
  have hzz : (barr (List.replicate 16 (0 : UInt8))).size = 16 := by rw [barr_size]; rfl
  have bz : Blk (w3.alloc (.cells (barr (List.replicate 16 0)) 31)) w3.heap.size 31 (barr (List.replicate 16 0)) := Blk.new _ _ _
  go_upto_region 3 with ((with_reducible change wpList _ _ _ (Oper.mk _ (Op.store 31 _ _) _ _ _ _ :: _) _ _); refine wpList_store_var w3.heap.size (barr one) rfl rfl bz size16 hos hzz (barr_one _) ?_; intro w4 B4 O4; have H4 := Lib.hid ((H3.out.newK 31 (barr (List.replicate 16 0))).turnBlk 1 rfl B4 O4); clear B4 O4)
  clear bz hzz
  generalize w3.heap.size = A6 at H4 ⊢
  clear H3
  have hlB : lastB p.length ≤ 8796093022208 := by unfold lastB nBlk; split <;> omega
  have hnB : (nBlk p.length : Int) - 1 = (lastB p.length : Int) := by unfold lastB nBlk; split <;> omega
  have hNb : nBlk p.length ≤ 8796093022209 := by unfold nBlk; split <;> omega
  have hle : 16 * lastB p.length ≤ p.length := by unfold lastB nBlk; split <;> omega
  have hN16 : lastN p ≤ 16 := lastN_le p
  have hln : p.length - 16 * lastB p.length = lastN p := rfl
  have HBL : Hid (∀ W : World, Calls Try.prog 75 #[.int .i64 (p.length : Int)] W fun e w' => e = .returned (.int .i64 (nBlk p.length : Int)) ∧ W = w') := Lib.hid (fun W => rblocks_any p.length W (by omega))
  generalize nBlk p.length = NB at hnB HBL hNb
  obtain ⟨lb, hlb⟩ : ∃ y, lastB p.length = y := ⟨_, rfl⟩
  obtain ⟨ln, hlnn⟩ : ∃ y, lastN p = y := ⟨_, rfl⟩
  rw [hlb] at hlB hnB hle hln
  rw [hlnn] at hN16 hln
  have HLB := Lib.hid hlb
  have HLN := Lib.hid hlnn
  clear hlb hlnn
  go_wp2_with fail
  refine (HBL.out w4).mono ?_
  rintro e w' ⟨rfl, rfl⟩
  go_wp2_with fail
  refine (rblock13_any _ p lb w4 (H4.out.old HU.out) (by omega) (by omega)).mono ?_
  rintro e w5 ⟨rfl, hb⟩
  have H5 := Lib.hid (H4.out.below hb)
  clear hb H4
  obtain ⟨bk, hbk⟩ : ∃ y, blkAt p lb = y := ⟨_, rfl⟩
  rw [hbk]
  have hbl : bk.length = 16 := by rw [← hbk]; exact blkAt_len _ _
  have hbs : (barr bk).size = 16 := by rw [barr_size, hbl]
  have HBK : Hid (blkAt p (lastB p.length) = bk) := Lib.hid (by rw [HLB.out]; exact hbk)
  clear hbk
  have hzz : (barr (List.replicate 16 (0 : UInt8))).size = 16 := by rw [barr_size]; rfl
  have bz : Blk (w5.alloc (.cells (barr (List.replicate 16 0)) 31)) w5.heap.size 31 (barr (List.replicate 16 0)) := Blk.new _ _ _
  go_upto_region 5 with ((with_reducible change wpList _ _ _ (Oper.mk _ (Op.store 31 _ _) _ _ _ _ :: _) _ _); refine wpList_store_var w5.heap.size (barr bk) rfl rfl bz size16 hbs hzz (barr_one _) ?_; intro w6 B4 O4; have H6 := Lib.hid ((H5.out.newK 31 (barr (List.replicate 16 0))).turnBlk 2 rfl B4 O4); clear B4 O4)
  clear bz hzz
  generalize w5.heap.size = A8 at H6 ⊢
  clear H5
  obtain ⟨q, hq⟩ : ∃ y, 16 * (lb + 1) = y := ⟨_, rfl⟩
  have hqI : 16 * ((lb : Int) + 1) = (q : Int) := by omega
  have HQ := Lib.hid hq
  have hq2 : q ≤ 140737488355400 := by omega
  clear hq
  go_upto_if 30 with fail
  go_cut [] from 25 to 43 (fun wx => Hid (Env w wx [obRA a g (4 * (kk + 7)) cap (sched key), obK A6 31 (barr one), obK A8 31 (barr (endB key p))]))
  case first =>
    have B6 := H6.out.blk 1 (b := A6) rfl
    have B8 := H6.out.blk 2 (b := A8) rfl
    by_cases h16 : ln = 16
    · have t1 : ((p.length : Int) == (q : Int)) = true := by rw [beq_iff_eq]; have := HQ.out; omega
      have he : endB key p = xorB bk one := by
        unfold endB
        rw [if_pos (HLN.out.trans h16), HBK.out, HONE.out]
      have HEE := Lib.hid he
      clear he h16
      go_wp2_with (first | ((with_reducible change wpList _ _ _ (Oper.mk (some 31) (Op.load 31 _) _ _ _ _ :: _) _ _); refine wpList_load_blk (ty := 31) A8 rfl B8 Try.underlying31 rfl size16 hbs ?_) | ((with_reducible change wpList _ _ _ (Oper.mk (some 32) (Op.load 31 _) _ _ _ _ :: _) _ _); refine wpList_load_blk (ty := 31) A6 rfl B6 Try.underlying31 rfl size16 hos ?_))
      refine (rxored_any bk one hbl hol w6).mono ?_
      rintro e w7 ⟨rfl, hb⟩
      have H7 := Lib.hid (H6.out.below hb)
      clear hb B6 B8
      have B8 := H7.out.blk 2 (b := A8) rfl
      have hxs : (barr (xorB bk one)).size = 16 := by rw [barr_size, xorB_len]
      go_wp2_with ((with_reducible change wpList _ _ _ (Oper.mk _ (Op.store 31 _ _) _ _ _ _ :: _) _ _); refine wpList_store_var A8 (barr (xorB bk one)) rfl rfl B8 size16 hxs hbs (barr_one _) ?_; intro w8 B4 O4; have H8 := Lib.hid (H7.out.turnBlk 2 rfl B4 O4); clear B4 O4)
      simp only [Act.put]
      go_meet
      rw [HEE.out]
      exact H8
    · have t1 : ((p.length : Int) == (q : Int)) = false := by rw [beq_eq_false_iff_ne]; have := HQ.out; omega
      have hl15 : ln < 16 := by omega
      have he : endB key p = xorB (bk.set ln 128) (dbl one) := by
        unfold endB
        rw [if_neg (by rw [HLN.out]; exact h16), HBK.out, HONE.out, HLN.out]
      have HEE := Lib.hid he
      obtain ⟨r, hr⟩ : ∃ y, 16 * lb = y := ⟨_, rfl⟩
      have hrI : 16 * (lb : Int) = (r : Int) := by omega
      have hnI : (p.length : Int) - (r : Int) = (ln : Int) := by omega
      have bn : 0 ≤ (ln : Int) ∧ (ln : Int) < 16 := by omega
      have c8 := B8.cellAt ln (barr_getD bk ln (by omega))
      have f8 := B8.unfrozen ln
      have b8 := B8.lt
      have H7 : Hid (Env w (w6.setCell ⟨A8, ln, none⟩ (.int .u8 128)) [obRA a g (4 * (kk + 7)) cap (sched key), obK A6 31 (barr one), obK A8 31 (barr (bk.set ln 128))]) := by
        have h := H6.out.turnBlk 2 (b := A8) rfl (B8.set ln (.int .u8 128)) ((Only.refl (fun x => x = A8) w6).set (p := ⟨A8, ln, none⟩) (.inl rfl) _)
        rw [show Value.int .u8 128 = .int .u8 ((128 : UInt8).toNat : Int) from rfl, barr_set] at h
        exact Lib.hid h
      clear he h16 hr B6 B8
      go_upto_region 8 with fail
      clear c8 f8 b8
      obtain ⟨w7, hw7⟩ : ∃ y, w6.setCell ⟨A8, ln, none⟩ (.int .u8 128) = y := ⟨_, rfl⟩
      rw [hw7] at H7 ⊢
      clear hw7
      obtain ⟨b2, hb2⟩ : ∃ y, bk.set ln 128 = y := ⟨_, rfl⟩
      have hb2l : b2.length = 16 := by rw [← hb2, List.length_set, hbl]
      have hb2s : (barr b2).size = 16 := by rw [barr_size, hb2l]
      rw [hb2] at H7
      have HB2 := Lib.hid hb2
      clear hb2
      refine hd_start (fun W => W.rangeAt A6 0 (one.map B)) (by kernel_rfl) ?_
      intro w8 hw'
      have H8 := Lib.hid (H7.out.draw 1)
      rw [← hw'] at H8
      clear hw' H7
      have S8 : w8.rangeAt A6 0 (one.map B) := rangeAt_blk13 (H8.out.blk 1 (b := A6) rfl)
      refine hd_part2 1 rfl (by kernel_rfl) (fun _ _ d _ _ h => (by cases d <;> exact h)) (yieldsIf_load_mid (by kernel_rfl) 31 _ rfl A6 0 rfl (one.map B) _ (fun _ h => h) Try.underlying31 rfl (size16.trans (by rw [List.length_map, hol]))) S8 ?_
      simp only [List.getElem_toArray, List.getElem_cons_succ, List.getElem_cons_zero, Act.put, List.setIfInBounds_toArray, List.set_cons_zero, List.set_cons_succ]
      refine hd_two 0 2 (by kernel_rfl) ?_ ?_
      · skip
        refine op_yields rfl (yieldsIf_load_mid (S := fun W => W.rangeAt A8 0 (b2.map B)) (by kernel_rfl) 31 _ rfl A8 0 rfl (b2.map B) _ (fun _ h => h) Try.underlying31 rfl (size16.trans (by rw [List.length_map, hb2l]))) (rangeAt_blk13 (H8.out.blk 2 (b := A8) rfl)) ?_
        refine ⟨S8, ?_⟩
        simp only [List.getElem_toArray, List.getElem_cons_succ, List.getElem_cons_zero, Act.put, List.setIfInBounds_toArray, List.set_cons_zero, List.set_cons_succ]
        refine hd_one 2 (by kernel_rfl) ?_
        refine op_call rfl (by kernel_rfl) (by go_simp; first | exact ⟨rfl, rfl⟩ | rfl) ?_
        refine (rdbl_any one hol w8).mono ?_
        rintro e w9 ⟨he, hb⟩
        subst he
        have H9 := Lib.hid (H8.out.below hb)
        clear hb
        have hS2 : w9.rangeAt A6 0 (one.map B) := rangeAt_blk13 (H9.out.blk 1 (b := A6) rfl)
        refine ⟨_, rfl, hS2, ?_⟩
        simp only [List.getElem_toArray, List.getElem_cons_succ, List.getElem_cons_zero, Act.put, List.setIfInBounds_toArray, List.set_cons_zero, List.set_cons_succ]
        refine hd_one 3 (by kernel_rfl) ?_
        refine op_call rfl (by kernel_rfl) (by go_simp; first | exact ⟨rfl, rfl⟩ | rfl) ?_
        refine (rxored_any b2 (dbl one) hb2l (dbl_length _) w9).mono ?_
        rintro e w10 ⟨he, hb⟩
        subst he
        have H10 := Lib.hid (H9.out.below hb)
        clear hb
        have hS2 : w10.rangeAt A6 0 (one.map B) := rangeAt_blk13 (H10.out.blk 1 (b := A6) rfl)
        refine ⟨_, rfl, hS2, ?_⟩
        simp only [List.getElem_toArray, List.getElem_cons_succ, List.getElem_cons_zero, Act.put, List.setIfInBounds_toArray, List.set_cons_zero, List.set_cons_succ]
        refine hd_one 4 (by kernel_rfl) ?_
        refine op_store_blk2 A8 (barr (xorB b2 (dbl one))) rfl (by kernel_rfl) rfl rfl (H10.out.blk 2 (b := A8) rfl) size16 (by rw [barr_size, xorB_len]) hb2s (barr_one _) ?_
        intro w11 B11 O11
        have H11 := Lib.hid (H10.out.turnBlk 2 rfl B11 O11)
        simp only [List.getElem_toArray, List.getElem_cons_succ, List.getElem_cons_zero, Act.put, List.setIfInBounds_toArray, List.set_cons_zero, List.set_cons_succ]
        refine ⟨rangeAt_blk13 (H11.out.blk 1 (b := A6) rfl), ?_⟩
        refine hd_done (by kernel_rfl) ?_
        go_wp2_with fail
        go_meet
        rw [HEE.out, HB2.out]
        exact H11
      · skip
        refine op_call rfl (by kernel_rfl) (by go_simp; first | exact ⟨rfl, rfl⟩ | rfl) ?_
        refine (rdbl_any one hol w8).mono ?_
        rintro e w9 ⟨he, hb⟩
        subst he
        have H9 := Lib.hid (H8.out.below hb)
        clear hb
        have hS2 : w9.rangeAt A6 0 (one.map B) := rangeAt_blk13 (H9.out.blk 1 (b := A6) rfl)
        refine ⟨_, rfl, hS2, ?_⟩
        simp only [List.getElem_toArray, List.getElem_cons_succ, List.getElem_cons_zero, Act.put, List.setIfInBounds_toArray, List.set_cons_zero, List.set_cons_succ]
        refine hd_one 0 (by kernel_rfl) ?_
        refine op_yields rfl (yieldsIf_load_mid (S := fun W => W.rangeAt A8 0 (b2.map B)) (by kernel_rfl) 31 _ rfl A8 0 rfl (b2.map B) _ (fun _ h => h) Try.underlying31 rfl (size16.trans (by rw [List.length_map, hb2l]))) (rangeAt_blk13 (H9.out.blk 2 (b := A8) rfl)) ?_
        refine ⟨rangeAt_blk13 (H9.out.blk 1 (b := A6) rfl), ?_⟩
        simp only [List.getElem_toArray, List.getElem_cons_succ, List.getElem_cons_zero, Act.put, List.setIfInBounds_toArray, List.set_cons_zero, List.set_cons_succ]
        refine hd_one 3 (by kernel_rfl) ?_
        refine op_call rfl (by kernel_rfl) (by go_simp; first | exact ⟨rfl, rfl⟩ | rfl) ?_
        refine (rxored_any b2 (dbl one) hb2l (dbl_length _) w9).mono ?_
        rintro e w10 ⟨he, hb⟩
        subst he
        have H10 := Lib.hid (H9.out.below hb)
        clear hb
        have hS2 : w10.rangeAt A6 0 (one.map B) := rangeAt_blk13 (H10.out.blk 1 (b := A6) rfl)
        refine ⟨_, rfl, hS2, ?_⟩
        simp only [List.getElem_toArray, List.getElem_cons_succ, List.getElem_cons_zero, Act.put, List.setIfInBounds_toArray, List.set_cons_zero, List.set_cons_succ]
        refine hd_one 4 (by kernel_rfl) ?_
        refine op_store_blk2 A8 (barr (xorB b2 (dbl one))) rfl (by kernel_rfl) rfl rfl (H10.out.blk 2 (b := A8) rfl) size16 (by rw [barr_size, xorB_len]) hb2s (barr_one _) ?_
        intro w11 B11 O11
        have H11 := Lib.hid (H10.out.turnBlk 2 rfl B11 O11)
        simp only [List.getElem_toArray, List.getElem_cons_succ, List.getElem_cons_zero, Act.put, List.setIfInBounds_toArray, List.set_cons_zero, List.set_cons_succ]
        refine ⟨rangeAt_blk13 (H11.out.blk 1 (b := A6) rfl), ?_⟩
        refine hd_done (by kernel_rfl) ?_
        go_wp2_with fail
        go_meet
        rw [HEE.out, HB2.out]
        exact H11
  case rest =>
    have H7 := hcut
    clear hcut H6
    obtain ⟨en, hen⟩ : ∃ y, endB key p = y := ⟨_, rfl⟩
    have henl : en.length = 16 := by rw [← hen]; exact endB_len _ _
    have hens : (barr en).size = 16 := by rw [barr_size, henl]
    rw [hen] at H7
    have HEN := Lib.hid hen
    obtain ⟨ch, hch⟩ : ∃ y, chainN (enc (sched key) (kk + 6)) p (lastB p.length) = y := ⟨_, rfl⟩
    have hchl : ch.length = 16 := by rw [← hch]; exact chainN_len (fun b => enc_len _ _ _) p _
    have HCH := Lib.hid hch
    have HTAG : Hid (tagR key p = enc (sched key) (kk + 6) (xorB ch en)) := by rw [HTG.out, hch, hen]; exact Lib.hid rfl
    clear hen hch
    have hkk6 : 4 * (kk + 7) = 4 * (kk + 6 + 1) := by omega
    have hkk14 : kk + 6 ≤ 14 := by have := HKK.out.2; omega
    have HCHAIN : Hid (∀ W, Env w W [obRA a g (4 * (kk + 7)) cap (sched key), obK A6 31 (barr one), obK A8 31 (barr en)] ∨ (∃ A, Env w W [obRA a g (4 * (kk + 7)) cap (sched key), obK A6 31 (barr one), obK A8 31 (barr en), obK A 31 (barr (List.replicate 16 0))]) → Calls Try.prog 84 #[.pointer (some ⟨a, 0, none⟩), .slice uo p.length uc] W fun e w' => e = .returned (.agg (barr ch)) ∧ Below W.heap.size W w') := Lib.hid (fun W hW => by
      rw [← HCH.out]
      rcases hW with hW | ⟨A, hW⟩
      · exact rchain_any a g (4 * (kk + 7)) cap (sched key) p _ W (hW.ra 0 rfl) (kk + 6) hkk6 hkk14 (hW.old HU.out) hl
      · exact rchain_any a g (4 * (kk + 7)) cap (sched key) p _ W (hW.ra 0 rfl) (kk + 6) hkk6 hkk14 (hW.old HU.out) hl)
    have HTL : Hid ((tagR key p).length = 16) := by rw [HTAG.out]; exact Lib.hid (enc_len _ _ _)
    go_upto_region 9 with fail
    go_cut [9] from 44 to 50 (fun p9 wx => ∃ A9 : Nat, p9 = .pointer (some ⟨A9, 0, none⟩) ∧ Hid (Env w wx [obRA a g (4 * (kk + 7)) cap (sched key), obK A6 31 (barr one), obK A8 31 (barr en), obK A9 31 (barr (tagR key p))]))
    case first =>
      refine hd_start (fun W => W.rangeAt A8 0 (en.map B)) (by kernel_rfl) ?_
      intro w8 hw'
      have H8 := Lib.hid (H7.out.draw 1)
      rw [← hw'] at H8
      clear hw' H7
      have S8 : w8.rangeAt A8 0 (en.map B) := rangeAt_blk13 (H8.out.blk 2 (b := A8) rfl)
      refine hd_take (v := ?_) 0 rfl (by kernel_rfl) (fun _ _ d _ _ h => (by cases d <;> exact h)) (by kernel_rfl) S8 (fun w' hS => ?_) ?_
      rotate_left
      focus (clear hS; go_simp; try rfl; done)
      simp only [List.getElem_toArray, List.getElem_cons_succ, List.getElem_cons_zero, Act.put, List.setIfInBounds_toArray, List.set_cons_zero, List.set_cons_succ]
      refine hd_take (v := ?_) 1 rfl (by kernel_rfl) (fun _ _ d _ _ h => (by cases d <;> exact h)) (by kernel_rfl) S8 (fun w' hS => ?_) ?_
      rotate_left
      focus (clear hS; go_simp; try rfl; done)
      simp only [List.getElem_toArray, List.getElem_cons_succ, List.getElem_cons_zero, Act.put, List.setIfInBounds_toArray, List.set_cons_zero, List.set_cons_succ]
      refine hd_take (v := ?_) 2 rfl (by kernel_rfl) (fun _ _ d _ _ h => (by cases d <;> exact h)) (by kernel_rfl) S8 (fun w' hS => ?_) ?_
      rotate_left
      focus (clear hS; go_simp; try rfl; done)
      simp only [List.getElem_toArray, List.getElem_cons_succ, List.getElem_cons_zero, Act.put, List.setIfInBounds_toArray, List.set_cons_zero, List.set_cons_succ]
      refine hd_part2 4 rfl (by kernel_rfl) (fun _ _ d _ _ h => (by cases d <;> exact h)) (yieldsIf_load_mid (by kernel_rfl) 31 _ rfl A8 0 rfl (en.map B) _ (fun _ h => h) Try.underlying31 rfl (size16.trans (by rw [List.length_map, henl]))) S8 ?_
      simp only [List.getElem_toArray, List.getElem_cons_succ, List.getElem_cons_zero, Act.put, List.setIfInBounds_toArray, List.set_cons_zero, List.set_cons_succ]
      refine hd_two 3 7 (by kernel_rfl) ?_ ?_
      · skip
        refine op_call rfl (by kernel_rfl) (by go_simp; first | exact ⟨rfl, rfl⟩ | rfl) ?_
        refine (HCHAIN.out w8 (.inl H8.out)).mono ?_
        rintro e w9 ⟨he, hb⟩
        subst he
        have H9 := Lib.hid (H8.out.below hb)
        clear hb
        have hS2 : w9.rangeAt A8 0 (en.map B) := rangeAt_blk13 (H9.out.blk 2 (b := A8) rfl)
        refine ⟨_, rfl, hS2, ?_⟩
        simp only [List.getElem_toArray, List.getElem_cons_succ, List.getElem_cons_zero, Act.put, List.setIfInBounds_toArray, List.set_cons_zero, List.set_cons_succ]
        refine hd_two 5 7 (by kernel_rfl) ?_ ?_
        · skip
          refine op_call rfl (by kernel_rfl) (by go_simp; first | exact ⟨rfl, rfl⟩ | rfl) ?_
          refine (rxored_any ch en hchl henl w9).mono ?_
          rintro e w10 ⟨he, hb⟩
          subst he
          have H10 := Lib.hid (H9.out.below hb)
          clear hb
          have hS2 : w10.rangeAt A8 0 (en.map B) := rangeAt_blk13 (H10.out.blk 2 (b := A8) rfl)
          refine ⟨_, rfl, hS2, ?_⟩
          simp only [List.getElem_toArray, List.getElem_cons_succ, List.getElem_cons_zero, Act.put, List.setIfInBounds_toArray, List.set_cons_zero, List.set_cons_succ]
          refine hd_two 6 7 (by kernel_rfl) ?_ ?_
          · skip
            refine op_call rfl (by kernel_rfl) (by go_simp; first | exact ⟨rfl, rfl⟩ | rfl) ?_
            refine (rencrypt_any a g (4 * (kk + 7)) cap (sched key) (xorB ch en) w10 (H10.out.ra 0 rfl) (xorB_len _ _) (kk + 6) hkk6 hkk14).mono ?_
            rintro e w11 ⟨he, hb⟩
            rw [← HTAG.out] at he
            subst he
            have H11 := Lib.hid (H10.out.below hb)
            clear hb
            have hS2 : w11.rangeAt A8 0 (en.map B) := rangeAt_blk13 (H11.out.blk 2 (b := A8) rfl)
            refine ⟨_, rfl, hS2, ?_⟩
            simp only [List.getElem_toArray, List.getElem_cons_succ, List.getElem_cons_zero, Act.put, List.setIfInBounds_toArray, List.set_cons_zero, List.set_cons_succ]
            refine hd_one 7 (by kernel_rfl) ?_
            have H12 : Hid (Env w _ ([obRA a g (4 * (kk + 7)) cap (sched key), obK A6 31 (barr one), obK A8 31 (barr en)] ++ [obK w11.heap.size 31 (barr (List.replicate 16 0))])) := Lib.hid (H11.out.newK 31 (barr (List.replicate 16 0)))
            have hS7 : (w11.alloc (.cells (barr (List.replicate 16 0)) 31)).rangeAt A8 0 (en.map B) := rangeAt_blk13 (H12.out.blk 2 (b := A8) rfl)
            refine op_run rfl (by kernel_rfl) (by go_simp; first | done | exact ⟨rfl, rfl⟩ | rfl) ?_
            refine ⟨hS7, ?_⟩
            simp only [List.getElem_toArray, List.getElem_cons_succ, List.getElem_cons_zero, Act.put, List.setIfInBounds_toArray, List.set_cons_zero, List.set_cons_succ]
            refine hd_one 8 (by kernel_rfl) ?_
            refine op_store_blk2 _ (barr (tagR key p)) rfl (by kernel_rfl) rfl rfl (H12.out.blk 3 rfl) size16 (by rw [barr_size, HTL.out]) (by rw [barr_size]; rfl) (barr_one _) ?_
            intro w20 B20 O20
            have H20 := Lib.hid (H12.out.turnBlk 3 rfl B20 O20)
            simp only [List.getElem_toArray, List.getElem_cons_succ, List.getElem_cons_zero, Act.put, List.setIfInBounds_toArray, List.set_cons_zero, List.set_cons_succ]
            refine ⟨rangeAt_blk13 (H20.out.blk 2 (b := A8) rfl), ?_⟩
            refine hd_done (by kernel_rfl) ?_
            go_wp2_with fail
            go_meet
            exact ⟨_, rfl, H20⟩
          · skip
            have H11 : Hid (Env w _ ([obRA a g (4 * (kk + 7)) cap (sched key), obK A6 31 (barr one), obK A8 31 (barr en)] ++ [obK w10.heap.size 31 (barr (List.replicate 16 0))])) := Lib.hid (H10.out.newK 31 (barr (List.replicate 16 0)))
            have hS7 : (w10.alloc (.cells (barr (List.replicate 16 0)) 31)).rangeAt A8 0 (en.map B) := rangeAt_blk13 (H11.out.blk 2 (b := A8) rfl)
            refine op_run rfl (by kernel_rfl) (by go_simp; first | done | exact ⟨rfl, rfl⟩ | rfl) ?_
            refine ⟨hS7, ?_⟩
            simp only [List.getElem_toArray, List.getElem_cons_succ, List.getElem_cons_zero, Act.put, List.setIfInBounds_toArray, List.set_cons_zero, List.set_cons_succ]
            refine hd_one 6 (by kernel_rfl) ?_
            refine op_call rfl (by kernel_rfl) (by go_simp; first | exact ⟨rfl, rfl⟩ | rfl) ?_
            refine (rencrypt_any a g (4 * (kk + 7)) cap (sched key) (xorB ch en) (w10.alloc (.cells (barr (List.replicate 16 0)) 31)) (H11.out.ra 0 rfl) (xorB_len _ _) (kk + 6) hkk6 hkk14).mono ?_
            rintro e w12 ⟨he, hb⟩
            rw [← HTAG.out] at he
            subst he
            have H12 := Lib.hid (H11.out.below hb)
            clear hb
            have hS2 : w12.rangeAt A8 0 (en.map B) := rangeAt_blk13 (H12.out.blk 2 (b := A8) rfl)
            refine ⟨_, rfl, hS2, ?_⟩
            simp only [List.getElem_toArray, List.getElem_cons_succ, List.getElem_cons_zero, Act.put, List.setIfInBounds_toArray, List.set_cons_zero, List.set_cons_succ]
            refine hd_one 8 (by kernel_rfl) ?_
            refine op_store_blk2 _ (barr (tagR key p)) rfl (by kernel_rfl) rfl rfl (H12.out.blk 3 rfl) size16 (by rw [barr_size, HTL.out]) (by rw [barr_size]; rfl) (barr_one _) ?_
            intro w20 B20 O20
            have H20 := Lib.hid (H12.out.turnBlk 3 rfl B20 O20)
            simp only [List.getElem_toArray, List.getElem_cons_succ, List.getElem_cons_zero, Act.put, List.setIfInBounds_toArray, List.set_cons_zero, List.set_cons_succ]
            refine ⟨rangeAt_blk13 (H20.out.blk 2 (b := A8) rfl), ?_⟩
            refine hd_done (by kernel_rfl) ?_
            go_wp2_with fail
            go_meet
            exact ⟨_, rfl, H20⟩
        · skip
          have H10 : Hid (Env w _ ([obRA a g (4 * (kk + 7)) cap (sched key), obK A6 31 (barr one), obK A8 31 (barr en)] ++ [obK w9.heap.size 31 (barr (List.replicate 16 0))])) := Lib.hid (H9.out.newK 31 (barr (List.replicate 16 0)))
          have hS7 : (w9.alloc (.cells (barr (List.replicate 16 0)) 31)).rangeAt A8 0 (en.map B) := rangeAt_blk13 (H10.out.blk 2 (b := A8) rfl)
          refine op_run rfl (by kernel_rfl) (by go_simp; first | done | exact ⟨rfl, rfl⟩ | rfl) ?_
          refine ⟨hS7, ?_⟩
          simp only [List.getElem_toArray, List.getElem_cons_succ, List.getElem_cons_zero, Act.put, List.setIfInBounds_toArray, List.set_cons_zero, List.set_cons_succ]
          refine hd_one 5 (by kernel_rfl) ?_
          refine op_call rfl (by kernel_rfl) (by go_simp; first | exact ⟨rfl, rfl⟩ | rfl) ?_
          refine (rxored_any ch en hchl henl (w9.alloc (.cells (barr (List.replicate 16 0)) 31))).mono ?_
          rintro e w11 ⟨he, hb⟩
          subst he
          have H11 := Lib.hid (H10.out.below hb)
          clear hb
          have hS2 : w11.rangeAt A8 0 (en.map B) := rangeAt_blk13 (H11.out.blk 2 (b := A8) rfl)
          refine ⟨_, rfl, hS2, ?_⟩
          simp only [List.getElem_toArray, List.getElem_cons_succ, List.getElem_cons_zero, Act.put, List.setIfInBounds_toArray, List.set_cons_zero, List.set_cons_succ]
          refine hd_one 6 (by kernel_rfl) ?_
          refine op_call rfl (by kernel_rfl) (by go_simp; first | exact ⟨rfl, rfl⟩ | rfl) ?_
          refine (rencrypt_any a g (4 * (kk + 7)) cap (sched key) (xorB ch en) w11 (H11.out.ra 0 rfl) (xorB_len _ _) (kk + 6) hkk6 hkk14).mono ?_
          rintro e w12 ⟨he, hb⟩
          rw [← HTAG.out] at he
          subst he
          have H12 := Lib.hid (H11.out.below hb)
          clear hb
          have hS2 : w12.rangeAt A8 0 (en.map B) := rangeAt_blk13 (H12.out.blk 2 (b := A8) rfl)
          refine ⟨_, rfl, hS2, ?_⟩
          simp only [List.getElem_toArray, List.getElem_cons_succ, List.getElem_cons_zero, Act.put, List.setIfInBounds_toArray, List.set_cons_zero, List.set_cons_succ]
          refine hd_one 8 (by kernel_rfl) ?_
          refine op_store_blk2 _ (barr (tagR key p)) rfl (by kernel_rfl) rfl rfl (H12.out.blk 3 rfl) size16 (by rw [barr_size, HTL.out]) (by rw [barr_size]; rfl) (barr_one _) ?_
          intro w20 B20 O20
          have H20 := Lib.hid (H12.out.turnBlk 3 rfl B20 O20)
          simp only [List.getElem_toArray, List.getElem_cons_succ, List.getElem_cons_zero, Act.put, List.setIfInBounds_toArray, List.set_cons_zero, List.set_cons_succ]
          refine ⟨rangeAt_blk13 (H20.out.blk 2 (b := A8) rfl), ?_⟩
          refine hd_done (by kernel_rfl) ?_
          go_wp2_with fail
          go_meet
          exact ⟨_, rfl, H20⟩
      · skip
        have H9 : Hid (Env w _ ([obRA a g (4 * (kk + 7)) cap (sched key), obK A6 31 (barr one), obK A8 31 (barr en)] ++ [obK w8.heap.size 31 (barr (List.replicate 16 0))])) := Lib.hid (H8.out.newK 31 (barr (List.replicate 16 0)))
        have hS7 : (w8.alloc (.cells (barr (List.replicate 16 0)) 31)).rangeAt A8 0 (en.map B) := rangeAt_blk13 (H9.out.blk 2 (b := A8) rfl)
        refine op_run rfl (by kernel_rfl) (by go_simp; first | done | exact ⟨rfl, rfl⟩ | rfl) ?_
        refine ⟨hS7, ?_⟩
        simp only [List.getElem_toArray, List.getElem_cons_succ, List.getElem_cons_zero, Act.put, List.setIfInBounds_toArray, List.set_cons_zero, List.set_cons_succ]
        refine hd_one 3 (by kernel_rfl) ?_
        refine op_call rfl (by kernel_rfl) (by go_simp; first | exact ⟨rfl, rfl⟩ | rfl) ?_
        refine (HCHAIN.out (w8.alloc (.cells (barr (List.replicate 16 0)) 31)) (.inr ⟨_, H9.out⟩)).mono ?_
        rintro e w10 ⟨he, hb⟩
        subst he
        have H10 := Lib.hid (H9.out.below hb)
        clear hb
        have hS2 : w10.rangeAt A8 0 (en.map B) := rangeAt_blk13 (H10.out.blk 2 (b := A8) rfl)
        refine ⟨_, rfl, hS2, ?_⟩
        simp only [List.getElem_toArray, List.getElem_cons_succ, List.getElem_cons_zero, Act.put, List.setIfInBounds_toArray, List.set_cons_zero, List.set_cons_succ]
        refine hd_one 5 (by kernel_rfl) ?_
        refine op_call rfl (by kernel_rfl) (by go_simp; first | exact ⟨rfl, rfl⟩ | rfl) ?_
        refine (rxored_any ch en hchl henl w10).mono ?_
        rintro e w11 ⟨he, hb⟩
        subst he
        have H11 := Lib.hid (H10.out.below hb)
        clear hb
        have hS2 : w11.rangeAt A8 0 (en.map B) := rangeAt_blk13 (H11.out.blk 2 (b := A8) rfl)
        refine ⟨_, rfl, hS2, ?_⟩
        simp only [List.getElem_toArray, List.getElem_cons_succ, List.getElem_cons_zero, Act.put, List.setIfInBounds_toArray, List.set_cons_zero, List.set_cons_succ]
        refine hd_one 6 (by kernel_rfl) ?_
        refine op_call rfl (by kernel_rfl) (by go_simp; first | exact ⟨rfl, rfl⟩ | rfl) ?_
        refine (rencrypt_any a g (4 * (kk + 7)) cap (sched key) (xorB ch en) w11 (H11.out.ra 0 rfl) (xorB_len _ _) (kk + 6) hkk6 hkk14).mono ?_
        rintro e w12 ⟨he, hb⟩
        rw [← HTAG.out] at he
        subst he
        have H12 := Lib.hid (H11.out.below hb)
        clear hb
        have hS2 : w12.rangeAt A8 0 (en.map B) := rangeAt_blk13 (H12.out.blk 2 (b := A8) rfl)
        refine ⟨_, rfl, hS2, ?_⟩
        simp only [List.getElem_toArray, List.getElem_cons_succ, List.getElem_cons_zero, Act.put, List.setIfInBounds_toArray, List.set_cons_zero, List.set_cons_succ]
        refine hd_one 8 (by kernel_rfl) ?_
        refine op_store_blk2 _ (barr (tagR key p)) rfl (by kernel_rfl) rfl rfl (H12.out.blk 3 rfl) size16 (by rw [barr_size, HTL.out]) (by rw [barr_size]; rfl) (barr_one _) ?_
        intro w20 B20 O20
        have H20 := Lib.hid (H12.out.turnBlk 3 rfl B20 O20)
        simp only [List.getElem_toArray, List.getElem_cons_succ, List.getElem_cons_zero, Act.put, List.setIfInBounds_toArray, List.set_cons_zero, List.set_cons_succ]
        refine ⟨rangeAt_blk13 (H20.out.blk 2 (b := A8) rfl), ?_⟩
        refine hd_done (by kernel_rfl) ?_
        go_wp2_with fail
        go_meet
        exact ⟨_, rfl, H20⟩
    case rest =>
      obtain ⟨A9, rfl, H8⟩ := hcut
      clear H7
      obtain ⟨tg, htg⟩ : ∃ y, tagR key p = y := ⟨_, rfl⟩
      rw [htg] at H8
      have htl2 : tg.length = 16 := by rw [← htg]; exact HTL.out
      have HTGG := Lib.hid htg
      have H9 : Hid (Env w wc [obRA a g (4 * (kk + 7)) cap (sched key), obK A6 31 (barr one), obK A8 31 (barr en), obK A9 31 (barr tg), obB (.slice none 0 0) (tg.take 0)]) := Lib.hid (H8.out.pushB (OB.nil wc) (Below.refl _ _) (fun x hx => by simp [fpv, Value.ownBlock] at hx))
      clear H8 htg
      go_wp2_with fail
      go_loopw [10, 11] (fun ov iv wx => ∃ i : Nat, i ≤ 16 ∧ iv = .int .i64 (i : Int) ∧ Hid (Env w wx [obRA a g (4 * (kk + 7)) cap (sched key), obK A6 31 (barr one), obK A8 31 (barr en), obK A9 31 (barr tg), obB ov (tg.take i)])) (fun _ iv _ => 16 - (intOf iv).toNat)
      case atStart => exact ⟨0, by omega, rfl, H9⟩
      case round =>
        obtain ⟨i, hi, rfl, H⟩ := hrel
        clear H9
        by_cases hlt : i < 16
        · have t1 : decide ((i : Int) < 16) = true := by rw [decide_eq_true_eq]; omega
          have bi : 0 ≤ (i : Int) ∧ (i : Int) < 16 := by omega
          have c9 := (H.out.blk 3 (b := A9) rfl).cellAt i (barr_getD tg i (by omega))
          have b9 := (H.out.blk 3 (b := A9) rfl).lt
          generalize hz : tg.getD i 0 = z at c9
          have ht : tg.take (i + 1) = tg.take i ++ [z] := by
            rw [List.take_add_one, List.getElem?_eq_getElem (by omega)]
            rw [List.getD_eq_getElem?_getD, List.getElem?_eq_getElem (by omega)] at hz
            simp at hz
            rw [hz]
            rfl
          have HT := Lib.hid ht
          have h10 := H.out.below ((Below.refl _ _).alloc (Nat.le_refl _) (.cells #[.int .u8 (z.toNat : Int)] 5))
          have H10 := Lib.hid h10
          have hbo := Bs.one wr z
          have hnn : (tg.take i).length + [z].length ≤ 140737488355328 := by rw [List.length_take]; simp; omega
          clear hz ht h10 H
          go_wp2_with (at_builtin; refine wpList_append_env H10.out 4 rfl _ _ rfl rfl rfl rfl hbo hnn ?_)
          intro v' w' h11
          have H11 : Hid (Env w w' [obRA a g (4 * (kk + 7)) cap (sched key), obK A6 31 (barr one), obK A8 31 (barr en), obK A9 31 (barr tg), obB v' (tg.take (i + 1))]) := by rw [HT.out]; exact Lib.hid h11
          clear h11 H10 hbo hnn
          have hw1 : IntKind.i64.wrap ((i : Int) + 1) = ((i + 1 : Nat) : Int) := by rw [IntWalk.i64_in _ (by omega)]; omega
          go_wp2_with fail
          refine ⟨⟨i + 1, by omega, rfl, H11⟩, ?_⟩
          simp only [intOf]
          omega
        · have t1 : decide ((i : Int) < 16) = false := by rw [decide_eq_false_iff_not]; omega
          have H10 := H.out
          rw [show i = 16 from by omega, List.take_of_length_le (by omega)] at H10
          have HF := Lib.hid H10
          clear H10
          go_wp2_with fail
          go_ret
          rw [HTGG.out]
          exact HF.out.bytesNew 4 rfl
end Go.Proofs.Ytpampcokonicfaa
/- The document's CMAC: FormOf, a Mac's form. -/
namespace Go.Proofs.Ytpampcokonicfaa
open Go.RowKit
set_option maxRecDepth 100000
set_option linter.unusedVariables false
set_option linter.unusedSimpArgs false
def formR (key p : List UInt8) : List UInt8 := formOf (sched key) key.length (restM key p).1
theorem formR_eq (key p : List UInt8) : formR key p = (sched key).take (16 * (key.length / 4 + 6 + 1)) ++ dbl (topOf key) ++ dbl (dbl (topOf key)) ++ chainN (enc (sched key) (key.length / 4 + 6)) p (lastB p.length) ++ blkAt p (lastB p.length) ++ [UInt8.ofNat (lastN p)] := by
  unfold formR formOf MacS.tail MacS.all restM lastN
  simp [List.append_assoc]
set_option maxHeartbeats 4000000 in
theorem rformOf13_any (v u : Value) (key p : List UInt8) (w : World) (hv : Bs w v key) (hu : Bs w u p) (hk : RightLen key.length) (hl : p.length ≤ 140737488350000) :
    Calls Try.prog 77 #[v, u] w (NewBytes (formR key p) w) := by
  have HV := Lib.hid hv
  have HU := Lib.hid hu
  obtain ⟨uo, uc, rfl, hu1, hu2, _, _⟩ := hu.form
  obtain ⟨kk, hkk⟩ : ∃ kk, key.length = 4 * kk ∧ (kk = 4 ∨ kk = 6 ∨ kk = 8) := by
    rcases hk with h | h | h
    · exact ⟨4, h, .inl rfl⟩
    · exact ⟨6, h, .inr (.inl rfl)⟩
    · exact ⟨8, h, .inr (.inr rfl)⟩
  have HKK := Lib.hid hkk
  have hR : key.length / 4 + 6 = kk + 6 := by omega
  have HTO : Hid (topOf key = enc (sched key) (kk + 6) zB) := by unfold topOf; rw [hR]; exact Lib.hid rfl
  have h0 : Env w w [] := Env.start w
  have H0 := Lib.hid h0
  clear hv hu hk h0 hR hkk
  go_enter Try.func77, Try.ntmps77
  go_wp2_with fail
  refine (rof_any v key kk w HV.out HKK.out.1 HKK.out.2).mono ?_
  rintro e w1 ⟨a, g, cap, rfl, ra, hb1, ha, hg⟩
  have H1 : Hid (Env w w1 [obRA a g (4 * (kk + 7)) cap (sched key)]) := Lib.hid (H0.out.push (F' := fun x => x = a ∨ x = g) (obRA a g (4 * (kk + 7)) cap (sched key)) ⟨ra, rfl⟩ hb1 (fun x hx => by rcases hx with rfl | rfl; exact ha; exact hg))
  clear ra hb1 ha hg H0
  go_wp2_with fail
  change Calls _ _ #[_, .agg (barr zB)] _ _
  refine (rencrypt_any a g (4 * (kk + 7)) cap (sched key) zB w1 (H1.out.ra 0 rfl) (by simp [zB]) (kk + 6) (by omega) (by have := HKK.out.2; omega)).mono ?_
  rintro e w2 ⟨rfl, hb⟩
  rw [← HTO.out]
  have H2 := Lib.hid (H1.out.below hb)
  clear hb H1
  have htl : (topOf key).length = 16 := by rw [HTO.out, enc_len]
  go_wp2_with fail
  refine (rdbl_any (topOf key) htl w2).mono ?_
  rintro e w3 ⟨rfl, hb⟩
  have H3 := Lib.hid (H2.out.below hb)
  clear hb H2
  obtain ⟨one, hone⟩ : ∃ y, dbl (topOf key) = y := ⟨_, rfl⟩
  rw [hone]
  have hol : one.length = 16 := by rw [← hone]; exact dbl_length _
  have hos : (barr one).size = 16 := by rw [barr_size, hol]
  have HONE := Lib.hid hone
  clear hone
  have hzz : (barr (List.replicate 16 (0 : UInt8))).size = 16 := by rw [barr_size]; rfl
  have bz : Blk (w3.alloc (.cells (barr (List.replicate 16 0)) 31)) w3.heap.size 31 (barr (List.replicate 16 0)) := Blk.new _ _ _
  go_upto_region 3 with ((with_reducible change wpList _ _ _ (Oper.mk _ (Op.store 31 _ _) _ _ _ _ :: _) _ _); refine wpList_store_var w3.heap.size (barr one) rfl rfl bz size16 hos hzz (barr_one _) ?_; intro w4 B4 O4; have H4 := Lib.hid ((H3.out.newK 31 (barr (List.replicate 16 0))).turnBlk 1 rfl B4 O4); clear B4 O4)
  clear bz hzz
  generalize w3.heap.size = A6 at H4 ⊢
  clear H3
  have B6 := H4.out.blk 1 (b := A6) rfl
  go_wp2_with ((with_reducible change wpList _ _ _ (Oper.mk _ (Op.load 31 _) _ _ _ _ :: _) _ _); refine wpList_load_blk (ty := 31) A6 rfl B6 Try.underlying31 rfl size16 hos ?_)
  refine (rdbl_any one hol w4).mono ?_
  rintro e w5 ⟨rfl, hb⟩
  have H5 := Lib.hid (H4.out.below hb)
  clear hb H4 B6
  obtain ⟨two, htwo⟩ : ∃ y, dbl one = y := ⟨_, rfl⟩
  rw [htwo]
  have htl2 : two.length = 16 := by rw [← htwo]; exact dbl_length _
  have hts : (barr two).size = 16 := by rw [barr_size, htl2]
  have HTWO := Lib.hid htwo
  clear htwo
  have hzz : (barr (List.replicate 16 (0 : UInt8))).size = 16 := by rw [barr_size]; rfl
  have bz : Blk (w5.alloc (.cells (barr (List.replicate 16 0)) 31)) w5.heap.size 31 (barr (List.replicate 16 0)) := Blk.new _ _ _
  go_upto_region 4 with ((with_reducible change wpList _ _ _ (Oper.mk _ (Op.store 31 _ _) _ _ _ _ :: _) _ _); refine wpList_store_var w5.heap.size (barr two) rfl rfl bz size16 hts hzz (barr_one _) ?_; intro w6 B4 O4; have H6 := Lib.hid ((H5.out.newK 31 (barr (List.replicate 16 0))).turnBlk 2 rfl B4 O4); clear B4 O4)
  clear bz hzz
  generalize w5.heap.size = A7 at H6 ⊢
  clear H5
  obtain ⟨ch, hch⟩ : ∃ y, chainN (enc (sched key) (kk + 6)) p (lastB p.length) = y := ⟨_, rfl⟩
  have hchl : ch.length = 16 := by rw [← hch]; exact chainN_len (fun b => enc_len _ _ _) p _
  have hchs : (barr ch).size = 16 := by rw [barr_size, hchl]
  have HCH := Lib.hid hch
  clear hch
  have hkk14 : kk + 6 ≤ 14 := by have := HKK.out.2; omega
  go_wp2_with fail
  refine (rchain_any a g (4 * (kk + 7)) cap (sched key) p _ w6 (H6.out.ra 0 rfl) (kk + 6) (by omega) hkk14 (H6.out.old HU.out) hl).mono ?_
  rintro e w7 ⟨rfl, hb⟩
  rw [HCH.out]
  have H7 := Lib.hid (H6.out.below hb)
  clear hb H6
  have hzz : (barr (List.replicate 16 (0 : UInt8))).size = 16 := by rw [barr_size]; rfl
  have bz : Blk (w7.alloc (.cells (barr (List.replicate 16 0)) 31)) w7.heap.size 31 (barr (List.replicate 16 0)) := Blk.new _ _ _
  go_upto_region 5 with ((with_reducible change wpList _ _ _ (Oper.mk _ (Op.store 31 _ _) _ _ _ _ :: _) _ _); refine wpList_store_var w7.heap.size (barr ch) rfl rfl bz size16 hchs hzz (barr_one _) ?_; intro w8 B4 O4; have H8 := Lib.hid ((H7.out.newK 31 (barr (List.replicate 16 0))).turnBlk 3 rfl B4 O4); clear B4 O4)
  clear bz hzz
  generalize w7.heap.size = A8 at H8 ⊢
  clear H7
  have hlB : lastB p.length ≤ 8796093022208 := by unfold lastB nBlk; split <;> omega
  have hnB : (nBlk p.length : Int) - 1 = (lastB p.length : Int) := by unfold lastB nBlk; split <;> omega
  have hNb : nBlk p.length ≤ 8796093022209 := by unfold nBlk; split <;> omega
  have hle : 16 * lastB p.length ≤ p.length := by unfold lastB nBlk; split <;> omega
  have hN16 : lastN p ≤ 16 := lastN_le p
  have hln : p.length - 16 * lastB p.length = lastN p := rfl
  have HBL : Hid (∀ W : World, Calls Try.prog 75 #[.int .i64 (p.length : Int)] W fun e w' => e = .returned (.int .i64 (nBlk p.length : Int)) ∧ W = w') := Lib.hid (fun W => rblocks_any p.length W (by omega))
  generalize nBlk p.length = NB at hnB HBL hNb
  obtain ⟨lb, hlb⟩ : ∃ y, lastB p.length = y := ⟨_, rfl⟩
  obtain ⟨ln, hlnn⟩ : ∃ y, lastN p = y := ⟨_, rfl⟩
  rw [hlb] at hlB hnB hle hln
  rw [hlnn] at hN16 hln
  have HLB := Lib.hid hlb
  have HLN := Lib.hid hlnn
  clear hlb hlnn
  go_wp2_with fail
  refine (HBL.out w8).mono ?_
  rintro e w' ⟨rfl, rfl⟩
  go_wp2_with fail
  refine (rblock13_any _ p lb w8 (H8.out.old HU.out) (by omega) (by omega)).mono ?_
  rintro e w9 ⟨rfl, hb⟩
  have H9 := Lib.hid (H8.out.below hb)
  clear hb H8
  obtain ⟨bk, hbk⟩ : ∃ y, blkAt p lb = y := ⟨_, rfl⟩
  rw [hbk]
  have hbl : bk.length = 16 := by rw [← hbk]; exact blkAt_len _ _
  have hbs : (barr bk).size = 16 := by rw [barr_size, hbl]
  have HBK : Hid (blkAt p (lastB p.length) = bk) := Lib.hid (by rw [HLB.out]; exact hbk)
  clear hbk
  have hzz : (barr (List.replicate 16 (0 : UInt8))).size = 16 := by rw [barr_size]; rfl
  have bz : Blk (w9.alloc (.cells (barr (List.replicate 16 0)) 31)) w9.heap.size 31 (barr (List.replicate 16 0)) := Blk.new _ _ _
  go_upto_region 7 with ((with_reducible change wpList _ _ _ (Oper.mk _ (Op.store 31 _ _) _ _ _ _ :: _) _ _); refine wpList_store_var w9.heap.size (barr bk) rfl rfl bz size16 hbs hzz (barr_one _) ?_; intro w10 B4 O4; have H10 := Lib.hid ((H9.out.newK 31 (barr (List.replicate 16 0))).turnBlk 4 rfl B4 O4); clear B4 O4)
  clear bz hzz
  generalize w9.heap.size = A10 at H10 ⊢
  clear H9
  go_wp2_with fail
  refine (rform_any a g (4 * (kk + 7)) cap (sched key) w10 (H10.out.ra 0 rfl) (by have := HKK.out.2; omega)).mono ?_
  rintro e w11 ⟨fv, rfl, q1, q2, q3⟩
  have h11 := H10.out.pushB q1 q2 q3
  obtain ⟨F0, hF0⟩ : ∃ y, (sched key).take (4 * (4 * (kk + 7))) = y := ⟨_, rfl⟩
  rw [hF0] at h11
  have hF0l : F0.length ≤ 240 := by rw [← hF0, List.length_take]; omega
  have H11 : Hid (Env w w11 [obRA a g (4 * (kk + 7)) cap (sched key), obK A6 31 (barr one), obK A7 31 (barr two), obK A8 31 (barr ch), obK A10 31 (barr bk), obB fv F0]) := Lib.hid h11
  have HF0 := Lib.hid hF0
  clear q1 q2 q3 h11 hF0 H10
  have H1a : Hid (Env w w11 [obRA a g (4 * (kk + 7)) cap (sched key), obK A6 31 (barr one), obK A7 31 (barr two), obK A8 31 (barr ch), obK A10 31 (barr bk), obB fv (F0 ++ one.take 0)]) := by rw [List.take_zero, List.append_nil]; exact H11
  clear H11
  go_wp2_with fail
  go_loopw [11, 12] (fun ov iv wx => ∃ i : Nat, i ≤ 16 ∧ iv = .int .i64 (i : Int) ∧ Hid (Env w wx [obRA a g (4 * (kk + 7)) cap (sched key), obK A6 31 (barr one), obK A7 31 (barr two), obK A8 31 (barr ch), obK A10 31 (barr bk), obB ov (F0 ++ one.take i)])) (fun _ iv _ => 16 - (intOf iv).toNat)
  case atStart => exact ⟨0, by omega, rfl, H1a⟩
  case round =>
    obtain ⟨i, hi, rfl, H⟩ := hrel
    clear H1a
    by_cases hlt : i < 16
    · have t1 : decide ((i : Int) < 16) = true := by rw [decide_eq_true_eq]; omega
      have bi : 0 ≤ (i : Int) ∧ (i : Int) < 16 := by omega
      have c9 := (H.out.blk 1 (b := A6) rfl).cellAt i (barr_getD one i (by omega))
      have b9 := (H.out.blk 1 (b := A6) rfl).lt
      generalize hz : one.getD i 0 = z at c9
      have ht : one.take (i + 1) = one.take i ++ [z] := by
        rw [List.take_add_one, List.getElem?_eq_getElem (by omega)]
        rw [List.getD_eq_getElem?_getD, List.getElem?_eq_getElem (by omega)] at hz
        simp at hz
        rw [hz]
        rfl
      have HT := Lib.hid ht
      have H10 := Lib.hid (H.out.below ((Below.refl _ _).alloc (Nat.le_refl _) (.cells #[.int .u8 (z.toNat : Int)] 5)))
      have hbo := Bs.one wr z
      have hnn : (F0 ++ one.take i).length + [z].length ≤ 140737488355328 := by simp only [List.length_append, List.length_take, List.length_singleton]; omega
      clear hz ht H
      go_wp2_with (at_builtin; refine wpList_append_env H10.out 5 rfl _ _ rfl rfl rfl rfl hbo hnn ?_)
      intro v' w' h11
      have h12 : Env w w' [obRA a g (4 * (kk + 7)) cap (sched key), obK A6 31 (barr one), obK A7 31 (barr two), obK A8 31 (barr ch), obK A10 31 (barr bk), obB v' (F0 ++ one.take (i + 1))] := by
        rw [HT.out]
        first | exact h11 | (simp only [List.append_assoc]; exact h11) | (simp only [List.append_assoc] at h11 ⊢; exact h11)
      have H11 := Lib.hid h12
      clear h11 h12 H10 hbo hnn
      have hw1 : IntKind.i64.wrap ((i : Int) + 1) = ((i + 1 : Nat) : Int) := by rw [IntWalk.i64_in _ (by omega)]; omega
      go_wp2_with fail
      refine ⟨⟨i + 1, by omega, rfl, H11⟩, ?_⟩
      simp only [intOf]
      omega
    · have t1 : decide ((i : Int) < 16) = false := by rw [decide_eq_false_iff_not]; omega
      have h10 := H.out
      rw [show i = 16 from by omega, List.take_of_length_le (show one.length ≤ 16 by omega)] at h10
      have H1b := Lib.hid h10
      clear h10 H
      have H2a : Hid (Env w wr [obRA a g (4 * (kk + 7)) cap (sched key), obK A6 31 (barr one), obK A7 31 (barr two), obK A8 31 (barr ch), obK A10 31 (barr bk), obB u11 (F0 ++ one ++ two.take 0)]) := by rw [List.take_zero, List.append_nil]; exact H1b
      clear H1b
      go_wp2_with fail
      go_loopw [11, 13] (fun ov iv wx => ∃ i : Nat, i ≤ 16 ∧ iv = .int .i64 (i : Int) ∧ Hid (Env w wx [obRA a g (4 * (kk + 7)) cap (sched key), obK A6 31 (barr one), obK A7 31 (barr two), obK A8 31 (barr ch), obK A10 31 (barr bk), obB ov (F0 ++ one ++ two.take i)])) (fun _ iv _ => 16 - (intOf iv).toNat)
      case atStart => exact ⟨0, by omega, rfl, H2a⟩
      case round =>
        obtain ⟨i, hi, rfl, H⟩ := hrel
        clear H2a
        by_cases hlt : i < 16
        · have t1 : decide ((i : Int) < 16) = true := by rw [decide_eq_true_eq]; omega
          have bi : 0 ≤ (i : Int) ∧ (i : Int) < 16 := by omega
          have c9 := (H.out.blk 2 (b := A7) rfl).cellAt i (barr_getD two i (by omega))
          have b9 := (H.out.blk 2 (b := A7) rfl).lt
          generalize hz : two.getD i 0 = z at c9
          have ht : two.take (i + 1) = two.take i ++ [z] := by
            rw [List.take_add_one, List.getElem?_eq_getElem (by omega)]
            rw [List.getD_eq_getElem?_getD, List.getElem?_eq_getElem (by omega)] at hz
            simp at hz
            rw [hz]
            rfl
          have HT := Lib.hid ht
          have H10 := Lib.hid (H.out.below ((Below.refl _ _).alloc (Nat.le_refl _) (.cells #[.int .u8 (z.toNat : Int)] 5)))
          have hbo := Bs.one wr z
          have hnn : (F0 ++ one ++ two.take i).length + [z].length ≤ 140737488355328 := by simp only [List.length_append, List.length_take, List.length_singleton]; omega
          clear hz ht H
          go_wp2_with (at_builtin; refine wpList_append_env H10.out 5 rfl _ _ rfl rfl rfl rfl hbo hnn ?_)
          intro v' w' h11
          have h12 : Env w w' [obRA a g (4 * (kk + 7)) cap (sched key), obK A6 31 (barr one), obK A7 31 (barr two), obK A8 31 (barr ch), obK A10 31 (barr bk), obB v' (F0 ++ one ++ two.take (i + 1))] := by
            rw [HT.out]
            first | exact h11 | (simp only [List.append_assoc]; exact h11) | (simp only [List.append_assoc] at h11 ⊢; exact h11)
          have H11 := Lib.hid h12
          clear h11 h12 H10 hbo hnn
          have hw1 : IntKind.i64.wrap ((i : Int) + 1) = ((i + 1 : Nat) : Int) := by rw [IntWalk.i64_in _ (by omega)]; omega
          go_wp2_with fail
          refine ⟨⟨i + 1, by omega, rfl, H11⟩, ?_⟩
          simp only [intOf]
          omega
        · have t1 : decide ((i : Int) < 16) = false := by rw [decide_eq_false_iff_not]; omega
          have h10 := H.out
          rw [show i = 16 from by omega, List.take_of_length_le (show two.length ≤ 16 by omega)] at h10
          have H2b := Lib.hid h10
          clear h10 H
          have H3a : Hid (Env w wr [obRA a g (4 * (kk + 7)) cap (sched key), obK A6 31 (barr one), obK A7 31 (barr two), obK A8 31 (barr ch), obK A10 31 (barr bk), obB u11 (F0 ++ one ++ two ++ ch.take 0)]) := by rw [List.take_zero, List.append_nil]; exact H2b
          clear H2b
          go_wp2_with fail
          go_loopw [11, 14] (fun ov iv wx => ∃ i : Nat, i ≤ 16 ∧ iv = .int .i64 (i : Int) ∧ Hid (Env w wx [obRA a g (4 * (kk + 7)) cap (sched key), obK A6 31 (barr one), obK A7 31 (barr two), obK A8 31 (barr ch), obK A10 31 (barr bk), obB ov (F0 ++ one ++ two ++ ch.take i)])) (fun _ iv _ => 16 - (intOf iv).toNat)
          case atStart => exact ⟨0, by omega, rfl, H3a⟩
          case round =>
            obtain ⟨i, hi, rfl, H⟩ := hrel
            clear H3a
            by_cases hlt : i < 16
            · have t1 : decide ((i : Int) < 16) = true := by rw [decide_eq_true_eq]; omega
              have bi : 0 ≤ (i : Int) ∧ (i : Int) < 16 := by omega
              have c9 := (H.out.blk 3 (b := A8) rfl).cellAt i (barr_getD ch i (by omega))
              have b9 := (H.out.blk 3 (b := A8) rfl).lt
              generalize hz : ch.getD i 0 = z at c9
              have ht : ch.take (i + 1) = ch.take i ++ [z] := by
                rw [List.take_add_one, List.getElem?_eq_getElem (by omega)]
                rw [List.getD_eq_getElem?_getD, List.getElem?_eq_getElem (by omega)] at hz
                simp at hz
                rw [hz]
                rfl
              have HT := Lib.hid ht
              have H10 := Lib.hid (H.out.below ((Below.refl _ _).alloc (Nat.le_refl _) (.cells #[.int .u8 (z.toNat : Int)] 5)))
              have hbo := Bs.one wr z
              have hnn : (F0 ++ one ++ two ++ ch.take i).length + [z].length ≤ 140737488355328 := by simp only [List.length_append, List.length_take, List.length_singleton]; omega
              clear hz ht H
              go_wp2_with (at_builtin; refine wpList_append_env H10.out 5 rfl _ _ rfl rfl rfl rfl hbo hnn ?_)
              intro v' w' h11
              have h12 : Env w w' [obRA a g (4 * (kk + 7)) cap (sched key), obK A6 31 (barr one), obK A7 31 (barr two), obK A8 31 (barr ch), obK A10 31 (barr bk), obB v' (F0 ++ one ++ two ++ ch.take (i + 1))] := by
                rw [HT.out]
                first | exact h11 | (simp only [List.append_assoc]; exact h11) | (simp only [List.append_assoc] at h11 ⊢; exact h11)
              have H11 := Lib.hid h12
              clear h11 h12 H10 hbo hnn
              have hw1 : IntKind.i64.wrap ((i : Int) + 1) = ((i + 1 : Nat) : Int) := by rw [IntWalk.i64_in _ (by omega)]; omega
              go_wp2_with fail
              refine ⟨⟨i + 1, by omega, rfl, H11⟩, ?_⟩
              simp only [intOf]
              omega
            · have t1 : decide ((i : Int) < 16) = false := by rw [decide_eq_false_iff_not]; omega
              have h10 := H.out
              rw [show i = 16 from by omega, List.take_of_length_le (show ch.length ≤ 16 by omega)] at h10
              have H3b := Lib.hid h10
              clear h10 H
              have H4a : Hid (Env w wr [obRA a g (4 * (kk + 7)) cap (sched key), obK A6 31 (barr one), obK A7 31 (barr two), obK A8 31 (barr ch), obK A10 31 (barr bk), obB u11 (F0 ++ one ++ two ++ ch ++ bk.take 0)]) := by rw [List.take_zero, List.append_nil]; exact H3b
              clear H3b
              go_wp2_with fail
              go_loopw [11, 15] (fun ov iv wx => ∃ i : Nat, i ≤ 16 ∧ iv = .int .i64 (i : Int) ∧ Hid (Env w wx [obRA a g (4 * (kk + 7)) cap (sched key), obK A6 31 (barr one), obK A7 31 (barr two), obK A8 31 (barr ch), obK A10 31 (barr bk), obB ov (F0 ++ one ++ two ++ ch ++ bk.take i)])) (fun _ iv _ => 16 - (intOf iv).toNat)
              case atStart => exact ⟨0, by omega, rfl, H4a⟩
              case round =>
                obtain ⟨i, hi, rfl, H⟩ := hrel
                clear H4a
                by_cases hlt : i < 16
                · have t1 : decide ((i : Int) < 16) = true := by rw [decide_eq_true_eq]; omega
                  have bi : 0 ≤ (i : Int) ∧ (i : Int) < 16 := by omega
                  have c9 := (H.out.blk 4 (b := A10) rfl).cellAt i (barr_getD bk i (by omega))
                  have b9 := (H.out.blk 4 (b := A10) rfl).lt
                  generalize hz : bk.getD i 0 = z at c9
                  have ht : bk.take (i + 1) = bk.take i ++ [z] := by
                    rw [List.take_add_one, List.getElem?_eq_getElem (by omega)]
                    rw [List.getD_eq_getElem?_getD, List.getElem?_eq_getElem (by omega)] at hz
                    simp at hz
                    rw [hz]
                    rfl
                  have HT := Lib.hid ht
                  have H10 := Lib.hid (H.out.below ((Below.refl _ _).alloc (Nat.le_refl _) (.cells #[.int .u8 (z.toNat : Int)] 5)))
                  have hbo := Bs.one wr z
                  have hnn : (F0 ++ one ++ two ++ ch ++ bk.take i).length + [z].length ≤ 140737488355328 := by simp only [List.length_append, List.length_take, List.length_singleton]; omega
                  clear hz ht H
                  go_wp2_with (at_builtin; refine wpList_append_env H10.out 5 rfl _ _ rfl rfl rfl rfl hbo hnn ?_)
                  intro v' w' h11
                  have h12 : Env w w' [obRA a g (4 * (kk + 7)) cap (sched key), obK A6 31 (barr one), obK A7 31 (barr two), obK A8 31 (barr ch), obK A10 31 (barr bk), obB v' (F0 ++ one ++ two ++ ch ++ bk.take (i + 1))] := by
                    rw [HT.out]
                    first | exact h11 | (simp only [List.append_assoc]; exact h11) | (simp only [List.append_assoc] at h11 ⊢; exact h11)
                  have H11 := Lib.hid h12
                  clear h11 h12 H10 hbo hnn
                  have hw1 : IntKind.i64.wrap ((i : Int) + 1) = ((i + 1 : Nat) : Int) := by rw [IntWalk.i64_in _ (by omega)]; omega
                  go_wp2_with fail
                  refine ⟨⟨i + 1, by omega, rfl, H11⟩, ?_⟩
                  simp only [intOf]
                  omega
                · have t1 : decide ((i : Int) < 16) = false := by rw [decide_eq_false_iff_not]; omega
                  have h10 := H.out
                  rw [show i = 16 from by omega, List.take_of_length_le (show bk.length ≤ 16 by omega)] at h10
                  have H4b := Lib.hid h10
                  clear h10 H
                  have hF : (F0 ++ one ++ two ++ ch ++ bk).length + [UInt8.ofNat ln].length ≤ 140737488355328 := by simp only [List.length_append, List.length_singleton]; omega
                  obtain ⟨r, hr⟩ : ∃ y, 16 * lb = y := ⟨_, rfl⟩
                  have hrI : 16 * (lb : Int) = (r : Int) := by omega
                  have hnI : (p.length : Int) - (r : Int) = (ln : Int) := by omega
                  have hcv : (ln : Int) = ((UInt8.ofNat ln).toNat : Int) := by rw [tU ln (by omega)]
                  have HCV := Lib.hid hcv
                  clear hr hcv
                  have H20 := Lib.hid (H4b.out.below ((Below.refl _ _).alloc (Nat.le_refl _) (.cells #[.int .u8 ((UInt8.ofNat ln).toNat : Int)] 5)))
                  have hbo := Bs.one wr (UInt8.ofNat ln)
                  rw [← HCV.out] at H20 hbo
                  clear H4b
                  go_wp2_with (at_builtin; refine wpList_append_env H20.out 5 rfl _ _ rfl rfl rfl rfl hbo hF ?_)
                  intro v' w' h11
                  have H21 : Hid (Env w w' [obRA a g (4 * (kk + 7)) cap (sched key), obK A6 31 (barr one), obK A7 31 (barr two), obK A8 31 (barr ch), obK A10 31 (barr bk), obB v' (formR key p)]) := by
                    rw [formR_eq, HONE.out, HTWO.out, show key.length / 4 + 6 = kk + 6 from by have := HKK.out.1; omega, HCH.out, HBK.out, HLN.out, show 16 * (kk + 6 + 1) = 4 * (4 * (kk + 7)) from by omega, HF0.out]
                    refine Lib.hid ?_
                    first | exact h11 | (simp only [List.append_assoc]; exact h11) | (simp only [List.append_assoc] at h11 ⊢; exact h11)
                  clear h11 H20 hbo
                  go_wp2_with fail
                  go_ret
                  exact H21.out.bytesNew 5 rfl
end Go.Proofs.Ytpampcokonicfaa
/- Lists of any kind as things of a law's world. No program in sight. -/
namespace Go.Proofs.Ytpampcokonicfaa
open Go.RowKit
set_option maxRecDepth 100000
set_option linter.unusedVariables false
theorem Knd.New.lit {α : Type} (K : Knd α) (l : List α) (w : World) (hl : l.length ≤ 1000) : K.New l w (.returned (.slice (some ⟨w.heap.size, 0, none⟩) l.length l.length)) (w.alloc (.cells (K.fl l).toArray K.e)) := by
  refine ⟨_, rfl, ?_, (Below.refl _ _).alloc (Nat.le_refl _) _, fun x hx => ?_⟩
  · have := World.ownsRow_lit (base := 0) (e := K.e) (size := K.sz) w (K.fl l).toArray l.length (Nat.zero_le _) (by unfold maxLen; omega) (by rw [List.size_toArray, K.fl_len])
    simpa [Knd.O] using this
  · have e : w.heap.size = x := by simpa [fpv, Value.ownBlock] using hx
    omega
section
variable {α : Type} {K : Knd α} {w0 w w' : World} {obs : List Ob}
theorem Knd.New.env {l : List α} {e : Ending} (h : Env w0 w obs) (hn : K.New l w e w') : ∃ v, e = .returned v ∧ Env w0 w' (obs ++ [K.ob v l]) := by
  obtain ⟨v, he, h1, h2, h3⟩ := hn
  exact ⟨v, he, h.pushE h1 h2 h3⟩
theorem Env.kO (h : Env w0 w obs) (i : Nat) {v : Value} {l : List α} (hi : obs[i]? = some (K.ob v l)) : K.O w v l := Env.row h i hi
theorem Env.kR (h : Env w0 w obs) (i : Nat) {v : Value} {l : List α} (hi : obs[i]? = some (K.ob v l)) : K.R w v l := (Env.kO h i hi).rd
theorem Env.turnK (h : Env w0 w obs) (i : Nat) {v : Value} {l l' : List α} (hi : obs[i]? = some (K.ob v l)) (hb : K.O w' v l') (ho : Only (fpv v) w w') : Env w0 w' (obs.set i (K.ob v l')) := Env.turnE h i hi hb ho
theorem Env.oldK (h : Env w0 w obs) {v : Value} {l : List α} (hv : K.R w0 v l) : K.R w v l := hv.grow h.base
theorem Env.pushNil (h : Env w0 w obs) (K : Knd α) : Env w0 w (obs ++ [K.ob (.slice none 0 0) []]) := h.pushE (Knd.O.nil w) (Below.refl _ _) (fun x hx => by simp [fpv, Value.ownBlock] at hx)
/-- a beginning of a list -/
theorem Knd.R.begin {l r : List α} {ao : Option Addr} {n cap : Nat} (h : K.R w (.slice ao n cap) (l ++ r)) : K.R w (.slice ao l.length cap) l := by
  obtain ⟨ao', cap', hv, h1, h2, h3, h4⟩ := h.form
  injection hv with e1 e2 e3
  subst e1; subst e3
  refine ⟨K.fl_len l, K.fl_cells l, ao, cap, rfl, by rw [List.length_append] at h1; omega, h2, h3, fun j u hj => ?_⟩
  exact h4 j u (by rw [K.fl_app, List.getElem?_append_left (List.getElem?_eq_some_iff.1 hj).1]; exact hj)
theorem Knd.R.lent {mk : Int → Int → α} {l : List α} {ao : Option Addr} {n cap : Nat} (h : K.R w (.slice ao n cap) (lentM mk l)) : K.R w (.slice ao l.length cap) l := Knd.R.begin h
theorem Env.any (h : Env w0 w obs) (i : Nat) {v : Value} {l : List α} (hi : obs[i]? = some (K.ob v l)) : ∃ ao cap, v = .slice ao l.length cap := (Env.kO h i hi).any
theorem Env.lentF (h : Env w0 w obs) (i : Nat) {mk : Int → Int → α} {v : Value} {l : List α} (hi : obs[i]? = some (K.ob v (lentM mk l))) : ∃ g cap, v = .slice (some ⟨g, 0, none⟩) (lentM mk l).length cap ∧ l.length + 6 ≤ cap ∧ cap ≤ 9223372036854775807 := by
  have h1 := Env.kO h i hi
  obtain ⟨g, cap, rfl⟩ := h1.form (by rw [lentM_len]; omega)
  obtain ⟨ao, cap', hv, h2, h3, _⟩ := h1.rd.any
  injection hv with _ _ e3
  subst e3
  rw [lentM_len] at h2
  exact ⟨g, cap, rfl, h2, h3⟩
end
end Go.Proofs.Ytpampcokonicfaa
/- The contract of Ledger.Count. Condition: the ledger's events are fewer than 2^63. -/
namespace Go.Proofs.Ytpampcokonicfaa
open Go.RowKit
set_option maxRecDepth 100000
set_option linter.unusedVariables false

/-- how many events of the first j runs have the kind k -/
def cntTo (rs : List Rn) (k : Int) : Nat → Int
  | 0 => 0
  | j + 1 => cntTo rs k j + if (rs.getD j ⟨0, 0, 0⟩).k = k then (rs.getD j ⟨0, 0, 0⟩).c else 0
def cnt (rs : List Rn) (k : Int) : Int := cntTo rs k rs.length
theorem cntTo_bound (rs : List Rn) (k : Int) (h : Posi rs) : ∀ j, j ≤ rs.length → 0 ≤ cntTo rs k j ∧ cntTo rs k j ≤ tot (rs.take j)
  | 0, _ => by simp [cntTo, tot]
  | j + 1, hj => by
    obtain ⟨h1, h2⟩ := cntTo_bound rs k h j (by omega)
    have hg : rs.getD j ⟨0, 0, 0⟩ = rs[j] := by rw [List.getD_eq_getElem?_getD, List.getElem?_eq_getElem (by omega)]; rfl
    have hp := h rs[j] (List.getElem_mem _)
    rw [cntTo, hg, List.take_add_one, List.getElem?_eq_getElem (by omega), tot_append]
    simp only [Option.toList_some, tot_one]
    split <;> omega
theorem tot_take (rs : List Rn) (h : Posi rs) (j : Nat) : tot (rs.take j) ≤ tot rs := by
  have h1 := List.take_append_drop j rs
  have h2 : tot rs = tot (rs.take j) + tot (rs.drop j) := by rw [← tot_append, h1]
  have h3 := tot_nonneg (rs.drop j) (fun r hr => h r (List.mem_of_mem_drop hr))
  omega
set_option maxHeartbeats 1000000 in
theorem countP_any (b : Nat) (v : Value) (rs : List Rn) (k : Int) (w : World) (h : LedP w b v rs) (hl : rs.length ≤ 5497558138880) (ht : tot rs < 9223372036854775808) :
    Calls Try.prog 29 #[.pointer (some ⟨b, 0, none⟩), .int .u8 k] w fun e w' => e = .returned (.int .i64 (cnt rs k)) ∧ Below w.heap.size w w' := by
  have HP := Lib.hid h.posi
  have H := Lib.hid h
  clear h
  go_enter Try.func29, Try.ntmps29
  go_wp2_with fail
  refine (runsP_any b v rs _ H.out hl).mono ?_
  rintro e w1 ⟨v1, rfl, h1, h2, h3⟩
  have HB := Lib.hid h2
  have HR := Lib.hid h1
  obtain ⟨ao, cap, rfl⟩ := h1.any
  clear h1 h2 h3
  go_wp2_with fail
  go_loopw [5, 11] (fun n i w2 => ∃ j : Nat, j ≤ rs.length ∧ i = .int .i64 (j : Int) ∧ n = .int .i64 (cntTo rs k j) ∧ Below w1.heap.size w1 w2) (fun _ i _ => rs.length - (intOf i).toNat)
  case atStart => exact ⟨0, Nat.zero_le _, rfl, rfl, Below.refl _ _⟩
  case round =>
    obtain ⟨j, hj, rfl, rfl, hb⟩ := hrel
    by_cases hlt : j < rs.length
    · obtain ⟨r, hr⟩ : ∃ r, rs[j]? = some r := ⟨_, List.getElem?_eq_getElem hlt⟩
      obtain ⟨g, off, rfl, d1, d2, d3⟩ := RunsRd.cells HR.out.rd j r hr
      have hgl : g < w1.heap.size := World.block_lt_of_cell? w1 _ d1
      have c1 := (hb.cell hgl).trans d1
      have c2 := (hb.cell hgl).trans d2
      have c3 := (hb.cell hgl).trans d3
      have HBB := Lib.hid hb
      have hgr : g < wr.heap.size := Nat.lt_of_lt_of_le hgl hb.size
      obtain ⟨q1, q2⟩ := cntTo_bound rs k HP.out j hj
      obtain ⟨q3, q4⟩ := cntTo_bound rs k HP.out (j + 1) hlt
      have q5 := tot_take rs HP.out (j + 1)
      have q6 := tot_take rs HP.out j
      have HE : Hid (cntTo rs k (j + 1) = cntTo rs k j + if r.k = k then r.c else 0) := by
        rw [cntTo, show rs.getD j ⟨0, 0, 0⟩ = r from by rw [List.getD_eq_getElem?_getD, hr]; rfl]
        exact Lib.hid rfl
      have HRJ := Lib.hid hr
      clear hr hb d1 d2 d3
      have HQ : Hid (0 ≤ cntTo rs k j ∧ cntTo rs k j ≤ tot rs ∧ 0 ≤ cntTo rs k (j + 1) ∧ cntTo rs k (j + 1) ≤ tot rs) := Lib.hid ⟨q1, by omega, q3, by omega⟩
      clear q1 q2 q3 q4 q5 q6
      have HPC := Lib.hid (HP.out r (List.mem_of_getElem? HRJ.out))
      clear HRJ
      by_cases hk : r.k = k
      · have HE2 : Hid (cntTo rs k (j + 1) = cntTo rs k j + r.c) := by
          have h := HE.out
          rw [if_pos hk] at h
          exact Lib.hid h
        have z1 := HQ.out.1
        have z2 : cntTo rs k j + r.c < 9223372036854775808 := by rw [← HE2.out]; have := HQ.out.2.2.2; omega
        have z3 := HPC.out
        have hb1 : (r.k == k) = true := by rw [hk]; simp
        generalize cntTo rs k j = x at z1 z2 HE HE2 HQ
        clear HE
        go_wp2_with fail
        go_roundw
        case rel => exact ⟨j + 1, by omega, by go_num, by rw [HE2.out], (HBB.out.alloc HBB.out.size _)⟩
        case measure => simp [intOf]; omega
      · have HE2 : Hid (cntTo rs k (j + 1) = cntTo rs k j) := by
          have h := HE.out
          rw [if_neg hk, Int.add_zero] at h
          exact Lib.hid h
        have hb1 : (r.k == k) = false := by simpa using hk
        generalize cntTo rs k j = x at HE HE2 HQ
        clear HE
        go_wp2_with fail
        go_roundw
        case rel => exact ⟨j + 1, by omega, by go_num, by rw [HE2.out], (HBB.out.alloc HBB.out.size _)⟩
        case measure => simp [intOf]; omega
    · obtain rfl : j = rs.length := by omega
      have HBB := Lib.hid hb
      clear hb
      go_wp2
      go_ret
      exact ⟨rfl, HB.out.trans (HBB.out.mono HB.out.size)⟩
theorem countP_env {w0 w : World} {obs : List Ob} (h : Env w0 w obs) (i : Nat) {p : Value} {rs : List Rn} (hi : obs[i]? = some (obP p (some rs))) (k : Int) (hl : rs.length ≤ 5497558138880) (ht : tot rs < 9223372036854775808) :
    Calls Try.prog 29 #[p, .int .u8 k] w fun e w' => e = .returned (.int .i64 (cnt rs k)) ∧ Env w0 w' obs ∧ Below w.heap.size w w' := by
  obtain ⟨F, f1, _⟩ := h.lgP i hi
  obtain ⟨b, v, rfl, rfl, f2⟩ := f1
  exact (countP_any b v rs k w f2 hl ht).mono fun e w' ⟨he, h1⟩ => ⟨he, h.below h1, h1⟩
end Go.Proofs.Ytpampcokonicfaa
/- The kit's functions on lists (Runs). Conditions: a list and six more fit into 2^47 bytes. -/
namespace Go.Proofs.Ytpampcokonicfaa
open Go.RowKit
set_option maxRecDepth 100000
set_option linter.unusedVariables false
set_option linter.unusedSimpArgs false
def KN : Knd Rn := ⟨97, 3, fun x => [.int .u8 x.k, .int .i64 x.s, .int .i64 x.c], by decide, fun _ => rfl, fun x u hu => by simp at hu; rcases hu with rfl | rfl | rfl <;> rfl⟩
theorem infoN : (Try.prog.info? 97).map (fun i => (i.zero, i.size, i.bytes)) = some (some (.agg #[.int .u8 0, .int .i64 0, .int .i64 0]), 3, 24) := by kernel_rfl
def mkN (k i : Int) : Rn := ⟨0, 0, -1000 * k - i - 7⟩
def eqN (x y : Rn) : Bool := (x.k == y.k) && (x.s == y.s) && (x.c == y.c)
theorem eqcN (x y : Rn) : ((x.k == y.k) = true ∧ (x.s == y.s) = true ∧ (x.c == y.c) = true ∧ eqN x y = true) ∨ ((x.k == y.k) = false ∧ eqN x y = false) ∨ ((x.k == y.k) = true ∧ (x.s == y.s) = false ∧ eqN x y = false) ∨ ((x.k == y.k) = true ∧ (x.s == y.s) = true ∧ (x.c == y.c) = false ∧ eqN x y = false) := by
  unfold eqN
  cases h0 : (x.k == y.k) <;> cases h1 : (x.s == y.s) <;> cases h2 : (x.c == y.c) <;> simp
theorem eqN_iff (x y : Rn) : eqN x y = true ↔ x = y := by
  unfold eqN
  cases x; cases y; simp [and_assoc]
set_option maxHeartbeats 2000000 in
theorem sameN_any (u v : Value) (xs ys : List Rn) (w : World) (hu : KN.R w u xs) (hv : KN.R w v ys) :
    Calls Try.prog 23 #[u, v] w fun e w' => e = .returned (.bool (sameL eqN xs ys)) ∧ ∃ m, w' = w.drewN m := by
  have HU := Lib.hid hu
  have HV := Lib.hid hv
  obtain ⟨ao, cap, rfl, h1, h2, _⟩ := hu.any
  obtain ⟨bo, dap, rfl, h3, h4, _⟩ := hv.any
  clear hu hv
  have hla : xs.length ≤ 9223372036854775807 := by omega
  have hlb : ys.length ≤ 9223372036854775807 := by omega
  obtain ⟨b, hb⟩ : ∃ b, sameL eqN xs ys = b := ⟨_, rfl⟩
  rw [hb]
  unfold sameL at hb
  by_cases hl : xs.length = ys.length
  · rw [if_pos hl] at hb
    have HS := Lib.hid hb
    have hlI : ((xs.length : Int) != (ys.length : Int)) = false := by rw [hl]; simp
    have HL := Lib.hid hl
    clear hl hb
    go_enter Try.func23, Try.ntmps23
    go_wp2_with fail
    go_loopw [5] (fun i w1 => ∃ k : Nat, k ≤ xs.length ∧ i = .int .i64 (k : Int) ∧ Hid (sameTo' eqN xs ys (xs.length - k) k = b) ∧ ∃ m, w1 = w.drewN m) (fun i _ => xs.length - (intOf i).toNat)
    case atStart => exact ⟨0, Nat.zero_le _, rfl, HS, 0, rfl⟩
    case round =>
      obtain ⟨k, hk, rfl, HE, m, rfl⟩ := hrel
      by_cases hlt : k < xs.length
      · have hlt2 : k < ys.length := by rw [← HL.out]; exact hlt
        obtain ⟨x, hx⟩ : ∃ x, xs[k]? = some x := ⟨_, List.getElem?_eq_getElem hlt⟩
        obtain ⟨y, hy⟩ : ∃ y, ys[k]? = some y := ⟨_, List.getElem?_eq_getElem hlt2⟩
        obtain ⟨g, off, rfl, _, dd⟩ := HU.out.get hx
        obtain ⟨g2, off2, rfl, _, ee⟩ := HV.out.get hy
        have HE2 : Hid ((if eqN x y then sameTo' eqN xs ys (xs.length - (k + 1)) (k + 1) else false) = b) := by
          have h := HE.out
          rw [show xs.length - k = (xs.length - (k + 1)) + 1 from by omega] at h
          exact Lib.hid (sameTo_step hx hy h)
        clear HE hx hy
        obtain ⟨kx, sx, cx⟩ := x
        obtain ⟨ky, sy, cy⟩ := y
        have d0 : w.cell? ⟨g, off + k * 3, none⟩ = some (.int .u8 kx) := by have h := dd 0 _ rfl; rw [show off + (k * KN.sz + 0) = off + k * 3 from by show off + (k * 3 + 0) = _; omega] at h; exact h
        have d1 : w.cell? ⟨g, off + k * 3 + 1, none⟩ = some (.int .i64 sx) := by have h := dd 1 _ rfl; rw [show off + (k * KN.sz + 1) = off + k * 3 + 1 from by show off + (k * 3 + 1) = _; omega] at h; exact h
        have d2 : w.cell? ⟨g, off + k * 3 + 2, none⟩ = some (.int .i64 cx) := by have h := dd 2 _ rfl; rw [show off + (k * KN.sz + 2) = off + k * 3 + 2 from by show off + (k * 3 + 2) = _; omega] at h; exact h
        have e0 : w.cell? ⟨g2, off2 + k * 3, none⟩ = some (.int .u8 ky) := by have h := ee 0 _ rfl; rw [show off2 + (k * KN.sz + 0) = off2 + k * 3 from by show off2 + (k * 3 + 0) = _; omega] at h; exact h
        have e1 : w.cell? ⟨g2, off2 + k * 3 + 1, none⟩ = some (.int .i64 sy) := by have h := ee 1 _ rfl; rw [show off2 + (k * KN.sz + 1) = off2 + k * 3 + 1 from by show off2 + (k * 3 + 1) = _; omega] at h; exact h
        have e2 : w.cell? ⟨g2, off2 + k * 3 + 2, none⟩ = some (.int .i64 cy) := by have h := ee 2 _ rfl; rw [show off2 + (k * KN.sz + 2) = off2 + k * 3 + 2 from by show off2 + (k * 3 + 2) = _; omega] at h; exact h
        clear dd ee
        have hq := eqcN ⟨kx, sx, cx⟩ ⟨ky, sy, cy⟩
        dsimp only at hq
        rcases hq with ⟨h0, h1, h2, he⟩ | ⟨h0, he⟩ | ⟨h0, h1, he⟩ | ⟨h0, h1, h2, he⟩
        · have HE3 : Hid (sameTo' eqN xs ys (xs.length - (k + 1)) (k + 1) = b) := by
            have h := HE2.out
            rw [if_pos he] at h
            exact Lib.hid h
          clear HE2
          go_wp2_with fail
          go_quiet ((fail))
          go_wp2_with fail
          go_roundw
          case rel => exact ⟨k + 1, by omega, by go_num, HE3, m + nq, rfl⟩
          case measure => simp [intOf]; omega
        all_goals
          have HE3 : Hid (b = false) := by
            have h := HE2.out
            rw [he] at h
            exact Lib.hid h.symm
          clear HE2
          go_wp2_with fail
          go_quiet ((fail))
          go_wp2
          go_ret
          exact ⟨by rw [HE3.out]; rfl, m + nq, by simp⟩
      · obtain rfl : k = xs.length := by omega
        have HF : Hid (b = true) := by
          have h := HE.out
          rw [Nat.sub_self] at h
          exact Lib.hid h.symm
        go_wp2
        go_ret
        exact ⟨by rw [HF.out]; rfl, m, rfl⟩
  · rw [if_neg hl] at hb
    have hlI : ((xs.length : Int) != (ys.length : Int)) = true := by simp; omega
    have HF := Lib.hid hb
    clear hl hb
    go_enter Try.func23, Try.ntmps23
    go_wp2
    go_ret
    exact ⟨by rw [← HF.out]; rfl, 0, rfl⟩
end Go.Proofs.Ytpampcokonicfaa
/- Sums, checks and comparisons of runs: the program's and the document's. Conditions: the runs' counts are int values. -/
namespace Go.Proofs.Ytpampcokonicfaa
open Go.RowKit
set_option maxRecDepth 100000
set_option linter.unusedVariables false
set_option linter.unusedSimpArgs false
theorem runCells {w w' : World} {ao : Option Addr} {n cap : Nat} {rs : List Rn} (h : KN.R w (.slice ao n cap) rs) (hb : Below w.heap.size w w') {k : Nat} {a b c : Int} (hx : rs[k]? = some ⟨a, b, c⟩) :
    ∃ g off, ao = some ⟨g, off, none⟩ ∧ g < w.heap.size ∧ w'.cell? ⟨g, off + k * 3, none⟩ = some (.int .u8 a) ∧ w'.cell? ⟨g, off + k * 3 + 1, none⟩ = some (.int .i64 b) ∧ w'.cell? ⟨g, off + k * 3 + 2, none⟩ = some (.int .i64 c) := by
  obtain ⟨g, off, hao, hlt, hc⟩ := h.get hx
  refine ⟨g, off, hao, hlt, ?_, ?_, ?_⟩
  · exact (hb.cell (p := ⟨g, off + k * 3, none⟩) hlt).trans (hc 0 _ rfl)
  · exact (hb.cell (p := ⟨g, off + k * 3 + 1, none⟩) hlt).trans (hc 1 _ rfl)
  · exact (hb.cell (p := ⟨g, off + k * 3 + 2, none⟩) hlt).trans (hc 2 _ rfl)
/-- the counts are int values -/
def okC (rs : List Rn) : Prop := ∀ r ∈ rs, -9223372036854775808 ≤ r.c ∧ r.c ≤ 9223372036854775807
/-! ### sums -/
def sat (a b : Int) : Int := if a > 9223372036854775807 - b then 9223372036854775807 else a + b
theorem sat_rng {a b : Int} (h1 : 0 ≤ a) (h3 : 0 ≤ b) (h4 : b ≤ 9223372036854775807) : 0 ≤ sat a b ∧ sat a b ≤ 9223372036854775807 := by
  unfold sat
  split <;> omega
def totS (n : Int) (r : Rn) : Int := if r.c < 1 then n else sat n r.c
def totL (l : List Rn) : Int := l.foldl totS 0
theorem fold_step {α β : Type} (f : β → α → β) (z : β) {l : List α} {k : Nat} {x : α} (h : l[k]? = some x) : (l.take (k + 1)).foldl f z = f ((l.take k).foldl f z) x := by
  rw [List.take_add_one, h, List.foldl_append]
  rfl
theorem totS_rng {n : Int} {r : Rn} (h1 : 0 ≤ n) (h2 : n ≤ 9223372036854775807) (h3 : r.c ≤ 9223372036854775807) : 0 ≤ totS n r ∧ totS n r ≤ 9223372036854775807 := by
  unfold totS
  split
  · exact ⟨h1, h2⟩
  · exact sat_rng h1 (by omega) h3
end Go.Proofs.Ytpampcokonicfaa
/- Since: the program's. Conditions: the ledger's events are fewer than 2^63. -/
namespace Go.Proofs.Ytpampcokonicfaa
open Go.RowKit
set_option maxRecDepth 100000
set_option linter.unusedVariables false
set_option linter.unusedSimpArgs false
/-- the runs of the events from number m on -/
def sinceL : List Rn → Int → List Rn
  | [], _ => []
  | r :: rs, m => if m ≤ 0 then r :: rs else if m < r.c then ⟨r.k, r.s, r.c - m⟩ :: rs else sinceL rs (m - r.c)
theorem since_low (rs : List Rn) (m : Int) (h : m ≤ 0) : sinceL rs m = rs := by
  cases rs with
  | nil => rfl
  | cons r rs => rw [sinceL, if_pos h]
theorem tot_cons (r : Rn) (rs : List Rn) : tot (r :: rs) = r.c + tot rs := by simp [tot]
theorem since_high : ∀ (rs : List Rn) (m : Int), Posi rs → tot rs ≤ m → sinceL rs m = []
  | [], _, _, _ => rfl
  | r :: rs, m, hp, h => by
    have h1 := hp r (by simp)
    have hp2 : Posi rs := fun x hx => hp x (by simp [hx])
    have h2 := tot_nonneg rs hp2
    rw [tot_cons] at h
    rw [sinceL, if_neg (by omega), if_neg (by omega)]
    exact since_high rs (m - r.c) hp2 (by omega)
/-- what the program tells: the runs from k on, the first one cut -/
def cutL (d t : Int) : List Rn → List Rn
  | [] => []
  | r :: rs => (if t < d then ⟨r.k, r.s, r.c - (d - t)⟩ else r) :: rs
theorem since_at : ∀ (rs : List Rn) (m : Int) (k : Nat) (r : Rn), Posi rs → rs[k]? = some r → tot (rs.take k) ≤ m → m < tot (rs.take k) + r.c → sinceL rs m = cutL m (tot (rs.take k)) (rs.drop k)
  | [], _, _, _, _, hx, _, _ => by simp at hx
  | x :: rs, m, 0, r, hp, hx, h1, h2 => by
    have hx' : x = r := by simpa using hx
    subst hx'
    simp only [List.take_zero, show tot [] = 0 from rfl, List.drop_zero] at *
    rw [sinceL]
    by_cases hm : m ≤ 0
    · rw [if_pos hm]
      simp [cutL, show ¬ (0 < m) from by omega]
    · rw [if_neg hm, if_pos (by omega)]
      simp [cutL, show 0 < m from by omega]
  | x :: rs, m, k + 1, r, hp, hx, h1, h2 => by
    have hc := hp x (by simp)
    have hp2 : Posi rs := fun y hy => hp y (by simp [hy])
    have hx' : rs[k]? = some r := by simpa using hx
    rw [List.take_succ_cons, tot_cons] at h1 h2
    have hn : 0 ≤ tot (rs.take k) := by
      have := tot_nonneg (rs.take k) (fun y hy => hp2 y (List.mem_of_mem_take hy))
      omega
    rw [sinceL, if_neg (by omega), if_neg (by omega), since_at rs (m - x.c) k r hp2 hx' (by omega) (by omega), List.drop_succ_cons, List.take_succ_cons, tot_cons]
    obtain ⟨hk, hr⟩ := List.getElem?_eq_some_iff.1 hx'
    rw [List.drop_eq_getElem_cons hk, hr]
    simp only [cutL]
    by_cases hm : tot (rs.take k) < m - x.c
    · rw [if_pos hm, if_pos (by omega)]
      rw [show r.c - (m - x.c - tot (rs.take k)) = r.c - (m - (x.c + tot (rs.take k))) from by omega]
    · rw [if_neg hm, if_neg (by omega)]
theorem Knd.R.tail {α : Type} {K : Knd α} {w : World} {b off n cap : Nat} {l : List α} (h : K.R w (.slice (some ⟨b, off, none⟩) n cap) l) (k : Nat) (hk : k ≤ l.length) : K.R w (.slice (some ⟨b, off + k * K.sz, none⟩) (l.length - k) (cap - k)) (l.drop k) := by
  obtain ⟨ao', cap', hv, h1, h2, h3, h4⟩ := h.form
  injection hv with e1 e2 e3
  subst e1; subst e3
  refine ⟨by rw [K.fl_len, List.length_drop], K.fl_cells _, some ⟨b, off + k * K.sz, none⟩, cap - k, by rw [List.length_drop], by rw [List.length_drop]; omega, by omega, (fun h => by cases h), fun j u hj => ?_⟩
  have hfl : (K.fl l)[k * K.sz + j]? = some u := by
    have e : K.fl l = K.fl (l.take k) ++ K.fl (l.drop k) := by rw [← K.fl_app, List.take_append_drop]
    have hl : (K.fl (l.take k)).length = k * K.sz := by rw [K.fl_len, List.length_take, Nat.min_eq_left hk]
    rw [e, List.getElem?_append_right (by omega), hl, show k * K.sz + j - k * K.sz = j from by omega]
    exact hj
  obtain ⟨b', off', he, hc⟩ := h4 _ u hfl
  injection he with he
  injection he with q1 q2 _
  subst q1; subst q2
  exact ⟨b, off + k * K.sz, rfl, by rw [Nat.add_assoc]; exact hc⟩
/-- the first run's count is put anew -/
theorem Knd.Mk.head {w w1 : World} {g cap N : Nat} {l : List Rn} {x : Rn} (c : Int) (h : KN.Mk (x :: l) w (.slice (some ⟨g, 0, none⟩) N cap) w1) : KN.Mk (⟨x.k, x.s, c⟩ :: l) w (.slice (some ⟨g, 0, none⟩) N cap) (w1.setCells g 2 [.int .i64 c]) := by
  obtain ⟨h1, h2, h3⟩ := h
  have hN : N = l.length + 1 := by
    rcases h1.2 with ⟨hv, _⟩ | ⟨g', cap', cur, hv, _⟩
    · simp at hv
    · injection hv with _ e _ <;> first | exact e | simpa using e
  subst hN
  have hg : w.heap.size ≤ g := h3 g rfl
  have hw : Only (fpv (.slice (some ⟨g, 0, none⟩) (l.length + 1) cap)) w1 (w1.setCells g 2 [.int .i64 c]) := Only.sets (S := fpv (.slice (some ⟨g, 0, none⟩) (l.length + 1) cap)) (.inl rfl) [.int .i64 c] 2 w1 (Only.refl _ _)
  refine ⟨?_, h2.trans (hw.below0 (fun x hx hs => ?_) h2.size), h3⟩
  · unfold Knd.O at *
    rw [List.length_cons] at *
    have q := ownsRow_setCells [.int .i64 c] w1 (KN.fl (x :: l)) 2 h1
    have e1 : KN.fl (x :: l) = [.int .u8 x.k, .int .i64 x.s] ++ (.int .i64 x.c :: KN.fl l) := by simp [Knd.fl, KN]
    have e2 : KN.fl ((⟨x.k, x.s, c⟩ : Rn) :: l) = [.int .u8 x.k, .int .i64 x.s] ++ (.int .i64 c :: KN.fl l) := by simp [Knd.fl, KN]
    have e4 := putAt_app [.int .i64 c] [.int .u8 x.k, .int .i64 x.s] (.int .i64 x.c :: KN.fl l) (by simp)
    rw [e1] at q
    rw [show [Value.int .u8 x.k, Value.int .i64 x.s].length = 2 from rfl] at e4
    rw [e4] at q
    rw [e2]
    simpa using q
  · have := h3 x hs
    omega
end Go.Proofs.Ytpampcokonicfaa
/- LedgerXxx's example: lives. -/
namespace Go.Proofs.Ytpampcokonicfaa
open Go.RowKit
set_option maxRecDepth 100000
set_option linter.unusedVariables false
set_option linter.unusedSimpArgs false
theorem cnt_two : cnt [⟨5, 16, 3⟩, ⟨8, 8, 1⟩] 5 = 3 := by decide
def livesL : List Rn := [⟨5, 16, 3⟩, ⟨8, 8, 1⟩]
end Go.Proofs.Ytpampcokonicfaa
/- A nil ledger: All, Len, Mark, Count, Since, Reset, Note. -/
namespace Go.Proofs.Ytpampcokonicfaa
open Go.RowKit
set_option maxRecDepth 100000
set_option linter.unusedVariables false
set_option linter.unusedSimpArgs false
theorem len_nil (w : World) : Calls Try.prog 19 #[.pointer none] w fun e w' => e = .returned (.int .i64 0) ∧ w = w' := by
  go_enter Try.func19, Try.ntmps19
  go_wp2
  go_ret
  exact ⟨rfl, rfl⟩
theorem count_nil (k : Int) (w : World) : Calls Try.prog 29 #[.pointer none, .int .u8 k] w fun e w' => e = .returned (.int .i64 0) ∧ w = w' := by
  go_enter Try.func29, Try.ntmps29
  go_wp2_with (refine (runsP_nil w).mono ?_; rintro e w' ⟨rfl, rfl⟩)
  go_loopw [5, 11] (fun n i w2 => i = .int .i64 0 ∧ n = .int .i64 0 ∧ w = w2) (fun _ _ _ => 0)
  case atStart => exact ⟨rfl, rfl, rfl⟩
  case round =>
    obtain ⟨rfl, rfl, rfl⟩ := hrel
    go_wp2
    go_ret
    exact ⟨rfl, rfl⟩
theorem run_eq_func_nil {P : Program} (d : Nat) (t : TypeId) {ps rs : Array TypeId} {v : Bool} (f : Fn) (b c : Array Value) (h : P.underlying t = some (.func ps rs v)) (w : World) : (Op.equalIn (d + 1) t (.func f b c) .nilFunc).run P w = .ok false w := by
  simp [Op.equalIn, run_underlying h]
/-- a range over an iterator that gives nothing -/
theorem wp_range_none {P : Program} {g : Operand} {ps : Array Tmp} {body : Code} {Q : Exit → Act → World → Prop} {a : Act} {w : World} {gf : Nat} {lb : Array Value} (hg : a.eval g = .func (.func gf) #[] lb) (eg : ∀ args w, (callFunc gf args).run P w = .ok (.enter gf args) w)
    (hps : ps.size = 1) (hseq : SeqStopsK Fence.wide 2 P gf lb (fun _ : Unit => #[undef]) (fun _ _ => True) (fun xs => xs = []) (fun _ => False) 0 w)
    (hdone : ∀ (D : Nat) (W : World), w.heap.size ≤ D → Below w.heap.size w W → W.heap[D]? = some (.deferred (some [])) → Q .normal { a with defers := { target := .collected D, args := #[] } :: a.defers } W) :
    (Code.rangeFunc g ps .skip body).wp P Q a w := by
  refine wpIn_wide.1 (wpIn_rangeFunc_ownF (n := 3) (α := Unit) rfl (by omega) (gf := gf) (lb := lb) hg trivial eg hseq (fun _ _ => trivial) (fun _ _ _ _ _ _ _ _ => trivial) (Below.refl _ _) (fun _ => by rw [hps]; rfl)
    (fun _ W => Below w.heap.size w W) (fun _ _ _ => False) (ownFrom_below (Nat.le_refl _) (Nat.le_refl _)) (fun _ _ _ _ _ h _ _ => h) (Below.refl _ _)
    (fun x => { tmps := (ps.zip #[undef]).foldl (fun t (p, v) => t.setIfInBounds p v) a.tmps, defers := [] }) ?assign ?body ?done ?stop)
  case assign =>
    intro l x W K hK
    gi_wp2
    simpa [hps] using hK
  case body => exact fun _ _ _ _ _ h => absurd h (Nat.not_lt_zero _)
  case done => exact fun D xs W hD _ hb hK => hdone D W hD hb hK
  case stop => exact fun _ _ _ _ _ h _ _ => h.elim
end Go.Proofs.Ytpampcokonicfaa
/- The iterator of a ledger's events: what it gives, whatever the loop's body does to blocks of its own. -/
namespace Go.Proofs.Ytpampcokonicfaa
open Go.RowKit
set_option maxRecDepth 100000
set_option linter.unusedVariables false
set_option linter.unusedSimpArgs false

/-- the events of runs, one by one -/
def evs (rs : List Rn) : List (Int × Int) := rs.flatMap fun r => List.replicate r.c.toNat (r.k, r.s)
theorem evs_succ (rs : List Rn) (i : Nat) (r : Rn) (h : rs[i]? = some r) : evs (rs.take (i + 1)) = evs (rs.take i) ++ List.replicate r.c.toNat (r.k, r.s) := by
  have hl : i < rs.length := (List.getElem?_eq_some_iff.1 h).1
  have he : rs[i] = r := (List.getElem?_eq_some_iff.1 h).2
  rw [List.take_succ_eq_append_getElem hl, he]
  simp [evs]
theorem evs_split (rs : List Rn) (i : Nat) : evs rs = evs (rs.take i) ++ evs (rs.drop i) := by
  unfold evs
  rw [← List.flatMap_append, List.take_append_drop]
theorem evs_drop (rs : List Rn) (i : Nat) (r : Rn) (h : rs[i]? = some r) : evs (rs.drop i) = List.replicate r.c.toNat (r.k, r.s) ++ evs (rs.drop (i + 1)) := by
  have hl : i < rs.length := (List.getElem?_eq_some_iff.1 h).1
  have he : rs[i] = r := (List.getElem?_eq_some_iff.1 h).2
  rw [List.drop_eq_getElem_cons hl, he]
  simp [evs]
/-- what a loop's body keeps: cells of blocks that are not its own -/
structure Kpt (S : Nat → Prop) (W W' : World) : Prop where
  size : W.heap.size ≤ W'.heap.size
  same : ∀ (k : Nat) (o : Obj), W.heap[k]? = some o → o.isCells = true → ¬ S k → W'.heap[k]? = some o
theorem Kpt.refl (S : Nat → Prop) (W : World) : Kpt S W W := ⟨Nat.le_refl _, fun _ _ h _ _ => h⟩
theorem Kpt.trans {S : Nat → Prop} {A B C : World} (h : Kpt S A B) (k : Kpt S B C) : Kpt S A C := ⟨Nat.le_trans h.size k.size, fun i o hi ho hs => k.same i o (h.same i o hi ho hs) ho hs⟩
theorem Kpt.put {S : Nat → Prop} (W : World) (l : Nat) (o o' : Obj) (h : W.heap[l]? = some o) (ho : o.isCells = false) : Kpt S W (W.putObj l o') :=
  ⟨(grownBy_putObj' W l o').size, fun k x hk hx _ => ((grownBy_putObj' W l o').block k (Array.getElem?_eq_some_iff.1 hk).1 (fun e => by injection e with e; subst e; rw [h] at hk; injection hk with hk; subst hk; rw [ho] at hx; cases hx)).trans hk⟩
theorem Kpt.of_only {S : Nat → Prop} {W W' : World} (h : Only S W W') : Kpt S W W' := ⟨h.size, fun k o hk _ hs => (h.block k (Array.getElem?_eq_some_iff.1 hk).1 hs).trans hk⟩
theorem Kpt.cell {S : Nat → Prop} {W W' : World} (h : Kpt S W W') {a : Addr} {v : Value} (hc : W.cell? a = some v) (hs : ¬ S a.block) : W'.cell? a = some v := by
  have hb : ∃ cs t f, W.heap[a.block]? = some (.cells cs t f) := by
    unfold World.cell? at hc
    split at hc
    · exact ⟨_, _, _, by assumption⟩
    · cases hc
  obtain ⟨cs, t, f, hb⟩ := hb
  have := h.same a.block _ hb rfl hs
  unfold World.cell? at hc ⊢
  rw [hb] at hc
  rw [this]
  exact hc
/-- a row of runs, cell by cell -/
def RowC (W : World) (b off : Nat) (rs : List Rn) : Prop := ∀ i r, rs[i]? = some r → W.cell? ⟨b, off + i * 3, none⟩ = some (.int .u8 r.k) ∧ W.cell? ⟨b, off + i * 3 + 1, none⟩ = some (.int .i64 r.s) ∧ W.cell? ⟨b, off + i * 3 + 2, none⟩ = some (.int .i64 r.c)
theorem RowC.kept {S : Nat → Prop} {W W' : World} {b off : Nat} {rs : List Rn} (h : RowC W b off rs) (hk : Kpt S W W') (hs : ¬ S b) : RowC W' b off rs := fun i r hr =>
  ⟨hk.cell (h i r hr).1 hs, hk.cell (h i r hr).2.1 hs, hk.cell (h i r hr).2.2 hs⟩
def enc2 (x : Int × Int) : Array Value := #[.agg #[.int .u8 x.1, .int .i64 x.2]]
/-- a range over a function, in a plain walk: the loop's variable is boxed -/
theorem wp_range_H {P : Program} {α : Type} {g : Operand} {ps : Array Tmp} {assign body : Code} {Q : Exit → Act → World → Prop} {a : Act} {w : World} {gf : Nat} {lb : Array Value} (hg : a.eval g = .func (.func gf) #[] lb) (eg : ∀ args w, (callFunc gf args).run P w = .ok (.enter gf args) w)
    {encs : α → Array Value} {S : Nat → Prop} {Sx Sp : List α → Prop} {N : Nat} (hseq : SeqStopsK Fence.wide 2 P gf lb encs (Kpt S) Sx Sp N w) (hps : ∀ x, (encs x).size = ps.size)
    (I : List α → World → Prop) (Ix : Code → List α → World → Prop) (hI : OwnFrom w.heap.size I) (hIx : ∀ c, OwnFrom w.heap.size (Ix c)) (h0 : I [] w) (Ax : α → Act → World → Prop) (hAx : ∀ x a', OwnFrom w.heap.size (fun (_ : Unit) W => Ax x a' W))
    (hassign : ∀ (l : Nat) (pre : List α) (x : α) (W : World) (K : Act → World → Prop), I pre W → (∀ a' W', KeepsFrom w.heap.size W W' → Kpt S W W' → I pre W' → Ax x a' W' → K a' W') →
      assign.wpIn (Fence.wide.inRound l) 1 P (Exit.then K (fun _ _ _ => False)) { tmps := (ps.zip (encs x)).foldl (fun t (p, v) => t.setIfInBounds p v) a.tmps, defers := [] } W)
    (hbody : ∀ (l : Nat) (pre : List α) (x : α) (a' : Act) (W : World), I pre W → Ax x a' W → pre.length < N → body.wpIn (Fence.wide.inRound l) 1 P (ownPostG w.heap.size (Kpt S) I Ix (pre ++ [x]) W) a' W)
    (hdone : ∀ (D : Nat) (xs : List α) (W : World), w.heap.size ≤ D → Sx xs → I xs W → W.heap[D]? = some (.deferred (some [])) → Q .normal { a with defers := { target := .collected D, args := #[] } :: a.defers } W)
    (hstop : ∀ (D : Nat) (c : Code) (pre : List α) (W : World), w.heap.size ≤ D → Sp pre → Ix c pre W → W.heap[D]? = some (.deferred (some [])) → c.wp P Q { a with defers := { target := .collected D, args := #[] } :: a.defers } W) :
    (Code.rangeFunc g ps assign body).wp P Q a w :=
  wpIn_wide.1 (wpIn_rangeFunc_ownH (n := 3) rfl (by omega) hg trivial eg hseq (fun h k => h.trans k) (fun W l o o' _ h ho _ => Kpt.put W l o o' h ho) (Below.refl _ _) hps I Ix hI hIx h0 Ax hAx hassign (fun l pre x a' W _ _ hi hax hl => hbody l pre x a' W hi hax hl) hdone (fun D c pre W h1 h2 h3 h4 => wpIn_wide.2 (hstop D c pre W h1 h2 h3 h4)))
/-- .. whose variable is an event in a box -/
def evA (a : Act) (j k : Tmp) (x : Int × Int) (b : Nat) : Act := { tmps := (a.tmps.setIfInBounds k (.agg #[.int .u8 x.1, .int .i64 x.2])).setIfInBounds j (.pointer (some ⟨b, 0, none⟩)), defers := [] }
theorem wp_range_ev {P : Program} {g : Operand} (j : Tmp) {k : Tmp} {assign body : Code} {Q : Exit → Act → World → Prop} {a : Act} {w : World} {gf : Nat} {lb : Array Value} (hg : a.eval g = .func (.func gf) #[] lb) (eg : ∀ args w, (callFunc gf args).run P w = .ok (.enter gf args) w)
    {S : Nat → Prop} {Sx Sp : List (Int × Int) → Prop} {N : Nat} (hseq : SeqStopsK Fence.wide 2 P gf lb enc2 (Kpt S) Sx Sp N w)
    (I : List (Int × Int) → World → Prop) (Ix : Code → List (Int × Int) → World → Prop) (hI : OwnFrom w.heap.size I) (hIx : ∀ c, OwnFrom w.heap.size (Ix c)) (h0 : I [] w)
    (hassign : ∀ (l : Nat) (pre : List (Int × Int)) (x : Int × Int) (W : World) (K : Act → World → Prop), I pre W →
      (∀ (b : Nat) W', KeepsFrom w.heap.size W W' → Kpt S W W' → I pre W' → w.heap.size ≤ b → W'.cell? ⟨b, 0, none⟩ = some (.int .u8 x.1) → W'.cell? ⟨b, 1, none⟩ = some (.int .i64 x.2) → K (evA a j k x b) W') →
      assign.wpIn (Fence.wide.inRound l) 1 P (Exit.then K (fun _ _ _ => False)) { tmps := a.tmps.setIfInBounds k (.agg #[.int .u8 x.1, .int .i64 x.2]), defers := [] } W)
    (hbody : ∀ (l : Nat) (pre : List (Int × Int)) (x : Int × Int) (b : Nat) (W : World), I pre W → w.heap.size ≤ b → W.cell? ⟨b, 0, none⟩ = some (.int .u8 x.1) → W.cell? ⟨b, 1, none⟩ = some (.int .i64 x.2) → pre.length < N →
      body.wpIn (Fence.wide.inRound l) 1 P (ownPostG w.heap.size (Kpt S) I Ix (pre ++ [x]) W) (evA a j k x b) W)
    (hdone : ∀ (D : Nat) (xs : List (Int × Int)) (W : World), w.heap.size ≤ D → Sx xs → I xs W → W.heap[D]? = some (.deferred (some [])) → Q .normal { a with defers := { target := .collected D, args := #[] } :: a.defers } W)
    (hstop : ∀ (D : Nat) (c : Code) (pre : List (Int × Int)) (W : World), w.heap.size ≤ D → Sp pre → Ix c pre W → W.heap[D]? = some (.deferred (some [])) → c.wp P Q { a with defers := { target := .collected D, args := #[] } :: a.defers } W) :
    (Code.rangeFunc g #[k] assign body).wp P Q a w :=
  wp_range_H hg eg hseq (fun _ => rfl) I Ix hI hIx h0 (fun x a' W => ∃ b, w.heap.size ≤ b ∧ W.cell? ⟨b, 0, none⟩ = some (.int .u8 x.1) ∧ W.cell? ⟨b, 1, none⟩ = some (.int .i64 x.2) ∧ a' = evA a j k x b)
    (fun x a' s W W' row hs hg hr => by
      obtain ⟨b, h1, h2, h3, h4⟩ := hs
      exact ⟨b, h1, cell_kept h2 hg (fun r e => (hr r e).2), cell_kept h3 hg (fun r e => (hr r e).2), h4⟩)
    (fun l pre x W K hi hK => by
      have e : (#[k].zip (enc2 x)).foldl (fun t (p, v) => t.setIfInBounds p v) a.tmps = a.tmps.setIfInBounds k (.agg #[.int .u8 x.1, .int .i64 x.2]) := by simp [enc2]
      rw [e]
      exact hassign l pre x W K hi (fun b W' h1 h2 h3 h4 h5 h6 => hK _ W' h1 h2 h3 ⟨b, h4, h5, h6, rfl⟩))
    (fun l pre x a' W hi hax hl => by
      obtain ⟨b, h1, h2, h3, rfl⟩ := hax
      exact hbody l pre x b W hi h1 h2 h3 hl)
    hdone hstop
theorem Env.apartK {w0 w : World} {obs : List Ob} (h : Env w0 w obs) (i j : Nat) (hij : j ≠ i) {b : Nat} {t : TypeId} {cs : Array Value} (hi : obs[i]? = some (obK b t cs)) {ob : Ob} (hj : obs[j]? = some ob) : ∃ F, ob.at' w F ∧ ¬ F b := by
  obtain ⟨F, ⟨_, rfl⟩, _, h3, _⟩ := h.get i hi
  obtain ⟨F2, h5, h6⟩ := h3 j ob hij hj
  exact ⟨F2, h5, fun hb => h6 b hb rfl⟩
theorem Env.apartKK {w0 w : World} {obs : List Ob} (h : Env w0 w obs) (i j : Nat) (hij : j ≠ i) {b c : Nat} {t u : TypeId} {cs ds : Array Value} (hi : obs[i]? = some (obK b t cs)) (hj : obs[j]? = some (obK c u ds)) : b ≠ c := by
  obtain ⟨F, ⟨_, rfl⟩, h2⟩ := h.apartK i j hij hi hj
  exact h2
theorem Env.apartKR {w0 w : World} {obs : List Ob} (h : Env w0 w obs) (i j : Nat) (hij : j ≠ i) {b : Nat} {t : TypeId} {cs : Array Value} {v : Value} {rs : List Rn} (hi : obs[i]? = some (obK b t cs)) (hj : obs[j]? = some (obRuns v rs)) : v.ownBlock ≠ some b := by
  obtain ⟨F, ⟨_, hF⟩, h2⟩ := h.apartK i j hij hi hj
  intro e
  rw [hF] at h2
  exact h2 e
/-- some things at the end have turned: the others stay -/
theorem Env.except {w0 w w' : World} {A B : List Ob} (h : Env w0 w (A ++ B)) {S : Nat → Prop} (ho : Only S w w') (hS : ∀ x, S x → ∃ (j : Nat) (t : TypeId) (cs : Array Value), B[j]? = some (obK x t cs)) : Env w0 w' A := by
  obtain ⟨own, h1, h2⟩ := h
  have hown : ∀ x, S x → A.length + 1 ≤ own x := by
    intro x hx
    obtain ⟨j, t, cs, hj⟩ := hS x hx
    obtain ⟨F, ⟨_, rfl⟩, h4⟩ := h2 (A.length + j) _ (by rw [List.getElem?_append_right (by omega), Nat.add_sub_cancel_left]; exact hj)
    rw [(h4 x rfl).1]
    omega
  have hst : St w0 (fun x => if A.length + 1 ≤ own x then A.length + 1 else own x) w := ⟨h1.below, fun x hx => by
    show (if A.length + 1 ≤ own x then A.length + 1 else own x) = 0
    rw [h1.old x hx, if_neg (by omega)]⟩
  refine ⟨_, hst.step (i := A.length + 1) (by omega) ho (fun x hx => by rw [if_pos (hown x hx)]), fun i ob hi => ?_⟩
  have hlt : i < A.length := (List.getElem?_eq_some_iff.1 hi).1
  obtain ⟨F, h3, h4⟩ := h2 i ob (by rw [List.getElem?_append_left hlt]; exact hi)
  refine ⟨F, ob.keep h3 ho (fun x hx hs => ?_), Own.keep (fun x hx => ⟨?_, (h4 x hx).2⟩) ho.size⟩
  · have := hown x hs
    rw [(h4 x hx).1] at this
    omega
  · show (if A.length + 1 ≤ own x then A.length + 1 else own x) = i + 1
    rw [(h4 x hx).1, if_neg (by omega)]
theorem KeepsFrom.of_only {S : Nat → Prop} {B : Nat} {W W' : World} (h : Only S W W') (hS : ∀ x, S x → x < B) : KeepsFrom B W W' :=
  ⟨h.size, fun k o hB hk _ => (h.block k (Array.getElem?_eq_some_iff.1 hk).1 (fun hs => absurd (hS k hs) (by omega))).trans hk⟩
/-- a variable in a box -/
def Bx (W : World) (b : Nat) (v : Value) : Prop := W.cell? ⟨b, 0, none⟩ = some v ∧ W.frozen? ⟨b, 0, none⟩ = false
theorem Bx.kept {W W' : World} {b : Nat} {v : Value} (h : Bx W b v) {row : Option Nat} (hg : W.grownBy W' row) (hr : ∀ r, row = some r → ∃ o : Obj, W.heap[r]? = some o ∧ o.isCells = false) : Bx W' b v :=
  ⟨cell_kept h.1 hg hr, (frozen_kept h.1 hg hr).trans h.2⟩
theorem Bx.set {W : World} {b : Nat} {v : Value} (h : Bx W b v) (u : Value) : Bx (W.setCell ⟨b, 0, none⟩ u) b u :=
  ⟨World.cell?_setCell_same' _ _ _ (by rw [h.1]; rfl), by rw [World.frozen?_setCell]; exact h.2⟩
theorem Bx.other {W : World} {b c : Nat} {v : Value} (h : Bx W b v) (hne : b ≠ c) (u : Value) : Bx (W.setCell ⟨c, 0, none⟩ u) b v :=
  ⟨by rw [World.cell?_setCell_far _ _ _ _ (fun e => hne e.symm)]; exact h.1, by rw [World.frozen?_setCell]; exact h.2⟩
theorem Bx.drew {W : World} {b : Nat} {v : Value} (h : Bx W b v) : Bx W.drew b v := ⟨h.1, h.2⟩
theorem Bx.only {S : Nat → Prop} {W W' : World} {b : Nat} {v : Value} (h : Bx W b v) (ho : Only S W W') (hs : ¬ S b) : Bx W' b v := by
  have hl := World.block_lt_of_cell? W _ h.1
  exact ⟨(ho.cell hl hs).trans h.1, (ho.frozen hl hs).trans h.2⟩
theorem Bx.new (W : World) (v : Value) (t : TypeId) (b : Nat) (hb : b = W.heap.size) : Bx (W.alloc (.cells #[v] t)) b v := by
  subst hb
  exact ⟨by rw [World.cell?_alloc_new]; rfl, (Blk.new W t #[v]).unfrozen 0⟩
end Go.Proofs.Ytpampcokonicfaa
/- The document's ledger: Len, Mark, Count, Reset, Since; At. -/
namespace Go.Proofs.Ytpampcokonicfaa
open Go.RowKit
set_option maxRecDepth 100000
set_option linter.unusedVariables false
set_option linter.unusedSimpArgs false

theorem tot_take_succ (rs : List Rn) (k : Nat) (r : Rn) (h : rs[k]? = some r) : tot (rs.take (k + 1)) = tot (rs.take k) + r.c := by
  rw [take_succ_get rs k r h, tot_append, tot_one]
theorem tot_take_rng (rs : List Rn) (hp : Posi rs) (k : Nat) : 0 ≤ tot (rs.take k) ∧ tot (rs.take k) ≤ tot rs :=
  ⟨by have := tot_nonneg (rs.take k) (fun x hx => hp x (List.mem_of_mem_take hx)); omega, tot_take rs hp k⟩
/-- what At tells -/
def atE2 (rs : List Rn) (n : Nat) : Value := match (evs rs)[n]? with | some x => .tuple #[.agg #[.int .u8 x.1, .int .i64 x.2], .bool true] | none => .tuple #[.agg #[.int .u8 0, .int .i64 0], .bool false]
theorem evs_len (rs : List Rn) (hp : Posi rs) : ((evs rs).length : Int) = tot rs := by
  induction rs with
  | nil => simp [evs, tot]
  | cons r rs ih =>
    have h1 := ih (fun x hx => hp x (List.mem_cons_of_mem _ hx))
    have h2 := hp r (by simp)
    have e : (evs (r :: rs)).length = r.c.toNat + (evs rs).length := by simp [evs]
    rw [e, tot_cons]
    omega
theorem atE2_in (rs : List Rn) (hp : Posi rs) (k : Nat) (r : Rn) (hr : rs[k]? = some r) (n : Nat) (h1 : tot (rs.take k) ≤ n) (h2 : (n : Int) - tot (rs.take k) < r.c) : atE2 rs n = .tuple #[.agg #[.int .u8 r.k, .int .i64 r.s], .bool true] := by
  have hl := evs_len (rs.take k) (fun x hx => hp x (List.mem_of_mem_take hx))
  have e : (evs rs)[n]? = some (r.k, r.s) := by
    rw [evs_split rs k, evs_drop rs k r hr, List.getElem?_append_right (by omega), List.getElem?_append_left (by simp; omega)]
    rw [List.getElem?_replicate, if_pos (by omega)]
  unfold atE2
  rw [e]
theorem atE2_out (rs : List Rn) (hp : Posi rs) (n : Nat) (h : tot rs ≤ n) : atE2 rs n = .tuple #[.agg #[.int .u8 0, .int .i64 0], .bool false] := by
  have hl := evs_len rs hp
  unfold atE2
  rw [List.getElem?_eq_none (by omega)]
/-- one run more behind -/
theorem sinceS : ∀ (l : List Rn) (r : Rn) (m : Int), Posi (l ++ [r]) → 0 ≤ m → sinceL (l ++ [r]) m = if tot l + r.c ≤ m then [] else (if tot l < m then [⟨r.k, r.s, tot l + r.c - m⟩] else sinceL l m ++ [r])
  | [], r, m, hp, hm => by
    have h1 := hp r (by simp)
    simp only [List.nil_append, sinceL, show tot [] = 0 from rfl, Int.zero_add]
    by_cases h : m ≤ 0
    · rw [if_pos h, if_neg (by omega), if_neg (by omega)]
    · rw [if_neg h]
      by_cases h2 : m < r.c
      · rw [if_pos h2, if_neg (by omega), if_pos (by omega)]
      · rw [if_neg h2, if_pos (by omega)]
  | x :: l, r, m, hp, hm => by
    have h1 := hp x (by simp)
    have h2 := hp r (by simp)
    have hpl : Posi (l ++ [r]) := fun y hy => hp y (by simp at hy ⊢; rcases hy with hy | hy <;> simp [hy])
    have h3 := tot_nonneg l (fun y hy => hp y (by simp [hy]))
    rw [List.cons_append, sinceL, sinceL, tot_cons]
    by_cases h : m ≤ 0
    · rw [if_pos h, if_pos h, if_neg (by omega), if_neg (by omega)]
      rfl
    · rw [if_neg h, if_neg h]
      by_cases h4 : m < x.c
      · rw [if_pos h4, if_pos h4, if_neg (by omega), if_neg (by omega)]
        rfl
      · rw [if_neg h4, if_neg h4, sinceS l r (m - x.c) hpl (by omega)]
        by_cases h5 : tot l + r.c ≤ m - x.c
        · rw [if_pos h5, if_pos (show x.c + tot l + r.c ≤ m by omega)]
        · rw [if_neg h5, if_neg (show ¬ x.c + tot l + r.c ≤ m by omega)]
          by_cases h6 : tot l < m - x.c
          · rw [if_pos h6, if_pos (show x.c + tot l < m by omega), show tot l + r.c - (m - x.c) = x.c + tot l + r.c - m by omega]
          · rw [if_neg h6, if_neg (show ¬ x.c + tot l < m by omega)]
theorem since_max (rs : List Rn) (m : Int) : sinceL rs m = sinceL rs (if m < 0 then 0 else m) := by
  by_cases h : m < 0
  · rw [if_pos h, since_low rs m (by omega), since_low rs 0 (Int.le_refl _)]
  · rw [if_neg h]
theorem sinceL_len : ∀ (rs : List Rn) (m : Int), (sinceL rs m).length ≤ rs.length
  | [], _ => Nat.le_refl _
  | r :: rs, m => by
    rw [sinceL]
    split
    · exact Nat.le_refl _
    · split
      · exact Nat.le_refl _
      · have := sinceL_len rs (m - r.c); simp; omega
end Go.Proofs.Ytpampcokonicfaa
/- Contracts in a world that is a list of things: Reset, Mark, Since, Runs. -/
namespace Go.Proofs.Ytpampcokonicfaa
open Go.RowKit
set_option maxRecDepth 100000
set_option linter.unusedVariables false
set_option linter.unusedSimpArgs false
/-- one of three -/
theorem hd_three {P : Program} {ops : Array Oper} {md : Region.Mode} {Q : Exit → Act → World → Prop} {S : World → Prop} {fuel : Nat} {listed : Array Bool} {a : Act} {w : World} (i j k : Nat) (hr : decide (Region.ready md ops listed = [i, j, k]) = true) (h1 : wpOp P ops Q i (fun a' w' => S w' ∧ wpAnyH P md ops Q S fuel (listed.setIfInBounds i true) a' w') a w)
    (h2 : wpOp P ops Q j (fun a' w' => S w' ∧ wpAnyH P md ops Q S fuel (listed.setIfInBounds j true) a' w') a w)
    (h3 : wpOp P ops Q k (fun a' w' => S w' ∧ wpAnyH P md ops Q S fuel (listed.setIfInBounds k true) a' w') a w) : wpAnyH P md ops Q S (fuel + 1) listed a w := by
  rw [decide_eq_true_eq] at hr
  refine wpAnyH_all hr (by simp) fun m hm => ?_
  have hk2 : m = i ∨ m = j ∨ m = k := by simpa using hm
  rcases hk2 with rfl | rfl | rfl
  · exact h1
  · exact h2
  · exact h3
section
variable {w0 w : World} {obs : List Ob}
theorem runsN_env (h : Env w0 w obs) (i : Nat) {p : Value} {rs : List Rn} (hi : obs[i]? = some (obP p (some rs))) (hl : rs.length ≤ 5497558138880) :
    Calls Try.prog 24 #[p] w fun e w' => ∃ v, e = .returned v ∧ Env w0 w' obs ∧ RunsRd w' v rs ∧ Below w.heap.size w w' := by
  obtain ⟨F, f1, _⟩ := h.lgP i hi
  obtain ⟨b, v, rfl, rfl, f2⟩ := f1
  exact (runsP_any b v rs w f2 hl).mono fun e w' ⟨v, he, h1, h2, _⟩ => ⟨v, he, h.below h2, RunsAt.rd h1, h2⟩
end
/-- a list that is written in the text -/
theorem lit_rd (rs : List Rn) (w : World) (h : rs.length ≤ 1000) : RunsRd (w.alloc (.cells (KN.fl rs).toArray KN.e)) (.slice (some ⟨w.heap.size, 0, none⟩) rs.length rs.length) rs := by
  obtain ⟨v, hv, h1, _⟩ := Knd.New.lit KN rs w h
  injection hv with hv
  subst hv
  exact Knd.O.rd h1
end Go.Proofs.Ytpampcokonicfaa
/- The document's ledger over a law's world. -/
namespace Go.Proofs.Ytpampcokonicfaa
open Go.RowKit
set_option maxRecDepth 100000
set_option linter.unusedVariables false
set_option linter.unusedSimpArgs false
theorem gtimesR_any (p : Value) (F : Nat → Prop) (o : Option (List Rn)) (k s n : Int) (w : World) (h : LgR w p F o) (hb : Room o n) :
    Calls Try.prog 78 #[p, .agg #[.int .u8 k, .int .i64 s], .int .i64 n] w fun e w' => e = .returned (.tuple #[]) ∧ LaidR p F (timesO o k s n) w w' := by
  unfold timesO
  cases o with
  | none =>
    obtain ⟨rfl, rfl⟩ := h
    refine (rnoteTimes_nil k s n w).mono ?_
    rintro e w' ⟨rfl, hb⟩
    refine ⟨rfl, fun _ => False, ?_, Only.of_below hb _, fun _ h => h.elim⟩
    split <;> exact ⟨rfl, rfl⟩
  | some rs =>
    obtain ⟨b, v, rfl, rfl, hl⟩ := h
    by_cases hn : n < 1
    · rw [if_pos hn]
      refine (rnoteTimes_off b k s n w hn).mono ?_
      rintro e w' ⟨rfl, hb⟩
      exact ⟨rfl, lfp b v, ⟨b, v, rfl, rfl, hl.keep (Only.nothing hb) (fun _ _ h => h)⟩, Only.of_below hb _, fun x hx => .inl hx⟩
    · rw [if_neg hn]
      obtain ⟨b1, b2⟩ := hb rs rfl
      refine (rnoteTimes_any b v rs k s n w hl (by omega) b1 b2).mono ?_
      rintro e w' ⟨rfl, v', h1, h2, h3⟩
      refine ⟨rfl, lfp b v', ⟨b, v', rfl, rfl, h1⟩, h2, fun x hx => ?_⟩
      rcases hx with hx | hx
      · exact .inl (.inl hx)
      · exact (h3 x hx).imp .inr id
section
variable {w0 w : World} {obs : List Ob}
theorem newR_env' (h : Env w0 w obs) : Calls Try.prog 34 #[] w fun e w' => ∃ b : Nat, e = .returned (.pointer (some ⟨b, 0, none⟩)) ∧ Env w0 w' (obs ++ [obR (.pointer (some ⟨b, 0, none⟩)) (some [])]) :=
  (newR_any w).mono fun e w' ⟨he, h1, h2⟩ => ⟨_, he, h.pushR h1 h2⟩
theorem newP_envB (h : Env w0 w obs) : Calls Try.prog 17 #[] w fun e w' => ∃ b : Nat, e = .returned (.pointer (some ⟨b, 0, none⟩)) ∧ Env w0 w' (obs ++ [obP (.pointer (some ⟨b, 0, none⟩)) (some [])]) :=
  (newP_any w).mono fun e w' ⟨he, h1, h2⟩ => ⟨_, he, h.pushP h1 h2⟩
theorem noteR_env' (h : Env w0 w obs) (i : Nat) {p : Value} {o : Option (List Rn)} (hi : obs[i]? = some (obR p o)) (k s : Int) (hb : Room o 1) :
    Calls Try.prog 72 #[p, .agg #[.int .u8 k, .int .i64 s]] w fun e w' => e = .returned (.tuple #[]) ∧ Env w0 w' (obs.set i (obR p (noteO o k s 1))) := by
  obtain ⟨F, f1, _, f4⟩ := h.lgR i hi
  exact (gnoteR_any p F o k s w f1 hb).mono fun e w' ⟨he, h1⟩ => ⟨he, f4 w' _ h1⟩
theorem timesR_env (h : Env w0 w obs) (i : Nat) {p : Value} {o : Option (List Rn)} (hi : obs[i]? = some (obR p o)) (k s n : Int) (hb : Room o n) :
    Calls Try.prog 78 #[p, .agg #[.int .u8 k, .int .i64 s], .int .i64 n] w fun e w' => e = .returned (.tuple #[]) ∧ Env w0 w' (obs.set i (obR p (timesO o k s n))) := by
  obtain ⟨F, f1, _, f4⟩ := h.lgR i hi
  exact (gtimesR_any p F o k s n w f1 hb).mono fun e w' ⟨he, h1⟩ => ⟨he, f4 w' _ h1⟩
theorem runsR_env' (h : Env w0 w obs) (i : Nat) {p : Value} {rs : List Rn} (hi : obs[i]? = some (obR p (some rs))) (hl : rs.length ≤ 5497558138880) :
    Calls Try.prog 38 #[p] w fun e w' => ∃ v, e = .returned v ∧ Env w0 w' (obs ++ [obRuns v rs]) := by
  obtain ⟨F, f1, _⟩ := h.lgR i hi
  obtain ⟨b, v, rfl, rfl, f2⟩ := f1
  exact (runsR_any b v rs w f2 hl).mono fun e w' ⟨v, he, h1, h2, h3⟩ => ⟨v, he, h.pushRuns h1 h2 h3⟩
end
end Go.Proofs.Ytpampcokonicfaa
/- The document's cipher: two of them, which may share what New made, as ONE thing of a law's world; what its methods answer. -/
namespace Go.Proofs.Ytpampcokonicfaa
open Go.RowKit
set_option maxRecDepth 100000
set_option linter.unusedVariables false
set_option linter.unusedSimpArgs false
/-- one of the document's ciphers -/
structure Rc where
  b : Nat
  a : Nat
  g : Nat
  cap : Nat
  ko : Option Addr
  kc : Nat
  made : Bool
  k : Nat
  K : List UInt8
def Rc.v (r : Rc) : Value := .pointer (some ⟨r.b, 0, none⟩)
def rcV : Option Rc → Value
  | none => .pointer none
  | some r => r.v
def rcMade : Option Rc → Bool
  | none => false
  | some r => r.made
def rcApart (r s : Option Rc) : Prop := ∀ x y, r = some x → s = some y → x.b ≠ y.b ∧ x.b ≠ y.a ∧ x.b ≠ y.g ∧ y.b ≠ x.a ∧ y.b ≠ x.g
def side (k : Nat) (r s : Option Rc) : Option Rc := if k = 0 then r else s
section
variable {w0 w : World} {obs : List Ob}
/-! ### what is none -/
/-! ### what is made -/
theorem Env.leftA {A B : List Ob} (h : Env w0 w (A ++ B)) : Env w0 w A :=
  h.pick id (fun _ _ _ _ e => e) (fun j ob hj => by
    rw [id, List.getElem?_append_left (List.getElem?_eq_some_iff.1 hj).1]
    exact hj)
theorem rangeAt_blk {b : Nat} {t : TypeId} {l : List UInt8} (h : Blk w b t (barr l)) : w.rangeAt b 0 (l.map B) := fun j u hu => by
  rw [Nat.zero_add]
  exact h.cellAt j (by simpa [barr] using hu)
def RcS (w : World) (c : Rc) (n : Nat) (l : List UInt8) (W : World) : Prop := W.rangeAt n 0 (l.map B) ∧ W.cell? ⟨c.b, 2, none⟩ = some (.pointer (some ⟨c.a, 0, none⟩))
theorem RcS.r {w : World} {c : Rc} {n : Nat} {l : List UInt8} (W : World) (h : RcS w c n l W) : W.rangeAt n 0 (l.map B) := h.1
theorem RcS.p {w : World} {c : Rc} {n : Nat} {l : List UInt8} (W : World) (h : RcS w c n l W) : W.cell? ⟨c.b, 2, none⟩ = some (.pointer (some ⟨c.a, 0, none⟩)) := h.2
end
end Go.Proofs.Ytpampcokonicfaa
namespace Go.Proofs.Ytpampcokonicfaa
open Go.RowKit
set_option maxRecDepth 100000
set_option linter.unusedVariables false
set_option linter.unusedSimpArgs false
def rcLen : Option Rc → Nat
  | none => 0
  | some r => if r.made then r.k else 0
section
variable {w0 w : World} {obs : List Ob}
/-- the other side is x then -/
def oth1 (k : Nat) (r x : Option Rc) : Option Rc := if k = 0 then r else x
def oth2 (k : Nat) (s x : Option Rc) : Option Rc := if k = 0 then x else s
end
end Go.Proofs.Ytpampcokonicfaa
