/- The contract of package aes: Decrypt. Conditions: a block has sixteen bytes; room for one event more. -/
import Derived.Test.YtihmgkjmebdioaaRows
import Derived.Test.YtihmgkjmebdioaaAesEnc
namespace Go.Proofs.Ytihmgkjmebdioaa
open Go.RowKit
set_option maxRecDepth 100000
set_option linter.unusedVariables false
set_option linter.unusedSimpArgs false

theorem EncW.set {n0 b k : Nat} {K st : List UInt8} {w2 w1 : World} (h : EncW n0 b k K st w2 w1) (hb : b ≠ n0) (p : Nat) (y : UInt8) : EncW n0 b k K (st.set p y) w2 (w1.setCell ⟨n0, p, none⟩ (.int .u8 (y.toNat : Int))) :=
  ⟨by rw [← barr_set]; exact h.blk.set p _, h.res.set_ne (by simp) _, ⟨h.cip.1.set_ne hb _, h.cip.2⟩, h.only.set (.inl rfl) _⟩
set_option maxHeartbeats 1000000 in
theorem decrypt_no (p q : Value) (l : List UInt8) (w : World) (hm : ∀ w', Below w.heap.size w w' → Calls Try.prog 32 #[p] w' fun e w'' => e = .returned (.bool false) ∧ w' = w'') :
    Calls Try.prog 18 #[p, q, .agg (barr l)] w fun e w' => e = .returned (.tuple #[.agg (barr (List.replicate 16 0)), .int .i64 1]) ∧ Below w.heap.size w w' := by
  have HM := Lib.hid hm
  clear hm
  have hz := zero16
  generalize hZ : barr (List.replicate 16 0) = Z at hz
  have HZ := Lib.hid hZ
  have hZs : Z.size = 16 := by rw [← hZ, barr_size]; rfl
  have hZo : ∀ v ∈ Z.toList, v.oneCell' = true := by rw [← hZ]; exact barr_one _
  clear hZ
  go_enter Try.func18, Try.ntmps18
  go_wp2_with fail
  have hb : Below w.heap.size w ((w.alloc (.cells (barr l) 31)).alloc (.cells Z 31)) := ((Below.refl _ _).alloc (Nat.le_refl _) _).alloc (by simp) _
  have HB := Lib.hid hb
  have b1 : Blk ((w.alloc (.cells (barr l) 31)).alloc (.cells Z 31)) (w.heap.size + 1) 31 Z := Blk.at (by simp) rfl
  refine (HM.out _ hb).mono ?_
  clear hb
  rintro e w' ⟨rfl, rfl⟩
  go_wp2_with (first | ((with_reducible change wpList _ _ _ (Oper.mk _ (Op.store 31 _ _) _ _ _ _ :: _) _ _); refine wpList_store_blk (ty := 31) (w.heap.size + 1) Z rfl rfl b1 size16 hZs hZs hZo ?_))
  refine bodyPost_ret (results_cell2_blk rfl _ _ (w.heap.size + 1) rfl (b1.row _) Try.underlying31 rfl size16 hZs) rfl ⟨rfl, below_row HB.out (by omega) _⟩
set_option maxHeartbeats 4000000 in
theorem decrypt_any (b k : Nat) (K l : List UInt8) (q : Value) (G : Nat → Prop) (o : Option (List Rn)) (w : World) (h : CipAt w b k K) (hl : l.length = 16) (hk0 : 0 < k) (hk : k ≤ 32) (hq : LgP w q G o) (hr : Room o 1) (hG : ¬ G b) :
    Calls Try.prog 18 #[.pointer (some ⟨b, 0, none⟩), q, .agg (barr l)] w fun e w' => e = .returned (.tuple #[.agg (barr (dec K (k / 4 + 6) l)), .int .i64 0]) ∧ LaidP q G (noteO o 5 k 1) w w' := by
  have hbw := h.lt
  have HGlt := Lib.hid hq.lt
  have hkd : decide (0 < k) = true := by simpa using hk0
  have HH := Lib.hid h
  have HQ := Lib.hid hq
  clear h hq
  go_enter Try.func18, Try.ntmps18
  go_wp2_with fail
  have hb0 : Below w.heap.size w ((w.alloc (.cells (barr l) 31)).alloc (.cells (barr (List.replicate 16 0)) 31)) := ((Below.refl _ _).alloc (Nat.le_refl _) _).alloc (by simp) _
  have hA : EncW w.heap.size b k K l ((w.alloc (.cells (barr l) 31)).alloc (.cells (barr (List.replicate 16 0)) 31)) ((w.alloc (.cells (barr l) 31)).alloc (.cells (barr (List.replicate 16 0)) 31)) :=
    ⟨(Blk.at rfl rfl).alloc _, Blk.at (by simp) rfl, HH.out.below hb0, Only.refl _ _⟩
  have hs0 : w.heap.size + 1 < ((w.alloc (.cells (barr l) 31)).alloc (.cells (barr (List.replicate 16 0)) 31)).heap.size := by simp
  have HQ0 := Lib.hid (HQ.out.keep (Only.nothing hb0) (fun _ _ h => h))
  obtain ⟨w0, hw0⟩ : ∃ w0, w0 = ((w.alloc (.cells (barr l) 31)).alloc (.cells (barr (List.replicate 16 0)) 31)) := ⟨_, rfl⟩
  obtain ⟨n0, hn0⟩ : ∃ n0, n0 = w.heap.size := ⟨_, rfl⟩
  have hbn : b ≠ n0 := by omega
  have hbn1 : b < n0 := by omega
  have HA : Hid (EncW n0 b k K l w0 w0) := by rw [hw0, hn0]; exact Lib.hid hA
  have HQ1 : Hid (LgP w0 q G o) := by rw [hw0]; exact HQ0
  have HB0 : Hid (Below w.heap.size w w0) := by rw [hw0]; exact Lib.hid hb0
  have hs1 : n0 + 1 < w0.heap.size := by rw [hw0, hn0]; exact hs0
  have HGn : Hid (∀ x, G x → x < n0) := by rw [hn0]; exact HGlt
  have HN0 : Hid (n0 = w.heap.size) := hn0
  change Calls _ _ _ ((w.alloc (.cells (barr l) 31)).alloc (.cells (barr (List.replicate 16 0)) 31)) _
  rw [← hw0, ← hn0]
  clear hA hs0 HQ0 hb0 hw0 hn0 HH HQ
  refine (cmade_any b k K w0 HA.out.cip).mono ?_
  rintro e w' ⟨he, rfl⟩
  rw [hkd] at he
  subst he
  have c0 := HA.out.cip.key
  have hbl := HA.out.cip.lt
  go_wp2_with fail
  refine (gnoteP_any q G o 5 k w0 HQ1.out hr).mono ?_
  rintro e w2 ⟨rfl, hn⟩
  have HN := Lib.hid hn
  have on := hn.only
  have h2 : EncW n0 b k K l w2 w2 := ⟨HA.out.blk.only on (fun hh => by have := HGn.out _ hh; omega), HA.out.res.only on (fun hh => by have := HGn.out _ hh; omega), HA.out.cip.only on hG, Only.refl _ _⟩
  have hs2 : n0 + 1 < w2.heap.size := Nat.lt_of_lt_of_le hs1 on.size
  have hb2 : b < w2.heap.size := h2.cip.lt
  have H2 := Lib.hid h2
  have hll : (barr l).size = 16 := by rw [barr_size, hl]
  clear hn on h2 c0 hbl HA HQ1
  obtain ⟨R, hR⟩ : ∃ R, k / 4 + 6 = R := ⟨_, rfl⟩
  have hR14 : R ≤ 14 := by omega
  have HR := Lib.hid hR
  clear hR
  go_wp2_with fail
  refine (rounds_any b k K w2 H2.out.cip hk).mono ?_
  rintro e w' ⟨he, rfl⟩
  rw [HR.out] at he
  subst he
  go_wp2_with fail
  go_loopw [8] (fun i w1 => ∃ (r : Nat) (st : List UInt8), r ≤ R ∧ i = .int .i64 (r : Int) ∧ st.length = 16 ∧ Hid (decN K R r st = dec K R l) ∧ Hid (EncW n0 b k K st w2 w1)) (fun i _ => (intOf i).toNat)
  case atStart => exact ⟨R, l, Nat.le_refl _, rfl, hl, Lib.hid rfl, H2⟩
  case round =>
    obtain ⟨r, st, hrr, rfl, hst, HD, H⟩ := hrel
    clear H2
    have hb16 : (barr st).size = 16 := by rw [barr_size, hst]
    by_cases hlt : 0 < r
    · have hgt : decide ((r : Int) > 0) = true := by simp; omega
      go_wp2_with ((with_reducible change wpList _ _ _ (Oper.mk _ (Op.load 31 _) _ _ _ _ :: _) _ _); refine wpList_load_blk (ty := 31) n0 rfl H.out.blk Try.underlying31 rfl size16 hb16 ?_)
      refine (with_any b k K st r _ H.out.cip hst (by omega)).mono ?_
      rintro e w6 ⟨rfl, h6⟩
      have H6 := Lib.hid (H.out.below h6)
      clear h6
      have hsz : w2.heap.size ≤ w6.heap.size := H6.out.only.size
      have hs6 : (barr (withK K st r)).size = 16 := by rw [barr_size, withK_len]
      have b6 : Blk (w6.alloc (.cells (barr (List.replicate 16 0)) 31)) w6.heap.size 31 (barr (List.replicate 16 0)) := Blk.new _ _ _
      go_wp2_with ((with_reducible change wpList _ _ _ (Oper.mk _ (Op.store 31 _ _) _ _ _ _ :: _) _ _); refine wpList_store_blk (ty := 31) w6.heap.size (barr (withK K st r)) rfl rfl b6 size16 hs6 (by rw [barr_size]; rfl) (barr_one _) ?_)
      have H7 : Hid (EncW n0 b k K st w2 ((w6.alloc (.cells (barr (List.replicate 16 0)) 31)).setRow w6.heap.size (barr (withK K st r)))) := Lib.hid ((H6.out.below ((Below.refl _ _).alloc (Nat.le_refl _) _)).other (g := w6.heap.size) hsz hs2 hb2 (Only.row (S := fun x => x = w6.heap.size) (Only.refl _ _) (.inl rfl) _))
      have G7 := Lib.hid (b6.row (barr (withK K st r)))
      obtain ⟨w7, hw7⟩ : ∃ w7, w7 = ((w6.alloc (.cells (barr (List.replicate 16 0)) 31)).setRow w6.heap.size (barr (withK K st r))) := ⟨_, rfl⟩
      change Calls _ _ _ ((w6.alloc (.cells (barr (List.replicate 16 0)) 31)).setRow w6.heap.size (barr (withK K st r))) _
      rw [← hw7] at H7 G7 ⊢
      generalize hs0e : w6.heap.size = s0 at *
      clear hw7 b6 H6
      refine (rounds_any b k K w7 H7.out.cip hk).mono ?_
      rintro e w' ⟨he, rfl⟩
      rw [HR.out] at he
      subst he
      by_cases hlt2 : r < R
      · have hle2 : decide ((r : Int) < (R : Int)) = true := by simp; omega
        go_wp2_with ((with_reducible change wpList _ _ _ (Oper.mk _ (Op.load 31 _) _ _ _ _ :: _) _ _); refine wpList_load_blk (ty := 31) s0 rfl G7.out Try.underlying31 rfl size16 hs6 ?_)
        refine (mixed_any (withK K st r) m14 _ (withK_len _ _ _) rfl).mono ?_
        rintro e w8 ⟨rfl, h8⟩
        have H8 := Lib.hid (H7.out.below h8)
        have G8 := Lib.hid (G7.out.below h8 G7.out.lt)
        clear h8
        have hsm : (barr (mixB m14 (withK K st r))).size = 16 := by rw [barr_size, mixB_len]
        have G9 := Lib.hid (G8.out.row (barr (mixB m14 (withK K st r))))
        have H9 := Lib.hid (H8.out.other (g := s0) (w' := w8.setRow s0 (barr (mixB m14 (withK K st r)))) hsz hs2 hb2 (Only.row (S := fun x => x = s0) (Only.refl _ _) (.inl rfl) _))
        go_wp2_with ((with_reducible change wpList _ _ _ (Oper.mk _ (Op.store 31 _ _) _ _ _ _ :: _) _ _); refine wpList_store_blk (ty := 31) s0 (barr (mixB m14 (withK K st r))) rfl rfl G8.out size16 hsm hs6 (barr_one _) ?_)
        go_loopw [39] (fun i w1 => ∃ j : Nat, j ≤ 16 ∧ i = .int .i64 (j : Int) ∧ Hid (EncW n0 b k K (unTo (mixB m14 (withK K st r)) st j) w2 w1) ∧ Hid (Blk w1 s0 31 (barr (mixB m14 (withK K st r))))) (fun i _ => 16 - (intOf i).toNat)
        case atStart => exact ⟨0, by omega, rfl, H9, G9⟩
        case round =>
          obtain ⟨j, hj, rfl, H5, G5⟩ := hrel
          by_cases hjt : j < 16
          · obtain ⟨m, hm⟩ : ∃ m, j % 4 = m := ⟨_, rfl⟩
            obtain ⟨s, hs⟩ : ∃ s, j + 4 * m = s := ⟨_, rfl⟩
            obtain ⟨p, hp⟩ : ∃ p, s % 16 = p := ⟨_, rfl⟩
            have hmI : (j : Int) % 4 = (m : Int) := by omega
            have hsI : (j : Int) + 4 * (m : Int) = (s : Int) := by omega
            have hpI : (s : Int) % 16 = (p : Int) := by omega
            have hm4 : m < 4 := by omega
            have hs32 : s < 32 := by omega
            have hp16 : p < 16 := by omega
            have c0 := G5.out.cellAt j (barr_getD (mixB m14 (withK K st r)) j (by rw [mixB_len]; exact hjt))
            have hbl := G5.out.lt
            have HP : Hid ((j + 4 * (j % 4)) % 16 = p) := Lib.hid (by rw [hm, hs, hp])
            generalize hx : List.getD (mixB m14 (withK K st r)) j 0 = x at c0
            have HX := Lib.hid hx
            clear hx hm hs hp
            go_wp2_with fail
            refine (backU_any x _).mono ?_
            rintro e w' ⟨rfl, n, rfl⟩
            have H6 := Lib.hid (H5.out.below (drew_below _ n))
            have G6 := Lib.hid (G5.out.draw n)
            have f6 := H6.out.blk.unfrozen p
            have hb6 := H6.out.blk.lt
            have c6 := H6.out.blk.cellAt p (barr_getD _ p (by rw [unTo_len, hst]; exact hp16))
            clear H5 G5
            go_wp2
            go_roundw
            case rel =>
              refine ⟨j + 1, by omega, by go_num, ?_, Lib.hid (G6.out.set_ne (by simp; omega) _)⟩
              have h := H6.out.set hbn p (backU x)
              have e : unTo (mixB m14 (withK K st r)) st (j + 1) = (unTo (mixB m14 (withK K st r)) st j).set p (backU x) := by rw [unTo, HP.out, HX.out]
              rw [e]
              exact Lib.hid h
            case measure => simp [intOf]; omega
          · obtain rfl : j = 16 := by omega
            go_wp2
            go_roundw
            case rel =>
              refine ⟨r - 1, _, by omega, by rw [show ((r - 1 : Nat) : Int) = (r : Int) - 1 from by omega], by rw [unTo_len, hst], ?_, H5⟩
              have h := HD.out
              rw [show r = (r - 1) + 1 from by omega, decN, show r - 1 + 1 = r from by omega] at h
              rw [← h]
              have e : dim R r (withK K st r) = (mixB m14 (withK K st r)) := by unfold dim; rw [if_pos hlt2]
              rw [e]
              exact Lib.hid rfl
            case measure => simp [intOf]; omega
      · have hle2 : decide ((r : Int) < (R : Int)) = false := by simp; omega
        go_wp2_with fail
        go_loopw [39] (fun i w1 => ∃ j : Nat, j ≤ 16 ∧ i = .int .i64 (j : Int) ∧ Hid (EncW n0 b k K (unTo (withK K st r) st j) w2 w1) ∧ Hid (Blk w1 s0 31 (barr (withK K st r)))) (fun i _ => 16 - (intOf i).toNat)
        case atStart => exact ⟨0, by omega, rfl, H7, G7⟩
        case round =>
          obtain ⟨j, hj, rfl, H5, G5⟩ := hrel
          by_cases hjt : j < 16
          · obtain ⟨m, hm⟩ : ∃ m, j % 4 = m := ⟨_, rfl⟩
            obtain ⟨s, hs⟩ : ∃ s, j + 4 * m = s := ⟨_, rfl⟩
            obtain ⟨p, hp⟩ : ∃ p, s % 16 = p := ⟨_, rfl⟩
            have hmI : (j : Int) % 4 = (m : Int) := by omega
            have hsI : (j : Int) + 4 * (m : Int) = (s : Int) := by omega
            have hpI : (s : Int) % 16 = (p : Int) := by omega
            have hm4 : m < 4 := by omega
            have hs32 : s < 32 := by omega
            have hp16 : p < 16 := by omega
            have c0 := G5.out.cellAt j (barr_getD (withK K st r) j (by rw [withK_len]; exact hjt))
            have hbl := G5.out.lt
            have HP : Hid ((j + 4 * (j % 4)) % 16 = p) := Lib.hid (by rw [hm, hs, hp])
            generalize hx : List.getD (withK K st r) j 0 = x at c0
            have HX := Lib.hid hx
            clear hx hm hs hp
            go_wp2_with fail
            refine (backU_any x _).mono ?_
            rintro e w' ⟨rfl, n, rfl⟩
            have H6 := Lib.hid (H5.out.below (drew_below _ n))
            have G6 := Lib.hid (G5.out.draw n)
            have f6 := H6.out.blk.unfrozen p
            have hb6 := H6.out.blk.lt
            have c6 := H6.out.blk.cellAt p (barr_getD _ p (by rw [unTo_len, hst]; exact hp16))
            clear H5 G5
            go_wp2
            go_roundw
            case rel =>
              refine ⟨j + 1, by omega, by go_num, ?_, Lib.hid (G6.out.set_ne (by simp; omega) _)⟩
              have h := H6.out.set hbn p (backU x)
              have e : unTo (withK K st r) st (j + 1) = (unTo (withK K st r) st j).set p (backU x) := by rw [unTo, HP.out, HX.out]
              rw [e]
              exact Lib.hid h
            case measure => simp [intOf]; omega
          · obtain rfl : j = 16 := by omega
            go_wp2
            go_roundw
            case rel =>
              refine ⟨r - 1, _, by omega, by rw [show ((r - 1 : Nat) : Int) = (r : Int) - 1 from by omega], by rw [unTo_len, hst], ?_, H5⟩
              have h := HD.out
              rw [show r = (r - 1) + 1 from by omega, decN, show r - 1 + 1 = r from by omega] at h
              rw [← h]
              have e : dim R r (withK K st r) = (withK K st r) := by unfold dim; rw [if_neg hlt2]
              rw [e]
              exact Lib.hid rfl
            case measure => simp [intOf]; omega
    · have hr0 : r = 0 := by omega
      subst hr0
      have hd := HD.out
      rw [decN] at hd
      have HD2 := Lib.hid hd
      clear hd HD
      go_wp2_with ((with_reducible change wpList _ _ _ (Oper.mk _ (Op.load 31 _) _ _ _ _ :: _) _ _); refine wpList_load_blk (ty := 31) n0 rfl H.out.blk Try.underlying31 rfl size16 hb16 ?_)
      refine (with_any b k K st 0 _ H.out.cip hst (by omega)).mono ?_
      rintro e w6 ⟨rfl, h6⟩
      have H6 := Lib.hid (H.out.below h6)
      clear h6
      have hs6 : (barr (withK K st 0)).size = 16 := by rw [barr_size, withK_len]
      go_wp2_with ((with_reducible change wpList _ _ _ (Oper.mk _ (Op.store 31 _ _) _ _ _ _ :: _) _ _); refine wpList_store_blk (ty := 31) (n0 + 1) (barr (withK K st 0)) rfl rfl H6.out.res size16 hs6 (by rw [barr_size]; rfl) (barr_one _) ?_)
      refine bodyPost_ret (results_cell2_blk rfl _ _ (n0 + 1) rfl (H6.out.res.row _) Try.underlying31 rfl size16 hs6) rfl ⟨?_, ?_⟩
      · rw [HR.out, ← HD2.out]
        rfl
      · obtain ⟨F', f1, f2, f3⟩ := HN.out
        have hF : ∀ x, F' x → x ≠ n0 ∧ x ≠ n0 + 1 := by
          intro x hx
          rcases f3 x hx with hh | hh
          · have := HGn.out x hh; omega
          · omega
        have ho : Only (fun x => x = n0 ∨ x = n0 + 1) w2 (w6.setRow (n0 + 1) (barr (withK K st 0))) := (H6.out.only.mono (S' := fun x => x = n0 ∨ x = n0 + 1) (fun x hx => .inl hx)).row (.inl (.inr rfl)) _
        refine ⟨F', f1.keep ho (fun x hx hh => by rcases hh with hh | hh; exact (hF x hx).1 hh; exact (hF x hx).2 hh), ?_, fun x hx => (f3 x hx).imp id (fun hh => by have := HB0.out.size; omega)⟩
        refine ((Only.of_below HB0.out G).trans f2 (fun x hx => .inl hx)).trans ho (fun x hx => .inr ?_)
        have := HN0.out
        rcases hx with hx | hx <;> omega
end Go.Proofs.Ytihmgkjmebdioaa
