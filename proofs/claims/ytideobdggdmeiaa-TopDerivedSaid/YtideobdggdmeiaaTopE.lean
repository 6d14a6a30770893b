/- TopDerived: HKDF by HMAC. -/
import Derived.Test.YtideobdggdmeiaaTop
import Derived.Deep.Cut
import Derived.Deep.CutRange
namespace Go.Proofs.Ytideobdggdmeiaa
open Go.RowKit
set_option maxRecDepth 100000
set_option linter.unusedVariables false
set_option linter.unusedSimpArgs false
theorem padK_zeros (g : Bool) (x : UInt8) : (HA g).padK (List.replicate (szN g) 0) x = (HA g).padK [] x := by
  unfold HashF.padK
  apply List.map_congr_left
  intro j _
  congr 1
  rw [List.getD_eq_getElem?_getD, List.getElem?_replicate]
  by_cases h : j < szN g
  · rw [if_pos h]; rfl
  · rw [if_neg h]; rfl
theorem tag_zeros (g : Bool) (m : List UInt8) : (HA g).tag (List.replicate (szN g) 0) m = (HA g).tag [] m := by
  have h1 : (HA g).keyB (List.replicate (szN g) 0) = List.replicate (szN g) 0 := by
    unfold HashF.keyB
    rw [HA_B, if_neg]
    rw [List.length_replicate]
    cases g <;> decide
  have h2 : (HA g).keyB [] = [] := by
    unfold HashF.keyB
    rw [if_neg (by simp)]
  unfold HashF.tag HashF.macSum HashF.inner HashF.outer
  rw [h1, h2, padK_zeros, padK_zeros]
theorem hk_pre (g : Bool) (k info : List UInt8) (j : Nat) : ∀ d, ∃ r, hkAll g k info (j + d) = hkAll g k info j ++ r
  | 0 => ⟨[], by simp⟩
  | d + 1 => by
    obtain ⟨r, hr⟩ := hk_pre g k info j d
    exact ⟨r ++ hkT g k info (j + d + 1), by rw [← Nat.add_assoc, hkAll, hr, List.append_assoc]⟩
theorem hk_take (g : Bool) (k info : List UInt8) (n i j : Nat) (hi : n ≤ (hkAll g k info i).length) (hj : n ≤ (hkAll g k info j).length) : (hkAll g k info i).take n = (hkAll g k info j).take n := by
  rcases Nat.le_total i j with h | h
  · obtain ⟨d, rfl⟩ : ∃ d, j = i + d := ⟨j - i, by omega⟩
    obtain ⟨r, hr⟩ := hk_pre g k info i d
    rw [hr, List.take_append_of_le_length hi]
  · obtain ⟨d, rfl⟩ : ∃ d, i = j + d := ⟨i - j, by omega⟩
    obtain ⟨r, hr⟩ := hk_pre g k info j d
    rw [hr, List.take_append_of_le_length hj]
theorem algN_two (g : Bool) : (algN g == 2) = g := by cases g <;> rfl
structure EInv (g : Bool) (w : World) (L1 : Nat) (pv : Value) (P info : List UInt8) (j : Nat) (wv lv : Value) (wr : World) : Prop where
  below : Below w.heap.size w wr
  l1 : L1 ≤ wr.heap.size
  prk : Bs wr pv P
  pn : ∀ x, pv.ownBlock = some x → x < L1
  want : OB wr wv (hkAll g P info j)
  wn : ∀ x, fpv wv x → L1 ≤ x
  last : Bs wr lv (hkT g P info j)
  ln : ∀ x, lv.ownBlock = some x → ¬ fpv wv x
set_option maxHeartbeats 4000000 in
theorem expands_any (g : Bool) (w : World) (uk us ui : Value) (key salt info : List UInt8) (huk : Bs w uk key) (hus : Bs w us salt) (hui : Bs w ui info) (hkl : key.length ≤ 500) (hsl : salt.length ≤ 500) (hil : info.length ≤ 500) (n : Nat) (hn0 : 0 < n) (hn : n ≤ 200) :
    Calls Try.prog 5 #[.int .u8 (algN g), uk, us, ui, .int .i64 (n : Int)] w fun e w' => e = .returned (.bool true) ∧ Below w.heap.size w w' := by
  have HUK := Lib.hid huk
  have HUS := Lib.hid hus
  have HUI := Lib.hid hui
  have HII := Lib.hid hui.inside
  have HLN := Lib.hid (And.intro hkl (And.intro hsl hil))
  obtain ⟨sz, hsz⟩ : ∃ sz, szN g = sz := ⟨_, rfl⟩
  have HSZ : Hid (szN g = sz) := hsz
  have hsz1 : 32 ≤ sz ∧ sz ≤ 64 := by rw [← hsz]; cases g <;> decide
  have ha := algN_two g
  obtain ⟨A, hA⟩ : ∃ A, algN g = A := ⟨_, rfl⟩
  have HA' : Hid (algN g = A) := hA
  rw [hA] at ha ⊢
  clear huk hus hui hkl hsl hil hsz hA
  go_enter Try.func5, Try.ntmps5
  go_upto_if 22 with fail
  go_cut [11] from 21 to 23 (fun s11 wx => s11 = .int .i64 (sz : Int) ∧ w = wx)
  case first =>
    cases g
    · obtain rfl : sz = 32 := HSZ.out.symm
      go_wp2
      go_meet
      exact ⟨rfl, rfl⟩
    · obtain rfl : sz = 64 := HSZ.out.symm
      go_wp2
      go_meet
      exact ⟨rfl, rfl⟩
  case rest =>
    obtain ⟨rfl, rfl⟩ := hcut
    clear ha
    go_wp2_with fail
    refine (twin_any us salt w HUS.out (by have := HLN.out; omega)).mono ?_
    rintro e w1 ⟨v1, rfl, q1, q2, q3⟩
    obtain ⟨a1, c1, rfl⟩ := q1.any
    obtain ⟨sl, hsl⟩ : ∃ x, salt.length = x := ⟨_, rfl⟩
    rw [hsl] at q1 ⊢
    have HS1 := Lib.hid q1.rd
    have HB1 := Lib.hid q2
    have HSL : Hid (salt.length = sl) := hsl
    clear q1 q2 q3 hsl
    go_upto_if 27 with fail
    obtain ⟨bb, hbb⟩ : ∃ bb, ((sl : Int) == 0) = bb := ⟨_, rfl⟩
    rw [hbb]
    have HBB := Lib.hid hbb
    clear hbb
    go_cut [12] from 25 to 30 (fun s12 wx => ∃ S : List UInt8, Hid (Bs wx s12 S ∧ S.length ≤ 500 ∧ (∀ m, (HA g).tag S m = (HA g).tag salt m) ∧ Below w.heap.size w wx))
    case first =>
      by_cases h0 : sl = 0
      · obtain rfl : bb = true := by rw [← HBB.out, h0]; rfl
        obtain ⟨i0, hi, hz0, hz1, hz2⟩ := info_parts info8
        have HS0 : Hid (salt = []) := Lib.hid (List.length_eq_zero_iff.1 (by rw [HSL.out]; exact h0))
        clear HBB h0
        go_wp2_with (refine wpList_make_full _ rfl _ _ 22 rfl 0 5 i0 _ 1 Try.underlying22 hi hz0 hz1 .i64 .i64 _ _ sz rfl rfl rfl rfl (mk48 (by omega) hz2) (mkmax (by omega)) (Nat.zero_le _) ?_)
        intro w2 hown hgrow
        have hs0 : salt = [] := HS0.out
        have HX : Hid (Bs w2 (.slice (some ⟨w1.heap.size, 0, none⟩) sz sz) (List.replicate sz 0) ∧ (List.replicate sz (0 : UInt8)).length ≤ 500 ∧ (∀ m, (HA g).tag (List.replicate sz 0) m = (HA g).tag salt m) ∧ Below w.heap.size w w2) := by
          refine Lib.hid ⟨(made_bsW hown).rd, by rw [List.length_replicate]; omega, fun m => ?_, HB1.out.trans (((Below.refl w1.heap.size w1).grown hgrow (Nat.le_refl _) (fun k hk => by cases hk)).mono HB1.out.size)⟩
          rw [hs0, ← HSZ.out]
          exact tag_zeros g m
        clear hown hgrow hi hz0 hz1 hz2 hs0
        go_wp2
        go_meet
        exact ⟨_, HX⟩
      · obtain rfl : bb = false := by rw [← HBB.out]; rw [beq_eq_false_iff_ne]; omega
        clear HBB h0
        go_wp2
        go_meet
        exact ⟨salt, Lib.hid ⟨HS1.out, by rw [HSL.out]; have := HLN.out; have := HSL.out; omega, fun m => rfl, HB1.out⟩⟩
    case rest =>
      obtain ⟨S, HC⟩ := hcut
      have HUK2 : Hid (Bs wc uk key) := Lib.hid (HUK.out.grow HC.out.2.2.2)
      clear HBB HS1 HB1 HSL
      go_wp2_with fail
      refine (twin_any uk key wc HUK2.out (by have := HLN.out; omega)).mono ?_
      rintro e w3 ⟨v3, rfl, q1, q2, q3⟩
      have HT := Lib.hid (htag_any g w3 u12 v3 S key (HC.out.1.grow q2) q1.rd (by have := HC.out.2.1; omega) (by have := HLN.out; omega))
      rw [HA'.out] at HT
      have HB3 : Hid (Below w.heap.size w w3) := Lib.hid (HC.out.2.2.2.trans (q2.mono HC.out.2.2.2.size))
      clear q1 q2 q3
      go_wp2_with fail
      refine HT.out.mono ?_
      rintro e w4 ⟨pv, rfl, q1, q2, q3⟩
      obtain ⟨P, hP⟩ : ∃ P, (HA g).tag salt key = P := ⟨_, rfl⟩
      rw [HC.out.2.2.1 key, hP] at q1
      have HPP := Lib.hid hP
      obtain ⟨L1, hL1⟩ : ∃ x, w4.heap.size = x := ⟨_, rfl⟩
      have HL1 : Hid (w.heap.size ≤ L1) := Lib.hid (by rw [← hL1]; exact Nat.le_trans HB3.out.size q2.size)
      have HE : Hid (EInv g w L1 pv P info 0 (.slice none 0 0) (.slice none 0 0) w4) :=
        Lib.hid ⟨HB3.out.trans (q2.mono HB3.out.size), by omega, q1.rd, fun x hx => by rw [← hL1]; exact q1.lt x hx, OB.nil _, fun x hx => by simp [fpv, Value.ownBlock] at hx, Bs.nil _, fun x hx => by simp [Value.ownBlock] at hx⟩
      clear q1 q2 q3 hP hL1 HT HB3 HUK2
      go_wp2_with fail
      obtain ⟨i0, hi, hz0, hz1, hz2⟩ := info_parts info8
      have HI8 := Lib.hid (And.intro hi (And.intro hz0 (And.intro hz1 hz2)))
      clear hi hz0 hz1 hz2 HC
      go_loopw [15, 16, 17] (fun wv lv iv wr => ∃ j : Nat, iv = .int .i64 ((j : Int) + 1) ∧ Hid (EInv g w L1 pv P info j wv lv wr)) (fun wv _ _ _ => n + 100 - (match wv with | .slice _ m _ => m | _ => 0))
      case atStart => exact ⟨0, rfl, HE⟩
      case round =>
        clear HE
        obtain ⟨j, rfl, HE⟩ := hrel
        obtain ⟨wa, wcap, rfl⟩ := HE.out.want.any
        have hlen : (hkAll g P info j).length = sz * j := by rw [hkAll_len, HSZ.out]
        obtain ⟨m, hm⟩ : ∃ m, sz * j = m := ⟨_, rfl⟩
        rw [hm] at hlen
        rw [hlen] at HE ⊢
        have HLEN := Lib.hid hlen
        have HM := Lib.hid hm
        clear hlen hm
        by_cases hlt : m < n
        · have hj : j < 7 := by
            rcases Nat.lt_or_ge j 7 with h | h
            · exact h
            · have h1 := HM.out
              have h2 : 32 * 7 ≤ sz * j := Nat.mul_le_mul hsz1.1 h
              omega
          have hmI : (m : Int) < (n : Int) := by omega
          have HLT := Lib.hid hlt
          obtain ⟨nI, hnI⟩ : ∃ x : Int, (n : Int) = x := ⟨_, rfl⟩
          have htl := hkT_le g P info j
          have HTW := Lib.hid (twin_any u16 (hkT g P info j) wr HE.out.last (by omega))
          obtain ⟨il, hil⟩ : ∃ x, info.length = x := ⟨_, rfl⟩
          have HIL : Hid (info.length = il) := hil
          have hil5 : il ≤ 500 := by rw [← hil]; exact HLN.out.2.2
          obtain ⟨tl, htl2⟩ : ∃ x, (hkT g P info j).length = x := ⟨_, rfl⟩
          have HTL : Hid ((hkT g P info j).length = tl) := htl2
          rw [htl2] at htl
          clear hlt hnI hil htl2
          go_wp2_with fail
          refine HTW.out.mono ?_
          rintro e w1 ⟨v47, rfl, q1, q2, q3⟩
          have HB1 := Lib.hid q2
          have hown1 : w1.ownsRow 0 5 1 v47 tl ((hkT g P info j).map B) := by
            have h := q1
            unfold OB at h
            rw [HTL.out] at h
            exact h
          have hy1 : Sl w1 1 ui il (info.map B) := by
            have h := Sl.of_bytes ((HUI.out.grow HE.out.below).grow q2)
            rw [HIL.out] at h
            exact h
          have HV47 := Lib.hid q3
          obtain ⟨hi, hz0, hz1, hz2⟩ := HI8.out
          have hbd1 : tl + il ≤ maxLen := by unfold maxLen; omega
          have hbd2 : (tl + il) * 1 ≤ 140737488355328 := by omega
          clear q1 q2 q3 HTW
          go_wp2_with (at_builtin; refine wpList_append_sl _ rfl _ _ 22 rfl 5 i0 _ 1 1 Try.underlying22 hi hz0 hz1 hz2 rfl (by decide) v47 tl ((hkT g P info j).map B) rfl hown1 ui il (info.map B) rfl hy1 hbd1 hbd2 ?_)
          intro v49 w2 hown2 hgrow hat hnn
          have K2 : Below wr.heap.size wr w2 := HB1.out.trans (((Only.refl (fun x => v47.ownBlock = some x) w1).grown hgrow (fun k hk => .inl hk)).below0 (fun x hx h => by have := HV47.out x h; omega) HB1.out.size)
          have HK2 := Lib.hid K2
          have hO2 : OB w2 v49 (hkT g P info j ++ info) := by
            unfold OB
            rw [List.length_append, HTL.out, HIL.out, List.map_append]
            exact hown2
          have HN49 : Hid (∀ x, v49.ownBlock = some x → wr.heap.size ≤ x) := by
            refine Lib.hid fun x hx => ?_
            rcases hat with hat | hat
            · rw [hat] at hx; exact HV47.out x hx
            · rw [hat] at hx; injection hx with hx; have := HB1.out.size; omega
          have hb : (((UInt8.ofNat (j + 1)).toNat : Nat) : Int) = (j : Int) + 1 := by rw [u8_of _ (by omega)]; omega
          obtain ⟨y8, hy8⟩ : ∃ y, UInt8.ofNat (j + 1) = y := ⟨_, rfl⟩
          have HY8 := Lib.hid hy8
          rw [hy8] at hb
          clear hy8
          have hy2 : Sl (w2.alloc (.cells #[.int .u8 ((j : Int) + 1)] 5)) 1 (.slice (some ⟨w2.heap.size, 0, none⟩) 1 1) 1 ([y8].map B) := by
            have h := Bs.byte w2 (y8)
            rw [hb] at h
            exact Sl.of_bytes h
          have hown3 : (w2.alloc (.cells #[.int .u8 ((j : Int) + 1)] 5)).ownsRow 0 5 1 v49 (tl + il) ((hkT g P info j ++ info).map B) := by
            have h := hO2.keep ((Only.refl (fun _ => False) w2).alloc (.cells #[.int .u8 ((j : Int) + 1)] 5)) (fun _ _ h => h)
            unfold OB at h
            rw [List.length_append, HTL.out, HIL.out] at h
            exact h
          have hwr : ((j : Int) + 1) % 256 = (j : Int) + 1 := by omega
          have hbd3 : tl + il + 1 ≤ maxLen := by unfold maxLen; omega
          have hbd4 : (tl + il + 1) * 1 ≤ 140737488355328 := by omega
          clear hown2 hgrow hat hnn hO2 hb K2 hown1 hy1 hbd1 hbd2
          go_wp2_with (at_builtin; refine wpList_append_sl _ rfl _ _ 22 rfl 5 i0 _ 1 1 Try.underlying22 hi hz0 hz1 hz2 rfl (by decide) v49 (tl + il) ((hkT g P info j ++ info).map B) rfl hown3 (.slice (some ⟨w2.heap.size, 0, none⟩) 1 1) 1 ([y8].map B) rfl hy2 hbd3 hbd4 ?_)
          intro v53 w4 hown4 hgrow hat hnn
          have HK4 : Hid (Below wr.heap.size wr w4) := by
            have h3 : Below wr.heap.size wr (w2.alloc (.cells #[.int .u8 ((j : Int) + 1)] 5)) := HK2.out.alloc HK2.out.size _
            exact Lib.hid (h3.trans (((Only.refl (fun x => v49.ownBlock = some x) _).grown hgrow (fun k hk => .inl hk)).below0 (fun x hx h => by have := HN49.out x h; omega) h3.size))
          have HO4 : Hid (OB w4 v53 (hkT g P info j ++ info ++ [y8])) := by
            unfold OB
            rw [List.length_append, List.length_append, HTL.out, HIL.out, List.map_append]
            exact Lib.hid (by simpa using hown4)
          clear hown4 hgrow hat hnn hown3 hy2 hi hz0 hz1 hz2 hwr hbd3 hbd4
          have HT := Lib.hid (htag_any g w4 pv v53 P _ (HE.out.prk.grow HK4.out) HO4.out.rd (by rw [← HPP.out, tag_len]; have := szN_le g; omega) (by rw [List.length_append, List.length_append, HTL.out, HIL.out]; simp; omega))
          rw [HA'.out] at HT
          go_wp2_with fail
          refine HT.out.mono ?_
          rintro e w5 ⟨v5, rfl, q1, q2, q3⟩
          have q1' : OB w5 v5 (hkT g P info (j + 1)) := by rw [hkT, HY8.out]; exact q1
          obtain ⟨a5, c5, rfl⟩ := q1'.any
          rw [hkT_len, HSZ.out] at q1' q3 ⊢
          have HK5 : Hid (Below wr.heap.size wr w5) := Lib.hid (HK4.out.trans (q2.mono HK4.out.size))
          have HO5 := Lib.hid q1'
          have HN5 : Hid (∀ x, (Value.slice a5 sz c5).ownBlock = some x → wr.heap.size ≤ x) := Lib.hid fun x hx => Nat.le_trans HK4.out.size (q3 x hx)
          have hownw : w5.ownsRow 0 5 1 (.slice wa m wcap) m ((hkAll g P info j).map B) := by
            have h := HE.out.want.keep (Only.nothing HK5.out) (fun _ _ h => h)
            unfold OB at h
            rw [HLEN.out] at h
            exact h
          have hy5 : Sl w5 1 (.slice a5 sz c5) sz ((hkT g P info (j + 1)).map B) := by
            have h := Sl.of_bytes q1'.rd
            rw [hkT_len, HSZ.out] at h
            exact h
          obtain ⟨hi, hz0, hz1, hz2⟩ := HI8.out
          have hbd1 : m + sz ≤ maxLen := by unfold maxLen; omega
          have hbd2 : (m + sz) * 1 ≤ 140737488355328 := by omega
          clear q1 q1' q2 q3 HT HO4
          go_wp2_with (at_builtin; refine wpList_append_sl _ rfl _ _ 22 rfl 5 i0 _ 1 1 Try.underlying22 hi hz0 hz1 hz2 rfl (by decide) (.slice wa m wcap) m ((hkAll g P info j).map B) rfl hownw (.slice a5 sz c5) sz ((hkT g P info (j + 1)).map B) rfl hy5 hbd1 hbd2 ?_)
          intro v' w6 hown6 hgrow hat hnn
          have HN : Hid (EInv g w L1 pv P info (j + 1) v' (.slice a5 sz c5) w6) := by
            have ho : Only (fpv (.slice wa m wcap)) w5 w6 := (Only.refl _ w5).grown hgrow (fun k hk => .inl hk)
            have h5 := HK5.out.size
            have hl := HL1.out
            have hl1 := HE.out.l1
            have hbb := HE.out.below
            have key : ∀ x, fpv v' x → fpv (.slice wa m wcap) x ∨ x = w5.heap.size := fun x hx => by
              have hx' : v'.ownBlock = some x := hx
              rcases hat with hat | hat
              · rw [hat] at hx'; exact .inl hx'
              · rw [hat] at hx'; injection hx' with hx'; exact .inr hx'.symm
            refine Lib.hid ⟨(hbb.trans (HK5.out.mono hbb.size)).trans (ho.below0 (fun x hx h => by have := HE.out.wn x h; omega) (by have := hbb.size; omega)), by have := ho.size; omega, ((HE.out.prk.grow HK5.out)).only ho (fun x hx h => by have := HE.out.pn x hx; have := HE.out.wn x h; omega), HE.out.pn, ?_, fun x hx => ?_, HO5.out.rd.only ho (fun x hx h => ?_), fun x hx h => ?_⟩
            · unfold OB
              rw [hkAll, List.length_append, HLEN.out, hkT_len, HSZ.out, List.map_append]
              exact hown6
            · rcases key x hx with h | h
              · exact HE.out.wn x h
              · omega
            · have h1 := HN5.out x hx
              have h2 := HE.out.want.lt x h
              omega
            · have h1 := HN5.out x hx
              have h2 := HO5.out.lt x hx
              rcases key x h with h3 | h3
              · have := HE.out.want.lt x h3; omega
              · omega
          have HL2 : Hid ((hkAll g P info (j + 1)).length = m + sz) := Lib.hid (by rw [hkAll, List.length_append, HLEN.out, hkT_len, HSZ.out])
          clear hown6 hgrow hat hnn hownw hy5 hi hz0 hz1 hz2 hbd1 hbd2
          obtain ⟨wa', wcap', rfl⟩ := HN.out.want.any
          rw [HL2.out] at HN ⊢
          go_wp2
          go_roundw
          case rel => exact ⟨j + 1, by go_num, HN⟩
          case measure => have := HLT.out; show n + 100 - (m + sz) < n + 100 - m; omega
        · have hmn : n ≤ m := by omega
          obtain ⟨ga, gcap, hga⟩ := OB.form (v := .slice wa m wcap) HE.out.want (by rw [HLEN.out]; omega)
          injection hga with r1 r2 r3
          subst r1
          have hcap : m ≤ wcap := by
            obtain ⟨_, _, hv, h1, _⟩ := HE.out.want.rd.form
            injection hv with _ _ h3
            rw [HLEN.out] at h1
            omega
          have hnc : n ≤ wcap := by omega
          have hX : Bs wr (.slice (some ⟨ga, 0, none⟩) n wcap) ((hkAll g P info j).take n) := HE.out.want.rd.headB n (by rw [HLEN.out]; exact hmn)
          have HX := Lib.hid hX
          have HMN := Lib.hid hmn
          have HB := Lib.hid HE.out.below
          clear r2 r3 hX hmn hcap
          go_wp2_with fail
          refine (twin_any uk key wr (HUK.out.grow HB.out) (by have := HLN.out; omega)).mono ?_
          rintro e w1 ⟨v1, rfl, q1, q2, q3⟩
          have HV1 := Lib.hid q1.rd
          have HB1 := Lib.hid q2
          clear q1 q2 q3
          go_wp2_with fail
          refine (twin_any us salt w1 ((HUS.out.grow HB.out).grow HB1.out) (by have := HLN.out; omega)).mono ?_
          rintro e w2 ⟨v2, rfl, q1, q2, q3⟩
          have HV2 := Lib.hid q1.rd
          have HB2 := Lib.hid q2
          clear q1 q2 q3
          go_wp2_with fail
          refine (twin_any ui info w2 (((HUI.out.grow HB.out).grow HB1.out).grow HB2.out) (by have := HLN.out; omega)).mono ?_
          rintro e w3 ⟨v3, rfl, q1, q2, q3⟩
          have HK := Lib.hid (hkey_any g w3 v1 v2 v3 key salt info ((HV1.out.grow HB2.out).grow q2) (HV2.out.grow q2) q1.rd (by have := HLN.out; omega) (by have := HLN.out; omega) (by have := HLN.out; omega) n hn0 (by rw [HSZ.out]; omega))
          rw [HA'.out] at HK
          have HB3 := Lib.hid q2
          clear q1 q2 q3
          go_wp2_with fail
          refine HK.out.mono ?_
          rintro e w4 ⟨v4, J, rfl, r1, r2, r3, r4⟩
          have e1 : (hkAll g ((HA g).tag salt key) info J).take n = (hkAll g P info j).take n := by
            rw [HPP.out] at r1 ⊢
            exact hk_take g P info n J j r1 (by rw [HLEN.out]; exact HMN.out)
          rw [e1] at r2
          obtain ⟨X, hXX⟩ : ∃ X, (hkAll g P info j).take n = X := ⟨_, rfl⟩
          have HX4 : Hid (Bs w4 (.slice (some ⟨ga, 0, none⟩) n wcap) X) := Lib.hid (by rw [← hXX]; exact (((HX.out.grow HB1.out).grow HB2.out).grow HB3.out).grow r4)
          rw [hXX] at r2
          have HR := Lib.hid r2.rd
          have HBF : Hid (Below w.heap.size w w4) := Lib.hid ((((HB.out.trans (HB1.out.mono HB.out.size)).trans (HB2.out.mono (Nat.le_trans HB.out.size HB1.out.size))).trans (HB3.out.mono (Nat.le_trans (Nat.le_trans HB.out.size HB1.out.size) HB2.out.size))).trans (r4.mono (Nat.le_trans (Nat.le_trans (Nat.le_trans HB.out.size HB1.out.size) HB2.out.size) HB3.out.size)))
          clear r1 r2 r3 r4 e1 hXX HK HB HB1 HB2 HB3 HV1 HV2 HX HE HUK HUS HUI
          go_upto_region 20 with fail
          obtain ⟨S, hS⟩ : ∃ S : World → Prop, S = fun wx => Bs wx v4 X ∧ Bs wx (.slice (some ⟨ga, 0, none⟩) n wcap) X := ⟨_, rfl⟩
          have F1 : ∀ wx, S wx → (convert 22 9 v4).run Try.prog wx = .ok (.string (bst X)) wx := fun wx h => by rw [hS] at h; exact bconv h.1
          have F2 : ∀ wx, S wx → (convert 22 9 (.slice (some ⟨ga, 0, none⟩) n wcap)).run Try.prog wx = .ok (.string (bst X)) wx := fun wx h => by rw [hS] at h; exact bconv h.2
          have SF : Hid (∀ wx, Bs wx v4 X → Bs wx (.slice (some ⟨ga, 0, none⟩) n wcap) X → S wx) := Lib.hid (fun wx h1 h2 => by rw [hS]; exact ⟨h1, h2⟩)
          have c3 : ((bst X).toList == (bst X).toList) = true := by rw [bst_eq]; simp
          clear hS
          refine hd_start S (by kernel_rfl) ?_
          intro w5 hw'
          have HD : Below w4.heap.size w4 w5 := by rw [hw']; exact ⟨rfl, rfl, rfl, Nat.le_refl _, fun _ _ => rfl⟩
          have HS5 : S w5 := SF.out w5 (HR.out.grow HD) (HX4.out.grow HD)
          have HBG : Hid (Below w.heap.size w w5) := Lib.hid (HBF.out.trans (HD.mono HBF.out.size))
          clear hw' HD
          refine hd_take (v := ?_) 0 rfl (by kernel_rfl) (fun _ _ d _ _ h => (by cases d <;> exact h)) (by kernel_rfl) HS5 (fun w' hS => ?_) ?_
          rotate_left
          focus (have q0 := F1 w' hS; have q1 := F2 w' hS; clear hS; go_simp; try rfl; done)
          simp only [List.getElem_toArray, List.getElem_cons_succ, List.getElem_cons_zero, Act.put, List.setIfInBounds_toArray, List.set_cons_zero, List.set_cons_succ]
          refine hd_take (v := ?_) 1 rfl (by kernel_rfl) (fun _ _ d _ _ h => (by cases d <;> exact h)) (by kernel_rfl) HS5 (fun w' hS => ?_) ?_
          rotate_left
          focus (have q0 := F1 w' hS; have q1 := F2 w' hS; clear hS; go_simp; try rfl; done)
          simp only [List.getElem_toArray, List.getElem_cons_succ, List.getElem_cons_zero, Act.put, List.setIfInBounds_toArray, List.set_cons_zero, List.set_cons_succ]
          refine hd_take (v := ?_) 2 rfl (by kernel_rfl) (fun _ _ d _ _ h => (by cases d <;> exact h)) (by kernel_rfl) HS5 (fun w' hS => ?_) ?_
          rotate_left
          focus (have q0 := F1 w' hS; have q1 := F2 w' hS; clear hS; go_simp; try rfl; done)
          simp only [List.getElem_toArray, List.getElem_cons_succ, List.getElem_cons_zero, Act.put, List.setIfInBounds_toArray, List.set_cons_zero, List.set_cons_succ]
          refine hd_take (v := ?_) 3 rfl (by kernel_rfl) (fun _ _ d _ _ h => (by cases d <;> exact h)) (by kernel_rfl) HS5 (fun w' hS => ?_) ?_
          rotate_left
          focus (have q0 := F1 w' hS; have q1 := F2 w' hS; clear hS; go_simp; try rfl; done)
          simp only [List.getElem_toArray, List.getElem_cons_succ, List.getElem_cons_zero, Act.put, List.setIfInBounds_toArray, List.set_cons_zero, List.set_cons_succ]
          refine hd_take (v := ?_) 4 rfl (by kernel_rfl) (fun _ _ d _ _ h => (by cases d <;> exact h)) (by kernel_rfl) HS5 (fun w' hS => ?_) ?_
          rotate_left
          focus (have q0 := F1 w' hS; have q1 := F2 w' hS; clear hS; go_simp; try rfl; done)
          simp only [List.getElem_toArray, List.getElem_cons_succ, List.getElem_cons_zero, Act.put, List.setIfInBounds_toArray, List.set_cons_zero, List.set_cons_succ]
          refine hd_take (v := ?_) 5 rfl (by kernel_rfl) (fun _ _ d _ _ h => (by cases d <;> exact h)) (by kernel_rfl) HS5 (fun w' hS => ?_) ?_
          rotate_left
          focus (have q0 := F1 w' hS; have q1 := F2 w' hS; clear hS; go_simp; try rfl; done)
          simp only [List.getElem_toArray, List.getElem_cons_succ, List.getElem_cons_zero, Act.put, List.setIfInBounds_toArray, List.set_cons_zero, List.set_cons_succ]
          refine hd_take (v := ?_) 6 rfl (by kernel_rfl) (fun _ _ d _ _ h => (by cases d <;> exact h)) (by kernel_rfl) HS5 (fun w' hS => ?_) ?_
          rotate_left
          focus (have q0 := F1 w' hS; have q1 := F2 w' hS; clear hS; go_simp; try rfl; done)
          simp only [List.getElem_toArray, List.getElem_cons_succ, List.getElem_cons_zero, Act.put, List.setIfInBounds_toArray, List.set_cons_zero, List.set_cons_succ]
          refine hd_take (v := ?_) 7 rfl (by kernel_rfl) (fun _ _ d _ _ h => (by cases d <;> exact h)) (by kernel_rfl) HS5 (fun w' hS => ?_) ?_
          rotate_left
          focus (have q0 := F1 w' hS; have q1 := F2 w' hS; clear hS; go_simp; try rfl; done)
          simp only [List.getElem_toArray, List.getElem_cons_succ, List.getElem_cons_zero, Act.put, List.setIfInBounds_toArray, List.set_cons_zero, List.set_cons_succ]
          refine hd_take (v := ?_) 8 rfl (by kernel_rfl) (fun _ _ d _ _ h => (by cases d <;> exact h)) (by kernel_rfl) HS5 (fun w' hS => ?_) ?_
          rotate_left
          focus (have q0 := F1 w' hS; have q1 := F2 w' hS; clear hS; go_simp; try rfl; done)
          simp only [List.getElem_toArray, List.getElem_cons_succ, List.getElem_cons_zero, Act.put, List.setIfInBounds_toArray, List.set_cons_zero, List.set_cons_succ]
          refine hd_take (v := ?_) 9 rfl (by kernel_rfl) (fun _ _ d _ _ h => (by cases d <;> exact h)) (by kernel_rfl) HS5 (fun w' hS => ?_) ?_
          rotate_left
          focus (have q0 := F1 w' hS; have q1 := F2 w' hS; clear hS; go_simp; try rfl; done)
          simp only [List.getElem_toArray, List.getElem_cons_succ, List.getElem_cons_zero, Act.put, List.setIfInBounds_toArray, List.set_cons_zero, List.set_cons_succ]
          refine hd_take (v := ?_) 10 rfl (by kernel_rfl) (fun _ _ d _ _ h => (by cases d <;> exact h)) (by kernel_rfl) HS5 (fun w' hS => ?_) ?_
          rotate_left
          focus (have q0 := F1 w' hS; have q1 := F2 w' hS; clear hS; go_simp; try rfl; done)
          simp only [List.getElem_toArray, List.getElem_cons_succ, List.getElem_cons_zero, Act.put, List.setIfInBounds_toArray, List.set_cons_zero, List.set_cons_succ]
          refine hd_take (v := ?_) 11 rfl (by kernel_rfl) (fun _ _ d _ _ h => (by cases d <;> exact h)) (by kernel_rfl) HS5 (fun w' hS => ?_) ?_
          rotate_left
          focus (have q0 := F1 w' hS; have q1 := F2 w' hS; clear hS; go_simp; try rfl; done)
          simp only [List.getElem_toArray, List.getElem_cons_succ, List.getElem_cons_zero, Act.put, List.setIfInBounds_toArray, List.set_cons_zero, List.set_cons_succ]
          refine hd_done (by kernel_rfl) ?_
          clear F1 F2 c3 HS5
          go_wp2
          go_ret
          exact ⟨rfl, HBG.out⟩
end Go.Proofs.Ytideobdggdmeiaa
