/- TopDerived: PBKDF2 by HMAC. -/
import Derived.Test.YtideobdggdmeiaaTop
namespace Go.Proofs.Ytideobdggdmeiaa
open Go.RowKit
set_option maxRecDepth 100000
set_option linter.unusedVariables false
set_option linter.unusedSimpArgs false
theorem lay_small (j : Nat) (h : j < 255) : layL 4 ((j + 1 : Nat) : Int) = [0, 0, 0, UInt8.ofNat (j + 1)] := by
  have : ∀ i : Fin 255, layL 4 ((i.val + 1 : Nat) : Int) = [0, 0, 0, UInt8.ofNat (i.val + 1)] := by decide +kernel
  exact this ⟨j, h⟩
theorem pb_pre (g : Bool) (k salt : List UInt8) (c j : Nat) : ∀ d, ∃ r, pbAll g k salt c (j + d) = pbAll g k salt c j ++ r
  | 0 => ⟨[], by simp⟩
  | d + 1 => by
    obtain ⟨r, hr⟩ := pb_pre g k salt c j d
    exact ⟨r ++ pbT g k salt ((j + d + 1 : Nat) : Int) c, by rw [← Nat.add_assoc, pbAll, hr, List.append_assoc]⟩
theorem pb_take (g : Bool) (k salt : List UInt8) (c n i j : Nat) (hi : n ≤ (pbAll g k salt c i).length) (hj : n ≤ (pbAll g k salt c j).length) : (pbAll g k salt c i).take n = (pbAll g k salt c j).take n := by
  rcases Nat.le_total i j with h | h
  · obtain ⟨d, rfl⟩ : ∃ d, j = i + d := ⟨j - i, by omega⟩
    obtain ⟨r, hr⟩ := pb_pre g k salt c i d
    rw [hr, List.take_append_of_le_length hi]
  · obtain ⟨d, rfl⟩ : ∃ d, i = j + d := ⟨i - j, by omega⟩
    obtain ⟨r, hr⟩ := pb_pre g k salt c j d
    rw [hr, List.take_append_of_le_length hj]
/-- the first i bytes are xored -/
def xorI (a b : List UInt8) (i : Nat) : List UInt8 := tab a.length fun j => if j < i then a.getD j 0 ^^^ b.getD j 0 else a.getD j 0
theorem xorI_len (a b : List UInt8) (i : Nat) : (xorI a b i).length = a.length := tab_length _ _
theorem xorI_zero (a b : List UInt8) : xorI a b 0 = a := by
  apply List.ext_getElem (xorI_len _ _ _)
  intro j h1 h2
  simp [xorI, tab, List.getD_eq_getElem?_getD, List.getElem?_eq_getElem h2]
theorem xorI_end (a b : List UInt8) : xorI a b a.length = xorL a b := tab_ext _ _ _ fun j hj => by rw [if_pos hj]
theorem xorI_get (a b : List UInt8) (i : Nat) (h : i < a.length) : (xorI a b i).getD i 0 = a.getD i 0 := by
  unfold xorI
  rw [tab_getD _ _ _ h, if_neg (by omega)]
theorem xorI_succ (a b : List UInt8) (i : Nat) : (xorI a b i).set i (a.getD i 0 ^^^ b.getD i 0) = xorI a b (i + 1) := by
  unfold xorI
  rw [tab_set]
  apply tab_ext
  intro j _
  by_cases h : j = i
  · subst h; simp
  · rw [if_neg h]
    by_cases h2 : j < i
    · rw [if_pos h2, if_pos (by omega)]
    · rw [if_neg h2, if_neg (by omega)]
structure IInv (g : Bool) (w : World) (key salt : List UInt8) (C j : Nat) (wv : Value) (wr : World) : Prop where
  below : Below w.heap.size w wr
  want : OB wr wv (pbAll g key salt C j)
  wn : ∀ x, fpv wv x → w.heap.size ≤ x
structure JInv (g : Bool) (w1 : World) (key salt : List UInt8) (i : Int) (cc : Nat) (uv tv : Value) (wx : World) : Prop where
  below : Below w1.heap.size w1 wx
  u : Bs wx uv (pbU g key salt i cc)
  un : ∀ x, uv.ownBlock = some x → ¬ fpv tv x
  t : OB wx tv (pbT g key salt i cc)
  tn : ∀ x, fpv tv x → w1.heap.size ≤ x
set_option maxHeartbeats 4000000 in
theorem iterates_any (g : Bool) (w : World) (uk us : Value) (key salt : List UInt8) (huk : Bs w uk key) (hus : Bs w us salt) (hkl : key.length ≤ 500) (hsl : salt.length ≤ 500) (n : Nat) (hn0 : 0 < n) (hn : n ≤ 200) (C : Nat) (hC : C < 12) :
    Calls Try.prog 6 #[.int .u8 (algN g), uk, us, .int .i64 (n : Int), .int .i64 ((C : Int) + 1)] w fun e w' => e = .returned (.bool true) ∧ Below w.heap.size w w' := by
  have HUK := Lib.hid huk
  have HUS := Lib.hid hus
  have HLN := Lib.hid (And.intro hkl hsl)
  obtain ⟨sz, hsz⟩ : ∃ sz, szN g = sz := ⟨_, rfl⟩
  have HSZ : Hid (szN g = sz) := hsz
  have hsz1 : 32 ≤ sz ∧ sz ≤ 64 := by rw [← hsz]; cases g <;> decide
  obtain ⟨A, hA⟩ : ∃ A, algN g = A := ⟨_, rfl⟩
  have HA' : Hid (algN g = A) := hA
  rw [hA]
  have HE : Hid (IInv g w key salt C 0 (.slice none 0 0) w) := Lib.hid ⟨Below.refl _ _, OB.nil _, fun x hx => by simp [fpv, Value.ownBlock] at hx⟩
  obtain ⟨i0, hi, hz0, hz1, hz2⟩ := info_parts info8
  have HI8 := Lib.hid (And.intro hi (And.intro hz0 (And.intro hz1 hz2)))
  clear hi hz0 hz1 hz2 huk hus hkl hsl hsz hA
  go_enter Try.func6, Try.ntmps6
  go_wp2_with fail
  go_loopw [11, 12] (fun wv iv wr => ∃ j : Nat, iv = .int .i64 ((j : Int) + 1) ∧ Hid (IInv g w key salt C j wv wr)) (fun wv _ _ => n + 100 - (match wv with | .slice _ m _ => m | _ => 0))
  case atStart => exact ⟨0, rfl, HE⟩
  case round =>
    clear HE
    obtain ⟨j, rfl, HE⟩ := hrel
    obtain ⟨W0, hW0⟩ : ∃ x, x = wr := ⟨_, rfl⟩
    subst hW0
    obtain ⟨wa, wcap, rfl⟩ := HE.out.want.any
    have hlen : (pbAll g key salt C j).length = sz * j := by rw [pbAll_len, HSZ.out]
    obtain ⟨m, hm⟩ : ∃ m, sz * j = m := ⟨_, rfl⟩
    rw [hm] at hlen
    rw [hlen] at HE ⊢
    have HLEN := Lib.hid hlen
    have HM := Lib.hid hm
    clear hlen hm
    by_cases hlt : m < n
    · have hj : j < 7 := by
        rcases Nat.lt_or_ge j 7 with h | h
        · exact h
        · have h1 := HM.out
          have h2 : 32 * 7 ≤ sz * j := Nat.mul_le_mul hsz1.1 h
          omega
      have hmI : (m : Int) < (n : Int) := by omega
      have HLT := Lib.hid hlt
      have HJ7 := Lib.hid hj
      have hwr : ((j : Int) + 1) % 256 = (j : Int) + 1 := by omega
      obtain ⟨sl, hsl⟩ : ∃ x, salt.length = x := ⟨_, rfl⟩
      have HSL : Hid (salt.length = sl) := hsl
      have hsl5 : sl ≤ 500 := by rw [← hsl]; exact HLN.out.2
      clear hlt hsl
      go_wp2_with fail
      refine (twin_any uk key W0 (HUK.out.grow HE.out.below) (by have := HLN.out; omega)).mono ?_
      rintro e w1 ⟨v1, rfl, q1, q2, q3⟩
      have HV1 := Lib.hid q1.rd
      have HB1 := Lib.hid q2
      clear q1 q2 q3
      go_wp2_with fail
      refine (twin_any us salt w1 ((HUS.out.grow HE.out.below).grow HB1.out) (by have := HLN.out; omega)).mono ?_
      rintro e w2 ⟨v2, rfl, q1, q2, q3⟩
      have HO2 := Lib.hid q1
      have HB2 := Lib.hid q2
      have HN2 := Lib.hid q3
      have hb : (((UInt8.ofNat (j + 1)).toNat : Nat) : Int) = (j : Int) + 1 := by rw [u8_of _ (by omega)]; omega
      have hLAY := lay_small j (by omega)
      obtain ⟨y8, hy8⟩ : ∃ y, UInt8.ofNat (j + 1) = y := ⟨_, rfl⟩
      rw [hy8] at hb hLAY
      have HLAY := Lib.hid hLAY
      have hy2 : Sl (w2.alloc (.cells #[.int .u8 0, .int .u8 0, .int .u8 0, .int .u8 ((j : Int) + 1)] 5)) 1 (.slice (some ⟨w2.heap.size, 0, none⟩) 4 4) 4 ([0, 0, 0, y8].map B) := by
        have h : Bs (w2.alloc (.cells #[.int .u8 0, .int .u8 0, .int .u8 0, .int .u8 (y8.toNat : Int)] 5)) (.slice (some ⟨w2.heap.size, 0, none⟩) 4 4) [0, 0, 0, y8] := Bs.marked w2 [0, 0, 0, y8] 5 (0, 0) (by simp) _ rfl
        rw [hb] at h
        exact Sl.of_bytes h
      have hown3 : (w2.alloc (.cells #[.int .u8 0, .int .u8 0, .int .u8 0, .int .u8 ((j : Int) + 1)] 5)).ownsRow 0 5 1 v2 sl (salt.map B) := by
        have h := HO2.out.keep ((Only.refl (fun _ => False) w2).alloc (.cells #[.int .u8 0, .int .u8 0, .int .u8 0, .int .u8 ((j : Int) + 1)] 5)) (fun _ _ h => h)
        unfold OB at h
        rw [HSL.out] at h
        exact h
      have hbd3 : sl + 4 ≤ maxLen := by unfold maxLen; omega
      have hbd4 : (sl + 4) * 1 ≤ 140737488355328 := by omega
      obtain ⟨hi, hz0, hz1, hz2⟩ := HI8.out
      clear q1 q2 q3 hb hy8 hLAY
      go_wp2_with (at_builtin; refine wpList_append_sl _ rfl _ _ 22 rfl 5 i0 _ 1 1 Try.underlying22 hi hz0 hz1 hz2 rfl (by decide) v2 sl (salt.map B) rfl hown3 (.slice (some ⟨w2.heap.size, 0, none⟩) 4 4) 4 ([0, 0, 0, y8].map B) rfl hy2 hbd3 hbd4 ?_)
      intro v4 w4 hown4 hgrow hat hnn
      obtain ⟨I, hI⟩ : ∃ x : Int, ((j + 1 : Nat) : Int) = x := ⟨_, rfl⟩
      have HII := Lib.hid hI
      have HU0 : Hid (pbU g key salt I 0 = (HA g).tag key (salt ++ [0, 0, 0, y8])) := Lib.hid (by rw [pbU, ← hI, HLAY.out])
      have hK4 : Below W0.heap.size W0 w4 := by
        have h2 : Below W0.heap.size W0 w2 := HB1.out.trans (HB2.out.mono HB1.out.size)
        have h3 : Below W0.heap.size W0 (w2.alloc (.cells #[.int .u8 0, .int .u8 0, .int .u8 0, .int .u8 ((j : Int) + 1)] 5)) := h2.alloc h2.size _
        exact h3.trans (((Only.refl (fun x => v2.ownBlock = some x) _).grown hgrow (fun k hk => .inl hk)).below0 (fun x hx h => by have := HN2.out x h; have := HB1.out.size; omega) h3.size)
      have HK4 := Lib.hid hK4
      have HO4 : Hid (OB w4 v4 (salt ++ [0, 0, 0, y8])) := by
        unfold OB
        rw [List.length_append, HSL.out, List.map_append]
        exact Lib.hid (by simpa using hown4)
      have HV1' : Hid (Bs w4 v1 key) := by
        have h14 : Below w1.heap.size w1 w4 := by
          have h3 : Below w1.heap.size w1 (w2.alloc (.cells #[.int .u8 0, .int .u8 0, .int .u8 0, .int .u8 ((j : Int) + 1)] 5)) := HB2.out.alloc HB2.out.size _
          exact h3.trans (((Only.refl (fun x => v2.ownBlock = some x) _).grown hgrow (fun k hk => .inl hk)).below0 (fun x hx h => by have := HN2.out x h; omega) h3.size)
        exact Lib.hid (HV1.out.grow h14)
      have HT := Lib.hid (htag_any g w4 v1 v4 key _ HV1'.out HO4.out.rd (by have := HLN.out; omega) (by rw [List.length_append, HSL.out]; simp; omega))
      rw [HA'.out, ← HU0.out] at HT
      clear hown4 hgrow hat hnn hown3 hy2 hi hz0 hz1 hz2 hbd3 hbd4 hK4 hI HV1 HB1 HB2 HO2 HN2
      go_wp2_with fail
      refine HT.out.mono ?_
      rintro e w5 ⟨v5, rfl, q1, q2, q3⟩
      obtain ⟨a5, c5, rfl⟩ := q1.any
      rw [pbU_len, HSZ.out] at q1 q3 ⊢
      have HK5 : Hid (Below W0.heap.size W0 w5) := Lib.hid (HK4.out.trans (q2.mono HK4.out.size))
      have HO5 := Lib.hid q1
      have HN5 := Lib.hid q3
      have t0 : ((sz : Int) == 0) = false := by rw [beq_eq_false_iff_ne]; omega
      clear q1 q2 q3 HT HO4 HV1' hwr
      go_wp2_with fail
      clear t0
      refine (twin_any _ _ w5 HO5.out.rd (by rw [pbU_len]; have := szN_le g; omega)).mono ?_
      rintro e w6 ⟨tv, rfl, q1, q2, q3⟩
      obtain ⟨pt, tcap, rfl⟩ := q1.form (by rw [pbU_len, HSZ.out]; omega)
      rw [pbU_len, HSZ.out] at q1 q3 ⊢
      have HJ0 : Hid (JInv g W0 key salt I 0 (.slice a5 sz c5) (.slice (some ⟨pt, 0, none⟩) sz tcap) w6) := by
        have h4 := HK5.out.size
        refine Lib.hid ⟨HK5.out.trans (q2.mono h4), HO5.out.rd.grow q2, fun x hx h => ?_, q1, fun x hx => by have := q3 x hx; omega⟩
        have h1 := HO5.out.lt x hx
        have h2 := q3 x h
        omega
      have HKK : Hid (W0.heap.size ≤ pt) := Lib.hid (by have := q3 pt rfl; have := HK5.out.size; omega)
      clear q1 q2 q3 HO5 HN5
      go_wp2_with fail
      go_loopw [13, 16] (fun uv cv wx => ∃ (cc : Nat) (ua : Option Addr) (uc : Nat), cc ≤ C ∧ uv = .slice ua sz uc ∧ cv = .int .i64 ((cc : Int) + 1) ∧ Hid (JInv g W0 key salt I cc (.slice ua sz uc) (.slice (some ⟨pt, 0, none⟩) sz tcap) wx)) (fun _ cv _ => 20 - (intOf cv).toNat)
      case atStart => exact ⟨0, a5, c5, Nat.zero_le _, rfl, rfl, HJ0⟩
      case round =>
        clear HJ0
        obtain ⟨cc, ua, uc, hcc, rfl, rfl, HJ⟩ := hrel
        by_cases hlc : cc < C
        · have hlcI : (cc : Int) < (C : Int) := by omega
          have HLC := Lib.hid hlc
          go_wp2_with fail
          refine (twin_any uk key wr ((HUK.out.grow HE.out.below).grow HJ.out.below) (by have := HLN.out; omega)).mono ?_
          rintro e x1 ⟨vk, rfl, q1, q2, q3⟩
          have HT := Lib.hid (htag_any g x1 vk (.slice ua sz uc) key _ q1.rd (HJ.out.u.grow q2) (by have := HLN.out; omega) (by rw [pbU_len]; have := szN_le g; omega))
          rw [HA'.out] at HT
          have HX1 := Lib.hid q2
          clear q1 q2 q3
          go_wp2_with fail
          refine HT.out.mono ?_
          rintro e x2 ⟨v2', rfl, q1, q2, q3⟩
          have q1' : OB x2 v2' (pbU g key salt I (cc + 1)) := q1
          obtain ⟨a6, c6, rfl⟩ := q1'.any
          rw [pbU_len, HSZ.out] at q1' q3 ⊢
          have HX2 : Hid (Below wr.heap.size wr x2) := Lib.hid (HX1.out.trans (q2.mono HX1.out.size))
          have HU2 := Lib.hid q1'.rd
          have HUN : Hid (∀ x, (Value.slice a6 sz c6).ownBlock = some x → x ≠ pt) := Lib.hid fun x hx => by
            have h1 := q3 x hx
            have h2 := HJ.out.t.lt pt rfl
            have h3 := HX1.out.size
            omega
          have HUL : Hid (∀ x, (Value.slice a6 sz c6).ownBlock = some x → x < x2.heap.size) := Lib.hid fun x hx => q1'.lt x hx
          obtain ⟨T, hT⟩ : ∃ T, pbT g key salt I cc = T := ⟨_, rfl⟩
          obtain ⟨U, hU⟩ : ∃ U, pbU g key salt I (cc + 1) = U := ⟨_, rfl⟩
          have HTT := Lib.hid hT
          have HUU := Lib.hid hU
          have HTL : Hid (T.length = sz) := Lib.hid (by rw [← hT, pbT_len, HSZ.out])
          have HULN : Hid (U.length = sz) := Lib.hid (by rw [← hU, pbU_len, HSZ.out])
          have HK0 : Hid (OB x2 (.slice (some ⟨pt, 0, none⟩) sz tcap) (xorI T U 0) ∧ Bs x2 (.slice a6 sz c6) U ∧ Below W0.heap.size W0 x2) := by
            rw [xorI_zero, ← hT, ← hU]
            exact Lib.hid ⟨HJ.out.t.keep (Only.nothing HX2.out) (fun _ _ h => h), HU2.out, HJ.out.below.trans (HX2.out.mono HJ.out.below.size)⟩
          clear q1 q1' q2 q3 HT hT hU
          go_wp2_with fail
          go_loopw [17] (fun kv wq => ∃ kk : Nat, kk ≤ sz ∧ kv = .int .i64 (kk : Int) ∧ Hid (OB wq (.slice (some ⟨pt, 0, none⟩) sz tcap) (xorI T U kk) ∧ Bs wq (.slice a6 sz c6) U ∧ Below W0.heap.size W0 wq)) (fun kv _ => sz - (intOf kv).toNat)
          case atStart => exact ⟨0, Nat.zero_le _, rfl, HK0⟩
          case round =>
            clear HK0
            obtain ⟨kk, hkk, rfl, HK⟩ := hrel
            obtain ⟨V0, hV0⟩ : ∃ x, x = wr := ⟨_, rfl⟩
            subst hV0
            by_cases hkl : kk < sz
            · obtain ⟨au', cu', hv1, _, _, _, dd1⟩ := HK.out.2.1.form
              injection hv1 with e1 e2 e3
              subst e1
              obtain ⟨gb, off, rfl, d1⟩ := dd1 kk (by rw [HULN.out]; exact hkl)
              have hO : OB V0 (.slice (some ⟨pt, 0, none⟩) (xorI T U kk).length tcap) (xorI T U kk) := by rw [xorI_len, HTL.out]; exact HK.out.1
              have c1 : (V0.drewN 1).cell? ⟨pt, kk, none⟩ = some (.int .u8 ((T.getD kk 0).toNat : Int)) := by
                refine (World.ownsRow.cellAt hO kk (by rw [xorI_len, HTL.out]; omega)).trans ?_
                rw [List.getElem?_map, List.getElem?_eq_getElem (by rw [xorI_len, HTL.out]; exact hkl)]
                have h := xorI_get T U kk (by rw [HTL.out]; exact hkl)
                rw [List.getD_eq_getElem?_getD, List.getElem?_eq_getElem (by rw [xorI_len, HTL.out]; exact hkl)] at h
                rw [← h]
                rfl
              have f1 : (V0.drewN 1).frozen? ⟨pt, kk, none⟩ = false := World.ownsRow.frozenAt hO kk
              have HXO : Hid (bits .xor .u8 ((T.getD kk 0).toNat : Int) ((U.getD kk 0).toNat : Int) = ((T.getD kk 0 ^^^ U.getD kk 0).toNat : Int)) := Lib.hid (xorUU _ _)
              have HS : Hid (OB ((V0.drewN 1).setCell ⟨pt, kk, none⟩ (.int .u8 ((T.getD kk 0 ^^^ U.getD kk 0).toNat : Int))) (.slice (some ⟨pt, 0, none⟩) sz tcap) (xorI T U (kk + 1)) ∧ Bs ((V0.drewN 1).setCell ⟨pt, kk, none⟩ (.int .u8 ((T.getD kk 0 ^^^ U.getD kk 0).toNat : Int))) (.slice (some ⟨gb, off, none⟩) sz c6) U ∧ Below W0.heap.size W0 ((V0.drewN 1).setCell ⟨pt, kk, none⟩ (.int .u8 ((T.getD kk 0 ^^^ U.getD kk 0).toNat : Int)))) := by
                have h := OB.set (w := V0.drewN 1) hO kk (T.getD kk 0 ^^^ U.getD kk 0)
                rw [xorI_succ, xorI_len, HTL.out] at h
                have hb := HK.out.2.2
                have hb1 : Below W0.heap.size W0 (V0.drewN 1) := ⟨hb.os, hb.tape, hb.output, hb.size, hb.block⟩
                have ho : Only (fun x => x = pt) V0 ((V0.drewN 1).setCell ⟨pt, kk, none⟩ (.int .u8 ((T.getD kk 0 ^^^ U.getD kk 0).toNat : Int))) := ((Only.refl (fun x => x = pt) V0).draw 1).set (p := ⟨pt, kk, none⟩) (.inl rfl) _
                exact Lib.hid ⟨h, HK.out.2.1.only ho (fun x hx => HUN.out x hx), Below.setCell (p := ⟨pt, kk, none⟩) hb1 HKK.out _⟩
              have F1 : ∀ w', w' = V0.drewN 1 → w'.cell? ⟨pt, kk, none⟩ = some (.int .u8 ((T.getD kk 0).toNat : Int)) := by rintro w' rfl; exact c1
              have F2 : ∀ w', w' = V0.drewN 1 → w'.cell? ⟨gb, off + kk, none⟩ = some (.int .u8 ((U.getD kk 0).toNat : Int)) := by rintro w' rfl; exact d1
              generalize hx : T.getD kk 0 = x at F1 HXO HS c1
              generalize hy : U.getD kk 0 = y at F2 HXO HS
              have u0 := u8_hi x
              have u1 := u8_hi y
              have hklI : (kk : Int) < (sz : Int) := by omega
              have HKL := Lib.hid hkl
              clear hx hy d1 dd1 hO HK e2 e3
              go_upto_region 18 with fail
              refine wp_region_tame (fun w' => w' = V0.drewN 1) 0 10 (by kernel_rfl) (by kernel_rfl) (fun _ _ d _ _ h => (by cases d <;> exact h)) rfl (by decide) ?_
              simp only [List.take_succ_cons, List.take_zero, List.drop_succ_cons, List.drop_zero]
              refine wpPre_nil ?_
              refine wpTame_run (v := ?_) (by decide) rfl (fun w' hS => ?_) ?_
              rotate_left
              focus (have q0 := F1 w' hS; have q1 := F2 w' hS; clear hS; go_simp; try rfl; done)
              simp only [Act.put, List.setIfInBounds_toArray, List.set_cons_zero, List.set_cons_succ]
              refine wpTame_run (v := ?_) (by decide) rfl (fun w' hS => ?_) ?_
              rotate_left
              focus (have q0 := F1 w' hS; have q1 := F2 w' hS; clear hS; go_simp; try rfl; done)
              simp only [Act.put, List.setIfInBounds_toArray, List.set_cons_zero, List.set_cons_succ]
              refine wpTame_run (v := ?_) (by decide) rfl (fun w' hS => ?_) ?_
              rotate_left
              focus (have q0 := F1 w' hS; have q1 := F2 w' hS; clear hS; go_simp; try rfl; done)
              simp only [Act.put, List.setIfInBounds_toArray, List.set_cons_zero, List.set_cons_succ]
              refine wpTame_run (v := ?_) (by decide) rfl (fun w' hS => ?_) ?_
              rotate_left
              focus (have q0 := F1 w' hS; have q1 := F2 w' hS; clear hS; go_simp; try rfl; done)
              simp only [Act.put, List.setIfInBounds_toArray, List.set_cons_zero, List.set_cons_succ]
              refine wpTame_run (v := ?_) (by decide) rfl (fun w' hS => ?_) ?_
              rotate_left
              focus (have q0 := F1 w' hS; have q1 := F2 w' hS; clear hS; go_simp; try rfl; done)
              simp only [Act.put, List.setIfInBounds_toArray, List.set_cons_zero, List.set_cons_succ]
              refine wpTame_run (v := ?_) (by decide) rfl (fun w' hS => ?_) ?_
              rotate_left
              focus (have q0 := F1 w' hS; have q1 := F2 w' hS; clear hS; go_simp; try rfl; done)
              simp only [Act.put, List.setIfInBounds_toArray, List.set_cons_zero, List.set_cons_succ]
              refine wpTame_run (v := ?_) (by decide) rfl (fun w' hS => ?_) ?_
              rotate_left
              focus (have q0 := F1 w' hS; have q1 := F2 w' hS; clear hS; go_simp; try rfl; done)
              simp only [Act.put, List.setIfInBounds_toArray, List.set_cons_zero, List.set_cons_succ]
              refine wpTame_run (v := ?_) (by decide) rfl (fun w' hS => ?_) ?_
              rotate_left
              focus (have q0 := F1 w' hS; have q1 := F2 w' hS; clear hS; go_simp; try rfl; done)
              simp only [Act.put, List.setIfInBounds_toArray, List.set_cons_zero, List.set_cons_succ]
              refine wpTame_run (v := ?_) (by decide) rfl (fun w' hS => ?_) ?_
              rotate_left
              focus (have q0 := F1 w' hS; have q1 := F2 w' hS; clear hS; go_simp; try rfl; done)
              simp only [Act.put, List.setIfInBounds_toArray, List.set_cons_zero, List.set_cons_succ]
              refine wpTame_run (v := ?_) (by decide) rfl (fun w' hS => ?_) ?_
              rotate_left
              focus (have q0 := F1 w' hS; have q1 := F2 w' hS; clear hS; go_simp; try rfl; done)
              simp only [Act.put, List.setIfInBounds_toArray, List.set_cons_zero, List.set_cons_succ]
              refine wpTame_nil ?_
              intro w6' hw'
              rw [← hw'] at c1 f1 HS
              clear hw' F1 F2
              go_wp2
              go_roundw
              case rel =>
                refine ⟨kk + 1, by have := HKL.out; omega, by go_num, ?_⟩
                rw [HXO.out]
                exact HS
              case measure => simp [intOf]; have := HKL.out; omega
            · obtain rfl : kk = sz := by omega
              have HJN : Hid (JInv g W0 key salt I (cc + 1) (.slice a6 kk c6) (.slice (some ⟨pt, 0, none⟩) kk tcap) V0) := by
                have h := HK.out
                rw [show xorI T U kk = pbT g key salt I (cc + 1) from by rw [← HTL.out, xorI_end, pbT, HTT.out, HUU.out]] at h
                have fp : ∀ x, fpv (.slice (some ⟨pt, 0, none⟩) kk tcap) x → pt = x := fun x hx => by simpa [fpv, Value.ownBlock] using hx
                exact Lib.hid ⟨h.2.2, by rw [HUU.out]; exact h.2.1, fun x hx hh => HUN.out x hx (fp x hh).symm, h.1, fun x hx => by have h1 := fp x hx; have h2 := HKK.out; omega⟩
              clear HK
              go_wp2
              go_roundw
              case rel => exact ⟨cc + 1, a6, c6, by have := HLC.out; omega, rfl, by go_num, HJN⟩
              case measure => simp [intOf]; have := HLC.out; omega
        · obtain rfl : cc = C := by omega
          have hownw : wr.ownsRow 0 5 1 (.slice wa m wcap) m ((pbAll g key salt cc j).map B) := by
            have h := HE.out.want.keep (Only.nothing HJ.out.below) (fun _ _ h => h)
            unfold OB at h
            rw [HLEN.out] at h
            exact h
          have hy5 : Sl wr 1 (.slice (some ⟨pt, 0, none⟩) sz tcap) sz ((pbT g key salt I cc).map B) := by
            have h := Sl.of_bytes HJ.out.t.rd
            rw [pbT_len, HSZ.out] at h
            exact h
          obtain ⟨hi, hz0, hz1, hz2⟩ := HI8.out
          have hbd1 : m + sz ≤ maxLen := by unfold maxLen; omega
          have hbd2 : (m + sz) * 1 ≤ 140737488355328 := by omega
          clear hlc hcc hC
          go_wp2_with (at_builtin; refine wpList_append_sl _ rfl _ _ 22 rfl 5 i0 _ 1 1 Try.underlying22 hi hz0 hz1 hz2 rfl (by decide) (.slice wa m wcap) m ((pbAll g key salt cc j).map B) rfl hownw (.slice (some ⟨pt, 0, none⟩) sz tcap) sz ((pbT g key salt I cc).map B) rfl hy5 hbd1 hbd2 ?_)
          intro v' w6 hown6 hgrow hat hnn
          have HN : Hid (IInv g w key salt cc (j + 1) v' w6) := by
            have ho : Only (fpv (.slice wa m wcap)) wr w6 := (Only.refl _ wr).grown hgrow (fun k hk => .inl hk)
            have h5 := HJ.out.below.size
            have hbb := HE.out.below
            refine Lib.hid ⟨(hbb.trans (HJ.out.below.mono hbb.size)).trans (ho.below0 (fun x hx h => by have := HE.out.wn x h; omega) (by have := hbb.size; omega)), ?_, fun x hx => ?_⟩
            · unfold OB
              rw [pbAll, List.length_append, HLEN.out, pbT_len, HSZ.out, List.map_append, HII.out]
              exact hown6
            · have hx' : v'.ownBlock = some x := hx
              rcases hat with hat | hat
              · rw [hat] at hx'; exact HE.out.wn x hx'
              · rw [hat] at hx'; injection hx' with hx'; have := hbb.size; omega
          have HL2 : Hid ((pbAll g key salt cc (j + 1)).length = m + sz) := Lib.hid (by rw [pbAll, List.length_append, HLEN.out, pbT_len, HSZ.out])
          clear hown6 hgrow hat hnn hownw hy5 hi hz0 hz1 hz2 hbd1 hbd2
          obtain ⟨wa', wcap', rfl⟩ := HN.out.want.any
          rw [HL2.out] at HN ⊢
          go_wp2
          go_roundw
          case rel => exact ⟨j + 1, by go_num, HN⟩
          case measure => have := HLT.out; show n + 100 - (m + sz) < n + 100 - m; omega
    · have hmn : n ≤ m := by omega
      obtain ⟨ga, gcap, hga⟩ := OB.form (v := .slice wa m wcap) HE.out.want (by rw [HLEN.out]; omega)
      injection hga with r1 r2 r3
      subst r1
      have hcap : m ≤ wcap := by
        obtain ⟨_, _, hv, h1, _⟩ := HE.out.want.rd.form
        injection hv with _ _ h3
        rw [HLEN.out] at h1
        omega
      have hnc : n ≤ wcap := by omega
      have HX : Hid (Bs W0 (.slice (some ⟨ga, 0, none⟩) n wcap) ((pbAll g key salt C j).take n)) := Lib.hid (HE.out.want.rd.headB n (by rw [HLEN.out]; exact hmn))
      have HMN := Lib.hid hmn
      have HB := Lib.hid HE.out.below
      clear r2 r3 hmn hcap
      go_wp2_with fail
      refine (twin_any uk key W0 (HUK.out.grow HB.out) (by have := HLN.out; omega)).mono ?_
      rintro e w1 ⟨v1, rfl, q1, q2, q3⟩
      have HV1 := Lib.hid q1.rd
      have HB1 := Lib.hid q2
      clear q1 q2 q3
      go_wp2_with fail
      refine (twin_any us salt w1 ((HUS.out.grow HB.out).grow HB1.out) (by have := HLN.out; omega)).mono ?_
      rintro e w2 ⟨v2, rfl, q1, q2, q3⟩
      have HK := Lib.hid (pkey_any g w2 v1 v2 key salt (HV1.out.grow q2) q1.rd (by have := HLN.out; omega) (by have := HLN.out; omega) C (by omega) n hn0 (by omega))
      rw [HA'.out] at HK
      have HB2 := Lib.hid q2
      clear q1 q2 q3
      go_wp2_with fail
      refine HK.out.mono ?_
      rintro e w4 ⟨v4, J, rfl, r1, r2, r4⟩
      have e1 : (pbAll g key salt C J).take n = (pbAll g key salt C j).take n := pb_take g key salt C n J j r1 (by rw [HLEN.out]; exact HMN.out)
      rw [e1] at r2
      obtain ⟨X, hXX⟩ : ∃ X, (pbAll g key salt C j).take n = X := ⟨_, rfl⟩
      have HX4 : Hid (Bs w4 (.slice (some ⟨ga, 0, none⟩) n wcap) X) := Lib.hid (by rw [← hXX]; exact ((HX.out.grow HB1.out).grow HB2.out).grow r4)
      rw [hXX] at r2
      have HR := Lib.hid r2
      have HBF : Hid (Below w.heap.size w w4) := Lib.hid (((HB.out.trans (HB1.out.mono HB.out.size)).trans (HB2.out.mono (Nat.le_trans HB.out.size HB1.out.size))).trans (r4.mono (Nat.le_trans (Nat.le_trans HB.out.size HB1.out.size) HB2.out.size)))
      clear r1 r2 r4 e1 hXX HK HB HB1 HB2 HV1 HX HE HUK HUS
      go_upto_region 21 with fail
      obtain ⟨S, hS⟩ : ∃ S : World → Prop, S = fun wx => Bs wx v4 X ∧ Bs wx (.slice (some ⟨ga, 0, none⟩) n wcap) X := ⟨_, rfl⟩
      have F1 : ∀ wx, S wx → (convert 22 9 v4).run Try.prog wx = .ok (.string (bst X)) wx := fun wx h => by rw [hS] at h; exact bconv h.1
      have F2 : ∀ wx, S wx → (convert 22 9 (.slice (some ⟨ga, 0, none⟩) n wcap)).run Try.prog wx = .ok (.string (bst X)) wx := fun wx h => by rw [hS] at h; exact bconv h.2
      have SF : Hid (∀ wx, Bs wx v4 X → Bs wx (.slice (some ⟨ga, 0, none⟩) n wcap) X → S wx) := Lib.hid (fun wx h1 h2 => by rw [hS]; exact ⟨h1, h2⟩)
      have c3 : ((bst X).toList == (bst X).toList) = true := by rw [bst_eq]; simp
      clear hS
      refine hd_start S (by kernel_rfl) ?_
      intro w5 hw'
      have HD : Below w4.heap.size w4 w5 := by rw [hw']; exact ⟨rfl, rfl, rfl, Nat.le_refl _, fun _ _ => rfl⟩
      have HS5 : S w5 := SF.out w5 (HR.out.grow HD) (HX4.out.grow HD)
      have HBG : Hid (Below w.heap.size w w5) := Lib.hid (HBF.out.trans (HD.mono HBF.out.size))
      clear hw' HD
      refine hd_take (v := ?_) 0 rfl (by kernel_rfl) (fun _ _ d _ _ h => (by cases d <;> exact h)) (by kernel_rfl) HS5 (fun w' hS => ?_) ?_
      rotate_left
      focus (have q0 := F1 w' hS; have q1 := F2 w' hS; clear hS; go_simp; try rfl; done)
      simp only [List.getElem_toArray, List.getElem_cons_succ, List.getElem_cons_zero, Act.put, List.setIfInBounds_toArray, List.set_cons_zero, List.set_cons_succ]
      refine hd_take (v := ?_) 1 rfl (by kernel_rfl) (fun _ _ d _ _ h => (by cases d <;> exact h)) (by kernel_rfl) HS5 (fun w' hS => ?_) ?_
      rotate_left
      focus (have q0 := F1 w' hS; have q1 := F2 w' hS; clear hS; go_simp; try rfl; done)
      simp only [List.getElem_toArray, List.getElem_cons_succ, List.getElem_cons_zero, Act.put, List.setIfInBounds_toArray, List.set_cons_zero, List.set_cons_succ]
      refine hd_take (v := ?_) 2 rfl (by kernel_rfl) (fun _ _ d _ _ h => (by cases d <;> exact h)) (by kernel_rfl) HS5 (fun w' hS => ?_) ?_
      rotate_left
      focus (have q0 := F1 w' hS; have q1 := F2 w' hS; clear hS; go_simp; try rfl; done)
      simp only [List.getElem_toArray, List.getElem_cons_succ, List.getElem_cons_zero, Act.put, List.setIfInBounds_toArray, List.set_cons_zero, List.set_cons_succ]
      refine hd_take (v := ?_) 3 rfl (by kernel_rfl) (fun _ _ d _ _ h => (by cases d <;> exact h)) (by kernel_rfl) HS5 (fun w' hS => ?_) ?_
      rotate_left
      focus (have q0 := F1 w' hS; have q1 := F2 w' hS; clear hS; go_simp; try rfl; done)
      simp only [List.getElem_toArray, List.getElem_cons_succ, List.getElem_cons_zero, Act.put, List.setIfInBounds_toArray, List.set_cons_zero, List.set_cons_succ]
      refine hd_take (v := ?_) 4 rfl (by kernel_rfl) (fun _ _ d _ _ h => (by cases d <;> exact h)) (by kernel_rfl) HS5 (fun w' hS => ?_) ?_
      rotate_left
      focus (have q0 := F1 w' hS; have q1 := F2 w' hS; clear hS; go_simp; try rfl; done)
      simp only [List.getElem_toArray, List.getElem_cons_succ, List.getElem_cons_zero, Act.put, List.setIfInBounds_toArray, List.set_cons_zero, List.set_cons_succ]
      refine hd_take (v := ?_) 5 rfl (by kernel_rfl) (fun _ _ d _ _ h => (by cases d <;> exact h)) (by kernel_rfl) HS5 (fun w' hS => ?_) ?_
      rotate_left
      focus (have q0 := F1 w' hS; have q1 := F2 w' hS; clear hS; go_simp; try rfl; done)
      simp only [List.getElem_toArray, List.getElem_cons_succ, List.getElem_cons_zero, Act.put, List.setIfInBounds_toArray, List.set_cons_zero, List.set_cons_succ]
      refine hd_take (v := ?_) 6 rfl (by kernel_rfl) (fun _ _ d _ _ h => (by cases d <;> exact h)) (by kernel_rfl) HS5 (fun w' hS => ?_) ?_
      rotate_left
      focus (have q0 := F1 w' hS; have q1 := F2 w' hS; clear hS; go_simp; try rfl; done)
      simp only [List.getElem_toArray, List.getElem_cons_succ, List.getElem_cons_zero, Act.put, List.setIfInBounds_toArray, List.set_cons_zero, List.set_cons_succ]
      refine hd_take (v := ?_) 7 rfl (by kernel_rfl) (fun _ _ d _ _ h => (by cases d <;> exact h)) (by kernel_rfl) HS5 (fun w' hS => ?_) ?_
      rotate_left
      focus (have q0 := F1 w' hS; have q1 := F2 w' hS; clear hS; go_simp; try rfl; done)
      simp only [List.getElem_toArray, List.getElem_cons_succ, List.getElem_cons_zero, Act.put, List.setIfInBounds_toArray, List.set_cons_zero, List.set_cons_succ]
      refine hd_take (v := ?_) 8 rfl (by kernel_rfl) (fun _ _ d _ _ h => (by cases d <;> exact h)) (by kernel_rfl) HS5 (fun w' hS => ?_) ?_
      rotate_left
      focus (have q0 := F1 w' hS; have q1 := F2 w' hS; clear hS; go_simp; try rfl; done)
      simp only [List.getElem_toArray, List.getElem_cons_succ, List.getElem_cons_zero, Act.put, List.setIfInBounds_toArray, List.set_cons_zero, List.set_cons_succ]
      refine hd_take (v := ?_) 9 rfl (by kernel_rfl) (fun _ _ d _ _ h => (by cases d <;> exact h)) (by kernel_rfl) HS5 (fun w' hS => ?_) ?_
      rotate_left
      focus (have q0 := F1 w' hS; have q1 := F2 w' hS; clear hS; go_simp; try rfl; done)
      simp only [List.getElem_toArray, List.getElem_cons_succ, List.getElem_cons_zero, Act.put, List.setIfInBounds_toArray, List.set_cons_zero, List.set_cons_succ]
      refine hd_take (v := ?_) 10 rfl (by kernel_rfl) (fun _ _ d _ _ h => (by cases d <;> exact h)) (by kernel_rfl) HS5 (fun w' hS => ?_) ?_
      rotate_left
      focus (have q0 := F1 w' hS; have q1 := F2 w' hS; clear hS; go_simp; try rfl; done)
      simp only [List.getElem_toArray, List.getElem_cons_succ, List.getElem_cons_zero, Act.put, List.setIfInBounds_toArray, List.set_cons_zero, List.set_cons_succ]
      refine hd_take (v := ?_) 11 rfl (by kernel_rfl) (fun _ _ d _ _ h => (by cases d <;> exact h)) (by kernel_rfl) HS5 (fun w' hS => ?_) ?_
      rotate_left
      focus (have q0 := F1 w' hS; have q1 := F2 w' hS; clear hS; go_simp; try rfl; done)
      simp only [List.getElem_toArray, List.getElem_cons_succ, List.getElem_cons_zero, Act.put, List.setIfInBounds_toArray, List.set_cons_zero, List.set_cons_succ]
      refine hd_done (by kernel_rfl) ?_
      clear F1 F2 c3 HS5
      go_wp2
      go_ret
      exact ⟨rfl, HBG.out⟩
end Go.Proofs.Ytideobdggdmeiaa
