/- HMAC: keyed, New, Write, Sum, Reset, Tag; no ledger. -/
import Derived.Test.YtideobdggdmeiaaDig
namespace Go.Proofs.Ytideobdggdmeiaa
open Go.RowKit
set_option maxRecDepth 100000
set_option linter.unusedVariables false
set_option linter.unusedSimpArgs false
theorem xorUU (x y : UInt8) : bits .xor .u8 (x.toNat : Int) (y.toNat : Int) = ((x ^^^ y).toNat : Int) := by
  rw [u8_xor_nat _ _ x.toNat_lt y.toNat_lt, UInt8.toNat_xor]
/-- the padded key, i bytes of it xored -/
def mixK (n : Nat) (k : List UInt8) (x : UInt8) (i : Nat) : List UInt8 := tab n fun j => if j < i then k.getD j 0 ^^^ x else k.getD j 0
theorem mixK_len (n : Nat) (k : List UInt8) (x : UInt8) (i : Nat) : (mixK n k x i).length = n := tab_length _ _
theorem mixK_zero (n : Nat) (k : List UInt8) (x : UInt8) (h : k.length ≤ n) : mixK n k x 0 = k ++ List.replicate (n - k.length) 0 := by
  apply List.ext_getElem
  · rw [mixK_len]; simp; omega
  · intro j h1 h2
    simp only [mixK, tab, List.getElem_map, List.getElem_range, Nat.not_lt_zero, if_false, List.getD_eq_getElem?_getD]
    by_cases hj : j < k.length
    · rw [List.getElem?_eq_getElem hj, List.getElem_append_left hj]; rfl
    · rw [List.getElem?_eq_none (by omega), List.getElem_append_right (by omega)]; simp
theorem mixK_end (g : Bool) (k : List UInt8) (x : UInt8) : mixK (bkN g) k x (bkN g) = (HA g).padK k x := by
  unfold mixK tab HashF.padK
  rw [HA_B]
  apply List.map_congr_left
  intro j hj
  rw [if_pos (List.mem_range.1 hj)]
theorem mixK_get (n : Nat) (k : List UInt8) (x : UInt8) (i : Nat) (h : i < n) : (mixK n k x i).getD i 0 = k.getD i 0 := by
  unfold mixK
  rw [tab_getD _ _ _ h, if_neg (by omega)]
theorem mixK_succ (n : Nat) (k : List UInt8) (x : UInt8) (i : Nat) : (mixK n k x i).set i (k.getD i 0 ^^^ x) = mixK n k x (i + 1) := by
  unfold mixK
  rw [tab_set]
  apply tab_ext
  intro j _
  by_cases h : j = i
  · subst h; simp
  · rw [if_neg h]
    by_cases h2 : j < i
    · rw [if_pos h2, if_pos (by omega)]
    · rw [if_neg h2, if_neg (by omega)]
theorem bkN_le (g : Bool) : bkN g ≤ 128 := by cases g <;> decide
structure KInv (g : Bool) (n : Nat) (w : World) (hb p : Nat) (k : List UInt8) (x : UInt8) (i : Nat) (wr : World) : Prop where
  below : Below w.heap.size w wr
  pad : OB wr (.slice (some ⟨p, 0, none⟩) n n) (mixK n k x i)
  hash : Blk wr hb 51 (hashV g)
set_option maxHeartbeats 4000000 in
theorem keyed_any (g : Bool) (w : World) (u : Value) (k : List UInt8) (x : UInt8) (hu : Bs w u k) (hk : k.length ≤ bkN g) :
    Calls Try.prog 21 #[.pointer none, .agg (hashV g), u, .int .u8 (x.toNat : Int)] w (NewSt g ((HA g).feed (HA g).init ((HA g).padK k x)) w) := by
  obtain ⟨ao, cap, rfl, hcap⟩ := hu.form
  have HU := Lib.hid hu
  obtain ⟨i0, hi, hz0, hz1, hz2⟩ := info_parts info8
  have HI := Lib.hid (And.intro hi (And.intro hz0 (And.intro hz1 hz2)))
  have HK := Lib.hid hk
  have HBK := Lib.hid (bkN_le g)
  clear hu hi hz0 hz1 hz2 hcap hk
  go_enter Try.func21, Try.ntmps21
  go_upto_region 1 with fail
  obtain ⟨hb, hhb⟩ : ∃ h, w.heap.size = h := ⟨_, rfl⟩
  have HHB : Hid (w.heap.size = hb) := hhb
  rw [hhb]
  have HB1 : Hid (Below w.heap.size w (w.alloc (.cells (hashV g) 51))) := Lib.hid ((Below.refl _ w).alloc (Nat.le_refl _) _)
  have HH1 : Hid (Blk (w.alloc (.cells (hashV g) 51)) hb 51 (hashV g)) := Lib.hid (Blk.at hhb.symm rfl)
  have HU1 : Hid (Bs (w.alloc (.cells (hashV g) 51)) (.slice ao k.length cap) k) := Lib.hid (HU.out.grow HB1.out)
  obtain ⟨w1, hw1⟩ : ∃ y, w.alloc (.cells (hashV g) 51) = y := ⟨_, rfl⟩
  rw [hw1] at HB1 HH1 HU1 ⊢
  clear hw1 hhb
  have c2 : w1.cell? ⟨hb, 2, none⟩ = some (.int .i64 (bkN g : Int)) := HH1.out.cellAt 2 rfl
  obtain ⟨hi, hz0, hz1, hz2⟩ := HI.out
  obtain ⟨n, hn⟩ : ∃ n, bkN g = n := ⟨_, rfl⟩
  have HN : Hid (bkN g = n) := hn
  have hn128 : n ≤ 128 := by rw [← hn]; exact HBK.out
  rw [hn] at c2
  clear hn
  go_upto_region 2 with (refine wpList_make_full _ rfl _ _ 22 rfl 0 5 i0 _ 1 Try.underlying22 hi hz0 hz1 .i64 .i64 _ _ n rfl rfl rfl rfl (mk48 (by omega) hz2) (mkmax (by omega)) (Nat.zero_le _) ?_)
  intro w2 hown hgrow
  have HO2 := Lib.hid (made_bsW hown)
  have HG2 := Lib.hid ((Below.refl w1.heap.size w1).grown hgrow (Nat.le_refl _) (fun k hk => by cases hk))
  clear hown hgrow c2 hi hz0 hz1 hz2
  go_upto_region 2 with fail
  obtain ⟨p, hp⟩ : ∃ p, w1.heap.size = p := ⟨_, rfl⟩
  have HP : Hid (w1.heap.size = p) := hp
  rw [hp] at HO2 ⊢
  clear hp
  have HO2b : Hid (Blk w2 p 5 (barr (List.replicate n 0))) := by
    have h := HO2.out
    have h2 : OT 5 w2 (.slice (some ⟨p, 0, none⟩) (List.replicate n (0 : UInt8)).length (List.replicate n (0 : UInt8)).length) (List.replicate n 0) := by
      rw [List.length_replicate]; exact h
    exact Lib.hid (Blk.of_owns h2)
  have HU2 : Hid (Bs w2 (.slice ao k.length cap) k) := Lib.hid (HU1.out.grow HG2.out)
  have HKN : Hid (k.length ≤ n) := by rw [← HN.out]; exact HK
  obtain ⟨C, hC⟩ : ∃ C, C = k.map B := ⟨_, rfl⟩
  have hCl : C.length = k.length := by rw [hC]; simp
  have hpos : 0 < C.length → (some (⟨p, 0, none⟩ : Addr)) = some ⟨p, 0, none⟩ ∧ ∃ ad, ao = some ad ∧ ∀ j v, C[j]? = some v → w2.cell? (ad.add j) = some v := by
    intro h0
    obtain ⟨ao2, cap2, hv2, q1, q2, q3, q4⟩ := HU2.out.form
    injection hv2 with r1 r2 r3
    subst r1 r3
    obtain ⟨sb, so, rfl, _⟩ := q4 0 (by omega)
    refine ⟨rfl, ⟨sb, so, none⟩, rfl, ?_⟩
    intro j v hv
    have hjl : j < k.length := by have := (List.getElem?_eq_some_iff.1 hv).1; omega
    obtain ⟨b2, o2, hb2, hc2⟩ := q4 j hjl
    injection hb2 with hb2
    injection hb2 with t1 t2 _
    subst t1 t2
    rw [add_lit]
    refine (show w2.cell? ⟨sb, so + j, none⟩ = _ from hc2).trans ?_
    rw [← hv, hC, List.getElem?_map, List.getD_eq_getElem?_getD, List.getElem?_eq_getElem hjl]
    rfl
  have HPOS := Lib.hid hpos
  have HCL := Lib.hid hCl
  have HC := Lib.hid hC
  have HONE : Hid (∀ v ∈ C, v.oneCell' = true) := by rw [hC]; exact Lib.hid (bytes_one k)
  clear hpos hCl hC
  go_upto_region 3 with ((with_reducible change wpList _ _ _ (Oper.mk _ (Op.call { callee := .builtin .copy, args := _, argTypes := _ }) _ _ _ _ :: _) _ _); refine wpList_copy_only rfl _ _ _ _ rfl 5 Try.underlying22 (by kernel_rfl) _ _ _ _ _ _ rfl rfl p 0 ((List.replicate n 0).map B) 5 HO2b.out C (by rw [HCL.out]; exact (Nat.min_eq_left HKN.out).symm) (fun hp => HPOS.out hp) (by rw [HCL.out]; simp; exact HKN.out) HONE.out ?_; intro w3 h3 o3; have H3 := Lib.hid h3.out; have O3 := Lib.hid o3; clear h3 o3)
  have HI3 : Hid (KInv g n w hb p k x 0 w3) := by
    refine Lib.hid ⟨?_, ?_, ?_⟩
    · have h1 : Below w.heap.size w w2 := HB1.out.trans (HG2.out.mono HB1.out.size)
      exact h1.trans (O3.out.below0 (fun y hy => by have := HB1.out.size; have := HP.out; omega) h1.size)
    · have e : (splice ((List.replicate n (0 : UInt8)).map B) 0 C).toArray = barr (mixK n k x 0) := by
        rw [mixK_zero n k x HKN.out]
        unfold splice barr
        rw [HC.out]
        simp
      have h := H3.out
      rw [e] at h
      have h2 := Blk.owns (g := p) (t := 5) (l := mixK n k x 0) h (by rw [mixK_len]; omega)
      rw [mixK_len] at h2
      exact h2
    · exact (HH1.out.below HG2.out HH1.out.lt).only O3.out (by have := HH1.out.lt; have := HP.out; omega)
  have HPG : Hid (hb < p) := Lib.hid (by have := HH1.out.lt; have := HP.out; omega)
  clear HO2 HO2b HU1 HU2 H3 O3 HPOS HONE HCL HC HB1 HG2 HU HI HBK
  rw [show (C.length : Int) = (C.length : Int) from rfl]
  go_wp2_with fail
  go_loopw [20] (fun vi wr => ∃ i : Nat, i ≤ n ∧ vi = .int .i64 (i : Int) ∧ Hid (KInv g n w hb p k x i wr)) (fun vi _ => n - (intOf vi).toNat)
  case atStart => exact ⟨0, Nat.zero_le _, rfl, HI3⟩
  case round =>
    clear HI3
    obtain ⟨i, hi, rfl, HI⟩ := hrel
    by_cases hlt : i < n
    · have hO : OB wr (.slice (some ⟨p, 0, none⟩) (mixK n k x i).length n) (mixK n k x i) := by rw [mixK_len]; exact HI.out.pad
      have c1 : wr.cell? ⟨p, i, none⟩ = some (.int .u8 ((k.getD i 0).toNat : Int)) := by
        rw [World.ownsRow.cellAt hO i (by rw [mixK_len]; omega), List.getElem?_map, List.getElem?_eq_getElem (by rw [mixK_len]; exact hlt)]
        have h := mixK_get n k x i hlt
        rw [List.getD_eq_getElem?_getD, List.getElem?_eq_getElem (by rw [mixK_len]; exact hlt)] at h
        rw [← h]
        rfl
      have f1 := World.ownsRow.frozenAt hO i
      have HX : Hid (bits .xor .u8 ((k.getD i 0).toNat : Int) (x.toNat : Int) = ((k.getD i 0 ^^^ x).toNat : Int)) := Lib.hid (xorUU _ _)
      have HS : Hid (KInv g n w hb p k x (i + 1) (wr.setCell ⟨p, i, none⟩ (.int .u8 ((k.getD i 0 ^^^ x).toNat : Int)))) := by
        have h := hO.set i (k.getD i 0 ^^^ x)
        rw [mixK_succ, mixK_len] at h
        refine Lib.hid ⟨Below.setCell HI.out.below (by have := HHB.out; have := HPG.out; show w.heap.size ≤ p; omega) _, h, HI.out.hash.set_ne (by have := HPG.out; show hb ≠ p; omega) _⟩
      have u0 := u8_hi x
      generalize hz : k.getD i 0 = z at c1 HX HS
      have u1 := u8_hi z
      clear hO hz HI
      go_wp2
      go_roundw
      case rel => exact ⟨i + 1, by omega, by go_num, by rw [HX.out]; exact HS⟩
      case measure => simp [intOf]; omega
    · obtain rfl : i = n := by omega
      have c5 : wr.cell? ⟨hb, 5, none⟩ = some (.func (.func (fNew g)) #[] #[]) := HI.out.hash.cellAt 5 rfl
      have hcall := callN g
      go_wp2_with fail
      refine (stN g wr).mono ?_
      rintro e w4 ⟨b, rfl, q1, q2, q3⟩
      have hb4 : Bs w4 (.slice (some ⟨p, 0, none⟩) i i) (mixK i k x i) := HI.out.pad.rd.grow q3
      have hpad : mixK i k x i = (HA g).padK k x := by rw [← HN.out]; exact mixK_end g k x
      rw [hpad] at hb4
      have hne : (HA g).padK k x ≠ [] → ∀ y, (Value.slice (some ⟨p, 0, none⟩) i i).ownBlock = some y → y ≠ b := fun _ y hy => by
        have h1 := HI.out.pad.lt p rfl
        have h2 : p = y := by simpa [Value.ownBlock] using hy
        omega
      have HW := Lib.hid (stW g b _ w4 _ _ q2 hb4 hne (by show 0 + _ ≤ _; rw [← hpad, mixK_len]; omega))
      have HB4 : Hid (Below w.heap.size w w4) := Lib.hid (HI.out.below.trans (q3.mono HI.out.below.size))
      have HQ1 : Hid (w.heap.size ≤ b) := Lib.hid (Nat.le_trans HI.out.below.size q1)
      have hm := methW g b
      simp [Made.depth] at hm
      have hcW := callW g
      clear q1 q2 q3 hb4 hpad hne c5 hcall
      go_wp2_with fail
      refine HW.out.mono ?_
      rintro e w5 ⟨rfl, r1, r2⟩
      have HN : Hid (NewSt g ((HA g).feed (HA g).init ((HA g).padK k x)) w (.returned (.iface (tyD g) (.agg #[.pointer (some ⟨b, 0, none⟩)]))) w5) := Lib.hid ⟨b, rfl, HQ1.out, r1, HB4.out.trans (r2.below0 (fun y hy => by have := HQ1.out; omega) HB4.out.size)⟩
      clear r1 r2 hm hcW
      go_wp2_with fail
      go_ret
      exact HN.out
end Go.Proofs.Ytideobdggdmeiaa
