/- SHA-512: Sum, the digest of bytes, Clone. -/
import Derived.Test.YtideobdggdmeiaaSha6St
import Derived.Test.YtideobdggdmeiaaSha5Sm
namespace Go.Proofs.Ytideobdggdmeiaa
open Go.RowKit
set_option maxRecDepth 100000
set_option linter.unusedVariables false
set_option linter.unusedSimpArgs false
def zC6 : Array Value := (Value.bool false :: (List.replicate 8 (Value.int .u64 0) ++ (Value.int .u64 0 :: List.replicate 128 (Value.int .u8 0)))).toArray
theorem zero6St (w : World) : (zeroValue 87).run Try.prog w = .ok (.agg zC6) w := by kernel_rfl
theorem size6St : (Try.prog.info? 87).map (·.size) = some 138 := by kernel_rfl
theorem zC6_size : zC6.size = 138 := rfl
theorem run_index68 (L : List Int) (k : Nat) (hl : k < L.length) (hn : k < 8) (w : World) :
    (Instr.index 83 (.agg (wc64 L)) (.int .i64 (k : Int))).run Try.prog w = .ok (.int .u64 (L.getD k 0)) w := by
  have hk : Try.prog.plainKey 82 = true := by kernel_rfl
  have hs : (Try.prog.info? 82).map (·.size) = some 1 := by kernel_rfl
  have h1 := run_part_plain w hk (wc64_get L k hl)
  cases hq : Try.prog.info? 82 with
  | none => simp [hq] at hs
  | some i =>
    have hi : i.size = 1 := by simpa [hq] using hs
    have hc : (0 : Int) ≤ (k : Int) ∧ (k : Int) < ((8 : Nat) : Int) := by omega
    simp only [Instr.index, asIntOf, Sem.run_bind, Sem.run_pure, Result.andThen_ok, run_underlying Try.underlying83]
    rw [if_pos hc]
    simp only [Sem.run_bind, sizeOf, typeInfo, hq, hi, Sem.run_pure, Result.andThen_ok, Int.toNat_natCast, Nat.mul_one]
    simpa [hq, hi] using h1
def WLoop6 (L : List UInt8) (w w0 : World) (v : Value) (w1 : World) : Prop := OB w1 v L ∧ Below w.heap.size w0 w1 ∧ ∀ x, fpv v x → w.heap.size ≤ x
set_option maxHeartbeats 8000000 in
theorem sum6_any (b : Nat) (s : HSt) (w : World) (h : Blk w b 87 (sC6 s)) (hs : Ok6 s) (hn : s.n ≤ 1152921504606846976) :
    Calls Try.prog 40 #[.pointer (some ⟨b, 0, none⟩), .pointer none] w (NewBytesE (A6.sumOf s) w) := by
  have H1 := Lib.hid (is6_any b s w h)
  have HS := Lib.hid h
  have HOK := Lib.hid hs
  have hlt := h.lt
  have hz := zero6St
  obtain ⟨i0, hi, hz0, hz1, hz2⟩ := info_parts info8
  have HI := Lib.hid (And.intro hi (And.intro hz0 (And.intro hz1 hz2)))
  clear h hs hi hz0 hz1 hz2
  go_enter Try.func40, Try.ntmps40
  go_wp2_with fail
  refine H1.out.mono ?_
  rintro e w1 ⟨rfl, rfl⟩
  go_upto_region 4 with (first
    | (with_reducible change wpList _ _ _ (Oper.mk _ (Op.load 87 _) _ _ _ _ :: _) _ _; refine wpList_load_blk b rfl HS.out Try.underlying87 rfl size6St (sC6_size HOK.out) ?_)
    | (with_reducible change wpList _ _ _ (Oper.mk _ (Op.store 87 _ _) _ _ _ _ :: _) _ _; refine wpList_store_blk w.heap.size (sC6 s) rfl rfl (Blk.new w 87 zC6) size6St (sC6_size HOK.out) zC6_size (sC6_one s) ?_))
  obtain ⟨g, hg⟩ : ∃ g, w.heap.size = g := ⟨_, rfl⟩
  have HG : Hid (w.heap.size = g) := hg
  rw [hg] at hlt ⊢
  clear hg
  have HB1 : Hid (Below g w ((w.alloc (.cells zC6 87)).setRow g (sC6 s))) := Lib.hid (below_row ((Below.refl g w).alloc (by rw [HG.out]; exact Nat.le_refl _) _) (Nat.le_refl _) _)
  have HT1 : Hid (Blk ((w.alloc (.cells zC6 87)).setRow g (sC6 s)) g 87 (sC6 s)) := Lib.hid (Blk.row (Blk.at HG.out.symm rfl) _)
  obtain ⟨w1, hw1⟩ : ∃ y, (w.alloc (.cells zC6 87)).setRow g (sC6 s) = y := ⟨_, rfl⟩
  rw [hw1] at HB1 HT1 ⊢
  clear hw1 hz H1
  have c9 := (HS.out.below HB1.out hlt).cellAt 9 (sC6_n HOK.out)
  obtain ⟨m, hm⟩ : ∃ m, s.n = m := ⟨_, rfl⟩
  rw [hm] at c9 hn
  have HM := Lib.hid hm
  obtain ⟨r, hr⟩ : ∃ r, m % 128 = r := ⟨_, rfl⟩
  have r128 : r < 128 := by omega
  obtain ⟨q, hq⟩ : ∃ q, (239 - r) % 128 = q := ⟨_, rfl⟩
  have q128 : q < 128 := by omega
  have t0 : (m : Int).tmod 128 = (r : Int) := by rw [Int.tmod_eq_emod_of_nonneg (by omega)]; omega
  have t0' : (m : Int) % 128 = (r : Int) := by omega
  have t1 : IntKind.i64.wrap (r : Int) = (r : Int) := IntWalk.i64_in _ (by omega)
  have t2 : IntKind.i64.wrap (239 - (r : Int)) = 239 - (r : Int) := IntWalk.i64_in _ (by omega)
  have t3 : (239 - (r : Int)).tmod 128 = (q : Int) := by rw [Int.tmod_eq_emod_of_nonneg (by omega)]; omega
  have t4 : IntKind.i64.wrap (1 + (q : Int)) = 1 + (q : Int) := IntWalk.i64_in _ (by omega)
  have t5 : IntKind.i64.wrap (1 + (q : Int) + 8) = ((q + 9 : Nat) : Int) := by rw [IntWalk.i64_in _ (by omega)]; omega
  have HPQ : Hid (A6.pad m = (128 :: List.replicate (q + 8) 0) ++ layL 8 (8 * (m : Int))) := by
    refine Lib.hid ?_
    show (128 :: List.replicate ((239 - m % 128) % 128 + 8) 0) ++ layL 8 (8 * (m : Int)) = _
    rw [hr, hq]
  clear hr hq hm
  obtain ⟨hi, hz0, hz1, hz2⟩ := HI.out
  go_upto_region 5 with (refine wpList_make_full _ rfl _ _ 22 rfl 0 5 i0 _ 1 Try.underlying22 hi hz0 hz1 .i64 .i64 _ _ (q + 9) rfl rfl rfl rfl (mk48 (by omega) hz2) (mkmax (by omega)) (Nat.zero_le _) ?_)
  intro w3 hown hgrow
  obtain ⟨p0, hp0⟩ : ∃ p, w1.heap.size = p := ⟨_, rfl⟩
  have HP0 := Lib.hid hp0
  have hgp : g < p0 := by
    have h1 := HT1.out.lt
    omega
  rw [hp0] at hown ⊢
  have HO3 := Lib.hid (made_bsW hown)
  have HK3 := Lib.hid ((Only.refl (fun _ => False) w1).grown hgrow (fun k hk => by cases hk))
  clear hown hgrow hp0 hi hz0 hz1 hz2 c9 t0 t0' t1 t2 t3 t4 t5
  have hO3 : OB w3 (.slice (some ⟨p0, 0, none⟩) (List.replicate (q + 9) (0 : UInt8)).length (q + 9)) (List.replicate (q + 9) 0) := by rw [List.length_replicate]; exact HO3.out
  have c1 : w3.cell? ⟨p0, 0, none⟩ = some (.int .u8 0) := by
    rw [World.ownsRow.cellAt hO3 0 (by rw [List.length_replicate]; omega)]
    rfl
  have f1 := World.ownsRow.frozenAt hO3 0
  have HO4 : Hid (OB (w3.setCell ⟨p0, 0, none⟩ (.int .u8 128)) (.slice (some ⟨p0, 0, none⟩) (q + 9) (q + 9)) (128 :: List.replicate (q + 8) 0)) := by
    have h := hO3.set 0 128
    rw [List.length_replicate] at h
    exact Lib.hid h
  have HK4 : Hid (Only (fun _ => False) w1 (w3.setCell ⟨p0, 0, none⟩ (.int .u8 128))) := Lib.hid (HK3.out.set (.inr (by rw [HP0.out]; exact Nat.le_refl _)) _)
  clear HO3 HK3 hO3
  go_upto_region 6 with fail
  obtain ⟨w4, hw4⟩ : ∃ y, w3.setCell ⟨p0, 0, none⟩ (.int .u8 128) = y := ⟨_, rfl⟩
  rw [hw4] at HO4 HK4 ⊢
  clear hw4 c1 f1
  have hw1s : g ≤ w1.heap.size := by rw [← HG.out]; exact HB1.out.size
  have HB4 : Hid (Below g w w4) := Lib.hid (HB1.out.trans (HK4.out.below0 (fun _ _ h => h) hw1s))
  have HT4 : Hid (Blk w4 g 87 (sC6 s)) := Lib.hid (HT1.out.only HK4.out (fun h => h))
  have c9 := (HS.out.below HB4.out hlt).cellAt 9 (sC6_n HOK.out)
  rw [HM.out] at c9
  have t6 : IntKind.u64.wrap (8 * (m : Int)) = 8 * (m : Int) := by rw [wrapU64]; omega
  clear hw1s HB1 HT1
  go_wp2_with fail
  refine (lay64_any (8 * (m : Int)) w4).mono ?_
  rintro e w5 ⟨v7, rfl, hn7⟩
  have HN7 := Lib.hid hn7
  have hy7 := hn7.1.sl
  rw [layL_len] at hy7
  have HK5 : Hid (Only (fun _ => False) w4 w5) := Lib.hid (Only.nothing hn7.2.1)
  have hown5 : w5.ownsRow 0 5 1 (.slice (some ⟨p0, 0, none⟩) (q + 9) (q + 9)) (q + 9) ((128 :: List.replicate (q + 8) (0 : UInt8)).map B) := by
    have h := HO4.out.keep HK5.out (fun _ _ h => h)
    unfold OB at h
    rw [List.length_cons, List.length_replicate] at h
    exact h
  have HSZ : Hid (p0 < w5.heap.size) := by
    have h1 := HO4.out.lt p0 rfl
    have h2 := hn7.2.1.size
    exact Lib.hid (by omega)
  clear hn7 c9 t6
  obtain ⟨hi, hz0, hz1, hz2⟩ := HI.out
  go_upto_region 7 with (at_builtin; refine wpList_append_sl _ rfl _ _ 22 rfl 5 i0 _ 1 1 Try.underlying22 hi hz0 hz1 hz2 rfl (by decide) (.slice (some ⟨p0, 0, none⟩) (q + 9) (q + 9)) (q + 9) ((128 :: List.replicate (q + 8) (0 : UInt8)).map B) rfl hown5 v7 8 ((layL 8 (8 * (m : Int))).map B) rfl hy7 (by unfold maxLen; omega) (by omega) ?_; intro v8 w6 hown6 hgrow hat hnn; have HO6 : Hid (w6.ownsRow 0 5 1 v8 (q + 9 + 8) ((128 :: List.replicate (q + 8) (0 : UInt8)).map B ++ (layL 8 (8 * (m : Int))).map B)) := Lib.hid hown6; have HGR := Lib.hid hgrow; have HAT := Lib.hid hat; clear hown6 hgrow hat hnn)
  clear hown5 hy7 hi hz0 hz1 hz2
  have HO7 : Hid (OB w6 v8 (A6.pad m)) := by
    rw [HPQ.out]
    refine Lib.hid ?_
    unfold OB
    rw [List.length_append, List.length_cons, List.length_replicate, layL_len, List.map_append]
    exact HO6.out
  have HV8 : Hid (∀ x, v8.ownBlock = some x → p0 ≤ x) := by
    refine Lib.hid fun x hx => ?_
    rcases HAT.out with hat | hat
    · rw [hat] at hx; simp [Value.ownBlock] at hx; omega
    · rw [hat] at hx; simp at hx; have h1 := HSZ.out; omega
  have HK6 : Hid (Only (fun x => x = p0) w4 w6) := Lib.hid ((HK5.out.mono (S' := fun x => x = p0) (fun _ h => h.elim)).trans ((Only.refl (fun x => x = p0) w5).grown HGR.out (fun k hk => by simp [Value.ownBlock] at hk; exact .inl hk.symm)) (fun x hx => .inl hx))
  have HT6 : Hid (Blk w6 g 87 (sC6 s)) := Lib.hid (HT4.out.only HK6.out (by omega))
  have HB6 : Hid (Below g w w6) := Lib.hid (HB4.out.trans (HK6.out.below0 (fun x hx => by omega) (by rw [← HG.out]; exact HB4.out.size)))
  have HPUT := Lib.hid (write6_any g s w6 v8 (A6.pad m) HT6.out HOK.out HO7.out.rd (fun _ x hx => by have := HV8.out x hx; omega) (by
    rw [HM.out, HPQ.out, List.length_append, List.length_cons, List.length_replicate, layL_len]
    omega))
  clear HB4 HT4 HK4 HK5 HN7 HSZ HGR HAT HO4 HO6 HPQ
  go_wp2_with fail
  refine HPUT.out.mono ?_
  rintro e w7 ⟨rfl, hb7, ho7⟩
  have OKE := feed6_ok HOK.out (A6.pad m)
  have HSUM : Hid (A6.sumOf s = (A6.feed s (A6.pad m)).h.flatMap (layL 8)) := Lib.hid (by unfold HashF.sumOf; rw [HM.out]; rfl)
  obtain ⟨s2, hs2⟩ : ∃ x, A6.feed s (A6.pad m) = x := ⟨_, rfl⟩
  rw [hs2] at hb7 OKE HSUM
  have HB7 : Hid (Below g w w7) := Lib.hid (HB6.out.trans (ho7.below0 (fun x hx => by omega) (by rw [← HG.out]; exact HB6.out.size)))
  have RNG : Hid (w7.rangeAt g 1 (s2.h.map (Value.int .u64))) := by
    rw [sC6_h8] at hb7
    exact Lib.hid (mid_range [Value.bool true] _ _ hb7)
  have HL2 : Hid (s2.h.length = 8) := Lib.hid OKE.h
  obtain ⟨L, hL⟩ : ∃ L, s2.h = L := ⟨_, rfl⟩
  rw [hL] at RNG HL2 HSUM
  have z1 : (Try.prog.info? 83).map (·.size) = some (L.map (Value.int .u64)).length := by rw [List.length_map, HL2.out]; exact size8w
  have hag : (L.map (Value.int .u64)).toArray = wc64 L := rfl
  clear hb7 ho7 OKE hs2 hL HPUT HB6 HT6 HK6 HV8 HO7 HM HP0 hlt HS HOK
  go_wp2_with ((with_reducible change wpList _ _ _ (Oper.mk _ (Op.load 83 _) _ _ _ _ :: _) _ _); refine wpList_load_mid rfl 83 _ rfl g 1 rfl (L.map (Value.int .u64)) _ RNG.out Try.underlying83 rfl z1 ?_; rw [hag])
  clear z1 hag
  go_loopw [8, 43] (fun o vi wr => ∃ k : Nat, k ≤ 8 ∧ vi = .int .i64 (k : Int) ∧ WLoop6 (lays 8 L k) w w o wr) (fun _ vi _ => 8 - (intOf vi).toNat)
  case atStart => exact ⟨0, by omega, rfl, OB.nil _, by rw [HG.out]; exact HB7.out, fun x hx => by simp [fpv, Value.ownBlock] at hx⟩
  case round =>
    obtain ⟨k, hk, rfl, hr⟩ := hrel
    have HR := Lib.hid hr
    clear hr
    by_cases hlt : k < 8
    · have gx : ∀ w, (Instr.index 83 (.agg (wc64 L)) (.int .i64 (k : Int))).run Try.prog w = .ok (.int .u64 (L.getD k 0)) w := fun w => run_index68 L k (by rw [HL2.out]; exact hlt) hlt w
      go_wp2_with fail
      refine (lay64_any _ _).mono ?_
      rintro e w1 ⟨v2, rfl, hn⟩
      have hy := hn.1.sl
      rw [layL_len] at hy
      have HN2 := Lib.hid hn
      have hown : w1.ownsRow 0 5 1 u8 (8 * k) ((lays 8 L k).map B) := by
        have h1 := HR.out.1.keep (Only.nothing hn.2.1) (fun _ _ h => h)
        unfold OB at h1
        rw [lays_len 8 L k (by rw [HL2.out]; omega)] at h1
        exact h1
      obtain ⟨hi, hz0, hz1, hz2⟩ := HI.out
      clear hn gx
      go_wp2_with (at_builtin; refine wpList_append_sl _ rfl _ _ 22 rfl 5 i0 _ 1 1 Try.underlying22 hi hz0 hz1 hz2 rfl (by decide) u8 (8 * k) ((lays 8 L k).map B) rfl hown v2 8 ((layL 8 (L.getD k 0)).map B) rfl hy (by unfold maxLen; omega) (by omega) ?_)
      intro v' w2 hown2 hgrow hat hnn
      have HN : Hid (WLoop6 (lays 8 L (k + 1)) w w v' w2) := by
        obtain ⟨q1, q2, q3⟩ := HR.out
        obtain ⟨r1, r2, r3⟩ := HN2.out
        refine ⟨?_, ?_, ?_⟩
        · rw [lays_succ 8 L k (by rw [HL2.out]; exact hlt)]
          unfold OB
          rw [List.length_append, lays_len 8 L k (by rw [HL2.out]; omega), layL_len, List.map_append]
          exact hown2
        · exact (q2.trans (r2.mono q2.size)).grown hgrow (Nat.le_trans q2.size r2.size) (fun x hx => q3 x hx)
        · intro x hx
          have hx' : v'.ownBlock = some x := hx
          rcases hat with hat | hat
          · rw [hat] at hx'; exact q3 x hx'
          · rw [hat] at hx'; simp at hx'; have := q2.size; have := r2.size; omega
      clear hown hown2 hgrow hat hnn hy hi hz0 hz1 hz2
      go_wp2
      go_roundw
      case rel => exact ⟨k + 1, by omega, by go_num, HN.out⟩
      case measure => simp [intOf]; omega
    · obtain rfl : k = 8 := by omega
      have HN : Hid (NewBytesE (A6.sumOf s) w (.returned (.tuple #[u8, .int .i64 0])) wr) := by
        have e : lays 8 L 8 = L.flatMap (layL 8) := by unfold lays; rw [List.take_of_length_le (by rw [HL2.out]; omega)]
        rw [HSUM.out, ← e]
        exact Lib.hid ⟨u8, rfl, HR.out⟩
      go_wp2
      go_ret2
      exact HN.out
theorem hash6_any (w : World) (u : Value) (l : List UInt8) (hu : Bs w u l) (hl : l.length ≤ 1152921504606846976) :
    Calls Try.prog 32 #[.pointer none, u] w (NewBytes (A6.hash l) w) := by
  have HU := Lib.hid hu
  have HUI := Lib.hid hu.inside
  clear hu
  go_enter Try.func32, Try.ntmps32
  go_wp2_with fail
  refine (new6_any w).mono ?_
  rintro e w1 ⟨g, rfl, hg, hb, h1⟩
  have HB := Lib.hid hb
  have HG := Lib.hid hg
  have H1 := Lib.hid h1
  clear hb h1 hg
  have HU1 : Hid (Bs w1 u l ∧ (l ≠ [] → ∀ x, u.ownBlock = some x → x ≠ g)) := Lib.hid ⟨HU.out.grow H1.out, fun h0 x hx => by have := HUI.out h0 x hx; have := HG.out; omega⟩
  go_wp2_with fail
  refine (write6_any g _ w1 u l HB.out init6_ok HU1.out.1 HU1.out.2 (by show 0 + l.length ≤ _; omega)).mono ?_
  rintro e w2 ⟨rfl, hb2, ho2⟩
  have H2 : Hid (Below w.heap.size w w2) := Lib.hid (H1.out.trans (ho2.below0 (fun x hx => by have := HG.out; omega) H1.out.size))
  have HS := Lib.hid (sum6_any g _ w2 hb2 (feed6_ok init6_ok _) (by rw [HashF.feed_n]; show 0 + l.length ≤ _; omega))
  clear hb2 ho2
  go_wp2_with fail
  refine HS.out.mono ?_
  rintro e w3 ⟨v, rfl, q1, q2, q3⟩
  have HN : Hid (NewBytes (A6.hash l) w (.returned v) w3) := Lib.hid ⟨v, rfl, q1, H2.out.trans (q2.mono H2.out.size), fun x hx => Nat.le_trans H2.out.size (q3 x hx)⟩
  clear q1 q2 q3
  go_wp2_with fail
  go_ret
  exact HN.out
theorem clone6_any (b : Nat) (s : HSt) (w : World) (h : Blk w b 87 (sC6 s)) (hs : Ok6 s) :
    Calls Try.prog 87 #[.pointer (some ⟨b, 0, none⟩)] w fun e w' => ∃ g, e = .returned (.tuple #[.pointer (some ⟨g, 0, none⟩), .int .i64 0]) ∧ w.heap.size ≤ g ∧ Blk w' g 87 (sC6 s) ∧ Below w.heap.size w w' := by
  have H1 := Lib.hid (is6_any b s w h)
  have HS := Lib.hid h
  have HOK := Lib.hid hs
  have hz := zero6St
  clear h hs
  go_enter Try.func87, Try.ntmps87
  go_wp2_with fail
  refine H1.out.mono ?_
  rintro e w1 ⟨rfl, rfl⟩
  go_wp2_with (first
    | (with_reducible change wpList _ _ _ (Oper.mk _ (Op.load 87 _) _ _ _ _ :: _) _ _; refine wpList_load_blk b rfl HS.out Try.underlying87 rfl size6St (sC6_size HOK.out) ?_)
    | (with_reducible change wpList _ _ _ (Oper.mk _ (Op.store 87 _ _) _ _ _ _ :: _) _ _; refine wpList_store_blk w.heap.size (sC6 s) rfl rfl (Blk.new w 87 zC6) size6St (sC6_size HOK.out) zC6_size (sC6_one s) ?_))
  go_ret2
  exact ⟨w.heap.size, rfl, Nat.le_refl _, Blk.row (Blk.new w _ _) _, below_row ((Below.refl _ _).alloc (Nat.le_refl _) _) (Nat.le_refl _) _⟩
end Go.Proofs.Ytideobdggdmeiaa
