/- SHA-256: Write, Sum. -/
import Derived.Test.YtideobdggdmeiaaSha5Pt
namespace Go.Proofs.Ytideobdggdmeiaa
open Go.RowKit
set_option maxRecDepth 100000
set_option linter.unusedVariables false
set_option linter.unusedSimpArgs false
/-- bytes told in new memory, and no error -/
def NewBytesE (l : List UInt8) (w : World) (e : Ending) (w' : World) : Prop :=
  ∃ v, e = .returned (.tuple #[v, .int .i64 0]) ∧ OB w' v l ∧ Below w.heap.size w w' ∧ ∀ x, fpv v x → w.heap.size ≤ x
theorem write5_any (b : Nat) (s : HSt) (w : World) (u : Value) (l : List UInt8) (h : Blk w b 80 (sC5 s)) (hs : Ok5 s) (hu : Bs w u l) (hne : l ≠ [] → ∀ x, u.ownBlock = some x → x ≠ b) (hn : s.n + l.length ≤ 4611686018427387904) :
    Calls Try.prog 80 #[.pointer (some ⟨b, 0, none⟩), .pointer none, u] w fun e w' => e = .returned (.int .i64 0) ∧ Blk w' b 80 (sC5 (A5.feed s l)) ∧ Only (fun x => x = b) w w' := by
  have H1 := Lib.hid (none5_any b s w h hs)
  have H2 := Lib.hid (put5_any b s w u l h hs hu hne hn)
  clear h hs hu hne
  go_enter Try.func80, Try.ntmps80
  go_wp2_with fail
  refine H1.out.mono ?_
  rintro e w1 ⟨rfl, rfl⟩
  go_wp2_with fail
  refine H2.out.mono ?_
  rintro e w1 ⟨rfl, hb, ho⟩
  have HN := Lib.hid (And.intro hb ho)
  clear hb ho
  go_wp2_with fail
  go_ret
  exact ⟨rfl, HN.out⟩
def zC5 : Array Value := (List.replicate 8 (Value.int .u32 0) ++ (Value.int .i64 0 :: (List.replicate 64 (Value.int .u8 0) ++ [Value.bool false]))).toArray
theorem zero5St (w : World) : (zeroValue 80).run Try.prog w = .ok (.agg zC5) w := by kernel_rfl
theorem size5St : (Try.prog.info? 80).map (·.size) = some 74 := by kernel_rfl
theorem zC5_size : zC5.size = 74 := rfl
theorem sC5_size {s : HSt} (hs : Ok5 s) : (sC5 s).size = 74 := by unfold sC5; simp [hs.h, hs.wt]
theorem sC5_one (s : HSt) : ∀ v ∈ (sC5 s).toList, v.oneCell' = true := by
  intro v hv
  unfold sC5 at hv
  simp only [List.mem_append, List.mem_map, List.mem_cons, List.not_mem_nil, or_false] at hv
  rcases hv with ⟨x, _, rfl⟩ | rfl | ⟨x, _, rfl⟩ | rfl <;> rfl
/-- the padding's length -/
def pl5 (n : Nat) : Nat := 1 + (119 - n % 64) % 64
set_option maxHeartbeats 8000000 in
theorem sum5_any (b : Nat) (s : HSt) (w : World) (h : Blk w b 80 (sC5 s)) (hs : Ok5 s) (hn : s.n ≤ 1152921504606846976) :
    Calls Try.prog 37 #[.pointer (some ⟨b, 0, none⟩), .pointer none] w (NewBytesE (A5.sumOf s) w) := by
  have H1 := Lib.hid (none5_any b s w h hs)
  have HS := Lib.hid h
  have HOK := Lib.hid hs
  have hlt := h.lt
  have hz := zero5St
  obtain ⟨i0, hi, hz0, hz1, hz2⟩ := info_parts info8
  have HI := Lib.hid (And.intro hi (And.intro hz0 (And.intro hz1 hz2)))
  clear h hs hi hz0 hz1 hz2
  go_enter Try.func37, Try.ntmps37
  go_wp2_with fail
  refine H1.out.mono ?_
  rintro e w1 ⟨rfl, rfl⟩
  have h1n : IntKind.u64.wrap (s.n : Int) = (s.n : Int) := by rw [wrapU64]; omega
  have h2n : IntKind.u64.wrap (8 * (s.n : Int)) = 8 * (s.n : Int) := by rw [wrapU64]; omega
  go_upto_region 4 with (first
    | (with_reducible change wpList _ _ _ (Oper.mk _ (Op.load 80 _) _ _ _ _ :: _) _ _; refine wpList_load_blk b rfl HS.out Try.underlying80 rfl size5St (sC5_size HOK.out) ?_)
    | (with_reducible change wpList _ _ _ (Oper.mk _ (Op.store 80 _ _) _ _ _ _ :: _) _ _; refine wpList_store_blk w.heap.size (sC5 s) rfl rfl (Blk.new w 80 zC5) size5St (sC5_size HOK.out) zC5_size (sC5_one s) ?_))
  obtain ⟨g, hg⟩ : ∃ g, w.heap.size = g := ⟨_, rfl⟩
  have HG : Hid (w.heap.size = g) := hg
  rw [hg] at hlt ⊢
  clear hg
  have HB1 : Hid (Below g w ((w.alloc (.cells zC5 80)).setRow g (sC5 s))) := Lib.hid (below_row ((Below.refl g w).alloc (by rw [HG.out]; exact Nat.le_refl _) _) (Nat.le_refl _) _)
  have HT1 : Hid (Blk ((w.alloc (.cells zC5 80)).setRow g (sC5 s)) g 80 (sC5 s)) := Lib.hid (Blk.row (Blk.at HG.out.symm rfl) _)
  obtain ⟨w1, hw1⟩ : ∃ y, (w.alloc (.cells zC5 80)).setRow g (sC5 s) = y := ⟨_, rfl⟩
  rw [hw1] at HB1 HT1 ⊢
  clear hw1 hz
  have c8 := (HS.out.below HB1.out hlt).cellAt 8 (sC5_n HOK.out)
  obtain ⟨m, hm⟩ : ∃ m, s.n = m := ⟨_, rfl⟩
  rw [hm] at c8 h1n h2n hn
  have HM := Lib.hid hm
  clear hm
  go_wp2_with fail
  refine (lay64_any (8 * (m : Int)) w1).mono ?_
  rintro e w2 ⟨v7, rfl, hn7⟩
  have HN7 := Lib.hid hn7
  have hy7 := hn7.1.sl
  rw [layL_len] at hy7
  have HB2 := Lib.hid (HB1.out.trans (hn7.2.1.mono (by rw [← HG.out]; exact HB1.out.size)))
  clear hn7 c8 h1n h2n
  have c8 := (HS.out.below HB2.out hlt).cellAt 8 (sC5_n HOK.out)
  rw [HM.out] at c8
  obtain ⟨r, hr⟩ : ∃ r, m % 64 = r := ⟨_, rfl⟩
  have r64 : r < 64 := by omega
  obtain ⟨q, hq⟩ : ∃ q, (119 - r) % 64 = q := ⟨_, rfl⟩
  have q64 : q < 64 := by omega
  have t1 : (m : Int).tmod 64 = (r : Int) := by rw [Int.tmod_eq_emod_of_nonneg (by omega)]; omega
  have t2 : IntKind.i64.wrap (119 - (r : Int)) = 119 - (r : Int) := IntWalk.i64_in _ (by omega)
  have t3 : (119 - (r : Int)).tmod 64 = (q : Int) := by rw [Int.tmod_eq_emod_of_nonneg (by omega)]; omega
  have t4 : IntKind.i64.wrap (1 + (q : Int)) = ((q + 1 : Nat) : Int) := by rw [IntWalk.i64_in _ (by omega)]; omega
  have HRQ : Hid (pl5 m = q + 1) := Lib.hid (by unfold pl5; rw [hr, hq]; omega)
  clear hr hq
  obtain ⟨hi, hz0, hz1, hz2⟩ := HI.out
  go_upto_region 6 with (refine wpList_make_full _ rfl _ _ 22 rfl 0 5 i0 _ 1 Try.underlying22 hi hz0 hz1 .i64 .i64 _ _ (q + 1) rfl rfl rfl rfl (mk48 (by omega) hz2) (mkmax (by omega)) (Nat.zero_le _) ?_)
  intro w3 hown hgrow
  obtain ⟨p0, hp0⟩ : ∃ p, w2.heap.size = p := ⟨_, rfl⟩
  have HP0 := Lib.hid hp0
  have hgp : g < p0 := by
    have h1 := HT1.out.lt
    have h2 := HN7.out.2.1.size
    omega
  rw [hp0] at hown ⊢
  have HO3 := Lib.hid (made_bsW hown)
  have HK3 := Lib.hid ((Only.refl (fun _ => False) w2).grown hgrow (fun k hk => by cases hk))
  clear hown hgrow hp0 hi hz0 hz1 hz2 c8 t1 t2 t3 t4
  have hO3 : OB w3 (.slice (some ⟨p0, 0, none⟩) (List.replicate (q + 1) (0 : UInt8)).length (q + 1)) (List.replicate (q + 1) 0) := by rw [List.length_replicate]; exact HO3.out
  have c1 : w3.cell? ⟨p0, 0, none⟩ = some (.int .u8 0) := by
    rw [World.ownsRow.cellAt hO3 0 (by rw [List.length_replicate]; omega)]
    rfl
  have f1 := World.ownsRow.frozenAt hO3 0
  have HO4 : Hid (OB (w3.setCell ⟨p0, 0, none⟩ (.int .u8 128)) (.slice (some ⟨p0, 0, none⟩) (q + 1) (q + 1)) (128 :: List.replicate q 0)) := by
    have h := hO3.set 0 128
    rw [List.length_replicate] at h
    exact Lib.hid h
  have HK4 : Hid (Only (fun _ => False) w2 (w3.setCell ⟨p0, 0, none⟩ (.int .u8 128))) := Lib.hid (HK3.out.set (.inr (by rw [HP0.out]; exact Nat.le_refl _)) _)
  clear HO3 HK3 hO3
  go_upto_region 7 with fail
  obtain ⟨w4, hw4⟩ : ∃ y, w3.setCell ⟨p0, 0, none⟩ (.int .u8 128) = y := ⟨_, rfl⟩
  rw [hw4] at HO4 HK4 ⊢
  clear hw4 c1 f1
  have hB4 : Below g w w4 := HB2.out.trans (HK4.out.below0 (fun _ _ h => h) (by rw [← HG.out]; exact HB2.out.size))
  have HB4 := Lib.hid hB4
  have hown4 : w4.ownsRow 0 5 1 (.slice (some ⟨p0, 0, none⟩) (q + 1) (q + 1)) (q + 1) ((128 :: List.replicate q (0 : UInt8)).map B) := by
    have h := HO4.out
    unfold OB at h
    rw [List.length_cons, List.length_replicate] at h
    exact h
  have hy4 : Sl w4 1 v7 8 ((layL 8 (8 * (m : Int))).map B) := by
    have h := (HN7.out.1.keep HK4.out (fun _ _ h => h)).sl
    rw [layL_len] at h
    exact h
  clear hB4 hy7
  obtain ⟨hi, hz0, hz1, hz2⟩ := HI.out
  go_wp2_with (at_builtin; refine wpList_append_sl _ rfl _ _ 22 rfl 5 i0 _ 1 1 Try.underlying22 hi hz0 hz1 hz2 rfl (by decide) (.slice (some ⟨p0, 0, none⟩) (q + 1) (q + 1)) (q + 1) ((128 :: List.replicate q (0 : UInt8)).map B) rfl hown4 v7 8 ((layL 8 (8 * (m : Int))).map B) rfl hy4 (by unfold maxLen; omega) (by omega) ?_)
  intro v8 w5 hown5 hgrow hat hnn
  have hPL : A5.pad m = (128 :: List.replicate q 0) ++ layL 8 (8 * (m : Int)) := by
    have h := HRQ.out
    unfold pl5 at h
    show (128 :: List.replicate ((119 - m % 64) % 64) 0) ++ layL 8 (8 * (m : Int)) = _
    rw [show (119 - m % 64) % 64 = q by omega]
  have HO5 : Hid (OB w5 v8 (A5.pad m)) := by
    rw [hPL]
    refine Lib.hid ?_
    unfold OB
    rw [List.length_append, List.length_cons, List.length_replicate, layL_len, List.map_append]
    simpa using hown5
  have HV8 : Hid (∀ x, v8.ownBlock = some x → p0 ≤ x) := by
    refine Lib.hid fun x hx => ?_
    rcases hat with hat | hat
    · rw [hat] at hx; simp [Value.ownBlock] at hx; omega
    · rw [hat] at hx; simp at hx; have h1 := HK4.out.size; rw [HP0.out] at h1; omega
  have HK5 : Hid (Only (fun x => x = p0) w4 w5) := Lib.hid ((Only.refl _ w4).grown hgrow (fun k hk => by simp [Value.ownBlock] at hk; exact .inl hk.symm))
  have HT5 : Hid (Blk w5 g 80 (sC5 s)) := by
    have h2 : Below g w1 w4 := by
      have h := HK4.out.below0 (b := w1.heap.size) (fun _ _ h => h) HN7.out.2.1.size
      exact (HN7.out.2.1.trans h).mono (Nat.le_of_lt HT1.out.lt)
    have h4 : Blk w4 g 80 (sC5 s) := by
      have h := HK4.out.below0 (b := w1.heap.size) (fun _ _ h => h) HN7.out.2.1.size
      exact HT1.out.below (HN7.out.2.1.trans h) HT1.out.lt
    exact Lib.hid (h4.only HK5.out (by omega))
  have HPUT := Lib.hid (put5_any g s w5 v8 (A5.pad m) HT5.out HOK.out HO5.out.rd (fun _ x hx => by have := HV8.out x hx; omega) (by
    have h := HRQ.out
    rw [HM.out, hPL, List.length_append, List.length_cons, List.length_replicate, layL_len]
    omega))
  have HB5 : Hid (Below g w w5) := Lib.hid (HB4.out.trans (HK5.out.below0 (fun x hx => by omega) (by rw [← HG.out]; exact HB4.out.size)))
  clear hown5 hgrow hat hnn hown4 hy4 hi hz0 hz1 hz2 hPL
  go_wp2_with fail
  refine HPUT.out.mono ?_
  rintro e w6 ⟨rfl, hb6, ho6⟩
  have HB6 : Hid (Below g w w6) := Lib.hid (HB5.out.trans (ho6.below0 (fun x hx => by omega) (by rw [← HG.out]; exact HB5.out.size)))
  have HW := Lib.hid (words5_any g _ w6 hb6 (feed5_ok HOK.out _))
  clear hb6 ho6
  go_wp2_with fail
  refine HW.out.mono ?_
  rintro e w7 ⟨v9, rfl, q1, q2, q3⟩
  have HN : Hid (NewBytesE (A5.sumOf s) w (.returned (.tuple #[v9, .int .i64 0])) w7) := by
    have h6 : w.heap.size ≤ w6.heap.size := HB6.out.size
    refine Lib.hid ⟨v9, rfl, ?_, ?_, fun x hx => Nat.le_trans h6 (q3 x hx)⟩
    · unfold HashF.sumOf
      rw [HM.out]
      exact q1
    · rw [HG.out]
      exact HB6.out.trans (q2.mono (by rw [← HG.out]; exact h6))
  clear q1 q2 q3
  go_wp2_with fail
  go_ret2
  exact HN.out
/-! ### the digest of bytes; a clone -/
theorem hash5_any (w : World) (u : Value) (l : List UInt8) (hu : Bs w u l) (hl : l.length ≤ 1152921504606846976) :
    Calls Try.prog 29 #[.pointer none, u] w (NewBytes (A5.hash l) w) := by
  have HU := Lib.hid hu
  have HUI := Lib.hid hu.inside
  clear hu
  go_enter Try.func29, Try.ntmps29
  go_wp2_with fail
  refine (new5_any w).mono ?_
  rintro e w1 ⟨g, rfl, hg, hb, h1⟩
  have HB := Lib.hid hb
  have HG := Lib.hid hg
  have H1 := Lib.hid h1
  clear hb h1 hg
  -- the argument's block lies below, or nowhere
  have HU1 : Hid (Bs w1 u l ∧ (l ≠ [] → ∀ x, u.ownBlock = some x → x ≠ g)) := Lib.hid ⟨HU.out.grow H1.out, fun h0 x hx => by have := HUI.out h0 x hx; have := HG.out; omega⟩
  go_wp2_with fail
  refine (put5_any g _ w1 u l HB.out init5_ok HU1.out.1 HU1.out.2 (by show 0 + l.length ≤ _; omega)).mono ?_
  rintro e w2 ⟨rfl, hb2, ho2⟩
  have H2 : Hid (Below w.heap.size w w2) := Lib.hid (H1.out.trans (ho2.below0 (fun x hx => by have := HG.out; omega) H1.out.size))
  have HS := Lib.hid (sum5_any g _ w2 hb2 (feed5_ok init5_ok _) (by rw [HashF.feed_n]; show 0 + l.length ≤ _; omega))
  clear hb2 ho2
  go_wp2_with fail
  refine HS.out.mono ?_
  rintro e w3 ⟨v, rfl, q1, q2, q3⟩
  have HN : Hid (NewBytes (A5.hash l) w (.returned v) w3) := Lib.hid ⟨v, rfl, q1, H2.out.trans (q2.mono H2.out.size), fun x hx => Nat.le_trans H2.out.size (q3 x hx)⟩
  clear q1 q2 q3
  go_wp2_with fail
  go_ret
  exact HN.out
theorem clone5_any (b : Nat) (s : HSt) (w : World) (h : Blk w b 80 (sC5 s)) (hs : Ok5 s) :
    Calls Try.prog 82 #[.pointer (some ⟨b, 0, none⟩)] w fun e w' => ∃ g, e = .returned (.tuple #[.pointer (some ⟨g, 0, none⟩), .int .i64 0]) ∧ w.heap.size ≤ g ∧ Blk w' g 80 (sC5 s) ∧ Below w.heap.size w w' := by
  have H1 := Lib.hid (none5_any b s w h hs)
  have HS := Lib.hid h
  have HOK := Lib.hid hs
  have hz := zero5St
  clear h hs
  go_enter Try.func82, Try.ntmps82
  go_wp2_with fail
  refine H1.out.mono ?_
  rintro e w1 ⟨rfl, rfl⟩
  go_wp2_with (first
    | (with_reducible change wpList _ _ _ (Oper.mk _ (Op.load 80 _) _ _ _ _ :: _) _ _; refine wpList_load_blk b rfl HS.out Try.underlying80 rfl size5St (sC5_size HOK.out) ?_)
    | (with_reducible change wpList _ _ _ (Oper.mk _ (Op.store 80 _ _) _ _ _ _ :: _) _ _; refine wpList_store_blk w.heap.size (sC5 s) rfl rfl (Blk.new w 80 zC5) size5St (sC5_size HOK.out) zC5_size (sC5_one s) ?_))
  go_ret2
  exact ⟨w.heap.size, rfl, Nat.le_refl _, Blk.row (Blk.new w _ _) _, below_row ((Below.refl _ _).alloc (Nat.le_refl _) _) (Nat.le_refl _) _⟩
end Go.Proofs.Ytideobdggdmeiaa
