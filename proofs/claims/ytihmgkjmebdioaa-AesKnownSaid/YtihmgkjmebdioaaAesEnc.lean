/- The contracts of package aes: Encrypt, Decrypt. Conditions: a block has sixteen bytes; room for one event more. -/
import Derived.Test.YtihmgkjmebdioaaRows
import Derived.Test.YtihmgkjmebdioaaAesMix
import Derived.Test.YtihmgkjmebdioaaLenv
namespace Go.Proofs.Ytihmgkjmebdioaa
open Go.RowKit
set_option maxRecDepth 100000
set_option linter.unusedVariables false
set_option linter.unusedSimpArgs false

theorem cmade_any (b k : Nat) (K : List UInt8) (w : World) (h : CipAt w b k K) : Calls Try.prog 32 #[.pointer (some ⟨b, 0, none⟩)] w fun e w' => e = .returned (.bool (decide (0 < k))) ∧ w = w' := by
  have c0 := h.key
  have hb := h.lt
  have hd : decide ((k : Int) > 0) = decide (0 < k) := by congr 1; simp
  obtain ⟨m, hm⟩ : ∃ m, decide (0 < k) = m := ⟨_, rfl⟩
  rw [hm] at hd ⊢
  clear h hm
  go_enter Try.func32, Try.ntmps32
  go_wp2
  go_ret
  refine ⟨?_, rfl⟩
  first | rfl | (rw [← hd]; simp)
theorem cmade_nil (w : World) : Calls Try.prog 32 #[.pointer none] w fun e w' => e = .returned (.bool false) ∧ w = w' := by
  go_enter Try.func32, Try.ntmps32
  go_wp2
  go_ret
  exact ⟨rfl, rfl⟩
theorem rounds_any (b k : Nat) (K : List UInt8) (w : World) (h : CipAt w b k K) (hk : k ≤ 32) : Calls Try.prog 33 #[.pointer (some ⟨b, 0, none⟩)] w fun e w' => e = .returned (.int .i64 ((k / 4 + 6 : Nat) : Int)) ∧ w = w' := by
  have c0 := h.key
  have hb := h.lt
  obtain ⟨q, hq⟩ : ∃ q, k / 4 = q := ⟨_, rfl⟩
  have hqI : (k : Int) / 4 = (q : Int) := by omega
  have hq8 : q ≤ 8 := by omega
  rw [hq]
  clear h hq
  go_enter Try.func33, Try.ntmps33
  go_wp2
  go_ret
  refine ⟨?_, rfl⟩
  first | rfl | (congr 2) | (congr 2; omega)

theorem zero16 (w : World) : (zeroValue 31).run Try.prog w = .ok (.agg (barr (List.replicate 16 0))) w := by kernel_rfl
theorem results_cell2_blk {P : Program} {fn : Func} {p t2 : Tmp} {ty : TypeId} (h : fn.results = #[.cell p ty, .tmp t2]) (tmps : Array Value) (w : World) (g : Nat) {t : TypeId} {cs : Array Value} {de : TypeDesc} {n : Nat}
    (hp : tmps.getD p undef = .pointer (some ⟨g, 0, none⟩)) (hg : Blk w g t cs)
    (hu : P.underlying ty = some de) (hd : (match de with | .struct _ | .array _ _ => true | _ => false) = true) (hi : (P.info? ty).map (·.size) = some n) (hn : cs.size = n) :
    (results fn tmps).run P w = .ok (.tuple #[.agg cs, tmps.getD t2 undef]) w := by
  have hp' : tmps[p]?.getD undef = .pointer (some ⟨g, 0, none⟩) := by simpa using hp
  simp [results, h, hp', asAddr, run_loadVar_row w g t ty cs (0, 0) de hg hu hd (by rw [hi, hn])]
set_option maxHeartbeats 1000000 in
theorem encrypt_no (p q : Value) (l : List UInt8) (w : World) (hm : ∀ w', Below w.heap.size w w' → Calls Try.prog 32 #[p] w' fun e w'' => e = .returned (.bool false) ∧ w' = w'') :
    Calls Try.prog 13 #[p, q, .agg (barr l)] w fun e w' => e = .returned (.tuple #[.agg (barr (List.replicate 16 0)), .int .i64 1]) ∧ Below w.heap.size w w' := by
  have HM := Lib.hid hm
  clear hm
  have hz := zero16
  generalize hZ : barr (List.replicate 16 0) = Z at hz
  have HZ := Lib.hid hZ
  have hZs : Z.size = 16 := by rw [← hZ, barr_size]; rfl
  have hZo : ∀ v ∈ Z.toList, v.oneCell' = true := by rw [← hZ]; exact barr_one _
  clear hZ
  go_enter Try.func13, Try.ntmps13
  go_wp2_with fail
  have hb : Below w.heap.size w ((w.alloc (.cells (barr l) 31)).alloc (.cells Z 31)) := ((Below.refl _ _).alloc (Nat.le_refl _) _).alloc (by simp) _
  have HB := Lib.hid hb
  have b1 : Blk ((w.alloc (.cells (barr l) 31)).alloc (.cells Z 31)) (w.heap.size + 1) 31 Z := Blk.at (by simp) rfl
  refine (HM.out _ hb).mono ?_
  clear hb
  rintro e w' ⟨rfl, rfl⟩
  go_wp2_with (first | ((with_reducible change wpList _ _ _ (Oper.mk _ (Op.store 31 _ _) _ _ _ _ :: _) _ _); refine wpList_store_blk (ty := 31) (w.heap.size + 1) Z rfl rfl b1 size16 hZs hZs hZo ?_))
  refine bodyPost_ret (results_cell2_blk rfl _ _ (w.heap.size + 1) rfl (b1.row _) Try.underlying31 rfl size16 hZs) rfl ⟨rfl, below_row HB.out (by omega) _⟩
/-- the worlds between: what a round needs -/
structure EncW (n0 b k : Nat) (K st : List UInt8) (w2 w1 : World) : Prop where
  blk : Blk w1 n0 31 (barr st)
  res : Blk w1 (n0 + 1) 31 (barr (List.replicate 16 0))
  cip : CipAt w1 b k K
  only : Only (fun x => x = n0) w2 w1
theorem EncW.below {n0 b k : Nat} {K st : List UInt8} {w2 w1 w' : World} (h : EncW n0 b k K st w2 w1) (hb : Below w1.heap.size w1 w') : EncW n0 b k K st w2 w' :=
  ⟨h.blk.below hb h.blk.lt, h.res.below hb h.res.lt, h.cip.below hb, h.only.trans (Only.of_below hb (fun x => x = n0)) (fun x hx => .inl hx)⟩
theorem EncW.put {n0 b k : Nat} {K st : List UInt8} {w2 w1 : World} (h : EncW n0 b k K st w2 w1) (hb : b ≠ n0) (st' : List UInt8) : EncW n0 b k K st' w2 (w1.setRow n0 (barr st')) :=
  ⟨h.blk.row _, h.res.row_ne (by omega) _, ⟨h.cip.1.row_ne hb _, h.cip.2⟩, h.only.row (.inl rfl) _⟩
theorem EncW.other {n0 b k g : Nat} {K st : List UInt8} {w2 w1 : World} (h : EncW n0 b k K st w2 w1) (hg : w2.heap.size ≤ g) (h2 : n0 + 1 < w2.heap.size) (hb : b < w2.heap.size) {w' : World} (ho : Only (fun x => x = g) w1 w') : EncW n0 b k K st w2 w' :=
  ⟨h.blk.only ho (by omega), h.res.only ho (by omega), h.cip.only ho (by omega), h.only.trans ho (fun x hx => .inr (by rw [hx]; exact hg))⟩
theorem shiftB_tab (b : List UInt8) : shiftB b = tab 16 (fun i => boxU (b.getD ((i + 4 * (i % 4)) % 16) 0)) := rfl
theorem barr_m2 : barr m2 = #[.int .u8 2, .int .u8 3, .int .u8 1, .int .u8 1] := rfl
theorem barr_m14 : barr m14 = #[.int .u8 14, .int .u8 11, .int .u8 13, .int .u8 9] := rfl
theorem with_any1 (b k : Nat) (K l : List UInt8) (r : Nat) (w : World) (h : CipAt w b k K) (hl : l.length = 16) (hr : r + 1 < 15) :
    Calls Try.prog 34 #[.pointer (some ⟨b, 0, none⟩), .agg (barr l), .int .i64 ((r : Int) + 1)] w fun e w' => e = .returned (.agg (barr (withK K l (r + 1)))) ∧ Below w.heap.size w w' := by
  have h := with_any b k K l (r + 1) w h hl hr
  rwa [show ((r + 1 : Nat) : Int) = (r : Int) + 1 from by omega] at h
set_option maxHeartbeats 4000000 in
theorem encrypt_any (b k : Nat) (K l : List UInt8) (q : Value) (G : Nat → Prop) (o : Option (List Rn)) (w : World) (h : CipAt w b k K) (hl : l.length = 16) (hk0 : 0 < k) (hk : k ≤ 32) (hq : LgP w q G o) (hr : Room o 1) (hG : ¬ G b) :
    Calls Try.prog 13 #[.pointer (some ⟨b, 0, none⟩), q, .agg (barr l)] w fun e w' => e = .returned (.tuple #[.agg (barr (enc K (k / 4 + 6) l)), .int .i64 0]) ∧ LaidP q G (noteO o 5 k 1) w w' := by
  have hbw := h.lt
  have HGlt := Lib.hid hq.lt
  have hkd : decide (0 < k) = true := by simpa using hk0
  have HH := Lib.hid h
  have HQ := Lib.hid hq
  clear h hq
  go_enter Try.func13, Try.ntmps13
  go_wp2_with fail
  have hb0 : Below w.heap.size w ((w.alloc (.cells (barr l) 31)).alloc (.cells (barr (List.replicate 16 0)) 31)) := ((Below.refl _ _).alloc (Nat.le_refl _) _).alloc (by simp) _
  have hA : EncW w.heap.size b k K l ((w.alloc (.cells (barr l) 31)).alloc (.cells (barr (List.replicate 16 0)) 31)) ((w.alloc (.cells (barr l) 31)).alloc (.cells (barr (List.replicate 16 0)) 31)) :=
    ⟨(Blk.at rfl rfl).alloc _, Blk.at (by simp) rfl, HH.out.below hb0, Only.refl _ _⟩
  have hs0 : w.heap.size + 1 < ((w.alloc (.cells (barr l) 31)).alloc (.cells (barr (List.replicate 16 0)) 31)).heap.size := by simp
  have HQ0 := Lib.hid (HQ.out.keep (Only.nothing hb0) (fun _ _ h => h))
  obtain ⟨w0, hw0⟩ : ∃ w0, w0 = ((w.alloc (.cells (barr l) 31)).alloc (.cells (barr (List.replicate 16 0)) 31)) := ⟨_, rfl⟩
  obtain ⟨n0, hn0⟩ : ∃ n0, n0 = w.heap.size := ⟨_, rfl⟩
  have hbn : b ≠ n0 := by omega
  have hbn1 : b < n0 := by omega
  have HA : Hid (EncW n0 b k K l w0 w0) := by rw [hw0, hn0]; exact Lib.hid hA
  have HQ1 : Hid (LgP w0 q G o) := by rw [hw0]; exact HQ0
  have HB0 : Hid (Below w.heap.size w w0) := by rw [hw0]; exact Lib.hid hb0
  have hs1 : n0 + 1 < w0.heap.size := by rw [hw0, hn0]; exact hs0
  have HGn : Hid (∀ x, G x → x < n0) := by rw [hn0]; exact HGlt
  have HN0 : Hid (n0 = w.heap.size) := hn0
  change Calls _ _ _ ((w.alloc (.cells (barr l) 31)).alloc (.cells (barr (List.replicate 16 0)) 31)) _
  rw [← hw0, ← hn0]
  clear hA hs0 HQ0 hb0 hw0 hn0 HH HQ
  refine (cmade_any b k K w0 HA.out.cip).mono ?_
  rintro e w' ⟨he, rfl⟩
  rw [hkd] at he
  subst he
  have c0 := HA.out.cip.key
  have hbl := HA.out.cip.lt
  go_wp2_with fail
  refine (gnoteP_any q G o 5 k w0 HQ1.out hr).mono ?_
  rintro e w2 ⟨rfl, hn⟩
  have HN := Lib.hid hn
  have on := hn.only
  have h2 : EncW n0 b k K l w2 w2 := ⟨HA.out.blk.only on (fun hh => by have := HGn.out _ hh; omega), HA.out.res.only on (fun hh => by have := HGn.out _ hh; omega), HA.out.cip.only on hG, Only.refl _ _⟩
  have hs2 : n0 + 1 < w2.heap.size := Nat.lt_of_lt_of_le hs1 on.size
  have hb2 : b < w2.heap.size := h2.cip.lt
  have H2 := Lib.hid h2
  have hll : (barr l).size = 16 := by rw [barr_size, hl]
  clear hn on h2 c0 hbl HA HQ1
  go_wp2_with ((with_reducible change wpList _ _ _ (Oper.mk _ (Op.load 31 _) _ _ _ _ :: _) _ _); refine wpList_load_blk (ty := 31) n0 rfl H2.out.blk Try.underlying31 rfl size16 hll ?_)
  refine (with_any b k K l 0 w2 H2.out.cip hl (by omega)).mono ?_
  rintro e w3 ⟨rfl, h3⟩
  have H3 := Lib.hid (H2.out.below h3)
  clear h3
  have hs3 : (barr (withK K l 0)).size = 16 := by rw [barr_size, withK_len]
  go_wp2_with ((with_reducible change wpList _ _ _ (Oper.mk _ (Op.store 31 _ _) _ _ _ _ :: _) _ _); refine wpList_store_blk (ty := 31) n0 (barr (withK K l 0)) rfl rfl H3.out.blk size16 hs3 hll (barr_one _) ?_)
  have H4 := Lib.hid (H3.out.put hbn (withK K l 0))
  clear H3
  obtain ⟨R, hR⟩ : ∃ R, k / 4 + 6 = R := ⟨_, rfl⟩
  have hR14 : R ≤ 14 := by omega
  have HR := Lib.hid hR
  clear hR
  go_loopw [8] (fun i w1 => ∃ r : Nat, r ≤ R ∧ i = .int .i64 ((r : Int) + 1) ∧ Hid (EncW n0 b k K (encS K R l r) w2 w1)) (fun i _ => R + 1 - (intOf i).toNat)
  case atStart => exact ⟨0, by omega, rfl, H4⟩
  case round =>
    obtain ⟨r, hrr, rfl, H⟩ := hrel
    clear H4 H2
    go_wp2_with fail
    refine (rounds_any b k K wr H.out.cip hk).mono ?_
    rintro e w' ⟨he, rfl⟩
    rw [HR.out] at he
    subst he
    have hst : (encS K R l r).length = 16 := encS_len _ _ _ _
    obtain ⟨st, hstt⟩ : ∃ st, st = encS K R l r := ⟨_, rfl⟩
    rw [← hstt] at H hst
    have HST := Lib.hid hstt
    clear hstt
    by_cases hlt : r < R
    · have hle : decide ((r : Int) + 1 ≤ (R : Int)) = true := by simp; omega
      have hs0 : w2.heap.size ≤ wr.heap.size := H.out.only.size
      go_wp2_with fail
      generalize hs0e : wr.heap.size = s0
      go_loopw [31] (fun i w1 => ∃ j : Nat, j ≤ 16 ∧ i = .int .i64 (j : Int) ∧ Hid (EncW n0 b k K st w2 w1) ∧ Hid (Blk w1 s0 31 (barr (mixT 16 (fun i => boxU (st.getD ((i + 4 * (i % 4)) % 16) 0)) (fun _ => 0) j)))) (fun i _ => 16 - (intOf i).toNat)
      case atStart =>
        refine ⟨0, by omega, rfl, H.out.below ((Below.refl _ _).alloc (Nat.le_refl _) _), ?_⟩
        rw [mixT_zero, tab_zero]
        exact Blk.at hs0e.symm rfl
      case round =>
        obtain ⟨j, hj, rfl, H5, G5⟩ := hrel
        by_cases hjt : j < 16
        · obtain ⟨m, hm⟩ : ∃ m, j % 4 = m := ⟨_, rfl⟩
          obtain ⟨s, hs⟩ : ∃ s, j + 4 * m = s := ⟨_, rfl⟩
          obtain ⟨p, hp⟩ : ∃ p, s % 16 = p := ⟨_, rfl⟩
          have hmI : (j : Int) % 4 = (m : Int) := by omega
          have hsI : (j : Int) + 4 * (m : Int) = (s : Int) := by omega
          have hpI : (s : Int) % 16 = (p : Int) := by omega
          have hm4 : m < 4 := by omega
          have hs32 : s < 32 := by omega
          have hp16 : p < 16 := by omega
          have c0 := H5.out.blk.cellAt p (barr_getD st p (by rw [hst]; exact hp16))
          have hbl := H5.out.blk.lt
          have HP : Hid ((j + 4 * (j % 4)) % 16 = p) := Lib.hid (by rw [hm, hs, hp])
          generalize hx : st.getD p 0 = x at c0
          have HX := Lib.hid hx
          clear hx hm hs hp
          go_wp2_with fail
          refine (boxU_any x _).mono ?_
          rintro e w' ⟨rfl, n, rfl⟩
          have f5 := (G5.out.draw n).unfrozen j
          have hg5 := G5.out.lt
          have c5 := (G5.out.draw n).cellAt j (barr_getD _ j (by rw [mixT_len]; exact hjt))
          go_wp2
          go_roundw
          case rel =>
            refine ⟨j + 1, by omega, by go_num, ?_, ?_⟩
            · exact (H5.out.below (drew_below _ n)).other (g := s0) (by omega) hs2 hb2 (Only.set (S := fun x => x = s0) (Only.refl _ _) (.inl rfl) _)
            · have h := (G5.out.draw n).set j (.int .u8 ((boxU x).toNat : Int))
              have e : mixT 16 (fun i => boxU (st.getD ((i + 4 * (i % 4)) % 16) 0)) (fun _ => 0) (j + 1) = (mixT 16 (fun i => boxU (st.getD ((i + 4 * (i % 4)) % 16) 0)) (fun _ => 0) j).set j (boxU x) := by
                rw [← mixT_succ, HP.out, HX.out]
              rw [barr_set, ← e] at h
              exact h
          case measure => simp [intOf]; omega
        · obtain rfl : j = 16 := by omega
          have g6 := G5.out
          rw [mixT_end, ← shiftB_tab] at g6
          have G6 := Lib.hid g6
          have hss : (barr (shiftB st)).size = 16 := by rw [barr_size, shiftB_len]
          have hb16 : (barr st).size = 16 := by rw [barr_size, hst]
          clear g6 G5
          go_wp2_with fail
          refine (rounds_any b k K wr H5.out.cip hk).mono ?_
          rintro e w' ⟨he, rfl⟩
          rw [HR.out] at he
          subst he
          by_cases hlt2 : r + 1 < R
          · have hle2 : decide ((r : Int) + 1 < (R : Int)) = true := by simp; omega
            go_wp2_with ((with_reducible change wpList _ _ _ (Oper.mk _ (Op.load 31 _) _ _ _ _ :: _) _ _); refine wpList_load_blk (ty := 31) s0 rfl G6.out Try.underlying31 rfl size16 hss ?_)
            refine (mixed_any (shiftB st) m2 _ (shiftB_len st) rfl).mono ?_
            rintro e w6 ⟨rfl, h6⟩
            have H6 := Lib.hid (H5.out.below h6)
            have G7 := Lib.hid (G6.out.below h6 G6.out.lt)
            clear h6
            have hsm : (barr (mixB m2 (shiftB st))).size = 16 := by rw [barr_size, mixB_len]
            have G8 := Lib.hid (G7.out.row (barr (mixB m2 (shiftB st))))
            go_wp2_with (first | ((with_reducible change wpList _ _ _ (Oper.mk _ (Op.store 31 _ _) _ _ _ _ :: _) _ _); refine wpList_store_blk (ty := 31) s0 (barr (mixB m2 (shiftB st))) rfl rfl G7.out size16 hsm hss (barr_one _) ?_) | ((with_reducible change wpList _ _ _ (Oper.mk _ (Op.load 31 _) _ _ _ _ :: _) _ _); refine wpList_load_blk (ty := 31) s0 rfl G8.out Try.underlying31 rfl size16 hsm ?_))
            have H8 := Lib.hid (H6.out.other (g := s0) (w' := w6.setRow s0 (barr (mixB m2 (shiftB st)))) (by omega) hs2 hb2 (Only.row (S := fun x => x = s0) (Only.refl _ _) (.inl rfl) _))
            refine (with_any1 b k K (mixB m2 (shiftB st)) r _ H8.out.cip (mixB_len _ _) (by omega)).mono ?_
            rintro e w7 ⟨rfl, h7⟩
            have H9 := Lib.hid (H8.out.below h7)
            clear h7
            have hs6 : (barr (withK K (mixB m2 (shiftB st)) (r + 1))).size = 16 := by rw [barr_size, withK_len]
            go_wp2_with ((with_reducible change wpList _ _ _ (Oper.mk _ (Op.store 31 _ _) _ _ _ _ :: _) _ _); refine wpList_store_blk (ty := 31) n0 (barr (withK K (mixB m2 (shiftB st)) (r + 1))) rfl rfl H9.out.blk size16 hs6 hb16 (barr_one _) ?_)
            go_roundw
            case rel =>
              refine ⟨r + 1, by omega, by go_num, ?_⟩
              have e : encS K R l (r + 1) = withK K (mixB m2 (shiftB st)) (r + 1) := by
                rw [encS, ← HST.out]
                unfold rnd mid
                rw [if_pos hlt2]
              rw [e]
              exact Lib.hid (H9.out.put hbn _)
            case measure => simp [intOf]; omega
          · have hle2 : decide ((r : Int) + 1 < (R : Int)) = false := by simp; omega
            go_wp2_with ((with_reducible change wpList _ _ _ (Oper.mk _ (Op.load 31 _) _ _ _ _ :: _) _ _); refine wpList_load_blk (ty := 31) s0 rfl G6.out Try.underlying31 rfl size16 hss ?_)
            refine (with_any1 b k K (shiftB st) r _ H5.out.cip (shiftB_len st) (by omega)).mono ?_
            rintro e w6 ⟨rfl, h6⟩
            have H6 := Lib.hid (H5.out.below h6)
            clear h6
            have hs6 : (barr (withK K (shiftB st) (r + 1))).size = 16 := by rw [barr_size, withK_len]
            go_wp2_with ((with_reducible change wpList _ _ _ (Oper.mk _ (Op.store 31 _ _) _ _ _ _ :: _) _ _); refine wpList_store_blk (ty := 31) n0 (barr (withK K (shiftB st) (r + 1))) rfl rfl H6.out.blk size16 hs6 hb16 (barr_one _) ?_)
            go_roundw
            case rel =>
              refine ⟨r + 1, by omega, by go_num, ?_⟩
              have e : encS K R l (r + 1) = withK K (shiftB st) (r + 1) := by
                rw [encS, ← HST.out]
                unfold rnd mid
                rw [if_neg hlt2]
              rw [e]
              exact Lib.hid (H6.out.put hbn _)
            case measure => simp [intOf]; omega
    · have hrR : r = R := by omega
      have hle : decide ((r : Int) + 1 ≤ (R : Int)) = false := by simp; omega
      have hb16 : (barr st).size = 16 := by rw [barr_size, hst]
      go_wp2_with (first | ((with_reducible change wpList _ _ _ (Oper.mk _ (Op.load 31 _) _ _ _ _ :: _) _ _); refine wpList_load_blk (ty := 31) n0 rfl H.out.blk Try.underlying31 rfl size16 hb16 ?_) | ((with_reducible change wpList _ _ _ (Oper.mk _ (Op.store 31 _ _) _ _ _ _ :: _) _ _); refine wpList_store_blk (ty := 31) (n0 + 1) (barr st) rfl rfl H.out.res size16 hb16 (by rw [barr_size]; rfl) (barr_one _) ?_))
      refine bodyPost_ret (results_cell2_blk rfl _ _ (n0 + 1) rfl (H.out.res.row _) Try.underlying31 rfl size16 hb16) rfl ⟨?_, ?_⟩
      · have e : enc K R l = st := by rw [enc_S, HST.out, hrR]
        rw [HR.out, e]
        rfl
      · obtain ⟨F', f1, f2, f3⟩ := HN.out
        have hF : ∀ x, F' x → x ≠ n0 ∧ x ≠ n0 + 1 := by
          intro x hx
          rcases f3 x hx with hh | hh
          · have := HGn.out x hh; omega
          · omega
        have ho : Only (fun x => x = n0 ∨ x = n0 + 1) w2 (wr.setRow (n0 + 1) (barr st)) := (H.out.only.mono (S' := fun x => x = n0 ∨ x = n0 + 1) (fun x hx => .inl hx)).row (.inl (.inr rfl)) _
        refine ⟨F', f1.keep ho (fun x hx hh => by rcases hh with hh | hh; exact (hF x hx).1 hh; exact (hF x hx).2 hh), ?_, fun x hx => (f3 x hx).imp id (fun hh => by have := HB0.out.size; omega)⟩
        refine ((Only.of_below HB0.out G).trans f2 (fun x hx => .inl hx)).trans ho (fun x hx => .inr ?_)
        have := HN0.out
        rcases hx with hx | hx <;> omega
end Go.Proofs.Ytihmgkjmebdioaa
