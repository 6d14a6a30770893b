/- SHA-512: a state made, written to. -/
import Derived.Test.YtideobdggdmeiaaSha6
import Derived.Test.YtideobdggdmeiaaOpPart
import Derived.Test.YtideobdggdmeiaaEnv
namespace Go.Proofs.Ytideobdggdmeiaa
open Go.RowKit
set_option maxRecDepth 100000
set_option linter.unusedVariables false
set_option linter.unusedSimpArgs false
def A6 : HashF := ⟨128, h06, C6, fun h => h.flatMap (layL 8), fun n => (128 :: List.replicate ((239 - n % 128) % 128 + 8) 0) ++ layL 8 (8 * (n : Int)), by decide⟩
/-- a state's cells -/
def sC6 (s : HSt) : Array Value := (Value.bool true :: (s.h.map (Value.int .u64) ++ (Value.int .u64 (s.n : Int) :: s.wt.map B))).toArray
structure Ok6 (s : HSt) : Prop where
  h : s.h.length = 8
  wt : s.wt.length = 128
theorem sC6_size {s : HSt} (hs : Ok6 s) : (sC6 s).size = 138 := by unfold sC6; simp [hs.h, hs.wt]
theorem sC6_one (s : HSt) : ∀ v ∈ (sC6 s).toList, v.oneCell' = true := by
  intro v hv
  unfold sC6 at hv
  simp only [List.mem_append, List.mem_map, List.mem_cons] at hv
  rcases hv with rfl | ⟨x, _, rfl⟩ | rfl | ⟨x, _, rfl⟩ <;> rfl
theorem sC6_made (s : HSt) : (sC6 s)[0]? = some (.bool true) := rfl
theorem sC6_n {s : HSt} (hs : Ok6 s) : (sC6 s)[9]? = some (.int .u64 (s.n : Int)) := by
  unfold sC6
  rw [List.getElem?_toArray, show 9 = 8 + 1 from rfl, List.getElem?_cons_succ, List.getElem?_append_right (by simp [hs.h])]
  simp [hs.h]
theorem sC6_h {s : HSt} (hs : Ok6 s) (i : Nat) (hi : i < 8) : (sC6 s)[1 + i]? = some (.int .u64 (s.h.getD i 0)) := by
  have hh := hs.h
  unfold sC6
  rw [List.getElem?_toArray, Nat.add_comm 1 i, List.getElem?_cons_succ, List.getElem?_append_left (by simp [hh]; exact hi), List.getElem?_map, List.getD_eq_getElem?_getD, List.getElem?_eq_getElem (by omega)]
  rfl
theorem sC6_setn {s : HSt} (hs : Ok6 s) (x : Nat) : (sC6 s).setIfInBounds 9 (.int .u64 (x : Int)) = sC6 ⟨s.h, x, s.wt⟩ := by
  have hh := hs.h
  unfold sC6
  rw [List.setIfInBounds_toArray, show 9 = 8 + 1 from rfl, List.set_cons_succ, List.set_append_right _ _ (by simp [hh]), List.length_map, hh]
  rfl
theorem feed6_ok {s : HSt} (hs : Ok6 s) (l : List UInt8) : Ok6 (A6.feed s l) := by
  refine ⟨?_, A6.feed_ok hs.wt l⟩
  have : ∀ (l : List UInt8) (s : HSt), s.h.length = 8 → (A6.feed s l).h.length = 8 := by
    intro l
    induction l with
    | nil => intro s h; exact h
    | cons x r ih =>
      intro s h
      rw [HashF.feed_cons]
      refine ih _ ?_
      unfold HashF.feed1
      split
      · exact (C6_len _ _).trans h
      · exact h
  exact this l s hs.h
theorem init6_ok : Ok6 A6.init := ⟨rfl, rfl⟩
theorem is6_any (b : Nat) (s : HSt) (w : World) (h : Blk w b 87 (sC6 s)) :
    Calls Try.prog 45 #[.pointer (some ⟨b, 0, none⟩)] w fun e w' => e = .returned (.bool true) ∧ w = w' := by
  have c := h.cellAt 0 (sC6_made s)
  clear h
  go_enter Try.func45, Try.ntmps45
  go_wp2_with fail
  go_ret
  exact ⟨rfl, rfl⟩
theorem new6_any (w : World) : Calls Try.prog 31 #[] w fun e w' => ∃ g, e = .returned (.pointer (some ⟨g, 0, none⟩)) ∧ w.heap.size ≤ g ∧ Blk w' g 87 (sC6 A6.init) ∧ Below w.heap.size w w' := by
  go_enter Try.func31, Try.ntmps31
  go_wp2_with fail
  refine (first6_any w).mono ?_
  rintro e w1 ⟨rfl, hb⟩
  have HB := Lib.hid hb
  clear hb
  go_wp2_with (with_reducible change wpList _ _ _ (Oper.mk (some 2) (Op.build _ _) _ _ _ _ :: _) _ _; refine wpList_value (.agg (sC6 A6.init)) rfl (by kernel_rfl) ?_)
  go_ret
  exact ⟨w1.heap.size, rfl, HB.out.size, Blk.new w1 _ _, HB.out.alloc HB.out.size _⟩
structure PInv6 (w : World) (b : Nat) (s : HSt) (l : List UInt8) (d : Nat) (uv : Value) (wr : World) : Prop where
  st : Blk wr b 87 (sC6 (A6.feed s (l.take d)))
  only : Only (fun x => x = b) w wr
  src : Bs wr uv (l.drop d)
  own : l ≠ [] → ∀ x, uv.ownBlock = some x → x ≠ b
theorem sC6_h8 (s : HSt) : sC6 s = ([Value.bool true] ++ (s.h.map (Value.int .u64) ++ (Value.int .u64 (s.n : Int) :: s.wt.map B))).toArray := rfl
theorem sC6_w8 (s : HSt) : sC6 s = ((Value.bool true :: (s.h.map (Value.int .u64) ++ [Value.int .u64 (s.n : Int)])) ++ (s.wt.map B ++ [])).toArray := by simp [sC6]
theorem size128 : (Try.prog.info? 85).map (·.size) = some 128 := by kernel_rfl
theorem mid_range {w : World} {b : Nat} {t : TypeId} (pre cs post : List Value) (h : Blk w b t (pre ++ (cs ++ post)).toArray) : w.rangeAt b pre.length cs := fun j v hv => by
  refine h.cellAt (pre.length + j) ?_
  have hj : j < cs.length := (List.getElem?_eq_some_iff.1 hv).1
  rw [List.getElem?_toArray, List.getElem?_append_right (by omega), Nat.add_sub_cancel_left, List.getElem?_append_left hj]
  exact hv
theorem u64_one (l : List Int) : ∀ v ∈ l.map (Value.int .u64), v.oneCell' = true := by
  intro v hv
  obtain ⟨x, _, rfl⟩ := List.mem_map.1 hv
  rfl
set_option maxHeartbeats 8000000 in
theorem write6_any (b : Nat) (s : HSt) (w : World) (u : Value) (l : List UInt8) (h : Blk w b 87 (sC6 s)) (hs : Ok6 s) (hu : Bs w u l) (hne : l ≠ [] → ∀ x, u.ownBlock = some x → x ≠ b) (hn : s.n + l.length ≤ 4611686018427387904) :
    Calls Try.prog 39 #[.pointer (some ⟨b, 0, none⟩), .pointer none, u] w fun e w' => e = .returned (.int .i64 0) ∧ Blk w' b 87 (sC6 (A6.feed s l)) ∧ Only (fun x => x = b) w w' := by
  have H1 := Lib.hid (is6_any b s w h)
  have HP : Hid (PInv6 w b s l 0 u w) := Lib.hid ⟨h, Only.refl _ _, hu, hne⟩
  have HOK := Lib.hid hs
  clear h hu hne hs
  go_enter Try.func39, Try.ntmps39
  go_wp2_with fail
  refine H1.out.mono ?_
  rintro e w1 ⟨rfl, rfl⟩
  go_wp2_with fail
  go_loopw [2] (fun uv wr => ∃ d : Nat, d ≤ l.length ∧ Hid (PInv6 w b s l d uv wr)) (fun uv _ => match uv with | .slice _ n _ => n | _ => 0)
  case atStart => exact ⟨0, Nat.zero_le _, HP⟩
  case round =>
    clear HP H1
    obtain ⟨d, hd, HV⟩ := hrel
    obtain ⟨ao, cap, rfl, hcap⟩ := HV.out.src.form
    have hdl : (l.drop d).length = l.length - d := List.length_drop
    by_cases hlt : d < l.length
    · obtain ⟨s1, hs1⟩ : ∃ x, A6.feed s (l.take d) = x := ⟨_, rfl⟩
      have HOK1 : Hid (Ok6 s1) := Lib.hid (by rw [← hs1]; exact feed6_ok HOK.out _)
      have hn1 : s1.n = s.n + d := by rw [← hs1, HashF.feed_n, List.length_take]; omega
      have HB : Hid (Blk wr b 87 (sC6 s1)) := by have h := HV.out.st; rw [hs1] at h; exact Lib.hid h
      have HS1 := Lib.hid hs1
      have HSR := Lib.hid HV.out.src
      obtain ⟨N, hN⟩ : ∃ N, (l.drop d).length = N := ⟨_, rfl⟩
      rw [hN] at hdl hcap ⊢
      have HNN := Lib.hid hN
      have hN0 : 0 < N := by omega
      have hd1 : decide ((0 : Int) < (N : Int)) = true := by simp; omega
      have c9 := HB.out.cellAt 9 (sC6_n HOK1.out)
      obtain ⟨m, hm⟩ : ∃ m, s1.n = m := ⟨_, rfl⟩
      rw [hm] at c9 hn1
      have HM := Lib.hid hm
      have HDL := Lib.hid hdl
      have HN1 := Lib.hid hn1
      obtain ⟨r, hr⟩ : ∃ r, m % 128 = r := ⟨_, rfl⟩
      have r128 : r < 128 := by omega
      have hmod : (m : Int).tmod 128 = (r : Int) := by rw [Int.tmod_eq_emod_of_nonneg (by omega)]; omega
      have hmod2 : (m : Int) % 128 = (r : Int) := by omega
      have hwr0 : IntKind.i64.wrap (r : Int) = (r : Int) := IntWalk.i64_in _ (by omega)
      have HRR := Lib.hid hr
      clear hm hs1 hN hdl hn1 hr
      have hsl : ∀ w', (Instr.sliceAt 85 (.pointer (some ⟨b, 10, none⟩)) (some (.int .i64 (r : Int))) none none).run Try.prog w' = .ok (.slice (some ⟨b, 10 + r, none⟩) (128 - r) (128 - r)) w' := fun w' => by
        have hal : Try.prog.arrayLen 85 = 128 := by kernel_rfl
        rw [run_sliceAt_array_l w' 85 ⟨b, 10, none⟩ (by simp [Program.arrayLen, Program.elem, Try.underlying85]) .i64 (r : Int) (by omega) (by rw [hal]; omega)]
        have hsz : (sizeOf (Try.prog.elem 85)).run Try.prog w' = .ok 1 w' := by kernel_rfl
        rw [hsz, Result.andThen_ok, hal]
        unfold slicedAt
        rw [show ((r : Int)).toNat = r from by omega, if_neg (by omega), add_lit]
        simp
      obtain ⟨ao2, cap2, hv2, q1, q2, q3, q4⟩ := HSR.out.form
      injection hv2 with r1 r2 r3
      subst r1 r3
      obtain ⟨sb, so, rfl, _⟩ := q4 0 (by rw [HNN.out]; omega)
      obtain ⟨kk, hkk⟩ : ∃ kk, min N (128 - r) = kk := ⟨_, rfl⟩
      have hkN : kk ≤ N := by omega
      have hkr : kk ≤ 128 - r := by omega
      have hk0 : 0 < kk := by omega
      have csl : (((l.drop d).take kk).map B).length = kk := by rw [List.length_map, List.length_take, HNN.out]; omega
      have hw1 : s1.wt.length = 128 := HOK1.out.wt
      have hh8 := HOK1.out.h
      have hsrc : ∀ j v, (((l.drop d).take kk).map B)[j]? = some v → wr.cell? ((⟨sb, so, none⟩ : Addr).add j) = some v := by
        intro jj v hv
        have hjk : jj < kk := by have := (List.getElem?_eq_some_iff.1 hv).1; omega
        obtain ⟨b2, o2, hb2, hc2⟩ := q4 jj (by rw [HNN.out]; omega)
        injection hb2 with hb2
        injection hb2 with t1 t2 _
        subst t1 t2
        rw [add_lit]
        refine (show wr.cell? ⟨sb, so + jj, none⟩ = _ from hc2).trans ?_
        rw [← hv, List.getElem?_map, List.getElem?_take_of_lt hjk]
        have hlt2 : jj < (l.drop d).length := by rw [HNN.out]; omega
        rw [List.getD_eq_getElem?_getD, List.getElem?_eq_getElem hlt2]
        rfl
      have HSRC := Lib.hid hsrc
      have hcut : sC6 s1 = ((Value.bool true :: (s1.h.map (Value.int .u64) ++ (Value.int .u64 (s1.n : Int) :: (s1.wt.take r).map B))) ++ (((s1.wt.drop r).take kk).map B ++ (s1.wt.drop (r + kk)).map B)).toArray := by
        have e : s1.wt = s1.wt.take r ++ ((s1.wt.drop r).take kk ++ s1.wt.drop (r + kk)) := by
          rw [← List.drop_drop, List.take_append_drop, List.take_append_drop]
        unfold sC6
        conv => lhs; rw [e]
        simp
      obtain ⟨W, hW⟩ : ∃ W, HashF.over s1.wt r ((l.drop d).take kk) = W := ⟨_, rfl⟩
      have pl : ((l.drop d).take kk).length = kk := by rw [List.length_take, HNN.out]; omega
      have hWl : W.length = 128 := by rw [← hW]; simp [HashF.over, hw1, pl]; omega
      have HWE := Lib.hid hW
      have OK5 : Hid (Ok6 ⟨s1.h, m, W⟩) := Lib.hid ⟨hh8, hWl⟩
      have hcut2 : sC6 ⟨s1.h, m, W⟩ = ((Value.bool true :: (s1.h.map (Value.int .u64) ++ (Value.int .u64 (s1.n : Int) :: (s1.wt.take r).map B))) ++ (((l.drop d).take kk).map B ++ (s1.wt.drop (r + kk)).map B)).toArray := by
        unfold sC6
        rw [← hW, HM.out]
        simp [HashF.over, pl]
      have hpre : 10 + r = (Value.bool true :: (s1.h.map (Value.int .u64) ++ (Value.int .u64 (s1.n : Int) :: (s1.wt.take r).map B))).length := by simp [hh8, hw1]; omega
      have hold : (((l.drop d).take kk).map B).length = (((s1.wt.drop r).take kk).map B).length := by rw [csl, List.length_map, List.length_take, List.length_drop, hw1]; omega
      have HCUT := Lib.hid hcut
      have HCUT2 := Lib.hid hcut2
      have HPRE := Lib.hid hpre
      have HOLD := Lib.hid hold
      have HKK := Lib.hid hkk
      have HCSL := Lib.hid csl
      obtain ⟨q, hq⟩ : ∃ q, m + kk = q := ⟨_, rfl⟩
      have hw2 : IntKind.u64.wrap (kk : Int) = (kk : Int) := by rw [wrapU64]; omega
      have hw3 : IntKind.u64.wrap ((m : Int) + (kk : Int)) = (q : Int) := by rw [wrapU64]; have := HN1.out; omega
      have hw4 : IntKind.i64.wrap ((r : Int) + (kk : Int)) = ((r + kk : Nat) : Int) := by rw [IntWalk.i64_in _ (by omega)]; omega
      obtain ⟨rk, hrk⟩ : ∃ x, r + kk = x := ⟨_, rfl⟩
      rw [hrk] at hw4
      have HRK := Lib.hid hrk
      have HQ := Lib.hid hq
      have hNc : N ≤ cap := by have := hcap.1; omega
      clear hcut hcut2 hpre hold hsrc q1 q2 q3 q4 hW hWl hw1 hh8 pl hkk csl hrk hq
      go_upto_region 8 with ((with_reducible change wpList _ _ _ (Oper.mk _ (Op.call { callee := .builtin .copy, args := _, argTypes := _ }) _ _ _ _ :: _) _ _)
                             refine wpList_copy_part rfl (.tmp 25) (.tmp 26) 22 22 rfl 5 Try.underlying22 (by kernel_rfl) b (10 + r) (128 - r) (128 - r) ⟨sb, so, none⟩ N cap rfl rfl _ _ _ (((l.drop d).take kk).map B) HB.out HCUT.out HPRE.out HOLD.out (by rw [HCSL.out]; exact HKK.out.symm) HSRC.out (bytes_one _) ?_
                             intro w4 B4 O4
                             rw [← HCUT2.out] at B4
                             have B5 := Lib.hid B4
                             have O5 := Lib.hid O4
                             have c9 := B5.out.cellAt 9 (sC6_n OK5.out)
                             have f9 := B5.out.unfrozen 9
                             rw [HCSL.out]
                             clear B4 O4)
      obtain ⟨au, hau⟩ : ∃ au, (if cap = kk then some (⟨sb, so, none⟩ : Addr) else some ⟨sb, so + kk, none⟩) = au := ⟨_, rfl⟩
      obtain ⟨w5, hw5⟩ : ∃ y, w4.setCell ⟨b, 9, none⟩ (.int .u64 (q : Int)) = y := ⟨_, rfl⟩
      have B7 : Hid (Blk w5 b 87 (sC6 ⟨s1.h, q, W⟩)) := by
        have h := B5.out.set 9 (.int .u64 (q : Int))
        rw [sC6_setn OK5.out, hw5] at h
        exact Lib.hid h
      have OK7 : Hid (Ok6 ⟨s1.h, q, W⟩) := Lib.hid ⟨OK5.out.h, OK5.out.wt⟩
      have O7 : Hid (Only (fun x => x = b) wr w5) := by
        have h := O5.out.set (p := ⟨b, 9, none⟩) (.inl rfl) (.int .u64 (q : Int))
        rw [hw5] at h
        exact Lib.hid h
      have HFD : Hid (A6.feed s (l.take (d + kk)) = A6.feed s1 ((l.drop d).take kk)) := Lib.hid (by rw [List.take_add, HashF.feed_app, HS1.out])
      have FIN : Hid (∀ wx, Blk wx b 87 (sC6 (A6.feed s1 ((l.drop d).take kk))) → Only (fun x => x = b) w5 wx → Hid (PInv6 w b s l (d + kk) (.slice au (N - kk) (cap - kk)) wx)) := by
        refine Lib.hid fun wx hb ho => Lib.hid ⟨?_, ?_, ?_, ?_⟩
        · rw [HFD.out]; exact hb
        · exact HV.out.only.trans (O7.out.trans ho (fun x hx => .inl hx)) (fun x hx => .inl hx)
        · have h3 := Bs.cut HSR.out kk (by rw [HNN.out]; exact hkN)
          rw [HNN.out, List.drop_drop, hau] at h3
          have hne := HV.out.own (fun h => by rw [h] at hlt; simp at hlt)
          exact h3.only (O7.out.trans ho (fun x hx => .inl hx)) (fun x hx => hne x (by rw [← hau] at hx; by_cases e : cap = kk <;> simpa [Value.ownBlock, e] using hx))
        · intro h0
          have hne := HV.out.own h0
          exact fun x hx => hne x (by rw [← hau] at hx; by_cases e : cap = kk <;> simpa [Value.ownBlock, e] using hx)
      have hdk : d + kk ≤ l.length := by have := HDL.out; omega
      rw [hau, hw5]
      clear hau hw5 B5 O5 c9 f9 O7
      by_cases hz : rk = 128
      · subst hz
        have HFE : Hid (A6.feed s1 ((l.drop d).take kk) = ⟨C6 s1.h W, q, List.replicate 128 0⟩) := by
          have hl : ((l.drop d).take kk).length = kk := by rw [List.length_take, HNN.out]; omega
          have h1 := HQ.out
          have h2 := HRR.out
          have h3 := HRK.out
          have h := A6.feed_full HOK1.out.wt ((l.drop d).take kk) (by show s1.n % 128 + _ = 128; rw [hl, HM.out]; omega)
          refine Lib.hid (h.trans ?_)
          show (⟨C6 s1.h (HashF.over s1.wt (s1.n % 128) ((l.drop d).take kk)), s1.n + ((l.drop d).take kk).length, List.replicate 128 0⟩ : HSt) = _
          rw [hl, HM.out, h2, HWE.out, h1]
        have hCl : (C6 s1.h W).length = 8 := (C6_len _ _).trans OK7.out.h
        obtain ⟨CC, hCC⟩ : ∃ x, C6 s1.h W = x := ⟨_, rfl⟩
        rw [hCC] at HFE hCl
        have HCC := Lib.hid hCC
        have HCL := Lib.hid hCl
        clear hCC hCl HRK
        go_upto_region 9 with fail
        go_cut [] from 44 to 59 (fun wx => Hid (Blk wx b 87 (sC6 ⟨CC, q, W⟩) ∧ Only (fun x => x = b) w5 wx))
        case first =>
          refine hd_start (fun _ => True) (by kernel_rfl) ?_
          intro w6 hw'
          have B6 : Hid (Blk w6 b 87 (sC6 ⟨s1.h, q, W⟩)) := by rw [hw']; exact B7
          have O6 : Hid (Only (fun x => x = b) w5 w6) := by rw [hw']; exact Lib.hid ((Only.refl _ _).draw 1)
          have hS0 : True := True.intro
          have hS2 : True := True.intro
          clear hw'
          have R1 : Hid (w6.rangeAt b 1 (s1.h.map (Value.int .u64))) := by
            have h := B6.out
            rw [sC6_h8] at h
            exact Lib.hid (mid_range [Value.bool true] _ _ h)
          have R2 : Hid (w6.rangeAt b 10 (W.map B)) := by
            have h := B6.out
            rw [sC6_w8] at h
            have h2 := mid_range _ _ _ h
            rw [show (Value.bool true :: (s1.h.map (Value.int .u64) ++ [Value.int .u64 (q : Int)])).length = 10 from by simp [OK7.out.h]] at h2
            exact Lib.hid h2
          refine hd_take (v := ?_) 0 rfl (by kernel_rfl) (fun _ _ d _ _ h => (by cases d <;> exact h)) (by kernel_rfl) hS0 (fun w' hS => ?_) ?_
          rotate_left
          focus (clear hS; go_simp; try rfl; done)
          simp only [List.getElem_toArray, List.getElem_cons_succ, List.getElem_cons_zero, Act.put, List.setIfInBounds_toArray, List.set_cons_zero, List.set_cons_succ]
          refine hd_take (v := ?_) 1 rfl (by kernel_rfl) (fun _ _ d _ _ h => (by cases d <;> exact h)) (by kernel_rfl) hS0 (fun w' hS => ?_) ?_
          rotate_left
          focus (clear hS; go_simp; try rfl; done)
          simp only [List.getElem_toArray, List.getElem_cons_succ, List.getElem_cons_zero, Act.put, List.setIfInBounds_toArray, List.set_cons_zero, List.set_cons_succ]
          refine hd_take (v := ?_) 2 rfl (by kernel_rfl) (fun _ _ d _ _ h => (by cases d <;> exact h)) (by kernel_rfl) hS0 (fun w' hS => ?_) ?_
          rotate_left
          focus (clear hS; go_simp; try rfl; done)
          simp only [List.getElem_toArray, List.getElem_cons_succ, List.getElem_cons_zero, Act.put, List.setIfInBounds_toArray, List.set_cons_zero, List.set_cons_succ]
          refine hd_take (v := ?_) 3 rfl (by kernel_rfl) (fun _ _ d _ _ h => (by cases d <;> exact h)) (by kernel_rfl) hS0 (fun w' hS => ?_) ?_
          rotate_left
          focus (clear hS; go_simp; try rfl; done)
          simp only [List.getElem_toArray, List.getElem_cons_succ, List.getElem_cons_zero, Act.put, List.setIfInBounds_toArray, List.set_cons_zero, List.set_cons_succ]
          refine hd_take (v := ?_) 4 rfl (by kernel_rfl) (fun _ _ d _ _ h => (by cases d <;> exact h)) (by kernel_rfl) hS0 (fun w' hS => ?_) ?_
          rotate_left
          focus (clear hS; go_simp; try rfl; done)
          simp only [List.getElem_toArray, List.getElem_cons_succ, List.getElem_cons_zero, Act.put, List.setIfInBounds_toArray, List.set_cons_zero, List.set_cons_succ]
          refine hd_take (v := ?_) 6 rfl (by kernel_rfl) (fun _ _ d _ _ h => (by cases d <;> exact h)) (by kernel_rfl) hS0 (fun w' hS => ?_) ?_
          rotate_left
          focus (clear hS; go_simp; try rfl; done)
          simp only [List.getElem_toArray, List.getElem_cons_succ, List.getElem_cons_zero, Act.put, List.setIfInBounds_toArray, List.set_cons_zero, List.set_cons_succ]
          refine hd_take (v := ?_) 7 rfl (by kernel_rfl) (fun _ _ d _ _ h => (by cases d <;> exact h)) (by kernel_rfl) hS0 (fun w' hS => ?_) ?_
          rotate_left
          focus (clear hS; go_simp; try rfl; done)
          simp only [List.getElem_toArray, List.getElem_cons_succ, List.getElem_cons_zero, Act.put, List.setIfInBounds_toArray, List.set_cons_zero, List.set_cons_succ]
          refine hd_take (v := ?_) 8 rfl (by kernel_rfl) (fun _ _ d _ _ h => (by cases d <;> exact h)) (by kernel_rfl) hS0 (fun w' hS => ?_) ?_
          rotate_left
          focus (clear hS; go_simp; try rfl; done)
          simp only [List.getElem_toArray, List.getElem_cons_succ, List.getElem_cons_zero, Act.put, List.setIfInBounds_toArray, List.set_cons_zero, List.set_cons_succ]
          refine hd_take (v := ?_) 9 rfl (by kernel_rfl) (fun _ _ d _ _ h => (by cases d <;> exact h)) (by kernel_rfl) hS0 (fun w' hS => ?_) ?_
          rotate_left
          focus (clear hS; go_simp; try rfl; done)
          simp only [List.getElem_toArray, List.getElem_cons_succ, List.getElem_cons_zero, Act.put, List.setIfInBounds_toArray, List.set_cons_zero, List.set_cons_succ]
          refine hd_take (v := ?_) 10 rfl (by kernel_rfl) (fun _ _ d _ _ h => (by cases d <;> exact h)) (by kernel_rfl) hS0 (fun w' hS => ?_) ?_
          rotate_left
          focus (clear hS; go_simp; try rfl; done)
          simp only [List.getElem_toArray, List.getElem_cons_succ, List.getElem_cons_zero, Act.put, List.setIfInBounds_toArray, List.set_cons_zero, List.set_cons_succ]
          have z1 : (Try.prog.info? 83).map (·.size) = some (s1.h.map (Value.int .u64)).length := by rw [List.length_map, OK7.out.h]; exact size8w
          have z2 : (Try.prog.info? 85).map (·.size) = some (W.map B).length := by rw [List.length_map, OK7.out.wt]; exact size128
          refine hd_two 5 11 (by kernel_rfl) ?_ ?_
          refine op_run (v := .agg (wc64 s1.h)) rfl (by kernel_rfl) (run_ldm rfl Try.underlying83 rfl z1 R1.out) ?_
          refine ⟨True.intro, ?_⟩
          simp only [List.getElem_toArray, List.getElem_cons_succ, List.getElem_cons_zero, Act.put, List.setIfInBounds_toArray, List.set_cons_zero, List.set_cons_succ]
          refine hd_one 11 (by kernel_rfl) ?_
          refine op_run (v := .agg (barr W)) rfl (by kernel_rfl) (run_ldm rfl Try.underlying85 rfl z2 R2.out) ?_
          refine ⟨True.intro, ?_⟩
          simp only [List.getElem_toArray, List.getElem_cons_succ, List.getElem_cons_zero, Act.put, List.setIfInBounds_toArray, List.set_cons_zero, List.set_cons_succ]
          rotate_left
          refine op_run (v := .agg (barr W)) rfl (by kernel_rfl) (run_ldm rfl Try.underlying85 rfl z2 R2.out) ?_
          refine ⟨True.intro, ?_⟩
          simp only [List.getElem_toArray, List.getElem_cons_succ, List.getElem_cons_zero, Act.put, List.setIfInBounds_toArray, List.set_cons_zero, List.set_cons_succ]
          refine hd_one 5 (by kernel_rfl) ?_
          refine op_run (v := .agg (wc64 s1.h)) rfl (by kernel_rfl) (run_ldm rfl Try.underlying83 rfl z1 R1.out) ?_
          refine ⟨True.intro, ?_⟩
          simp only [List.getElem_toArray, List.getElem_cons_succ, List.getElem_cons_zero, Act.put, List.setIfInBounds_toArray, List.set_cons_zero, List.set_cons_succ]
          all_goals
            clear z1 z2
            refine hd_one 12 (by kernel_rfl) ?_
            refine op_call rfl (by kernel_rfl) (by go_simp; first | exact ⟨rfl, rfl⟩ | rfl) ?_
            refine (comp6_any s1.h W w6 OK7.out.h OK7.out.wt).mono ?_
            rintro e w7 ⟨rfl, hb⟩
            have B8 := Lib.hid (B6.out.below hb B6.out.lt)
            have O8 := Lib.hid (O6.out.trans (Only.nothing hb) (fun _ h => h.elim))
            clear hb R1 R2
            rw [HCC.out]
            refine ⟨_, rfl, hS2, ?_⟩
            simp only [List.getElem_toArray, List.getElem_cons_succ, List.getElem_cons_zero, Act.put, List.setIfInBounds_toArray, List.set_cons_zero, List.set_cons_succ]
            refine hd_take (v := ?_) 13 rfl (by kernel_rfl) (fun _ _ d _ _ h => (by cases d <;> exact h)) (by kernel_rfl) hS0 (fun w' hS => ?_) ?_
            rotate_left
            focus (clear hS; go_simp; try rfl; done)
            simp only [List.getElem_toArray, List.getElem_cons_succ, List.getElem_cons_zero, Act.put, List.setIfInBounds_toArray, List.set_cons_zero, List.set_cons_succ]
            refine hd_take (v := ?_) 14 rfl (by kernel_rfl) (fun _ _ d _ _ h => (by cases d <;> exact h)) (by kernel_rfl) hS0 (fun w' hS => ?_) ?_
            rotate_left
            focus (clear hS; go_simp; try rfl; done)
            simp only [List.getElem_toArray, List.getElem_cons_succ, List.getElem_cons_zero, Act.put, List.setIfInBounds_toArray, List.set_cons_zero, List.set_cons_succ]
            refine hd_one 15 (by kernel_rfl) ?_
            refine op_stm b 1 (CC.map (Value.int .u64)) [Value.bool true] (s1.h.map (Value.int .u64)) (Value.int .u64 (q : Int) :: W.map B) rfl (by kernel_rfl) rfl rfl B8.out (sC6_h8 _) rfl (by rw [List.length_map, HCL.out]; exact size8w) (by rw [List.length_map, List.length_map, HCL.out, OK7.out.h]) (u64_one _) ?_
            intro w8 B9 O9
            have HB9 : Hid (Blk w8 b 87 (sC6 ⟨CC, q, W⟩)) := Lib.hid B9
            have HO9 := Lib.hid (O8.out.trans O9 (fun x hx => .inl hx))
            clear B9 O9
            refine ⟨True.intro, ?_⟩
            simp only [List.getElem_toArray, List.getElem_cons_succ, List.getElem_cons_zero, Act.put, List.setIfInBounds_toArray, List.set_cons_zero, List.set_cons_succ]
            refine hd_done (by kernel_rfl) ?_
            go_wp2
            go_meet
            exact Lib.hid ⟨HB9.out, HO9.out⟩
        case rest =>
          have HB8 : Hid (Blk wc b 87 (sC6 ⟨CC, q, W⟩)) := Lib.hid hcut.out.1
          have HO8 : Hid (Only (fun x => x = b) w5 wc) := Lib.hid hcut.out.2
          have hcs2 : ((Value.bool true :: (CC.map (Value.int .u64) ++ [Value.int .u64 (q : Int)])) ++ (List.replicate 128 (Value.int .u8 0) ++ [])).toArray = sC6 ⟨CC, q, List.replicate 128 0⟩ := by
            simp only [sC6, List.append_assoc, List.cons_append, List.nil_append, List.append_nil, List.map_replicate]
            rfl
          have HCS2 := Lib.hid hcs2
          clear hcs2 hcut
          go_wp2_with (first
            | (with_reducible change wpList _ _ _ (Oper.mk _ (Op.build _ _) _ _ _ _ :: _) _ _; refine wpList_value (.agg ((List.replicate 128 (Value.int .u8 0)).toArray)) rfl (by kernel_rfl) ?_)
            | (with_reducible change wpList _ _ _ (Oper.mk _ (Op.store _ _ _) _ _ _ _ :: _) _ _
               refine wpList_store_part b 10 (List.replicate 128 (Value.int .u8 0)) rfl rfl (Value.bool true :: (CC.map (Value.int .u64) ++ [Value.int .u64 (q : Int)])) (W.map B) [] HB8.out (sC6_w8 _) (by simp [HCL.out]) (by kernel_rfl) (by simp [OK7.out.wt]) (by intro v hv; rw [List.eq_of_mem_replicate hv]; rfl) ?_
               intro wz hb9 ho9
               rw [HCS2.out, ← HFE.out] at hb9
               have HN := Lib.hid (FIN.out wz hb9 (HO8.out.trans ho9 (fun x hx => .inl hx)))
               clear hb9 ho9))
          exact ⟨⟨d + kk, hdk, HN.out⟩, by show N - kk < N; omega⟩
      · have hzf : ((rk : Int) == 128) = false := by simp; omega
        have HFE : Hid (A6.feed s1 ((l.drop d).take kk) = ⟨s1.h, q, W⟩) := by
          have hl : ((l.drop d).take kk).length = kk := by rw [List.length_take, HNN.out]; omega
          have h1 := HQ.out
          have h2 := HRR.out
          have h3 := HRK.out
          have h := A6.feed_part HOK1.out.wt ((l.drop d).take kk) (by show s1.n % 128 + _ < 128; rw [hl, HM.out]; omega)
          refine Lib.hid (h.trans ?_)
          show (⟨s1.h, s1.n + ((l.drop d).take kk).length, HashF.over s1.wt (s1.n % 128) ((l.drop d).take kk)⟩ : HSt) = _
          rw [hl, HM.out, h2, HWE.out, h1]
        have HN := Lib.hid (FIN.out w5 (by rw [HFE.out]; exact B7.out) (Only.refl _ _))
        go_wp2_with fail
        exact ⟨⟨d + kk, hdk, HN.out⟩, by show N - kk < N; omega⟩
    · obtain rfl : d = l.length := by omega
      have h0 : (l.drop l.length).length = 0 := by rw [hdl]; omega
      rw [h0]
      have HE : Hid (Blk wr b 87 (sC6 (A6.feed s l)) ∧ Only (fun x => x = b) w wr) := by
        have h1 := HV.out.st
        rw [List.take_length] at h1
        exact Lib.hid ⟨h1, HV.out.only⟩
      clear HV hdl h0 hcap
      go_wp2
      go_ret
      exact ⟨rfl, HE.out⟩
end Go.Proofs.Ytideobdggdmeiaa
