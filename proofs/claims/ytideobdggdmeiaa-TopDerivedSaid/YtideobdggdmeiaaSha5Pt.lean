/- SHA-256: bytes put into a state. -/
import Derived.Test.YtideobdggdmeiaaSha5St
import Derived.Test.YtideobdggdmeiaaOpCopy
import Derived.Test.YtideobdggdmeiaaEnv
namespace Go.Proofs.Ytideobdggdmeiaa
open Go.RowKit
set_option maxRecDepth 100000
set_option linter.unusedVariables false
set_option linter.unusedSimpArgs false
theorem feed5_ok {s : HSt} (hs : Ok5 s) (l : List UInt8) : Ok5 (A5.feed s l) := by
  refine ⟨?_, A5.feed_ok hs.wt l⟩
  have : ∀ (l : List UInt8) (s : HSt), s.h.length = 8 → (A5.feed s l).h.length = 8 := by
    intro l
    induction l with
    | nil => intro s h; exact h
    | cons x r ih =>
      intro s h
      rw [HashF.feed_cons]
      refine ih _ ?_
      unfold HashF.feed1
      split
      · exact (C5_len _ _).trans h
      · exact h
  exact this l s hs.h
theorem sC5_setn {s : HSt} (hs : Ok5 s) (x : Nat) : (sC5 s).setIfInBounds 8 (.int .i64 (x : Int)) = sC5 ⟨s.h, x, s.wt⟩ := by
  have hh := hs.h
  unfold sC5
  rw [List.setIfInBounds_toArray, List.set_append_right _ _ (by simp [hh]), List.length_map, hh]
  rfl
structure PInv5 (w : World) (b : Nat) (s : HSt) (l : List UInt8) (d : Nat) (uv : Value) (wr : World) : Prop where
  st : Blk wr b 80 (sC5 (A5.feed s (l.take d)))
  only : Only (fun x => x = b) w wr
  src : Bs wr uv (l.drop d)
  own : l ≠ [] → ∀ x, uv.ownBlock = some x → x ≠ b
set_option maxHeartbeats 8000000 in
theorem put5_any (b : Nat) (s : HSt) (w : World) (u : Value) (l : List UInt8) (h : Blk w b 80 (sC5 s)) (hs : Ok5 s) (hu : Bs w u l) (hne : l ≠ [] → ∀ x, u.ownBlock = some x → x ≠ b) (hn : s.n + l.length ≤ 4611686018427387904) :
    Calls Try.prog 36 #[.pointer (some ⟨b, 0, none⟩), .pointer none, u] w fun e w' => e = .returned (.tuple #[]) ∧ Blk w' b 80 (sC5 (A5.feed s l)) ∧ Only (fun x => x = b) w w' := by
  have HP : Hid (PInv5 w b s l 0 u w) := Lib.hid ⟨h, Only.refl _ _, hu, hne⟩
  have HOK := Lib.hid hs
  clear h hu hne hs
  go_enter Try.func36, Try.ntmps36
  go_wp2_with fail
  go_loopw [2, 6] (fun uv _ wr => ∃ d : Nat, d ≤ l.length ∧ Hid (PInv5 w b s l d uv wr)) (fun uv _ _ => match uv with | .slice _ n _ => n | _ => 0)
  case atStart => exact ⟨0, Nat.zero_le _, HP⟩
  case round =>
    clear HP
    obtain ⟨d, hd, HV⟩ := hrel
    obtain ⟨ao, cap, rfl, hcap⟩ := HV.out.src.form
    have hdl : (l.drop d).length = l.length - d := List.length_drop
    by_cases hlt : d < l.length
    · obtain ⟨s1, hs1⟩ : ∃ x, A5.feed s (l.take d) = x := ⟨_, rfl⟩
      have HOK1 : Hid (Ok5 s1) := Lib.hid (by rw [← hs1]; exact feed5_ok HOK.out _)
      have hn1 : s1.n = s.n + d := by rw [← hs1, HashF.feed_n, List.length_take]; omega
      have HB : Hid (Blk wr b 80 (sC5 s1)) := by have h := HV.out.st; rw [hs1] at h; exact Lib.hid h
      have HS1 := Lib.hid hs1
      have HSR := Lib.hid HV.out.src
      obtain ⟨N, hN⟩ : ∃ N, (l.drop d).length = N := ⟨_, rfl⟩
      rw [hN] at hdl hcap ⊢
      have HNN := Lib.hid hN
      have hN0 : 0 < N := by omega
      have hd1 : decide ((0 : Int) < (N : Int)) = true := by simp; omega
      have c8 := HB.out.cellAt 8 (sC5_n HOK1.out)
      obtain ⟨m, hm⟩ : ∃ m, s1.n = m := ⟨_, rfl⟩
      rw [hm] at c8 hn1
      have HM := Lib.hid hm
      have HDL := Lib.hid hdl
      have HN1 := Lib.hid hn1
      have hmod : (m : Int).tmod 64 = ((m % 64 : Nat) : Int) := by rw [Int.tmod_eq_emod_of_nonneg (by omega)]; omega
      obtain ⟨r, hr⟩ : ∃ r, m % 64 = r := ⟨_, rfl⟩
      have r64 : r < 64 := by omega
      rw [hr] at hmod
      have HRR := Lib.hid hr
      clear hm hs1 hN hdl hn1 hr
      have hsl : ∀ w', (Instr.sliceAt 78 (.pointer (some ⟨b, 9, none⟩)) (some (.int .i64 (r : Int))) none none).run Try.prog w' = .ok (.slice (some ⟨b, 9 + r, none⟩) (64 - r) (64 - r)) w' := fun w' => by
        have hal : Try.prog.arrayLen 78 = 64 := by kernel_rfl
        rw [run_sliceAt_array_l w' 78 ⟨b, 9, none⟩ (by simp [Program.arrayLen, Program.elem, Try.underlying78]) .i64 (r : Int) (by omega) (by rw [hal]; omega)]
        have hsz : (sizeOf (Try.prog.elem 78)).run Try.prog w' = .ok 1 w' := by kernel_rfl
        rw [hsz, Result.andThen_ok, hal]
        unfold slicedAt
        rw [show ((r : Int)).toNat = r from by omega, if_neg (by omega), add_lit]
        simp
      obtain ⟨S, hS⟩ : ∃ S : World → Prop, S = fun wx => wx.cell? ⟨b, 8, none⟩ = some (.int .i64 (m : Int)) := ⟨_, rfl⟩
      have FN : ∀ wx, S wx → wx.cell? ⟨b, 8, none⟩ = some (.int .i64 (m : Int)) := fun wx h => by rw [hS] at h; exact h
      have FS : ∀ wx, S wx → (Instr.sliceAt 78 (.pointer (some ⟨b, 9, none⟩)) (some (.int .i64 (r : Int))) none none).run Try.prog wx = .ok (.slice (some ⟨b, 9 + r, none⟩) (64 - r) (64 - r)) wx := fun wx _ => hsl wx
      have SF : Hid (∀ wx, wx.cell? ⟨b, 8, none⟩ = some (.int .i64 (m : Int)) → S wx) := Lib.hid (fun wx h => by rw [hS]; exact h)
      have S1 : S wr := SF.out wr c8
      clear hS hsl c8
      go_upto_region 1 with fail
      refine hd_start S (by kernel_rfl) ?_
      intro w3 hw'
      have S3 : S w3 := by rw [hw']; exact SF.out _ (show wr.cell? ⟨b, 8, none⟩ = _ from FN _ S1)
      refine hd_take (v := ?_) 0 rfl (by kernel_rfl) (fun _ _ d _ _ h => (by cases d <;> exact h)) (by kernel_rfl) S3 (fun w' hS => ?_) ?_
      rotate_left
      focus (clear hS; go_simp; try rfl; done)
      simp only [List.getElem_toArray, List.getElem_cons_succ, List.getElem_cons_zero, Act.put, List.setIfInBounds_toArray, List.set_cons_zero, List.set_cons_succ]
      refine hd_take (v := ?_) 1 rfl (by kernel_rfl) (fun _ _ d _ _ h => (by cases d <;> exact h)) (by kernel_rfl) S3 (fun w' hS => ?_) ?_
      rotate_left
      focus (clear hS; go_simp; try rfl; done)
      simp only [List.getElem_toArray, List.getElem_cons_succ, List.getElem_cons_zero, Act.put, List.setIfInBounds_toArray, List.set_cons_zero, List.set_cons_succ]
      refine hd_take (v := ?_) 2 rfl (by kernel_rfl) (fun _ _ d _ _ h => (by cases d <;> exact h)) (by kernel_rfl) S3 (fun w' hS => ?_) ?_
      rotate_left
      focus (clear hS; go_simp; try rfl; done)
      simp only [List.getElem_toArray, List.getElem_cons_succ, List.getElem_cons_zero, Act.put, List.setIfInBounds_toArray, List.set_cons_zero, List.set_cons_succ]
      refine hd_take (v := ?_) 3 rfl (by kernel_rfl) (fun _ _ d _ _ h => (by cases d <;> exact h)) (by kernel_rfl) S3 (fun w' hS => ?_) ?_
      rotate_left
      focus (clear hS; go_simp; try rfl; done)
      simp only [List.getElem_toArray, List.getElem_cons_succ, List.getElem_cons_zero, Act.put, List.setIfInBounds_toArray, List.set_cons_zero, List.set_cons_succ]
      refine hd_take (v := ?_) 4 rfl (by kernel_rfl) (fun _ _ d _ _ h => (by cases d <;> exact h)) (by kernel_rfl) S3 (fun w' hS => ?_) ?_
      rotate_left
      focus (clear hS; go_simp; try rfl; done)
      simp only [List.getElem_toArray, List.getElem_cons_succ, List.getElem_cons_zero, Act.put, List.setIfInBounds_toArray, List.set_cons_zero, List.set_cons_succ]
      refine hd_take (v := ?_) 5 rfl (by kernel_rfl) (fun _ _ d _ _ h => (by cases d <;> exact h)) (by kernel_rfl) S3 (fun w' hS => ?_) ?_
      rotate_left
      focus (clear hS; go_simp; try rfl; done)
      simp only [List.getElem_toArray, List.getElem_cons_succ, List.getElem_cons_zero, Act.put, List.setIfInBounds_toArray, List.set_cons_zero, List.set_cons_succ]
      refine hd_take (v := ?_) 6 rfl (by kernel_rfl) (fun _ _ d _ _ h => (by cases d <;> exact h)) (by kernel_rfl) S3 (fun w' hS => ?_) ?_
      rotate_left
      focus (have q0 := FN w' hS; clear hS; go_simp; try rfl; done)
      simp only [List.getElem_toArray, List.getElem_cons_succ, List.getElem_cons_zero, Act.put, List.setIfInBounds_toArray, List.set_cons_zero, List.set_cons_succ]
      refine hd_take (v := ?_) 7 rfl (by kernel_rfl) (fun _ _ d _ _ h => (by cases d <;> exact h)) (by kernel_rfl) S3 (fun w' hS => ?_) ?_
      rotate_left
      focus (clear hS; go_simp; try rfl; done)
      simp only [List.getElem_toArray, List.getElem_cons_succ, List.getElem_cons_zero, Act.put, List.setIfInBounds_toArray, List.set_cons_zero, List.set_cons_succ]
      refine hd_take (v := ?_) 8 rfl (by kernel_rfl) (fun _ _ d _ _ h => (by cases d <;> exact h)) (by kernel_rfl) S3 (fun w' hS => ?_) ?_
      rotate_left
      focus (have q0 := FS w' hS; clear hS; go_simp; try rfl; done)
      simp only [List.getElem_toArray, List.getElem_cons_succ, List.getElem_cons_zero, Act.put, List.setIfInBounds_toArray, List.set_cons_zero, List.set_cons_succ]
      refine hd_take (v := ?_) 9 rfl (by kernel_rfl) (fun _ _ d _ _ h => (by cases d <;> exact h)) (by kernel_rfl) S3 (fun w' hS => ?_) ?_
      rotate_left
      focus (clear hS; go_simp; try rfl; done)
      simp only [List.getElem_toArray, List.getElem_cons_succ, List.getElem_cons_zero, Act.put, List.setIfInBounds_toArray, List.set_cons_zero, List.set_cons_succ]
      obtain ⟨ao2, cap2, hv2, q1, q2, q3, q4⟩ := HSR.out.form
      injection hv2 with r1 r2 r3
      subst r1 r3
      obtain ⟨sb, so, rfl, _⟩ := q4 0 (by rw [HNN.out]; omega)
      obtain ⟨kk, hkk⟩ : ∃ kk, min N (64 - r) = kk := ⟨_, rfl⟩
      have hkN : kk ≤ N := by omega
      have hkr : kk ≤ 64 - r := by omega
      have hk0 : 0 < kk := by omega
      have csl : (((l.drop d).take kk).map B).length = kk := by rw [List.length_map, List.length_take, HNN.out]; omega
      have hw1 : s1.wt.length = 64 := HOK1.out.wt
      have hsrc : ∀ j v, (((l.drop d).take kk).map B)[j]? = some v → w3.cell? ((⟨sb, so, none⟩ : Addr).add j) = some v := by
        intro jj v hv
        have hjk : jj < kk := by have := (List.getElem?_eq_some_iff.1 hv).1; omega
        obtain ⟨b2, o2, hb2, hc2⟩ := q4 jj (by rw [HNN.out]; omega)
        injection hb2 with hb2
        injection hb2 with t1 t2 _
        subst t1 t2
        rw [hw', add_lit]
        refine (show wr.cell? ⟨sb, so + jj, none⟩ = _ from hc2).trans ?_
        rw [← hv, List.getElem?_map, List.getElem?_take_of_lt hjk]
        have hlt2 : jj < (l.drop d).length := by rw [HNN.out]; omega
        rw [List.getD_eq_getElem?_getD, List.getElem?_eq_getElem hlt2]
        rfl
      have HB3 : Blk w3 b 80 (sC5 s1) := by rw [hw']; exact HB.out
      have hcut : sC5 s1 = ((s1.h.map (Value.int .u32) ++ (Value.int .i64 (s1.n : Int) :: (s1.wt.take r).map B)) ++ (((s1.wt.drop r).take kk).map B ++ ((s1.wt.drop (r + kk)).map B ++ [Value.bool true]))).toArray := by
        have e : s1.wt = s1.wt.take r ++ ((s1.wt.drop r).take kk ++ s1.wt.drop (r + kk)) := by
          rw [← List.drop_drop, List.take_append_drop, List.take_append_drop]
        unfold sC5
        conv => lhs; rw [e]
        simp
      have hh8 := HOK1.out.h
      refine hd_one 10 (by kernel_rfl) ?_
      refine op_copy rfl rfl (.tmp 18) (.tmp 19) 22 22 rfl 5 Try.underlying22 (by kernel_rfl) b (9 + r) (64 - r) (64 - r) ⟨sb, so, none⟩ N cap rfl rfl _ _ _ (((l.drop d).take kk).map B) HB3 hcut (by simp [hh8, hw1]; omega) (by rw [csl, List.length_map, List.length_take, List.length_drop, hw1]; omega) (by rw [csl]; exact hkk.symm) hsrc (bytes_one _) ?_
      intro w4 B4 O4
      obtain ⟨W, hW⟩ : ∃ W, HashF.over s1.wt r ((l.drop d).take kk) = W := ⟨_, rfl⟩
      have pl : ((l.drop d).take kk).length = kk := by rw [List.length_take, HNN.out]; omega
      have hWl : W.length = 64 := by rw [← hW]; simp [HashF.over, hw1, pl]; omega
      have B5 : Hid (Blk w4 b 80 (sC5 ⟨s1.h, m, W⟩)) := by
        have e : sC5 ⟨s1.h, m, W⟩ = ((s1.h.map (Value.int .u32) ++ (Value.int .i64 (s1.n : Int) :: (s1.wt.take r).map B)) ++ (((l.drop d).take kk).map B ++ ((s1.wt.drop (r + kk)).map B ++ [Value.bool true]))).toArray := by
          unfold sC5
          rw [← hW, HM.out]
          simp [HashF.over, pl]
        rw [e]
        exact Lib.hid B4
      have OK5 : Hid (Ok5 ⟨s1.h, m, W⟩) := Lib.hid ⟨hh8, hWl⟩
      have OK6 : Hid (Ok5 ⟨s1.h, m + kk, W⟩) := Lib.hid ⟨hh8, hWl⟩
      have c5 := B5.out.cellAt 8 (sC5_n OK5.out)
      dsimp only at c5
      have S4 := SF.out w4 c5
      have O5 : Hid (Only (fun x => x = b) wr w4) := by
        have h := (Only.refl (fun x => x = b) wr).draw 1
        rw [← hw'] at h
        exact Lib.hid (h.trans O4 (fun x hx => .inl hx))
      refine ⟨S4, ?_⟩
      simp only [List.getElem_toArray, List.getElem_cons_succ, List.getElem_cons_zero, Act.put, List.setIfInBounds_toArray, List.set_cons_zero, List.set_cons_succ]
      rw [csl]
      have HWE := Lib.hid hW
      clear B4 O4 hcut hsrc HB3 q1 q2 q3 q4 FN FS hw' hW hWl hw1 hh8 csl pl S3 S1 hmod
      refine hd_one 11 (by kernel_rfl) ?_
      refine op_run rfl (by kernel_rfl) (by go_simp; first | done | exact ⟨rfl, rfl⟩ | rfl) ?_
      refine ⟨S4, ?_⟩
      simp only [List.getElem_toArray, List.getElem_cons_succ, List.getElem_cons_zero, Act.put, List.setIfInBounds_toArray, List.set_cons_zero, List.set_cons_succ]
      refine hd_done (by kernel_rfl) ?_
      have f5 := B5.out.unfrozen 8
      obtain ⟨q, hq⟩ : ∃ q, m + kk = q := ⟨_, rfl⟩
      have hwr : IntKind.i64.wrap ((m : Int) + (kk : Int)) = (q : Int) := by rw [IntWalk.i64_in _ (by have := HN1.out; omega)]; omega
      have hNc : N ≤ cap := by have := hcap.1; omega
      rw [hq] at OK6
      have B6 : Hid (Blk (w4.setCell ⟨b, 8, none⟩ (.int .i64 (q : Int))) b 80 (sC5 ⟨s1.h, q, W⟩)) := by
        have h := B5.out.set 8 (.int .i64 (q : Int))
        rw [sC5_setn OK5.out] at h
        exact Lib.hid h
      have O6 := Lib.hid (O5.out.set (p := ⟨b, 8, none⟩) (.inl rfl) (.int .i64 (q : Int)))
      have hmod : (q : Int).tmod 64 = ((q % 64 : Nat) : Int) := by rw [Int.tmod_eq_emod_of_nonneg (by omega)]; omega
      have HQ := Lib.hid hq
      have HKK := Lib.hid hkk
      obtain ⟨r2, hr2⟩ : ∃ r, q % 64 = r := ⟨_, rfl⟩
      rw [hr2] at hmod
      have HR2 := Lib.hid hr2
      obtain ⟨w5, hw5⟩ : ∃ y, w4.setCell ⟨b, 8, none⟩ (.int .i64 (q : Int)) = y := ⟨_, rfl⟩
      have HFD : Hid (A5.feed s (l.take (d + kk)) = A5.feed s1 ((l.drop d).take kk)) := Lib.hid (by rw [List.take_add, HashF.feed_app, HS1.out])
      have FIN : Hid (∀ wx, Blk wx b 80 (sC5 (A5.feed s1 ((l.drop d).take kk))) → Only (fun x => x = b) w5 wx → Hid (PInv5 w b s l (d + kk) (.slice (if cap = kk then some ⟨sb, so, none⟩ else some ⟨sb, so + kk, none⟩) (N - kk) (cap - kk)) wx)) := by
        refine Lib.hid fun wx hb ho => Lib.hid ⟨?_, ?_, ?_, ?_⟩
        · rw [HFD.out]; exact hb
        · have h1 : Only (fun x => x = b) wr w5 := by rw [← hw5]; exact O6.out
          exact HV.out.only.trans (h1.trans ho (fun x hx => .inl hx)) (fun x hx => .inl hx)
        · have h1 : Only (fun x => x = b) wr w5 := by rw [← hw5]; exact O6.out
          have h3 := Bs.cut HSR.out kk (by rw [HNN.out]; exact hkN)
          rw [HNN.out, List.drop_drop] at h3
          have hne := HV.out.own (fun h => by rw [h] at hlt; simp at hlt)
          exact h3.only (h1.trans ho (fun x hx => .inl hx)) (fun x hx => hne x (by by_cases e : cap = kk <;> simpa [Value.ownBlock, e] using hx))
        · intro h0
          have hne := HV.out.own h0
          exact fun x hx => hne x (by by_cases e : cap = kk <;> simpa [Value.ownBlock, e] using hx)
      have B7 : Hid (Blk w5 b 80 (sC5 ⟨s1.h, q, W⟩)) := by rw [← hw5]; exact B6
      have c8 : w5.cell? ⟨b, 8, none⟩ = some (.int .i64 (q : Int)) := B7.out.cellAt 8 (sC5_n OK6.out)
      have hdk : d + kk ≤ l.length := by have := HDL.out; omega
      clear B5 O5 S4 hq hkk hr2 O6 B6
      go_upto_region 4 with fail
      try rw [hw5]
      clear hw5
      obtain ⟨au, hau⟩ : ∃ au, (if cap = kk then some (⟨sb, so, none⟩ : Addr) else some ⟨sb, so + kk, none⟩) = au := ⟨_, rfl⟩
      rw [hau] at FIN ⊢
      clear hau
      by_cases hz : r2 = 0
      · subst hz
        have HFE : Hid (A5.feed s1 ((l.drop d).take kk) = ⟨C5 s1.h W, q, List.replicate 64 0⟩) := by
          have hl : ((l.drop d).take kk).length = kk := by rw [List.length_take, HNN.out]; omega
          have h1 := HQ.out
          have h2 := HRR.out
          have h3 := HR2.out
          have h := A5.feed_full HOK1.out.wt ((l.drop d).take kk) (by show s1.n % 64 + _ = 64; rw [hl, HM.out]; omega)
          refine Lib.hid (h.trans ?_)
          show (⟨C5 s1.h (HashF.over s1.wt (s1.n % 64) ((l.drop d).take kk)), s1.n + ((l.drop d).take kk).length, List.replicate 64 0⟩ : HSt) = _
          rw [hl, HM.out, h2, HWE.out, h1]
        clear HR2
        go_wp2_with fail
        refine (comp5_any b ⟨s1.h, q, W⟩ w5 B7.out OK6.out).mono ?_
        rintro e w6 ⟨rfl, hb6, ho6⟩
        have HN := Lib.hid (FIN.out w6 (by rw [HFE.out]; exact hb6) ho6)
        clear hb6 ho6
        go_wp2_with fail
        exact ⟨⟨d + kk, hdk, HN.out⟩, by show N - kk < N; omega⟩
      · have hzf : ((r2 : Int) == 0) = false := by simp; omega
        have HFE : Hid (A5.feed s1 ((l.drop d).take kk) = ⟨s1.h, q, W⟩) := by
          have hl : ((l.drop d).take kk).length = kk := by rw [List.length_take, HNN.out]; omega
          have h1 := HQ.out
          have h2 := HRR.out
          have h3 := HR2.out
          have h := A5.feed_part HOK1.out.wt ((l.drop d).take kk) (by show s1.n % 64 + _ < 64; rw [hl, HM.out]; omega)
          refine Lib.hid (h.trans ?_)
          show (⟨s1.h, s1.n + ((l.drop d).take kk).length, HashF.over s1.wt (s1.n % 64) ((l.drop d).take kk)⟩ : HSt) = _
          rw [hl, HM.out, h2, HWE.out, h1]
        have HN := Lib.hid (FIN.out w5 (by rw [HFE.out]; exact B7.out) (Only.refl _ _))
        go_wp2_with fail
        exact ⟨⟨d + kk, hdk, HN.out⟩, by show N - kk < N; omega⟩
    · obtain rfl : d = l.length := by omega
      have h0 : (l.drop l.length).length = 0 := by rw [hdl]; omega
      rw [h0]
      have HE : Hid (Blk wr b 80 (sC5 (A5.feed s l)) ∧ Only (fun x => x = b) w wr) := by
        have h1 := HV.out.st
        rw [List.take_length] at h1
        exact Lib.hid ⟨h1, HV.out.only⟩
      clear HV hdl h0 hcap
      go_wp2
      exact bodyPost_end (results_none rfl _ _ _) rfl ⟨rfl, HE.out⟩
end Go.Proofs.Ytideobdggdmeiaa
