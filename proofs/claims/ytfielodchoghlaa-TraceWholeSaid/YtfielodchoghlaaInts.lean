/- The kit's functions on lists (Ints). Conditions: a list and six more fit into 2^47 bytes. -/
import Derived.Test.YtfielodchoghlaaRows
import Derived.Test.YtfielodchoghlaaLst
import Derived.Test.YtfielodchoghlaaTame
namespace Go.Proofs.Ytfielodchoghlaa
open Go.RowKit
set_option maxRecDepth 100000
set_option linter.unusedVariables false
set_option linter.unusedSimpArgs false
def KI : Knd Int := ⟨3, 1, fun x => [.int .i64 x], by decide, fun _ => rfl, fun x u hu => by simp at hu; subst hu; rfl⟩
theorem infoI : (Try.prog.info? 3).map (fun i => (i.zero, i.size, i.bytes)) = some (some (.int .i64 0), 1, 8) := by kernel_rfl
def mkI (k i : Int) : Int := -1000 * k - i - 7
theorem markI_any (k i : Int) (w : World) (hk : 0 ≤ k) (hk' : k ≤ 1000000) (hi : 0 ≤ i) (hi' : i ≤ 1000000000000000) :
    Calls Try.prog 38 #[.int .i64 k, .int .i64 i] w fun e w' => e = .returned (.int .i64 (mkI k i)) ∧ w = w' := by
  show Calls _ _ _ _ fun e w' => e = .returned (.int .i64 (-1000 * k - i - 7)) ∧ w = w'
  go_enter Try.func38, Try.ntmps38
  go_wp2
  go_ret
  exact ⟨rfl, rfl⟩
set_option maxHeartbeats 400000 in
theorem copyI_any (u : Value) (l : List Int) (w : World) (hu : KI.R w u l) (hl : l.length ≤ 17592186044416) : Calls Try.prog 37 #[u] w (KI.New l w) := by
  obtain ⟨i0, hi, hz0, hz1, hz2⟩ := info_parts infoI
  have hown0 : w.ownsRow 0 3 1 (.slice none 0 0) 0 [] := World.ownsRow_nil w 0 _ _
  obtain ⟨ao, cap, rfl, _, _, _⟩ := hu.any
  go_enter Try.func37, Try.ntmps37
  go_wp2_with (at_builtin; refine wpList_append_sl _ rfl _ _ 22 rfl 3 i0 _ 1 8 Try.underlying22 hi hz0 hz1 hz2 rfl (by decide) (.slice none 0 0) 0 [] rfl hown0 (.slice ao l.length cap) l.length (KI.fl l) rfl hu (by unfold maxLen; omega) (by omega) ?_)
  intro v' w1 hown hgrow hat
  have HN := Lib.hid ((Knd.Mk.nil KI w).whole (m := l) (N := l.length) (by simp) hown hgrow hat).new
  clear hown hgrow hat hown0 hi hz0 hz1 hz2
  go_wp2
  go_ret
  simpa using HN.out
set_option maxHeartbeats 1000000 in
theorem lentI_any (u : Value) (l : List Int) (w : World) (hu : KI.R w u l) (hl : l.length ≤ 17592186044410) : Calls Try.prog 8 #[u] w (KI.New (lentM mkI l) w) := by
  obtain ⟨i0, hi, hz0, hz1, hz2⟩ := info_parts infoI
  have HI := Lib.hid (And.intro hi (And.intro hz0 (And.intro hz1 hz2)))
  clear hi hz0 hz1 hz2
  go_enter Try.func8, Try.ntmps8
  go_wp2_with fail
  refine (copyI_any u l w hu (by omega)).mono ?_
  rintro e w0 ⟨v0, rfl, hr0⟩
  have HR0 : Hid (KI.Mk (l ++ mks mkI 7 0) w v0 w0) := Lib.hid (by rw [show l ++ mks mkI 7 0 = l from by simp [mks]]; exact hr0)
  clear hr0
  go_wp2_with fail
  go_loopw [3, 4] (fun o i w1 => ∃ k : Nat, k ≤ 6 ∧ i = .int .i64 (k : Int) ∧ Hid (KI.Mk (l ++ mks mkI 7 k) w o w1)) (fun _ i _ => 6 - (intOf i).toNat)
  case atStart => exact ⟨0, by omega, rfl, HR0⟩
  case round =>
    clear HR0
    obtain ⟨k, hk, rfl, HR⟩ := hrel
    by_cases hlt : k < 6
    · go_wp2_with fail
      refine (markI_any _ _ _ (by omega) (by omega) (by omega) (by omega)).mono ?_
      rintro e w' ⟨he, rfl⟩
      obtain ⟨x, hx⟩ : ∃ x, mkI 7 (k : Int) = x := ⟨_, rfl⟩
      rw [hx] at he
      subst he
      have HX := Lib.hid hx
      clear hx
      have HOWN := HR.out.alloc (.cells #[.int .i64 x] 3) (N := l.length + k) (by rw [List.length_append, mks_len])
      obtain ⟨hi, hz0, hz1, hz2⟩ := HI.out
      go_wp2_with (at_builtin; refine wpList_append_lies _ rfl _ _ 22 rfl 0 3 i0 _ 1 8 Try.underlying22 hi hz0 hz1 hz2 rfl (by decide) u3 (l.length + k) (KI.fl (l ++ mks mkI 7 k)) rfl HOWN ⟨wr.heap.size, 0, none⟩ 1 1 [.int .i64 x] rfl rfl (World.news_of_block (heap_alloc_new _ _)) (KI.one x) (by decide) (by unfold maxLen; omega) (by omega) (Nat.zero_le _) _ rfl ?_)
      intro g' cap' w2 hown hgrow hat hlt2
      have HN : Hid (KI.Mk (l ++ mks mkI 7 (k + 1)) w (.slice (some ⟨g', 0, none⟩) (l.length + k + 1) cap') w2) := by
        rw [mks_succ, HX.out, ← List.append_assoc]
        exact Lib.hid (HR.out.more (by rw [List.length_append, mks_len]) rfl hown hgrow (by
          rcases hat with hat | hat
          · exact .inl hat.symm
          · exact .inr (by simp [Value.ownBlock, hat])))
      clear hown hgrow hat hlt2 HOWN hi hz0 hz1 hz2
      go_wp2
      go_roundw
      case rel => exact ⟨k + 1, by omega, by go_num, HN⟩
      case measure => simp [intOf]; omega
    · obtain rfl : k = 6 := by omega
      have HN := Lib.hid HR.out.new
      clear HR
      go_wp2
      go_ret
      exact HN.out
def eqI (x y : Int) : Bool := (x == y)
theorem eqcI (x y : Int) : ((x == y) = true ∧ eqI x y = true) ∨ ((x == y) = false ∧ eqI x y = false) := by
  unfold eqI
  cases h0 : (x == y) <;> simp
theorem eqI_iff (x y : Int) : eqI x y = true ↔ x = y := by
  unfold eqI
  simp
set_option maxHeartbeats 2000000 in
theorem sameI_any (u v : Value) (xs ys : List Int) (w : World) (hu : KI.R w u xs) (hv : KI.R w v ys) :
    Calls Try.prog 24 #[u, v] w fun e w' => e = .returned (.bool (sameL eqI xs ys)) ∧ ∃ m, w' = w.drewN m := by
  have HU := Lib.hid hu
  have HV := Lib.hid hv
  obtain ⟨ao, cap, rfl, h1, h2, _⟩ := hu.any
  obtain ⟨bo, dap, rfl, h3, h4, _⟩ := hv.any
  clear hu hv
  have hla : xs.length ≤ 9223372036854775807 := by omega
  have hlb : ys.length ≤ 9223372036854775807 := by omega
  obtain ⟨b, hb⟩ : ∃ b, sameL eqI xs ys = b := ⟨_, rfl⟩
  rw [hb]
  unfold sameL at hb
  by_cases hl : xs.length = ys.length
  · rw [if_pos hl] at hb
    have HS := Lib.hid hb
    have hlI : ((xs.length : Int) != (ys.length : Int)) = false := by rw [hl]; simp
    have HL := Lib.hid hl
    clear hl hb
    go_enter Try.func24, Try.ntmps24
    go_wp2_with fail
    go_loopw [5] (fun i w1 => ∃ k : Nat, k ≤ xs.length ∧ i = .int .i64 (k : Int) ∧ Hid (sameTo' eqI xs ys (xs.length - k) k = b) ∧ ∃ m, w1 = w.drewN m) (fun i _ => xs.length - (intOf i).toNat)
    case atStart => exact ⟨0, Nat.zero_le _, rfl, HS, 0, rfl⟩
    case round =>
      obtain ⟨k, hk, rfl, HE, m, rfl⟩ := hrel
      by_cases hlt : k < xs.length
      · have hlt2 : k < ys.length := by rw [← HL.out]; exact hlt
        obtain ⟨x, hx⟩ : ∃ x, xs[k]? = some x := ⟨_, List.getElem?_eq_getElem hlt⟩
        obtain ⟨y, hy⟩ : ∃ y, ys[k]? = some y := ⟨_, List.getElem?_eq_getElem hlt2⟩
        obtain ⟨g, off, rfl, _, dd⟩ := HU.out.get hx
        obtain ⟨g2, off2, rfl, _, ee⟩ := HV.out.get hy
        have HE2 : Hid ((if eqI x y then sameTo' eqI xs ys (xs.length - (k + 1)) (k + 1) else false) = b) := by
          have h := HE.out
          rw [show xs.length - k = (xs.length - (k + 1)) + 1 from by omega] at h
          exact Lib.hid (sameTo_step hx hy h)
        clear HE hx hy
        have d0 : w.cell? ⟨g, off + k, none⟩ = some (.int .i64 x) := by have h := dd 0 _ rfl; rw [show off + (k * KI.sz + 0) = off + k from by show off + (k * 1 + 0) = _; omega] at h; exact h
        have e0 : w.cell? ⟨g2, off2 + k, none⟩ = some (.int .i64 y) := by have h := ee 0 _ rfl; rw [show off2 + (k * KI.sz + 0) = off2 + k from by show off2 + (k * 1 + 0) = _; omega] at h; exact h
        clear dd ee
        have hq := eqcI x y
        rcases hq with ⟨h0, he⟩ | ⟨h0, he⟩
        · have HE3 : Hid (sameTo' eqI xs ys (xs.length - (k + 1)) (k + 1) = b) := by
            have h := HE2.out
            rw [if_pos he] at h
            exact Lib.hid h
          clear HE2
          go_wp2_with fail
          go_quiet ((fail))
          go_wp2_with fail
          go_roundw
          case rel => exact ⟨k + 1, by omega, by go_num, HE3, m + nq, rfl⟩
          case measure => simp [intOf]; omega
        all_goals
          have HE3 : Hid (b = false) := by
            have h := HE2.out
            rw [he] at h
            exact Lib.hid h.symm
          clear HE2
          go_wp2_with fail
          go_quiet ((fail))
          go_wp2
          go_ret
          exact ⟨by rw [HE3.out]; rfl, m + nq, by simp⟩
      · obtain rfl : k = xs.length := by omega
        have HF : Hid (b = true) := by
          have h := HE.out
          rw [Nat.sub_self] at h
          exact Lib.hid h.symm
        go_wp2
        go_ret
        exact ⟨by rw [HF.out]; rfl, m, rfl⟩
  · rw [if_neg hl] at hb
    have hlI : ((xs.length : Int) != (ys.length : Int)) = true := by simp; omega
    have HF := Lib.hid hb
    clear hl hb
    go_enter Try.func24, Try.ntmps24
    go_wp2
    go_ret
    exact ⟨by rw [← HF.out]; rfl, 0, rfl⟩
set_option maxHeartbeats 400000 in
theorem keptI_any (u v : Value) (xs l : List Int) (w : World) (hu : KI.R w u xs) (hv : KI.R w v l) (hl : l.length ≤ 17592186044410) :
    Calls Try.prog 12 #[u, v] w fun e w' => e = .returned (.bool (sameL eqI xs (lentM mkI l))) ∧ Below w.heap.size w w' := by
  have HU := Lib.hid hu
  clear hu
  go_enter Try.func12, Try.ntmps12
  go_wp2_with fail
  refine (lentI_any v l w hv hl).mono ?_
  rintro e w1 ⟨v1, rfl, h1, h2, h3⟩
  have HB := Lib.hid h2
  have h4 := HU.out.grow h2
  clear h2
  go_wp2_with fail
  refine (sameI_any u v1 xs (lentM mkI l) w1 h4 h1.rd).mono ?_
  rintro e w2 ⟨rfl, m, rfl⟩
  go_wp2
  go_ret
  exact ⟨rfl, HB.out.os, HB.out.tape, HB.out.output, HB.out.size, HB.out.block⟩
set_option maxHeartbeats 1000000 in
theorem overI_any (v : Value) (l : List Int) (w : World) (hv : KI.O w v l) (hl : l.length ≤ 140737488355328) :
    Calls Try.prog 13 #[v] w fun e w' => e = .returned (.tuple #[]) ∧ KI.O w' v (mks mkI 9 l.length) ∧ Only (fpv v) w w' := by
  obtain ⟨ao, cap, rfl, h1, h2, hao⟩ := header hv
  have HAO := Lib.hid hao
  have H0 : Hid (KI.O w (.slice ao l.length cap) (overM mkI l 0)) := by rw [overM_zero]; exact Lib.hid hv
  clear hv hao
  go_enter Try.func13, Try.ntmps13
  go_wp2_with fail
  go_loopw [2] (fun i w1 => ∃ k : Nat, k ≤ l.length ∧ i = .int .i64 (k : Int) ∧ Hid (KI.O w1 (.slice ao l.length cap) (overM mkI l k)) ∧ Hid (Only (fpv (.slice ao l.length cap)) w w1)) (fun i _ => l.length - (intOf i).toNat)
  case atStart => exact ⟨0, Nat.zero_le _, rfl, H0, Lib.hid (Only.refl _ _)⟩
  case round =>
    clear H0
    obtain ⟨k, hk, rfl, HO, HF⟩ := hrel
    by_cases hlt : k < l.length
    · obtain ⟨g, rfl⟩ := HAO.out (by omega)
      obtain ⟨x, hx⟩ : ∃ x, (overM mkI l k)[k]? = some x := ⟨_, List.getElem?_eq_getElem (by rw [overM_len _ _ _ hk]; exact hlt)⟩
      have c1 : wr.cell? ⟨g, k, none⟩ = some (.int .i64 x) := by have h := HO.out.get hx 0 _ rfl; simpa [KI] using h
      have f1 := HO.out.frozen k
      clear hx
      go_wp2_with fail
      refine (markI_any _ _ _ (by omega) (by omega) (by omega) (by omega)).mono ?_
      rintro e w' ⟨he, rfl⟩
      obtain ⟨z, hz⟩ : ∃ z, mkI 9 (k : Int) = z := ⟨_, rfl⟩
      rw [hz] at he
      subst he
      have HZ := Lib.hid hz
      clear hz
      go_wp2
      go_roundw
      case rel =>
        have h := HO.out.put mkI hlt rfl
        rw [show k * KI.sz = k from Nat.mul_one k, HZ.out] at h
        exact ⟨k + 1, by omega, by go_num, Lib.hid h, Lib.hid (HF.out.set (p := ⟨g, k, none⟩) (.inl rfl) _)⟩
      case measure => simp [intOf]; omega
    · obtain rfl : k = l.length := by omega
      have HN : Hid (KI.O wr (.slice ao l.length cap) (mks mkI 9 l.length) ∧ Only (fpv (.slice ao l.length cap)) w wr) := by
        rw [← overM_end]
        exact Lib.hid ⟨HO.out, HF.out⟩
      clear HO HF
      go_wp2
      refine bodyPost_end (results_none rfl _ _ _) rfl ?_
      exact ⟨rfl, HN.out⟩
end Go.Proofs.Ytfielodchoghlaa
