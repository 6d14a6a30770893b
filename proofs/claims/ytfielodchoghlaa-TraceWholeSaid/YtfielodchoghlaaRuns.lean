/- The kit's functions on lists (Runs). Conditions: a list and six more fit into 2^47 bytes. -/
import Derived.Test.YtfielodchoghlaaRows
import Derived.Test.YtfielodchoghlaaLst
import Derived.Test.YtfielodchoghlaaTame
import Derived.Test.YtfielodchoghlaaRn
namespace Go.Proofs.Ytfielodchoghlaa
open Go.RowKit
set_option maxRecDepth 100000
set_option linter.unusedVariables false
set_option linter.unusedSimpArgs false
def KN : Knd Rn := ⟨51, 3, fun x => [.int .u8 x.k, .int .i64 x.s, .int .i64 x.c], by decide, fun _ => rfl, fun x u hu => by simp at hu; rcases hu with rfl | rfl | rfl <;> rfl⟩
theorem infoN : (Try.prog.info? 51).map (fun i => (i.zero, i.size, i.bytes)) = some (some (.agg #[.int .u8 0, .int .i64 0, .int .i64 0]), 3, 24) := by kernel_rfl
def mkN (k i : Int) : Rn := ⟨0, 0, -1000 * k - i - 7⟩
theorem markN_any (k i : Int) (w : World) (hk : 0 ≤ k) (hk' : k ≤ 1000000) (hi : 0 ≤ i) (hi' : i ≤ 1000000000000000) :
    Calls Try.prog 42 #[.int .i64 k, .int .i64 i] w fun e w' => e = .returned (.agg #[.int .u8 (mkN k i).k, .int .i64 (mkN k i).s, .int .i64 (mkN k i).c]) ∧ Below w.heap.size w w' := by
  show Calls _ _ _ _ fun e w' => e = .returned (.agg #[.int .u8 0, .int .i64 0, .int .i64 (-1000 * k - i - 7)]) ∧ Below w.heap.size w w'
  go_enter Try.func42, Try.ntmps42
  go_wp2
  exact bodyPost_ret (v := .agg #[.int .u8 0, .int .i64 0, .int .i64 (-1000 * k - i - 7)]) (by simp [results, Try.results42, go_sem]) rfl ⟨rfl, (Below.refl _ _).alloc (Nat.le_refl _) _⟩
set_option maxHeartbeats 400000 in
theorem copyN_any (u : Value) (l : List Rn) (w : World) (hu : KN.R w u l) (hl : l.length ≤ 5864062014805) : Calls Try.prog 41 #[u] w (KN.New l w) := by
  obtain ⟨i0, hi, hz0, hz1, hz2⟩ := info_parts infoN
  have hown0 : w.ownsRow 0 51 3 (.slice none 0 0) 0 [] := World.ownsRow_nil w 0 _ _
  obtain ⟨ao, cap, rfl, _, _, _⟩ := hu.any
  go_enter Try.func41, Try.ntmps41
  go_wp2_with (at_builtin; refine wpList_append_sl _ rfl _ _ 32 rfl 51 i0 _ 3 24 Try.underlying32 hi hz0 hz1 hz2 rfl (by decide) (.slice none 0 0) 0 [] rfl hown0 (.slice ao l.length cap) l.length (KN.fl l) rfl hu (by unfold maxLen; omega) (by omega) ?_)
  intro v' w1 hown hgrow hat
  have HN := Lib.hid ((Knd.Mk.nil KN w).whole (m := l) (N := l.length) (by simp) hown hgrow hat).new
  clear hown hgrow hat hown0 hi hz0 hz1 hz2
  go_wp2
  go_ret
  simpa using HN.out
set_option maxHeartbeats 1000000 in
theorem lentN_any (u : Value) (l : List Rn) (w : World) (hu : KN.R w u l) (hl : l.length ≤ 5864062014799) : Calls Try.prog 17 #[u] w (KN.New (lentM mkN l) w) := by
  obtain ⟨i0, hi, hz0, hz1, hz2⟩ := info_parts infoN
  have HI := Lib.hid (And.intro hi (And.intro hz0 (And.intro hz1 hz2)))
  clear hi hz0 hz1 hz2
  go_enter Try.func17, Try.ntmps17
  go_wp2_with fail
  refine (copyN_any u l w hu (by omega)).mono ?_
  rintro e w0 ⟨v0, rfl, hr0⟩
  have HR0 : Hid (KN.Mk (l ++ mks mkN 7 0) w v0 w0) := Lib.hid (by rw [show l ++ mks mkN 7 0 = l from by simp [mks]]; exact hr0)
  clear hr0
  go_wp2_with fail
  go_loopw [3, 4] (fun o i w1 => ∃ k : Nat, k ≤ 6 ∧ i = .int .i64 (k : Int) ∧ Hid (KN.Mk (l ++ mks mkN 7 k) w o w1)) (fun _ i _ => 6 - (intOf i).toNat)
  case atStart => exact ⟨0, by omega, rfl, HR0⟩
  case round =>
    clear HR0
    obtain ⟨k, hk, rfl, HR⟩ := hrel
    by_cases hlt : k < 6
    · go_wp2_with fail
      refine (markN_any _ _ _ (by omega) (by omega) (by omega) (by omega)).mono ?_
      rintro e wm ⟨he, hbm⟩
      replace HR := Lib.hid (HR.out.below hbm)
      clear hbm
      obtain ⟨x, hx⟩ : ∃ x, mkN 7 (k : Int) = x := ⟨_, rfl⟩
      rw [hx] at he
      subst he
      have HX := Lib.hid hx
      clear hx
      have HOWN := HR.out.alloc (.cells #[.int .u8 x.k, .int .i64 x.s, .int .i64 x.c] 51) (N := l.length + k) (by rw [List.length_append, mks_len])
      obtain ⟨hi, hz0, hz1, hz2⟩ := HI.out
      go_wp2_with (at_builtin; refine wpList_append_lies _ rfl _ _ 32 rfl 0 51 i0 _ 3 24 Try.underlying32 hi hz0 hz1 hz2 rfl (by decide) u3 (l.length + k) (KN.fl (l ++ mks mkN 7 k)) rfl HOWN ⟨wm.heap.size, 0, none⟩ 1 1 [.int .u8 x.k, .int .i64 x.s, .int .i64 x.c] rfl rfl (World.news_of_block (heap_alloc_new _ _)) (KN.one x) (by decide) (by unfold maxLen; omega) (by omega) (Nat.zero_le _) _ rfl ?_)
      intro g' cap' w2 hown hgrow hat hlt2
      have HN : Hid (KN.Mk (l ++ mks mkN 7 (k + 1)) w (.slice (some ⟨g', 0, none⟩) (l.length + k + 1) cap') w2) := by
        rw [mks_succ, HX.out, ← List.append_assoc]
        exact Lib.hid (HR.out.more (by rw [List.length_append, mks_len]) rfl hown hgrow (by
          rcases hat with hat | hat
          · exact .inl hat.symm
          · exact .inr (by simp [Value.ownBlock, hat])))
      clear hown hgrow hat hlt2 HOWN hi hz0 hz1 hz2
      go_wp2
      go_roundw
      case rel => exact ⟨k + 1, by omega, by go_num, HN⟩
      case measure => simp [intOf]; omega
    · obtain rfl : k = 6 := by omega
      have HN := Lib.hid HR.out.new
      clear HR
      go_wp2
      go_ret
      exact HN.out
def eqN (x y : Rn) : Bool := (x.k == y.k) && (x.s == y.s) && (x.c == y.c)
theorem eqcN (x y : Rn) : ((x.k == y.k) = true ∧ (x.s == y.s) = true ∧ (x.c == y.c) = true ∧ eqN x y = true) ∨ ((x.k == y.k) = false ∧ eqN x y = false) ∨ ((x.k == y.k) = true ∧ (x.s == y.s) = false ∧ eqN x y = false) ∨ ((x.k == y.k) = true ∧ (x.s == y.s) = true ∧ (x.c == y.c) = false ∧ eqN x y = false) := by
  unfold eqN
  cases h0 : (x.k == y.k) <;> cases h1 : (x.s == y.s) <;> cases h2 : (x.c == y.c) <;> simp
theorem eqN_iff (x y : Rn) : eqN x y = true ↔ x = y := by
  unfold eqN
  cases x; cases y; simp [and_assoc]
set_option maxHeartbeats 2000000 in
theorem sameN_any (u v : Value) (xs ys : List Rn) (w : World) (hu : KN.R w u xs) (hv : KN.R w v ys) :
    Calls Try.prog 29 #[u, v] w fun e w' => e = .returned (.bool (sameL eqN xs ys)) ∧ ∃ m, w' = w.drewN m := by
  have HU := Lib.hid hu
  have HV := Lib.hid hv
  obtain ⟨ao, cap, rfl, h1, h2, _⟩ := hu.any
  obtain ⟨bo, dap, rfl, h3, h4, _⟩ := hv.any
  clear hu hv
  have hla : xs.length ≤ 9223372036854775807 := by omega
  have hlb : ys.length ≤ 9223372036854775807 := by omega
  obtain ⟨b, hb⟩ : ∃ b, sameL eqN xs ys = b := ⟨_, rfl⟩
  rw [hb]
  unfold sameL at hb
  by_cases hl : xs.length = ys.length
  · rw [if_pos hl] at hb
    have HS := Lib.hid hb
    have hlI : ((xs.length : Int) != (ys.length : Int)) = false := by rw [hl]; simp
    have HL := Lib.hid hl
    clear hl hb
    go_enter Try.func29, Try.ntmps29
    go_wp2_with fail
    go_loopw [5] (fun i w1 => ∃ k : Nat, k ≤ xs.length ∧ i = .int .i64 (k : Int) ∧ Hid (sameTo' eqN xs ys (xs.length - k) k = b) ∧ ∃ m, w1 = w.drewN m) (fun i _ => xs.length - (intOf i).toNat)
    case atStart => exact ⟨0, Nat.zero_le _, rfl, HS, 0, rfl⟩
    case round =>
      obtain ⟨k, hk, rfl, HE, m, rfl⟩ := hrel
      by_cases hlt : k < xs.length
      · have hlt2 : k < ys.length := by rw [← HL.out]; exact hlt
        obtain ⟨x, hx⟩ : ∃ x, xs[k]? = some x := ⟨_, List.getElem?_eq_getElem hlt⟩
        obtain ⟨y, hy⟩ : ∃ y, ys[k]? = some y := ⟨_, List.getElem?_eq_getElem hlt2⟩
        obtain ⟨g, off, rfl, _, dd⟩ := HU.out.get hx
        obtain ⟨g2, off2, rfl, _, ee⟩ := HV.out.get hy
        have HE2 : Hid ((if eqN x y then sameTo' eqN xs ys (xs.length - (k + 1)) (k + 1) else false) = b) := by
          have h := HE.out
          rw [show xs.length - k = (xs.length - (k + 1)) + 1 from by omega] at h
          exact Lib.hid (sameTo_step hx hy h)
        clear HE hx hy
        obtain ⟨kx, sx, cx⟩ := x
        obtain ⟨ky, sy, cy⟩ := y
        have d0 : w.cell? ⟨g, off + k * 3, none⟩ = some (.int .u8 kx) := by have h := dd 0 _ rfl; rw [show off + (k * KN.sz + 0) = off + k * 3 from by show off + (k * 3 + 0) = _; omega] at h; exact h
        have d1 : w.cell? ⟨g, off + k * 3 + 1, none⟩ = some (.int .i64 sx) := by have h := dd 1 _ rfl; rw [show off + (k * KN.sz + 1) = off + k * 3 + 1 from by show off + (k * 3 + 1) = _; omega] at h; exact h
        have d2 : w.cell? ⟨g, off + k * 3 + 2, none⟩ = some (.int .i64 cx) := by have h := dd 2 _ rfl; rw [show off + (k * KN.sz + 2) = off + k * 3 + 2 from by show off + (k * 3 + 2) = _; omega] at h; exact h
        have e0 : w.cell? ⟨g2, off2 + k * 3, none⟩ = some (.int .u8 ky) := by have h := ee 0 _ rfl; rw [show off2 + (k * KN.sz + 0) = off2 + k * 3 from by show off2 + (k * 3 + 0) = _; omega] at h; exact h
        have e1 : w.cell? ⟨g2, off2 + k * 3 + 1, none⟩ = some (.int .i64 sy) := by have h := ee 1 _ rfl; rw [show off2 + (k * KN.sz + 1) = off2 + k * 3 + 1 from by show off2 + (k * 3 + 1) = _; omega] at h; exact h
        have e2 : w.cell? ⟨g2, off2 + k * 3 + 2, none⟩ = some (.int .i64 cy) := by have h := ee 2 _ rfl; rw [show off2 + (k * KN.sz + 2) = off2 + k * 3 + 2 from by show off2 + (k * 3 + 2) = _; omega] at h; exact h
        clear dd ee
        have hq := eqcN ⟨kx, sx, cx⟩ ⟨ky, sy, cy⟩
        dsimp only at hq
        rcases hq with ⟨h0, h1, h2, he⟩ | ⟨h0, he⟩ | ⟨h0, h1, he⟩ | ⟨h0, h1, h2, he⟩
        · have HE3 : Hid (sameTo' eqN xs ys (xs.length - (k + 1)) (k + 1) = b) := by
            have h := HE2.out
            rw [if_pos he] at h
            exact Lib.hid h
          clear HE2
          go_wp2_with fail
          go_quiet ((fail))
          go_wp2_with fail
          go_roundw
          case rel => exact ⟨k + 1, by omega, by go_num, HE3, m + nq, rfl⟩
          case measure => simp [intOf]; omega
        all_goals
          have HE3 : Hid (b = false) := by
            have h := HE2.out
            rw [he] at h
            exact Lib.hid h.symm
          clear HE2
          go_wp2_with fail
          go_quiet ((fail))
          go_wp2
          go_ret
          exact ⟨by rw [HE3.out]; rfl, m + nq, by simp⟩
      · obtain rfl : k = xs.length := by omega
        have HF : Hid (b = true) := by
          have h := HE.out
          rw [Nat.sub_self] at h
          exact Lib.hid h.symm
        go_wp2
        go_ret
        exact ⟨by rw [HF.out]; rfl, m, rfl⟩
  · rw [if_neg hl] at hb
    have hlI : ((xs.length : Int) != (ys.length : Int)) = true := by simp; omega
    have HF := Lib.hid hb
    clear hl hb
    go_enter Try.func29, Try.ntmps29
    go_wp2
    go_ret
    exact ⟨by rw [← HF.out]; rfl, 0, rfl⟩
set_option maxHeartbeats 400000 in
theorem keptN_any (u v : Value) (xs l : List Rn) (w : World) (hu : KN.R w u xs) (hv : KN.R w v l) (hl : l.length ≤ 5864062014799) :
    Calls Try.prog 20 #[u, v] w fun e w' => e = .returned (.bool (sameL eqN xs (lentM mkN l))) ∧ Below w.heap.size w w' := by
  have HU := Lib.hid hu
  clear hu
  go_enter Try.func20, Try.ntmps20
  go_wp2_with fail
  refine (lentN_any v l w hv hl).mono ?_
  rintro e w1 ⟨v1, rfl, h1, h2, h3⟩
  have HB := Lib.hid h2
  have h4 := HU.out.grow h2
  clear h2
  go_wp2_with fail
  refine (sameN_any u v1 xs (lentM mkN l) w1 h4 h1.rd).mono ?_
  rintro e w2 ⟨rfl, m, rfl⟩
  go_wp2
  go_ret
  exact ⟨rfl, HB.out.os, HB.out.tape, HB.out.output, HB.out.size, HB.out.block⟩
end Go.Proofs.Ytfielodchoghlaa
