/- The contracts of Dist and Reals, the program's and the document's. Conditions: lists of at most 2^47 bytes. -/
import Derived.Test.YtfielodchoghlaaRows
import Derived.Test.YtfielodchoghlaaInts
import Derived.Test.YtfielodchoghlaaReals
import Derived.Test.YtfielodchoghlaaScript
namespace Go.Proofs.Ytfielodchoghlaa
open Go.RowKit
set_option maxRecDepth 100000
set_option linter.unusedVariables false
/-- at how many of the first k places two lists are unlike -/
def cntD (a b : List Int) : Nat → Nat
  | 0 => 0
  | k + 1 => cntD a b k + if a[k]? = b[k]? then 0 else 1
def distN (a b : List Int) : Nat := cntD a b (max a.length b.length)
theorem cntD_le (a b : List Int) : ∀ k, cntD a b k ≤ k
  | 0 => Nat.le_refl _
  | k + 1 => by have := cntD_le a b k; simp only [cntD]; split <;> omega
theorem cntD_comm (a b : List Int) : ∀ k, cntD a b k = cntD b a k
  | 0 => rfl
  | k + 1 => by simp only [cntD, cntD_comm a b k, eq_comm]
theorem cntD_past (a b : List Int) : ∀ d, a.length + d ≤ b.length → cntD a b (a.length + d) = cntD a b a.length + d
  | 0, _ => rfl
  | d + 1, h => by
    have ih := cntD_past a b d (by omega)
    rw [← Nat.add_assoc, cntD, ih, if_neg (by rw [List.getElem?_eq_none (by omega), List.getElem?_eq_getElem (by omega)]; simp)]
    omega
theorem dist_le (a b : List Int) (h : a.length ≤ b.length) : b.length - a.length + cntD a b a.length = distN a b := by
  unfold distN
  have := cntD_past a b (b.length - a.length) (by omega)
  rw [show max a.length b.length = a.length + (b.length - a.length) by omega, this]
  omega
theorem dist_ge (a b : List Int) (h : b.length ≤ a.length) : a.length - b.length + cntD b a b.length = distN a b := by
  rw [dist_le b a h]
  unfold distN
  rw [Nat.max_comm, cntD_comm]
theorem distN_le (a b : List Int) : distN a b ≤ max a.length b.length := cntD_le a b _
set_option maxHeartbeats 2000000 in
theorem dist_any (u v : Value) (a b : List Int) (w : World) (hu : KI.R w u a) (hv : KI.R w v b) (la : a.length ≤ 140737488355328) (lb : b.length ≤ 140737488355328) :
    Calls Try.prog 9 #[u, v] w fun e w' => e = .returned (.int .i64 (distN a b)) ∧ w = w' := by
  have HU := Lib.hid hu
  have HV := Lib.hid hv
  obtain ⟨ao, cap, rfl, h1, h2, _⟩ := hu.any
  obtain ⟨bo, dap, rfl, h3, h4, _⟩ := hv.any
  clear hu hv
  by_cases hl : a.length ≤ b.length
  · have hlI : ¬ b.length < a.length := by omega
    go_enter Try.func9, Try.ntmps9
    go_wp2_with fail
    go_loop [5, 22] (fun n i => ∃ k : Nat, k ≤ a.length ∧ i = .int .i64 (k : Int) ∧ n = .int .i64 (((b.length - a.length + cntD a b k : Nat)) : Int)) (fun _ i => a.length - (intOf i).toNat)
    case atStart => exact ⟨0, Nat.zero_le _, rfl, by rw [Value.int.injEq]; exact ⟨rfl, by simp [cntD]; omega⟩⟩
    case round =>
      obtain ⟨k, hk, rfl, rfl⟩ := hrel
      have hcb := cntD_le a b k
      by_cases hlt : k < a.length
      · obtain ⟨x, hx⟩ : ∃ x, a[k]? = some x := ⟨_, List.getElem?_eq_getElem hlt⟩
        obtain ⟨y, hy⟩ : ∃ y, b[k]? = some y := ⟨_, List.getElem?_eq_getElem (by omega)⟩
        obtain ⟨g, off, rfl, _, d1⟩ := HU.out.get hx
        obtain ⟨g2, off2, rfl, _, e1⟩ := HV.out.get hy
        have d2 : w.cell? ⟨g, off + k, none⟩ = some (.int .i64 x) := by have h := d1 0 _ rfl; simpa [KI] using h
        have e2 : w.cell? ⟨g2, off2 + k, none⟩ = some (.int .i64 y) := by have h := e1 0 _ rfl; simpa [KI] using h
        obtain ⟨c, hc⟩ : ∃ c, b.length - a.length + cntD a b k = c := ⟨_, rfl⟩
        have hcm : c ≤ b.length := by omega
        rw [hc]
        clear d1 e1
        by_cases hxy : x = y
        · have HS : Hid (b.length - a.length + cntD a b (k + 1) = c) := Lib.hid (by simp only [cntD, hx, hy, hxy, if_pos]; omega)
          have hb : (x == y) = true := by simpa using hxy
          clear hx hy hxy hc hcb
          go_wp2
          go_round
          case rel => exact ⟨k + 1, by omega, by go_num, by rw [HS.out]⟩
          case measure => simp [intOf]; omega
        · have HS : Hid (b.length - a.length + cntD a b (k + 1) = c + 1) := Lib.hid (by simp only [cntD, hx, hy, Option.some.injEq, hxy, if_neg, not_false_eq_true]; omega)
          have hb : (x == y) = false := by simpa using hxy
          clear hx hy hxy hc hcb
          go_wp2
          go_round
          case rel => exact ⟨k + 1, by omega, by go_num, by rw [HS.out]; go_num⟩
          case measure => simp [intOf]; omega
      · obtain rfl : k = a.length := by omega
        have HF : Hid (b.length - a.length + cntD a b a.length = distN a b) := Lib.hid (by exact dist_le a b hl)
        go_wp2
        go_ret
        exact ⟨by rw [← HF.out]; rfl, rfl⟩
  · have hlI : b.length < a.length := by omega
    go_enter Try.func9, Try.ntmps9
    go_wp2_with fail
    go_loop [5, 22] (fun n i => ∃ k : Nat, k ≤ b.length ∧ i = .int .i64 (k : Int) ∧ n = .int .i64 (((a.length - b.length + cntD b a k : Nat)) : Int)) (fun _ i => b.length - (intOf i).toNat)
    case atStart => exact ⟨0, Nat.zero_le _, rfl, by rw [Value.int.injEq]; exact ⟨rfl, by simp [cntD]; omega⟩⟩
    case round =>
      obtain ⟨k, hk, rfl, rfl⟩ := hrel
      have hcb := cntD_le b a k
      by_cases hlt : k < b.length
      · obtain ⟨x, hx⟩ : ∃ x, b[k]? = some x := ⟨_, List.getElem?_eq_getElem hlt⟩
        obtain ⟨y, hy⟩ : ∃ y, a[k]? = some y := ⟨_, List.getElem?_eq_getElem (by omega)⟩
        obtain ⟨g, off, rfl, _, d1⟩ := HV.out.get hx
        obtain ⟨g2, off2, rfl, _, e1⟩ := HU.out.get hy
        have d2 : w.cell? ⟨g, off + k, none⟩ = some (.int .i64 x) := by have h := d1 0 _ rfl; simpa [KI] using h
        have e2 : w.cell? ⟨g2, off2 + k, none⟩ = some (.int .i64 y) := by have h := e1 0 _ rfl; simpa [KI] using h
        obtain ⟨c, hc⟩ : ∃ c, a.length - b.length + cntD b a k = c := ⟨_, rfl⟩
        have hcm : c ≤ a.length := by omega
        rw [hc]
        clear d1 e1
        by_cases hxy : x = y
        · have HS : Hid (a.length - b.length + cntD b a (k + 1) = c) := Lib.hid (by simp only [cntD, hx, hy, hxy, if_pos]; omega)
          have hb : (x == y) = true := by simpa using hxy
          clear hx hy hxy hc hcb
          go_wp2
          go_round
          case rel => exact ⟨k + 1, by omega, by go_num, by rw [HS.out]⟩
          case measure => simp [intOf]; omega
        · have HS : Hid (a.length - b.length + cntD b a (k + 1) = c + 1) := Lib.hid (by simp only [cntD, hx, hy, Option.some.injEq, hxy, if_neg, not_false_eq_true]; omega)
          have hb : (x == y) = false := by simpa using hxy
          clear hx hy hxy hc hcb
          go_wp2
          go_round
          case rel => exact ⟨k + 1, by omega, by go_num, by rw [HS.out]; go_num⟩
          case measure => simp [intOf]; omega
      · obtain rfl : k = b.length := by omega
        have HF : Hid (a.length - b.length + cntD b a b.length = distN a b) := Lib.hid (by exact dist_ge a b (by omega))
        go_wp2
        go_ret
        exact ⟨by rw [← HF.out]; rfl, rfl⟩

set_option maxHeartbeats 2000000 in
theorem rdist_any (u v : Value) (a b : List Int) (w : World) (hu : KI.R w u a) (hv : KI.R w v b) (la : a.length ≤ 140737488355328) (lb : b.length ≤ 140737488355328) :
    Calls Try.prog 11 #[u, v] w fun e w' => e = .returned (.int .i64 (distN a b)) ∧ ∃ m, w' = w.drewN m := by
  have HU := Lib.hid hu
  have HV := Lib.hid hv
  obtain ⟨ao, cap, rfl, h1, h2, _⟩ := hu.any
  obtain ⟨bo, dap, rfl, h3, h4, _⟩ := hv.any
  clear hu hv
  go_enter Try.func11, Try.ntmps11
  go_wp2_with fail
  go_loopw [5, 6] (fun n i w1 => ∃ (k c d : Nat), k ≤ max a.length b.length ∧ i = .int .i64 (k : Int) ∧ n = .int .i64 (c : Int) ∧ c ≤ k ∧ Hid (cntD a b k = c) ∧ w1 = w.drewN d) (fun _ i _ => max a.length b.length - (intOf i).toNat)
  case atStart => exact ⟨0, 0, 0, Nat.zero_le _, rfl, rfl, Nat.le_refl _, Lib.hid rfl, rfl⟩
  case round =>
    obtain ⟨k, c, d, hk, rfl, rfl, hck, HC, rfl⟩ := hrel
    have hkm : (k : Int) ≤ 140737488355328 := by omega
    by_cases h1 : k < a.length
    · have n1 : decide (a.length ≤ k) = false := by simp; omega
      by_cases h2 : k < b.length
      · have n2 : decide (b.length ≤ k) = false := by simp; omega
        obtain ⟨x, hx⟩ : ∃ x, a[k]? = some x := ⟨_, List.getElem?_eq_getElem h1⟩
        obtain ⟨y, hy⟩ : ∃ y, b[k]? = some y := ⟨_, List.getElem?_eq_getElem h2⟩
        obtain ⟨g, off, rfl, _, d1⟩ := HU.out.get hx
        obtain ⟨g2, off2, rfl, _, e1⟩ := HV.out.get hy
        have d2 : w.cell? ⟨g, off + k, none⟩ = some (.int .i64 x) := by have h := d1 0 _ rfl; simpa [KI] using h
        have e2 : w.cell? ⟨g2, off2 + k, none⟩ = some (.int .i64 y) := by have h := e1 0 _ rfl; simpa [KI] using h
        clear d1 e1
        by_cases hxy : x = y
        · have HS : Hid (cntD a b (k + 1) = c) := Lib.hid (by rw [cntD, HC.out, hx, hy, hxy, if_pos rfl]; rfl)
          have hb : (x == y) = true := by simpa using hxy
          clear hx hy hxy HC
          go_wp2_with fail
          go_quiet (fail)
          go_wp2_with fail
          go_roundw
          case rel => exact ⟨k + 1, c, _, by omega, by go_num, rfl, by omega, HS, rfl⟩
          case measure => simp [intOf]; omega
        · have HS : Hid (cntD a b (k + 1) = c + 1) := Lib.hid (by rw [cntD, HC.out, hx, hy, if_neg (by simpa using hxy)])
          have hb : (x == y) = false := by simpa using hxy
          clear hx hy hxy HC
          go_wp2_with fail
          go_quiet (fail)
          go_wp2_with fail
          go_roundw
          case rel => exact ⟨k + 1, c + 1, _, by omega, by go_num, by go_num, by omega, HS, rfl⟩
          case measure => simp [intOf]; omega
      · have n2 : decide (b.length ≤ k) = true := by simp; omega
        have HS : Hid (cntD a b (k + 1) = c + 1) := Lib.hid (by rw [cntD, HC.out, List.getElem?_eq_getElem h1, List.getElem?_eq_none (by omega), if_neg (by simp)])
        clear HC
        go_wp2_with fail
        go_quiet (fail)
        go_wp2_with fail
        go_roundw
        case rel => exact ⟨k + 1, c + 1, _, by omega, by go_num, by go_num, by omega, HS, rfl⟩
        case measure => simp [intOf]; omega
    · have n1 : decide (a.length ≤ k) = true := by simp; omega
      by_cases h2 : k < b.length
      · have HS : Hid (cntD a b (k + 1) = c + 1) := Lib.hid (by rw [cntD, HC.out, List.getElem?_eq_getElem h2, List.getElem?_eq_none (by omega), if_neg (by simp)])
        clear HC
        go_wp2_with fail
        go_quiet (fail)
        go_wp2_with fail
        go_roundw
        case rel => exact ⟨k + 1, c + 1, _, by omega, by go_num, by go_num, by omega, HS, rfl⟩
        case measure => simp [intOf]; omega
      · have hkk : k = max a.length b.length := by omega
        have HF : Hid (c = distN a b) := Lib.hid (by unfold distN; rw [← hkk]; exact HC.out.symm)
        clear hkk HC
        go_wp2
        go_ret
        exact ⟨by rw [← HF.out]; rfl, d, rfl⟩

/-- numbers as real ones -/
def realsL (l : List Int) : List Nat := l.map (floatOfInt .f64)
set_option maxHeartbeats 1000000 in
theorem reals_any (u : Value) (l : List Int) (w : World) (hu : KI.R w u l) (hl : l.length ≤ 17592186044410) : Calls Try.prog 10 #[u] w (KR.New (realsL l) w) := by
  obtain ⟨i0, hi, hz0, hz1, hz2⟩ := info_parts infoR
  have HI := Lib.hid (And.intro hi (And.intro hz0 (And.intro hz1 hz2)))
  have HU := Lib.hid hu
  obtain ⟨ao, cap, rfl, h1, h2, _⟩ := hu.any
  clear hi hz0 hz1 hz2 hu
  have hc := fun w n => run_convert_int_float (P := Try.prog) w 3 60 .i64 .f64 n (by kernel_rfl) Try.underlying60
  go_enter Try.func10, Try.ntmps10
  go_wp2_with fail
  go_loopw [3, 8] (fun o i w1 => ∃ k : Nat, k ≤ l.length ∧ i = .int .i64 (k : Int) ∧ Hid (KR.Mk (realsL (l.take k)) w o w1)) (fun _ i _ => l.length - (intOf i).toNat)
  case atStart => exact ⟨0, Nat.zero_le _, rfl, Lib.hid (Knd.Mk.nil KR w)⟩
  case round =>
    obtain ⟨k, hk, rfl, HR⟩ := hrel
    by_cases hlt : k < l.length
    · obtain ⟨x, hx⟩ : ∃ x, l[k]? = some x := ⟨_, List.getElem?_eq_getElem hlt⟩
      obtain ⟨g, off, rfl, _, d1⟩ := (HU.out.grow HR.out.2.1).get hx
      have d2 : wr.cell? ⟨g, off + k, none⟩ = some (.int .i64 x) := by have h := d1 0 _ rfl; simpa [KI] using h
      have HX := Lib.hid hx
      clear d1 hx
      have HOWN := HR.out.alloc (.cells #[.float .f64 (floatOfInt .f64 x)] 60) (N := k) (by simp [realsL]; omega)
      obtain ⟨hi, hz0, hz1, hz2⟩ := HI.out
      go_wp2_with (at_builtin; refine wpList_append_lies _ rfl _ _ 25 rfl 0 60 i0 _ 1 8 Try.underlying25 hi hz0 hz1 hz2 rfl (by decide) u3 k (KR.fl (realsL (l.take k))) rfl HOWN ⟨wr.heap.size, 0, none⟩ 1 1 [.float .f64 (floatOfInt .f64 x)] rfl rfl (World.news_of_block (heap_alloc_new _ _)) (KR.one _) (by decide) (by unfold maxLen; omega) (by omega) (Nat.zero_le _) _ rfl ?_)
      intro g' cap' w2 hown hgrow hat hlt2
      have HN : Hid (KR.Mk (realsL (l.take (k + 1))) w (.slice (some ⟨g', 0, none⟩) (k + 1) cap') w2) := by
        rw [List.take_add_one, HX.out, show realsL (l.take k ++ (some x).toList) = realsL (l.take k) ++ [floatOfInt .f64 x] from by simp [realsL]]
        exact Lib.hid (HR.out.more (by simp [realsL]; omega) rfl hown hgrow (by
          rcases hat with hat | hat
          · exact .inl hat.symm
          · exact .inr (by simp [Value.ownBlock, hat])))
      clear hown hgrow hat hlt2 HOWN hi hz0 hz1 hz2
      go_wp2
      go_roundw
      case rel => exact ⟨k + 1, by omega, by go_num, HN⟩
      case measure => simp [intOf]; omega
    · obtain rfl : k = l.length := by omega
      have HN : Hid (KR.New (realsL l) w (.returned u3) wr) := by
        have h := HR.out
        rw [List.take_length] at h
        exact Lib.hid h.new
      clear HR
      go_wp2
      go_ret
      exact HN.out
set_option maxHeartbeats 1000000 in
theorem rreals_any (u : Value) (l : List Int) (w : World) (hu : KI.R w u l) (hl : l.length ≤ 17592186044410) : Calls Try.prog 14 #[u] w (KR.New (realsL l) w) := by
  obtain ⟨i0, hi, hz0, hz1, hz2⟩ := info_parts infoR
  have HI := Lib.hid (And.intro hi (And.intro hz0 (And.intro hz1 hz2)))
  have HU := Lib.hid hu
  obtain ⟨ao, cap, rfl, h1, h2, _⟩ := hu.any
  clear hi hz0 hz1 hz2 hu
  have hc := fun w n => run_convert_int_float (P := Try.prog) w 3 60 .i64 .f64 n (by kernel_rfl) Try.underlying60
  go_enter Try.func14, Try.ntmps14
  go_wp2_with fail
  go_loopw [3, 4] (fun o i w1 => ∃ k : Nat, k ≤ l.length ∧ i = .int .i64 (k : Int) ∧ Hid (KR.Mk (realsL (l.take k)) w o w1)) (fun _ i _ => l.length - (intOf i).toNat)
  case atStart => exact ⟨0, Nat.zero_le _, rfl, Lib.hid (Knd.Mk.nil KR w)⟩
  case round =>
    obtain ⟨k, hk, rfl, HR⟩ := hrel
    by_cases hlt : k < l.length
    · obtain ⟨x, hx⟩ : ∃ x, l[k]? = some x := ⟨_, List.getElem?_eq_getElem hlt⟩
      obtain ⟨g, off, rfl, _, d1⟩ := (HU.out.grow HR.out.2.1).get hx
      have d2 : wr.cell? ⟨g, off + k, none⟩ = some (.int .i64 x) := by have h := d1 0 _ rfl; simpa [KI] using h
      have HX := Lib.hid hx
      clear d1 hx
      have HOWN := HR.out.alloc (.cells #[.float .f64 (floatOfInt .f64 x)] 60) (N := k) (by simp [realsL]; omega)
      obtain ⟨hi, hz0, hz1, hz2⟩ := HI.out
      go_wp2_with (at_builtin; refine wpList_append_lies _ rfl _ _ 25 rfl 0 60 i0 _ 1 8 Try.underlying25 hi hz0 hz1 hz2 rfl (by decide) u3 k (KR.fl (realsL (l.take k))) rfl HOWN ⟨wr.heap.size, 0, none⟩ 1 1 [.float .f64 (floatOfInt .f64 x)] rfl rfl (World.news_of_block (heap_alloc_new _ _)) (KR.one _) (by decide) (by unfold maxLen; omega) (by omega) (Nat.zero_le _) _ rfl ?_)
      intro g' cap' w2 hown hgrow hat hlt2
      have HN : Hid (KR.Mk (realsL (l.take (k + 1))) w (.slice (some ⟨g', 0, none⟩) (k + 1) cap') w2) := by
        rw [List.take_add_one, HX.out, show realsL (l.take k ++ (some x).toList) = realsL (l.take k) ++ [floatOfInt .f64 x] from by simp [realsL]]
        exact Lib.hid (HR.out.more (by simp [realsL]; omega) rfl hown hgrow (by
          rcases hat with hat | hat
          · exact .inl hat.symm
          · exact .inr (by simp [Value.ownBlock, hat])))
      clear hown hgrow hat hlt2 HOWN hi hz0 hz1 hz2
      go_wp2
      go_roundw
      case rel => exact ⟨k + 1, by omega, by go_num, HN⟩
      case measure => simp [intOf]; omega
    · obtain rfl : k = l.length := by omega
      have HN : Hid (KR.New (realsL l) w (.returned u3) wr) := by
        have h := HR.out
        rw [List.take_length] at h
        exact Lib.hid h.new
      clear HR
      go_wp2
      go_ret
      exact HN.out
end Go.Proofs.Ytfielodchoghlaa
