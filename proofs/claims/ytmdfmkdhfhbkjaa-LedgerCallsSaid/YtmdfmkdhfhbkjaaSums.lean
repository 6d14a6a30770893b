/- Sums, checks and comparisons of runs: the program's and the document's. Conditions: the runs' counts are int values. -/
import Derived.Test.YtmdfmkdhfhbkjaaRows
import Derived.Test.YtmdfmkdhfhbkjaaKenv
import Derived.Test.YtmdfmkdhfhbkjaaRuns
namespace Go.Proofs.Ytmdfmkdhfhbkjaa
open Go.RowKit
set_option maxRecDepth 100000
set_option linter.unusedVariables false
set_option linter.unusedSimpArgs false
theorem runCells {w w' : World} {ao : Option Addr} {n cap : Nat} {rs : List Rn} (h : KN.R w (.slice ao n cap) rs) (hb : Below w.heap.size w w') {k : Nat} {a b c : Int} (hx : rs[k]? = some ⟨a, b, c⟩) :
    ∃ g off, ao = some ⟨g, off, none⟩ ∧ g < w.heap.size ∧ w'.cell? ⟨g, off + k * 3, none⟩ = some (.int .u8 a) ∧ w'.cell? ⟨g, off + k * 3 + 1, none⟩ = some (.int .i64 b) ∧ w'.cell? ⟨g, off + k * 3 + 2, none⟩ = some (.int .i64 c) := by
  obtain ⟨g, off, hao, hlt, hc⟩ := h.get hx
  refine ⟨g, off, hao, hlt, ?_, ?_, ?_⟩
  · exact (hb.cell (p := ⟨g, off + k * 3, none⟩) hlt).trans (hc 0 _ rfl)
  · exact (hb.cell (p := ⟨g, off + k * 3 + 1, none⟩) hlt).trans (hc 1 _ rfl)
  · exact (hb.cell (p := ⟨g, off + k * 3 + 2, none⟩) hlt).trans (hc 2 _ rfl)
/-- the counts are int values -/
def okC (rs : List Rn) : Prop := ∀ r ∈ rs, -9223372036854775808 ≤ r.c ∧ r.c ≤ 9223372036854775807
/-! ### sums -/
def sat (a b : Int) : Int := if a > 9223372036854775807 - b then 9223372036854775807 else a + b
theorem sat_rng {a b : Int} (h1 : 0 ≤ a) (h3 : 0 ≤ b) (h4 : b ≤ 9223372036854775807) : 0 ≤ sat a b ∧ sat a b ≤ 9223372036854775807 := by
  unfold sat
  split <;> omega
theorem plus_any (a b : Int) (w : World) (h1 : 0 ≤ a) (h2 : a ≤ 9223372036854775807) (h3 : 0 ≤ b) (h4 : b ≤ 9223372036854775807) : Calls Try.prog 47 #[.int .i64 a, .int .i64 b] w fun e w' => e = .returned (.int .i64 (sat a b)) ∧ w = w' := by
  unfold sat
  by_cases h : a > 9223372036854775807 - b
  · rw [if_pos h]
    go_enter Try.func47, Try.ntmps47
    go_wp2
    go_ret
    exact ⟨rfl, rfl⟩
  · rw [if_neg h]
    go_enter Try.func47, Try.ntmps47
    go_wp2
    go_ret
    exact ⟨rfl, rfl⟩
theorem rsum_any (a b : Int) (w : World) (h1 : 0 ≤ a) (h2 : a ≤ 9223372036854775807) (h3 : 0 ≤ b) (h4 : b ≤ 9223372036854775807) : Calls Try.prog 48 #[.int .i64 a, .int .i64 b] w fun e w' => e = .returned (.int .i64 (sat a b)) ∧ w = w' := by
  unfold sat
  by_cases h : a > 9223372036854775807 - b
  · rw [if_pos h]
    go_enter Try.func48, Try.ntmps48
    go_wp2
    go_ret
    exact ⟨rfl, rfl⟩
  · rw [if_neg h]
    go_enter Try.func48, Try.ntmps48
    go_wp2
    go_ret
    exact ⟨rfl, rfl⟩
def totS (n : Int) (r : Rn) : Int := if r.c < 1 then n else sat n r.c
def totL (l : List Rn) : Int := l.foldl totS 0
theorem fold_step {α β : Type} (f : β → α → β) (z : β) {l : List α} {k : Nat} {x : α} (h : l[k]? = some x) : (l.take (k + 1)).foldl f z = f ((l.take k).foldl f z) x := by
  rw [List.take_add_one, h, List.foldl_append]
  rfl
theorem totS_rng {n : Int} {r : Rn} (h1 : 0 ≤ n) (h2 : n ≤ 9223372036854775807) (h3 : r.c ≤ 9223372036854775807) : 0 ≤ totS n r ∧ totS n r ≤ 9223372036854775807 := by
  unfold totS
  split
  · exact ⟨h1, h2⟩
  · exact sat_rng h1 (by omega) h3
set_option maxHeartbeats 1000000 in
theorem total_any (u : Value) (rs : List Rn) (w : World) (hu : KN.R w u rs) (hok : okC rs) : Calls Try.prog 33 #[u] w fun e w' => e = .returned (.int .i64 (totL rs)) ∧ Below w.heap.size w w' := by
  have HU := Lib.hid hu
  have HOK := Lib.hid hok
  obtain ⟨ao, cap, rfl, _, _, _⟩ := hu.any
  obtain ⟨T, hT⟩ : ∃ T, totL rs = T := ⟨_, rfl⟩
  rw [hT]
  have HT := Lib.hid hT
  clear hu hok hT
  go_enter Try.func33, Try.ntmps33
  go_wp2_with fail
  go_loopw [3, 8] (fun n i w2 => ∃ (k : Nat) (t : Int), k ≤ rs.length ∧ i = .int .i64 (k : Int) ∧ n = .int .i64 t ∧ 0 ≤ t ∧ t ≤ 9223372036854775807 ∧ Hid ((rs.take k).foldl totS 0 = t) ∧ Hid (Below w.heap.size w w2)) (fun _ i _ => rs.length - (intOf i).toNat)
  case atStart => exact ⟨0, 0, Nat.zero_le _, rfl, rfl, by omega, by omega, Lib.hid (by simp), Lib.hid (Below.refl _ _)⟩
  case round =>
    obtain ⟨k, t, hk, rfl, rfl, t0, t1, HS, HB⟩ := hrel
    by_cases hlt : k < rs.length
    · obtain ⟨⟨rk, rsz, rc⟩, hx⟩ : ∃ x, rs[k]? = some x := ⟨_, List.getElem?_eq_getElem hlt⟩
      obtain ⟨g, off, rfl, hg, d1, d2, d3⟩ := runCells HU.out HB.out hx
      have hgr : g < wr.heap.size := Nat.lt_of_lt_of_le hg HB.out.size
      obtain ⟨r1, r2⟩ := HOK.out _ (List.mem_of_getElem? hx)
      dsimp only at r1 r2
      have hs := fold_step totS 0 hx
      rw [HS.out] at hs
      obtain ⟨t', ht'⟩ : ∃ t', totS t ⟨rk, rsz, rc⟩ = t' := ⟨_, rfl⟩
      obtain ⟨q1, q2⟩ := totS_rng (r := ⟨rk, rsz, rc⟩) t0 t1 r2
      rw [ht'] at hs q1 q2
      have HS2 := Lib.hid hs
      have HT2 : Hid (∀ b, 0 ≤ b → (rc < 1 → b = 0) → (¬ rc < 1 → b = rc) → sat t b = t') := by
        refine Lib.hid fun b hb h0 h1 => ?_
        rw [← ht']
        unfold totS
        by_cases hc : rc < 1
        · rw [if_pos hc, h0 hc]
          unfold sat
          rw [if_neg (by omega)]
          omega
        · rw [if_neg hc, h1 hc]
      clear hx hs HS ht'
      by_cases hc : rc < 1
      · have hc2 : rc ≤ 0 := by omega
        go_wp2_with fail
        all_goals
          refine (plus_any _ _ _ (by omega) (by omega) (by omega) (by omega)).mono ?_
          rintro e w3 ⟨he, rfl⟩
          rw [HT2.out _ (by omega) (by omega) (by omega)] at he
          subst he
          have HB2 : Hid (Below w.heap.size w (wr.alloc (.cells #[.int .u8 rk, .int .i64 rsz, .int .i64 rc] 61))) := Lib.hid (HB.out.alloc HB.out.size _)
          go_wp2
          go_roundw
          case rel => exact ⟨k + 1, t', by omega, by go_num, rfl, q1, q2, HS2, HB2⟩
          case measure => simp [intOf]; omega
      · have hc2 : 1 ≤ rc := by omega
        go_wp2_with fail
        all_goals
          refine (plus_any _ _ _ (by omega) (by omega) (by omega) (by omega)).mono ?_
          rintro e w3 ⟨he, rfl⟩
          rw [HT2.out _ (by omega) (by omega) (by omega)] at he
          subst he
          have HB2 : Hid (Below w.heap.size w (wr.alloc (.cells #[.int .u8 rk, .int .i64 rsz, .int .i64 rc] 61))) := Lib.hid (HB.out.alloc HB.out.size _)
          go_wp2
          go_roundw
          case rel => exact ⟨k + 1, t', by omega, by go_num, rfl, q1, q2, HS2, HB2⟩
          case measure => simp [intOf]; omega
    · obtain rfl : k = rs.length := by omega
      have ht : t = T := by have h := HS.out; rw [List.take_length] at h; rw [← h]; exact HT.out
      subst ht
      clear HS
      go_wp2
      go_ret
      exact ⟨rfl, HB.out⟩
set_option maxHeartbeats 1000000 in
theorem rtotal_any (u : Value) (rs : List Rn) (w : World) (hu : KN.R w u rs) (hok : okC rs) : Calls Try.prog 51 #[u] w fun e w' => e = .returned (.int .i64 (totL rs)) ∧ Below w.heap.size w w' := by
  have HU := Lib.hid hu
  have HOK := Lib.hid hok
  obtain ⟨ao, cap, rfl, _, _, _⟩ := hu.any
  obtain ⟨T, hT⟩ : ∃ T, totL rs = T := ⟨_, rfl⟩
  rw [hT]
  have HT := Lib.hid hT
  clear hu hok hT
  go_enter Try.func51, Try.ntmps51
  go_wp2_with fail
  go_loopw [3, 4] (fun n i w2 => ∃ (k : Nat) (t : Int), k ≤ rs.length ∧ i = .int .i64 (k : Int) ∧ n = .int .i64 t ∧ 0 ≤ t ∧ t ≤ 9223372036854775807 ∧ Hid ((rs.take k).foldl totS 0 = t) ∧ w = w2) (fun _ i _ => rs.length - (intOf i).toNat)
  case atStart => exact ⟨0, 0, Nat.zero_le _, rfl, rfl, by omega, by omega, Lib.hid (by simp), rfl⟩
  case round =>
    obtain ⟨k, t, hk, rfl, rfl, t0, t1, HS, rfl⟩ := hrel
    by_cases hlt : k < rs.length
    · obtain ⟨⟨rk, rsz, rc⟩, hx⟩ : ∃ x, rs[k]? = some x := ⟨_, List.getElem?_eq_getElem hlt⟩
      obtain ⟨g, off, rfl, hg, d1, d2, d3⟩ := runCells HU.out (Below.refl _ _) hx
      obtain ⟨r1, r2⟩ := HOK.out _ (List.mem_of_getElem? hx)
      dsimp only at r1 r2
      have hs := fold_step totS 0 hx
      rw [HS.out] at hs
      obtain ⟨t', ht'⟩ : ∃ t', totS t ⟨rk, rsz, rc⟩ = t' := ⟨_, rfl⟩
      obtain ⟨q1, q2⟩ := totS_rng (r := ⟨rk, rsz, rc⟩) t0 t1 r2
      rw [ht'] at hs q1 q2
      have HS2 := Lib.hid hs
      have HT1 : Hid (rc < 1 → t = t') := Lib.hid (fun hc => by rw [← ht']; unfold totS; rw [if_pos hc])
      have HT2 : Hid (¬ rc < 1 → sat t rc = t') := Lib.hid (fun hc => by rw [← ht']; unfold totS; rw [if_neg hc])
      clear hx hs HS ht'
      by_cases hc : rc < 1
      · have hc2 : rc ≤ 0 := by omega
        have HQ := Lib.hid (HT1.out hc)
        go_wp2_with fail
        go_roundw
        case rel => exact ⟨k + 1, t', by omega, by go_num, by rw [HQ.out], q1, q2, HS2, trivial⟩
        case measure => simp [intOf]; omega
      · have hc2 : 1 ≤ rc := by omega
        have HQ := Lib.hid (HT2.out hc)
        go_wp2_with fail
        refine (rsum_any _ _ _ (by omega) (by omega) (by omega) (by omega)).mono ?_
        rintro e w3 ⟨he, rfl⟩
        rw [HQ.out] at he
        subst he
        go_wp2
        go_roundw
        case rel => exact ⟨k + 1, t', by omega, by go_num, rfl, q1, q2, HS2, trivial⟩
        case measure => simp [intOf]; omega
    · obtain rfl : k = rs.length := by omega
      have ht : t = T := by have h := HS.out; rw [List.take_length] at h; rw [← h]; exact HT.out
      subst ht
      clear HS
      go_wp2
      go_ret
      exact ⟨rfl, Below.refl _ _⟩
set_option maxHeartbeats 2000000 in
theorem samePN_any (u v : Value) (xs ys : List Rn) (w : World) (hu : KN.R w u xs) (hv : KN.R w v ys) :
    Calls Try.prog 49 #[u, v] w fun e w' => e = .returned (.bool (sameL eqN xs ys)) ∧ ∃ m, w' = w.drewN m := by
  have HU := Lib.hid hu
  have HV := Lib.hid hv
  obtain ⟨ao, cap, rfl, h1, h2, _⟩ := hu.any
  obtain ⟨bo, dap, rfl, h3, h4, _⟩ := hv.any
  clear hu hv
  have hla : xs.length ≤ 9223372036854775807 := by omega
  have hlb : ys.length ≤ 9223372036854775807 := by omega
  obtain ⟨b, hb⟩ : ∃ b, sameL eqN xs ys = b := ⟨_, rfl⟩
  rw [hb]
  unfold sameL at hb
  by_cases hl : xs.length = ys.length
  · rw [if_pos hl] at hb
    have HS := Lib.hid hb
    have hlI : ((xs.length : Int) != (ys.length : Int)) = false := by rw [hl]; simp
    have HL := Lib.hid hl
    clear hl hb
    go_enter Try.func49, Try.ntmps49
    go_wp2_with fail
    go_loopw [13] (fun i w1 => ∃ k : Nat, k ≤ xs.length ∧ i = .int .i64 (k : Int) ∧ Hid (sameTo' eqN xs ys (xs.length - k) k = b) ∧ ∃ m, w1 = w.drewN m) (fun i _ => xs.length - (intOf i).toNat)
    case atStart => exact ⟨0, Nat.zero_le _, rfl, HS, 0, rfl⟩
    case round =>
      obtain ⟨k, hk, rfl, HE, m, rfl⟩ := hrel
      by_cases hlt : k < xs.length
      · have hlt2 : k < ys.length := by rw [← HL.out]; exact hlt
        obtain ⟨x, hx⟩ : ∃ x, xs[k]? = some x := ⟨_, List.getElem?_eq_getElem hlt⟩
        obtain ⟨y, hy⟩ : ∃ y, ys[k]? = some y := ⟨_, List.getElem?_eq_getElem hlt2⟩
        obtain ⟨g, off, rfl, _, dd⟩ := HU.out.get hx
        obtain ⟨g2, off2, rfl, _, ee⟩ := HV.out.get hy
        have HE2 : Hid ((if eqN x y then sameTo' eqN xs ys (xs.length - (k + 1)) (k + 1) else false) = b) := by
          have h := HE.out
          rw [show xs.length - k = (xs.length - (k + 1)) + 1 from by omega] at h
          exact Lib.hid (sameTo_step hx hy h)
        clear HE hx hy
        obtain ⟨kx, sx, cx⟩ := x
        obtain ⟨ky, sy, cy⟩ := y
        have d0 : w.cell? ⟨g, off + k * 3, none⟩ = some (.int .u8 kx) := by have h := dd 0 _ rfl; rw [show off + (k * KN.sz + 0) = off + k * 3 from by show off + (k * 3 + 0) = _; omega] at h; exact h
        have d1 : w.cell? ⟨g, off + k * 3 + 1, none⟩ = some (.int .i64 sx) := by have h := dd 1 _ rfl; rw [show off + (k * KN.sz + 1) = off + k * 3 + 1 from by show off + (k * 3 + 1) = _; omega] at h; exact h
        have d2 : w.cell? ⟨g, off + k * 3 + 2, none⟩ = some (.int .i64 cx) := by have h := dd 2 _ rfl; rw [show off + (k * KN.sz + 2) = off + k * 3 + 2 from by show off + (k * 3 + 2) = _; omega] at h; exact h
        have e0 : w.cell? ⟨g2, off2 + k * 3, none⟩ = some (.int .u8 ky) := by have h := ee 0 _ rfl; rw [show off2 + (k * KN.sz + 0) = off2 + k * 3 from by show off2 + (k * 3 + 0) = _; omega] at h; exact h
        have e1 : w.cell? ⟨g2, off2 + k * 3 + 1, none⟩ = some (.int .i64 sy) := by have h := ee 1 _ rfl; rw [show off2 + (k * KN.sz + 1) = off2 + k * 3 + 1 from by show off2 + (k * 3 + 1) = _; omega] at h; exact h
        have e2 : w.cell? ⟨g2, off2 + k * 3 + 2, none⟩ = some (.int .i64 cy) := by have h := ee 2 _ rfl; rw [show off2 + (k * KN.sz + 2) = off2 + k * 3 + 2 from by show off2 + (k * 3 + 2) = _; omega] at h; exact h
        clear dd ee
        have hq := eqcN ⟨kx, sx, cx⟩ ⟨ky, sy, cy⟩
        dsimp only at hq
        rcases hq with ⟨h0, h1, h2, he⟩ | ⟨h0, he⟩ | ⟨h0, h1, he⟩ | ⟨h0, h1, h2, he⟩
        · have HE3 : Hid (sameTo' eqN xs ys (xs.length - (k + 1)) (k + 1) = b) := by
            have h := HE2.out
            rw [if_pos he] at h
            exact Lib.hid h
          clear HE2
          go_wp2_with fail
          go_quiet ((fail))
          go_wp2_with fail
          go_roundw
          case rel => exact ⟨k + 1, by omega, by go_num, HE3, m + nq, rfl⟩
          case measure => simp [intOf]; omega
        all_goals
          have HE3 : Hid (b = false) := by
            have h := HE2.out
            rw [he] at h
            exact Lib.hid h.symm
          clear HE2
          go_wp2_with fail
          go_quiet ((fail))
          go_wp2
          go_ret
          exact ⟨by rw [HE3.out]; rfl, m + nq, by simp⟩
      · obtain rfl : k = xs.length := by omega
        have HF : Hid (b = true) := by
          have h := HE.out
          rw [Nat.sub_self] at h
          exact Lib.hid h.symm
        go_wp2
        go_ret
        exact ⟨by rw [HF.out]; rfl, m, rfl⟩
  · rw [if_neg hl] at hb
    have hlI : ((xs.length : Int) != (ys.length : Int)) = true := by simp; omega
    have HF := Lib.hid hb
    clear hl hb
    go_enter Try.func49, Try.ntmps49
    go_wp2
    go_ret
    exact ⟨by rw [← HF.out]; rfl, 0, rfl⟩
set_option maxHeartbeats 2000000 in
theorem sameRN_any (u v : Value) (xs ys : List Rn) (w : World) (hu : KN.R w u xs) (hv : KN.R w v ys) :
    Calls Try.prog 50 #[u, v] w fun e w' => e = .returned (.bool (sameL eqN xs ys)) ∧ ∃ m, w' = w.drewN m := by
  have HU := Lib.hid hu
  have HV := Lib.hid hv
  obtain ⟨ao, cap, rfl, h1, h2, _⟩ := hu.any
  obtain ⟨bo, dap, rfl, h3, h4, _⟩ := hv.any
  clear hu hv
  have hla : xs.length ≤ 9223372036854775807 := by omega
  have hlb : ys.length ≤ 9223372036854775807 := by omega
  obtain ⟨b, hb⟩ : ∃ b, sameL eqN xs ys = b := ⟨_, rfl⟩
  rw [hb]
  unfold sameL at hb
  by_cases hl : xs.length = ys.length
  · rw [if_pos hl] at hb
    have HS := Lib.hid hb
    have hlI : ((xs.length : Int) != (ys.length : Int)) = false := by rw [hl]; simp
    have HL := Lib.hid hl
    clear hl hb
    go_enter Try.func50, Try.ntmps50
    go_wp2_with fail
    go_loopw [5] (fun i w1 => ∃ k : Nat, k ≤ xs.length ∧ i = .int .i64 (k : Int) ∧ Hid (sameTo' eqN xs ys (xs.length - k) k = b) ∧ ∃ m, w1 = w.drewN m) (fun i _ => xs.length - (intOf i).toNat)
    case atStart => exact ⟨0, Nat.zero_le _, rfl, HS, 0, rfl⟩
    case round =>
      obtain ⟨k, hk, rfl, HE, m, rfl⟩ := hrel
      by_cases hlt : k < xs.length
      · have hlt2 : k < ys.length := by rw [← HL.out]; exact hlt
        obtain ⟨x, hx⟩ : ∃ x, xs[k]? = some x := ⟨_, List.getElem?_eq_getElem hlt⟩
        obtain ⟨y, hy⟩ : ∃ y, ys[k]? = some y := ⟨_, List.getElem?_eq_getElem hlt2⟩
        obtain ⟨g, off, rfl, _, dd⟩ := HU.out.get hx
        obtain ⟨g2, off2, rfl, _, ee⟩ := HV.out.get hy
        have HE2 : Hid ((if eqN x y then sameTo' eqN xs ys (xs.length - (k + 1)) (k + 1) else false) = b) := by
          have h := HE.out
          rw [show xs.length - k = (xs.length - (k + 1)) + 1 from by omega] at h
          exact Lib.hid (sameTo_step hx hy h)
        clear HE hx hy
        obtain ⟨kx, sx, cx⟩ := x
        obtain ⟨ky, sy, cy⟩ := y
        have d0 : w.cell? ⟨g, off + k * 3, none⟩ = some (.int .u8 kx) := by have h := dd 0 _ rfl; rw [show off + (k * KN.sz + 0) = off + k * 3 from by show off + (k * 3 + 0) = _; omega] at h; exact h
        have d1 : w.cell? ⟨g, off + k * 3 + 1, none⟩ = some (.int .i64 sx) := by have h := dd 1 _ rfl; rw [show off + (k * KN.sz + 1) = off + k * 3 + 1 from by show off + (k * 3 + 1) = _; omega] at h; exact h
        have d2 : w.cell? ⟨g, off + k * 3 + 2, none⟩ = some (.int .i64 cx) := by have h := dd 2 _ rfl; rw [show off + (k * KN.sz + 2) = off + k * 3 + 2 from by show off + (k * 3 + 2) = _; omega] at h; exact h
        have e0 : w.cell? ⟨g2, off2 + k * 3, none⟩ = some (.int .u8 ky) := by have h := ee 0 _ rfl; rw [show off2 + (k * KN.sz + 0) = off2 + k * 3 from by show off2 + (k * 3 + 0) = _; omega] at h; exact h
        have e1 : w.cell? ⟨g2, off2 + k * 3 + 1, none⟩ = some (.int .i64 sy) := by have h := ee 1 _ rfl; rw [show off2 + (k * KN.sz + 1) = off2 + k * 3 + 1 from by show off2 + (k * 3 + 1) = _; omega] at h; exact h
        have e2 : w.cell? ⟨g2, off2 + k * 3 + 2, none⟩ = some (.int .i64 cy) := by have h := ee 2 _ rfl; rw [show off2 + (k * KN.sz + 2) = off2 + k * 3 + 2 from by show off2 + (k * 3 + 2) = _; omega] at h; exact h
        clear dd ee
        have hq := eqcN ⟨kx, sx, cx⟩ ⟨ky, sy, cy⟩
        dsimp only at hq
        rcases hq with ⟨h0, h1, h2, he⟩ | ⟨h0, he⟩ | ⟨h0, h1, he⟩ | ⟨h0, h1, h2, he⟩
        · have HE3 : Hid (sameTo' eqN xs ys (xs.length - (k + 1)) (k + 1) = b) := by
            have h := HE2.out
            rw [if_pos he] at h
            exact Lib.hid h
          clear HE2
          go_wp2_with fail
          go_quiet ((fail))
          go_wp2_with fail
          go_roundw
          case rel => exact ⟨k + 1, by omega, by go_num, HE3, m + nq, rfl⟩
          case measure => simp [intOf]; omega
        all_goals
          have HE3 : Hid (b = false) := by
            have h := HE2.out
            rw [he] at h
            exact Lib.hid h.symm
          clear HE2
          go_wp2_with fail
          go_quiet ((fail))
          go_wp2
          go_ret
          exact ⟨by rw [HE3.out]; rfl, m + nq, by simp⟩
      · obtain rfl : k = xs.length := by omega
        have HF : Hid (b = true) := by
          have h := HE.out
          rw [Nat.sub_self] at h
          exact Lib.hid h.symm
        go_wp2
        go_ret
        exact ⟨by rw [HF.out]; rfl, m, rfl⟩
  · rw [if_neg hl] at hb
    have hlI : ((xs.length : Int) != (ys.length : Int)) = true := by simp; omega
    have HF := Lib.hid hb
    clear hl hb
    go_enter Try.func50, Try.ntmps50
    go_wp2
    go_ret
    exact ⟨by rw [← HF.out]; rfl, 0, rfl⟩
end Go.Proofs.Ytmdfmkdhfhbkjaa
