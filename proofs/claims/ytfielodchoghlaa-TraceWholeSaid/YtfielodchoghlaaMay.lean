/- Is it a trace? The contracts of May, the program's and the document's. Conditions: at most 2^43 runs. -/
import Derived.Test.YtfielodchoghlaaRows
import Derived.Test.YtfielodchoghlaaRuns
namespace Go.Proofs.Ytfielodchoghlaa
open Go.RowKit
set_option maxRecDepth 100000
set_option linter.unusedVariables false
set_option linter.unusedSimpArgs false
/-- how many operations begin -/
def opsL (rs : List Rn) : Int := (rs.map fun r => if r.k = 11 then r.c else 0).sum
def okC (r : Rn) : Prop := 1 ≤ r.c ∧ r.c ≤ 4294967296
instance (r : Rn) : Decidable (okC r) := by unfold okC; exact inferInstance
def mayL (rs : List Rn) : Bool := decide (rs.length ≤ 1048576 ∧ (∀ r ∈ rs, okC r) ∧ opsL rs ≤ 1048576)
/-- as the program asks -/
def mayP : List Rn → Int → Bool
  | [], _ => true
  | r :: l, o => if okC r then (if (if r.k = 11 then o + r.c else o) > 1048576 then false else mayP l (if r.k = 11 then o + r.c else o)) else false
/-- as the document asks -/
def mayR : List Rn → Int → Bool
  | [], o => decide (o ≤ 1048576)
  | r :: l, o => if okC r then mayR l (if r.k = 11 then o + r.c else o) else false
theorem opsL_cons (r : Rn) (l : List Rn) : opsL (r :: l) = (if r.k = 11 then r.c else 0) + opsL l := by simp [opsL]
theorem opsL_nonneg : ∀ l : List Rn, (∀ r ∈ l, okC r) → 0 ≤ opsL l
  | [], _ => by simp [opsL]
  | r :: l, h => by
    have h1 := opsL_nonneg l (fun x hx => h x (by simp [hx]))
    have h2 := (h r (by simp)).1
    rw [opsL_cons]
    split <;> omega
theorem mayP_eq : ∀ (l : List Rn) (o : Int), o ≤ 1048576 → mayP l o = decide ((∀ r ∈ l, okC r) ∧ o + opsL l ≤ 1048576)
  | [], o, h => by simp [mayP, opsL]; exact h
  | r :: l, o, h => by
    by_cases hr : okC r
    · by_cases hb : (if r.k = 11 then o + r.c else o) > 1048576
      · rw [mayP, if_pos hr, if_pos hb]
        symm
        rw [decide_eq_false_iff_not]
        rintro ⟨h1, h2⟩
        have h3 := opsL_nonneg l (fun x hx => h1 x (by simp [hx]))
        rw [opsL_cons] at h2
        split at hb <;> simp_all <;> omega
      · rw [mayP, if_pos hr, if_neg hb, mayP_eq l _ (by omega)]
        congr 1
        rw [opsL_cons]
        apply propext
        constructor
        · rintro ⟨h1, h2⟩
          refine ⟨fun x hx => ?_, ?_⟩
          · rcases List.mem_cons.1 hx with rfl | hx
            · exact hr
            · exact h1 x hx
          · split at h2 <;> simp_all <;> omega
        · rintro ⟨h1, h2⟩
          refine ⟨fun x hx => h1 x (by simp [hx]), ?_⟩
          split at h2 <;> simp_all <;> omega
    · rw [mayP, if_neg hr]
      symm
      rw [decide_eq_false_iff_not]
      rintro ⟨h1, _⟩
      exact hr (h1 r (by simp))
theorem mayR_eq : ∀ (l : List Rn) (o : Int), mayR l o = decide ((∀ r ∈ l, okC r) ∧ o + opsL l ≤ 1048576)
  | [], o => by simp [mayR, opsL]
  | r :: l, o => by
    by_cases hr : okC r
    · rw [mayR, if_pos hr, mayR_eq l]
      congr 1
      rw [opsL_cons]
      apply propext
      constructor
      · rintro ⟨h1, h2⟩
        refine ⟨fun x hx => ?_, ?_⟩
        · rcases List.mem_cons.1 hx with rfl | hx
          · exact hr
          · exact h1 x hx
        · split at h2 <;> simp_all <;> omega
      · rintro ⟨h1, h2⟩
        refine ⟨fun x hx => h1 x (by simp [hx]), ?_⟩
        split at h2 <;> simp_all <;> omega
    · rw [mayR, if_neg hr]
      symm
      rw [decide_eq_false_iff_not]
      rintro ⟨h1, _⟩
      exact hr (h1 r (by simp))
theorem mayL_P (rs : List Rn) (h : rs.length ≤ 1048576) : mayP rs 0 = mayL rs := by
  rw [mayP_eq rs 0 (by omega)]
  unfold mayL
  congr 1
  simp [h]
theorem mayL_R (rs : List Rn) (h : rs.length ≤ 1048576) : mayR rs 0 = mayL rs := by
  rw [mayR_eq rs 0]
  unfold mayL
  congr 1
  simp [h]
theorem mayL_long (rs : List Rn) (h : ¬ rs.length ≤ 1048576) : mayL rs = false := by
  unfold mayL
  rw [decide_eq_false_iff_not]
  exact fun hh => h hh.1
/-- element k of runs, in a world in which nothing old has turned -/
theorem runAt {w w' : World} {ao : Option Addr} {n cap : Nat} {rs : List Rn} (h : KN.R w (.slice ao n cap) rs) (hb : Below w.heap.size w w') {k : Nat} {a b c : Int} (hx : rs[k]? = some ⟨a, b, c⟩) :
    ∃ g off, ao = some ⟨g, off, none⟩ ∧ g < w.heap.size ∧ w'.cell? ⟨g, off + k * 3, none⟩ = some (.int .u8 a) ∧ w'.cell? ⟨g, off + k * 3 + 1, none⟩ = some (.int .i64 b) ∧ w'.cell? ⟨g, off + k * 3 + 2, none⟩ = some (.int .i64 c) := by
  obtain ⟨g, off, hao, hlt, hc⟩ := h.get hx
  refine ⟨g, off, hao, hlt, ?_, ?_, ?_⟩
  · exact (hb.cell (p := ⟨g, off + k * 3, none⟩) hlt).trans (hc 0 _ rfl)
  · exact (hb.cell (p := ⟨g, off + k * 3 + 1, none⟩) hlt).trans (hc 1 _ rfl)
  · exact (hb.cell (p := ⟨g, off + k * 3 + 2, none⟩) hlt).trans (hc 2 _ rfl)
theorem dropR {rs : List Rn} {k : Nat} {r : Rn} (h : rs[k]? = some r) : rs.drop k = r :: rs.drop (k + 1) := by
  obtain ⟨hk, hr⟩ := List.getElem?_eq_some_iff.1 h
  rw [List.drop_eq_getElem_cons hk, hr]
set_option maxHeartbeats 2000000 in
theorem may_any (u : Value) (rs : List Rn) (w : World) (hu : KN.R w u rs) : Calls Try.prog 31 #[u] w fun e w' => e = .returned (.bool (mayL rs)) ∧ Below w.heap.size w w' := by
  have HU := Lib.hid hu
  obtain ⟨ao, cap, rfl, h1, h2, _⟩ := hu.any
  clear hu
  obtain ⟨b, hb⟩ : ∃ b, mayL rs = b := ⟨_, rfl⟩
  rw [hb]
  by_cases hl : rs.length ≤ 1048576
  · have HS : Hid (mayP (rs.drop 0) 0 = b) := Lib.hid (by rw [List.drop_zero, mayL_P rs hl, hb])
    clear hb
    go_enter Try.func31, Try.ntmps31
    go_wp2_with fail
    go_loopw [3, 11] (fun o i w1 => ∃ (k : Nat) (ops : Int), k ≤ rs.length ∧ i = .int .i64 (k : Int) ∧ o = .int .i64 ops ∧ 0 ≤ ops ∧ ops ≤ 1048576 ∧ Hid (mayP (rs.drop k) ops = b) ∧ Hid (Below w.heap.size w w1)) (fun _ i _ => rs.length - (intOf i).toNat)
    case atStart => exact ⟨0, 0, Nat.zero_le _, rfl, rfl, by omega, by omega, HS, Lib.hid (Below.refl _ _)⟩
    case round =>
      clear HS
      obtain ⟨k, ops, hk, rfl, rfl, ho1, ho2, HS, HB⟩ := hrel
      by_cases hlt : k < rs.length
      · obtain ⟨⟨rk, rsz, rc⟩, hx⟩ : ∃ x, rs[k]? = some x := ⟨_, List.getElem?_eq_getElem hlt⟩
        obtain ⟨g, off, rfl, _, d1, d2, d3⟩ := runAt HU.out HB.out hx
        have hs := HS.out
        rw [dropR hx] at hs
        simp only [mayP, okC] at hs
        have HB1 := Lib.hid (HB.out.alloc HB.out.size (.cells #[.int .u8 rk, .int .i64 rsz, .int .i64 rc] 51))
        clear hx HS
        by_cases c1 : rc < 1
        · have HF : Hid (b = false) := Lib.hid (by rw [← hs, if_neg (by omega)])
          clear hs
          go_wp2
          go_ret
          exact ⟨by rw [HF.out]; rfl, HB1.out⟩
        · by_cases c2 : 4294967296 < rc
          · have HF : Hid (b = false) := Lib.hid (by rw [← hs, if_neg (by omega)])
            clear hs
            go_wp2
            go_ret
            exact ⟨by rw [HF.out]; rfl, HB1.out⟩
          · rw [if_pos ⟨by omega, by omega⟩] at hs
            by_cases c3 : rk = 11
            · have hb3 : (rk == 11) = true := by simpa using c3
              rw [if_pos c3] at hs
              by_cases c4 : 1048576 < ops + rc
              · have HF : Hid (b = false) := Lib.hid (by rw [← hs, if_pos (by omega)])
                clear hs c3
                go_wp2
                go_ret
                exact ⟨by rw [HF.out]; rfl, HB1.out⟩
              · have HS2 : Hid (mayP (rs.drop (k + 1)) (ops + rc) = b) := Lib.hid (by rw [← hs, if_neg (by omega)])
                clear hs c3
                go_wp2
                go_roundw
                case rel => exact ⟨k + 1, ops + rc, by omega, by go_num, rfl, by omega, by omega, HS2, HB1⟩
                case measure => simp [intOf]; omega
            · have hb3 : (rk == 11) = false := by simpa using c3
              rw [if_neg c3, if_neg (by omega)] at hs
              have HS2 := Lib.hid hs
              have c4 : ¬ 1048576 < ops := by omega
              clear hs c3
              go_wp2
              go_roundw
              case rel => exact ⟨k + 1, ops, by omega, by go_num, rfl, by omega, by omega, HS2, HB1⟩
              case measure => simp [intOf]; omega
      · obtain rfl : k = rs.length := by omega
        have HF : Hid (b = true) := by
          have h := HS.out
          rw [List.drop_length] at h
          exact Lib.hid h.symm
        clear HS
        go_wp2
        go_ret
        exact ⟨by rw [HF.out]; rfl, HB.out⟩
  · have HF : Hid (b = false) := Lib.hid (by rw [← hb, mayL_long rs hl])
    have hl2 : (1048576 : Int) < (rs.length : Int) := by omega
    clear hb hl
    go_enter Try.func31, Try.ntmps31
    go_wp2
    go_ret
    exact ⟨by rw [HF.out]; rfl, Below.refl _ _⟩
set_option maxHeartbeats 2000000 in
theorem rmay_any (u : Value) (rs : List Rn) (w : World) (hu : KN.R w u rs) : Calls Try.prog 43 #[u] w fun e w' => e = .returned (.bool (mayL rs)) ∧ ∃ m, w' = w.drewN m := by
  have HU := Lib.hid hu
  obtain ⟨ao, cap, rfl, h1, h2, _⟩ := hu.any
  clear hu
  obtain ⟨b, hb⟩ : ∃ b, mayL rs = b := ⟨_, rfl⟩
  rw [hb]
  by_cases hl : rs.length ≤ 1048576
  · have HS : Hid (mayR (rs.drop 0) 0 = b) := Lib.hid (by rw [List.drop_zero, mayL_R rs hl, hb])
    clear hb
    go_enter Try.func43, Try.ntmps43
    go_wp2_with fail
    go_loopw [3, 4] (fun o i w1 => ∃ (k d : Nat) (ops : Int), k ≤ rs.length ∧ i = .int .i64 (k : Int) ∧ o = .int .i64 ops ∧ 0 ≤ ops ∧ ops ≤ (k : Int) * 4294967296 ∧ Hid (mayR (rs.drop k) ops = b) ∧ w1 = w.drewN d) (fun _ i _ => rs.length - (intOf i).toNat)
    case atStart => exact ⟨0, 0, 0, Nat.zero_le _, rfl, rfl, by omega, by omega, HS, rfl⟩
    case round =>
      clear HS
      obtain ⟨k, d, ops, hk, rfl, rfl, ho1, ho2, HS, rfl⟩ := hrel
      by_cases hlt : k < rs.length
      · obtain ⟨⟨rk, rsz, rc⟩, hx⟩ : ∃ x, rs[k]? = some x := ⟨_, List.getElem?_eq_getElem hlt⟩
        obtain ⟨g, off, rfl, _, d1, d2, d3⟩ := runAt HU.out (Below.refl _ _) hx
        have hs := HS.out
        rw [dropR hx] at hs
        simp only [mayR, okC] at hs
        have ho3 : ops ≤ 4503599627370496 := by omega
        clear hx HS
        by_cases c1 : rc < 1
        · have HF : Hid (b = false) := Lib.hid (by rw [← hs, if_neg (by omega)])
          clear hs ho2
          go_wp2_with fail
          first | (go_quiet (fail); go_wp2; go_ret; exact ⟨by rw [HF.out]; rfl, _, rfl⟩) | (go_wp2; go_ret; exact ⟨by rw [HF.out]; rfl, _, rfl⟩)
        · by_cases c2 : 4294967296 < rc
          · have HF : Hid (b = false) := Lib.hid (by rw [← hs, if_neg (by omega)])
            clear hs ho2
            go_wp2_with fail
            first | (go_quiet (fail); go_wp2; go_ret; exact ⟨by rw [HF.out]; rfl, _, rfl⟩) | (go_wp2; go_ret; exact ⟨by rw [HF.out]; rfl, _, rfl⟩)
          · rw [if_pos ⟨by omega, by omega⟩] at hs
            by_cases c3 : rk = 11
            · have hb3 : (rk == 11) = true := by simpa using c3
              rw [if_pos c3] at hs
              have HS2 := Lib.hid hs
              have ho4 : ops + rc ≤ ((k : Int) + 1) * 4294967296 := by omega
              have HO := Lib.hid ho4
              clear hs c3 ho2 ho4
              go_wp2
              go_roundw
              case rel => exact ⟨k + 1, _, ops + rc, by omega, by go_num, rfl, by omega, HO.out, HS2, rfl⟩
              case measure => simp [intOf]; omega
            · have hb3 : (rk == 11) = false := by simpa using c3
              rw [if_neg c3] at hs
              have HS2 := Lib.hid hs
              have ho4 : ops ≤ ((k : Int) + 1) * 4294967296 := by omega
              have HO := Lib.hid ho4
              clear hs c3 ho2 ho4
              go_wp2
              go_roundw
              case rel => exact ⟨k + 1, _, ops, by omega, by go_num, rfl, by omega, HO.out, HS2, rfl⟩
              case measure => simp [intOf]; omega
      · obtain rfl : k = rs.length := by omega
        have HF : Hid (decide (ops ≤ 1048576) = b) := by
          have h := HS.out
          rw [List.drop_length] at h
          exact Lib.hid h
        clear HS
        go_wp2
        go_ret
        exact ⟨by rw [← HF.out]; rfl, _, rfl⟩
  · have HF : Hid (b = false) := Lib.hid (by rw [← hb, mayL_long rs hl])
    have hl2 : (1048576 : Int) < (rs.length : Int) := by omega
    clear hb hl
    go_enter Try.func43, Try.ntmps43
    go_wp2
    go_ret
    exact ⟨by rw [HF.out]; rfl, 0, rfl⟩
end Go.Proofs.Ytfielodchoghlaa
