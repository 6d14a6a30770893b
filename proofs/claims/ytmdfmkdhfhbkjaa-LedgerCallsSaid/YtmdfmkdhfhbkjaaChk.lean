/- Check of runs: the program's and the document's. -/
import Derived.Test.YtmdfmkdhfhbkjaaRows
import Derived.Test.YtmdfmkdhfhbkjaaSums
namespace Go.Proofs.Ytmdfmkdhfhbkjaa
open Go.RowKit
set_option maxRecDepth 100000
set_option linter.unusedVariables false
set_option linter.unusedSimpArgs false
def eqE2 (a b c d : Int) : Bool := (a == c) && (b == d)
theorem eqcE (a b c d : Int) : ((a == c) = true ∧ (b == d) = true ∧ eqE2 a b c d = true) ∨ ((a == c) = false ∧ eqE2 a b c d = false) ∨ ((a == c) = true ∧ (b == d) = false ∧ eqE2 a b c d = false) := by
  unfold eqE2
  cases h0 : (a == c) <;> cases h1 : (b == d) <;> simp
/-- from run k on, n of them: may they be? -/
def chkF (rs : List Rn) : Nat → Nat → Int
  | 0, _ => 0
  | n + 1, k => match rs[k]? with
    | some r => if r.c < 1 then 120 else match k with
      | 0 => chkF rs n 1
      | j + 1 => match rs[j]? with
        | some p => if eqE2 r.k r.s p.k p.s = true then 120 else chkF rs n (j + 2)
        | none => 0
    | none => 0
def chkL (rs : List Rn) : Int := chkF rs rs.length 0
set_option maxHeartbeats 2000000 in
theorem check_any (u : Value) (rs : List Rn) (w : World) (hu : KN.R w u rs) : Calls Try.prog 32 #[u] w fun e w' => e = .returned (.int .i64 (chkL rs)) ∧ Below w.heap.size w w' := by
  have HU := Lib.hid hu
  obtain ⟨ao, cap, rfl, _, _, _⟩ := hu.any
  obtain ⟨T, hT⟩ : ∃ T, chkL rs = T := ⟨_, rfl⟩
  rw [hT]
  have HT : Hid (chkF rs rs.length 0 = T) := Lib.hid hT
  clear hu hT
  go_enter Try.func32, Try.ntmps32
  go_wp2_with fail
  go_loopw [7] (fun i w2 => ∃ (k : Nat), k ≤ rs.length ∧ i = .int .i64 (k : Int) ∧ Hid (chkF rs (rs.length - k) k = T) ∧ Hid (Below w.heap.size w w2)) (fun i _ => rs.length - (intOf i).toNat)
  case atStart => exact ⟨0, Nat.zero_le _, rfl, HT, Lib.hid (Below.refl _ _)⟩
  case round =>
    clear HT
    obtain ⟨k, hk, rfl, HS, HB⟩ := hrel
    by_cases hlt : k < rs.length
    · obtain ⟨⟨rk, rsz, rc⟩, hx⟩ : ∃ x, rs[k]? = some x := ⟨_, List.getElem?_eq_getElem hlt⟩
      obtain ⟨g, off, rfl, hg, d1, d2, d3⟩ := runCells HU.out HB.out hx
      have hgr : g < wr.heap.size := Nat.lt_of_lt_of_le hg HB.out.size
      have hs := HS.out
      rw [show rs.length - k = (rs.length - (k + 1)) + 1 from by omega] at hs
      rw [chkF, hx] at hs
      dsimp only at hs
      by_cases hc : rc < 1
      · rw [if_pos hc] at hs
        have HS2 := Lib.hid hs
        clear hs HS hx
        have hcb : decide (rc < 1) = true := by simpa using hc
        go_wp2_with fail
        go_quiet (fail)
        go_wp2
        go_ret
        exact ⟨by have e := HS2.out; subst e; rfl, by first | exact ((HB.out.alloc HB.out.size _).trans ⟨rfl, rfl, rfl, Nat.le_refl _, fun _ _ => rfl⟩) | exact (HB.out.trans ⟨rfl, rfl, rfl, Nat.le_refl _, fun _ _ => rfl⟩)⟩
      · rw [if_neg hc] at hs
        have hcb : decide (rc < 1) = false := by simpa using hc
        have hc2 : 1 ≤ rc := by omega
        by_cases hk0 : k = 0
        · have hkb : decide (0 < k) = false := by simp; omega
          have HS2 : Hid (chkF rs (rs.length - 1) 1 = T) := by
            subst hk0
            exact Lib.hid hs
          have HK0 := Lib.hid hk0
          clear hs HS hx hk0
          go_wp2_with fail
          go_quiet (fail)
          go_wp2_with fail
          go_roundw
          case rel => exact ⟨1, by omega, by have := HK0.out; go_num, HS2, Lib.hid (by first | exact ((HB.out.alloc HB.out.size _).trans ⟨rfl, rfl, rfl, Nat.le_refl _, fun _ _ => rfl⟩) | exact (HB.out.trans ⟨rfl, rfl, rfl, Nat.le_refl _, fun _ _ => rfl⟩))⟩
          case measure => simp [intOf]; omega
        · obtain ⟨j, hkj⟩ : ∃ j, k = j + 1 := ⟨k - 1, by omega⟩
          have hs2 : (match rs[j]? with
        | some p => if eqE2 rk rsz p.k p.s = true then 120 else chkF rs (rs.length - (k + 1)) (k + 1)
        | none => 0) = T := by
            subst hkj
            exact hs
          replace hs := hs2
          clear hs2
          obtain ⟨⟨pk, psz, pc⟩, hy⟩ : ∃ x, rs[j]? = some x := ⟨_, List.getElem?_eq_getElem (by omega)⟩
          obtain ⟨g2, off2, he2, hg2, e1, e2, e3⟩ := runCells HU.out HB.out hy
          injection he2 with he2
          injection he2 with q1 q2 _
          subst q1; subst q2
          simp only [hy] at hs
          have hj1 : IntKind.i64.wrap ((k : Int) - 1) = (j : Int) := by rw [IntWalk.i64_in _ (by omega)]; omega
          have hj0 : decide (0 < k) = true := by simp; omega
          have hjl : j < rs.length := by omega
          clear hx hy HS hk0 hkj
          rcases eqcE rk rsz pk psz with ⟨b1, b2, he⟩ | ⟨b1, he⟩ | ⟨b1, b2, he⟩
          · rw [if_pos he] at hs
            have HS2 := Lib.hid hs
            clear hs
            go_wp2_with fail
            go_quiet (fail)
            go_wp2
            go_ret
            exact ⟨by have e := HS2.out; subst e; rfl, by first | exact ((HB.out.alloc HB.out.size _).trans ⟨rfl, rfl, rfl, Nat.le_refl _, fun _ _ => rfl⟩) | exact (HB.out.trans ⟨rfl, rfl, rfl, Nat.le_refl _, fun _ _ => rfl⟩)⟩
          all_goals
            rw [if_neg (by rw [he]; simp)] at hs
            have HS2 := Lib.hid hs
            clear hs
            go_wp2_with fail
            go_quiet (fail)
            go_wp2_with fail
            go_roundw
            case rel => exact ⟨k + 1, by omega, by go_num, HS2, Lib.hid (by first | exact ((HB.out.alloc HB.out.size _).trans ⟨rfl, rfl, rfl, Nat.le_refl _, fun _ _ => rfl⟩) | exact (HB.out.trans ⟨rfl, rfl, rfl, Nat.le_refl _, fun _ _ => rfl⟩))⟩
            case measure => simp [intOf]; omega
    · obtain rfl : k = rs.length := by omega
      have ht : T = 0 := by have h := HS.out; rw [Nat.sub_self] at h; exact h.symm
      subst ht
      clear HS
      go_wp2
      go_ret
      exact ⟨rfl, HB.out⟩
set_option maxHeartbeats 2000000 in
theorem rcheck_any (u : Value) (rs : List Rn) (w : World) (hu : KN.R w u rs) : Calls Try.prog 52 #[u] w fun e w' => e = .returned (.int .i64 (chkL rs)) ∧ Below w.heap.size w w' := by
  have HU := Lib.hid hu
  obtain ⟨ao, cap, rfl, _, _, _⟩ := hu.any
  obtain ⟨T, hT⟩ : ∃ T, chkL rs = T := ⟨_, rfl⟩
  rw [hT]
  have HT : Hid (chkF rs rs.length 0 = T) := Lib.hid hT
  clear hu hT
  go_enter Try.func52, Try.ntmps52
  go_wp2_with fail
  go_loopw [3] (fun i w2 => ∃ (k : Nat), k ≤ rs.length ∧ i = .int .i64 (k : Int) ∧ Hid (chkF rs (rs.length - k) k = T) ∧ Hid (Below w.heap.size w w2)) (fun i _ => rs.length - (intOf i).toNat)
  case atStart => exact ⟨0, Nat.zero_le _, rfl, HT, Lib.hid (Below.refl _ _)⟩
  case round =>
    clear HT
    obtain ⟨k, hk, rfl, HS, HB⟩ := hrel
    by_cases hlt : k < rs.length
    · obtain ⟨⟨rk, rsz, rc⟩, hx⟩ : ∃ x, rs[k]? = some x := ⟨_, List.getElem?_eq_getElem hlt⟩
      obtain ⟨g, off, rfl, hg, d1, d2, d3⟩ := runCells HU.out HB.out hx
      have hgr : g < wr.heap.size := Nat.lt_of_lt_of_le hg HB.out.size
      have hs := HS.out
      rw [show rs.length - k = (rs.length - (k + 1)) + 1 from by omega] at hs
      rw [chkF, hx] at hs
      dsimp only at hs
      by_cases hc : rc < 1
      · rw [if_pos hc] at hs
        have HS2 := Lib.hid hs
        clear hs HS hx
        have hcb : decide (rc < 1) = true := by simpa using hc
        go_wp2_with fail
        go_quiet (fail)
        go_wp2
        go_ret
        exact ⟨by have e := HS2.out; subst e; rfl, by first | exact ((HB.out.alloc HB.out.size _).trans ⟨rfl, rfl, rfl, Nat.le_refl _, fun _ _ => rfl⟩) | exact (HB.out.trans ⟨rfl, rfl, rfl, Nat.le_refl _, fun _ _ => rfl⟩)⟩
      · rw [if_neg hc] at hs
        have hcb : decide (rc < 1) = false := by simpa using hc
        have hc2 : 1 ≤ rc := by omega
        by_cases hk0 : k = 0
        · have hkb : decide (0 < k) = false := by simp; omega
          have HS2 : Hid (chkF rs (rs.length - 1) 1 = T) := by
            subst hk0
            exact Lib.hid hs
          have HK0 := Lib.hid hk0
          clear hs HS hx hk0
          go_wp2_with fail
          go_quiet (fail)
          go_wp2_with fail
          go_roundw
          case rel => exact ⟨1, by omega, by have := HK0.out; go_num, HS2, Lib.hid (by first | exact ((HB.out.alloc HB.out.size _).trans ⟨rfl, rfl, rfl, Nat.le_refl _, fun _ _ => rfl⟩) | exact (HB.out.trans ⟨rfl, rfl, rfl, Nat.le_refl _, fun _ _ => rfl⟩))⟩
          case measure => simp [intOf]; omega
        · obtain ⟨j, hkj⟩ : ∃ j, k = j + 1 := ⟨k - 1, by omega⟩
          have hs2 : (match rs[j]? with
        | some p => if eqE2 rk rsz p.k p.s = true then 120 else chkF rs (rs.length - (k + 1)) (k + 1)
        | none => 0) = T := by
            subst hkj
            exact hs
          replace hs := hs2
          clear hs2
          obtain ⟨⟨pk, psz, pc⟩, hy⟩ : ∃ x, rs[j]? = some x := ⟨_, List.getElem?_eq_getElem (by omega)⟩
          obtain ⟨g2, off2, he2, hg2, e1, e2, e3⟩ := runCells HU.out HB.out hy
          injection he2 with he2
          injection he2 with q1 q2 _
          subst q1; subst q2
          simp only [hy] at hs
          have hj1 : IntKind.i64.wrap ((k : Int) - 1) = (j : Int) := by rw [IntWalk.i64_in _ (by omega)]; omega
          have hj0 : decide (0 < k) = true := by simp; omega
          have hjl : j < rs.length := by omega
          clear hx hy HS hk0 hkj
          rcases eqcE rk rsz pk psz with ⟨b1, b2, he⟩ | ⟨b1, he⟩ | ⟨b1, b2, he⟩
          · rw [if_pos he] at hs
            have HS2 := Lib.hid hs
            clear hs
            go_wp2_with fail
            go_quiet (fail)
            go_wp2
            go_ret
            exact ⟨by have e := HS2.out; subst e; rfl, by first | exact ((HB.out.alloc HB.out.size _).trans ⟨rfl, rfl, rfl, Nat.le_refl _, fun _ _ => rfl⟩) | exact (HB.out.trans ⟨rfl, rfl, rfl, Nat.le_refl _, fun _ _ => rfl⟩)⟩
          all_goals
            rw [if_neg (by rw [he]; simp)] at hs
            have HS2 := Lib.hid hs
            clear hs
            go_wp2_with fail
            go_quiet (fail)
            go_wp2_with fail
            go_roundw
            case rel => exact ⟨k + 1, by omega, by go_num, HS2, Lib.hid (by first | exact ((HB.out.alloc HB.out.size _).trans ⟨rfl, rfl, rfl, Nat.le_refl _, fun _ _ => rfl⟩) | exact (HB.out.trans ⟨rfl, rfl, rfl, Nat.le_refl _, fun _ _ => rfl⟩))⟩
            case measure => simp [intOf]; omega
    · obtain rfl : k = rs.length := by omega
      have ht : T = 0 := by have h := HS.out; rw [Nat.sub_self] at h; exact h.symm
      subst ht
      clear HS
      go_wp2
      go_ret
      exact ⟨rfl, HB.out⟩
end Go.Proofs.Ytmdfmkdhfhbkjaa
