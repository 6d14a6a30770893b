/- The contracts of the document's functions on bytes: compare, Equal, IsZero, Less, Mask. -/
import Derived.Test.YthegjgbidhbmfaaRows
import Derived.Test.YthegjgbidhbmfaaCt
namespace Go.Proofs.Ythegjgbidhbmfaa
open Go.RowKit
set_option maxRecDepth 100000

theorem rcompare_any (p : Value) (F : Nat → Prop) (o : Option (List Rn)) (s : Int) (w : World) (h : LgR w p F o) (hb : Room o 1) :
    Calls Try.prog 42 #[p, .int .i64 s] w fun e w' => e = .returned (.tuple #[]) ∧ LaidR p F (noteO o 6 s 1) w w' := by
  have H := Lib.hid h
  clear h
  go_enter Try.func42, Try.ntmps42
  go_wp2_with fail
  refine (gnoteR_any p F o 6 s _ H.out hb).mono ?_
  rintro e w1 ⟨rfl, h1⟩
  go_wp2
  refine bodyPost_end (results_none rfl _ _ _) rfl ?_
  exact ⟨rfl, h1⟩
theorem rmask_any (b : Bool) (w : World) : Calls Try.prog 25 #[.bool b] w fun e w' => e = .returned (.int .u8 (maskI b)) ∧ w = w' := by
  cases b
  all_goals
    go_enter Try.func25, Try.ntmps25
    go_wp2
    go_ret
    exact ⟨rfl, rfl⟩
/-- a list of bytes as a string -/
def bstr (l : List UInt8) : ByteArray := ⟨l.toArray⟩
theorem bstr_eq (xs ys : List UInt8) : ((bstr xs).toList == (bstr ys).toList) = decide (xs = ys) := by
  unfold bstr
  rw [ByteArray.toList_mk, ByteArray.toList_mk, Bool.eq_iff_iff, beq_iff_eq, decide_eq_true_eq]
theorem bs_string {w : World} {v : Value} {l : List UInt8} (h : Bs w v l) (src e dst : TypeId) (hs : Try.prog.underlying src = some (.slice e)) (he : Try.prog.underlying e = some (.int .u8)) (hd : Try.prog.underlying dst = some .string) :
    (convert src dst v).run Try.prog w = .ok (.string (bstr l)) w := by
  obtain ⟨ao, cap, rfl, h1, h2, h3, h4⟩ := h.form
  rcases ao with _ | ⟨b, off, sp⟩
  · have h0 : l = [] := by
      rcases l with _ | ⟨x, l⟩
      · rfl
      · obtain ⟨_, _, hh, _⟩ := h4 0 (by simp)
        cases hh
    subst h0
    exact run_convert_bytes_nil w src e hs he _ _ dst hd
  · by_cases h0 : l.length = 0
    · have hl0 : l = [] := List.length_eq_zero_iff.1 h0
      subst hl0
      rw [run_convert_bytes_string w src dst e _ _ _ hs he hd]
      have hx := run_bytesToString (P := Try.prog) w ⟨b, off, sp⟩ 0 cap [] (by
        have := run_loadCells_list (P := Try.prog) w ⟨b, off, sp⟩ [] (fun j v hj => by simp at hj)
        exact this)
      exact hx
    · obtain ⟨b', off', hh, _⟩ := h4 0 (by omega)
      injection hh with hh
      injection hh with e1 e2 e3
      subst e3
      have hx := run_convert_bytes_arg (P := Try.prog) w src e hs he b off l.length cap (l.map fun x => (x.toNat : Int)) (by simp) (fun i hi => by
        obtain ⟨b2, off2, hh2, hc⟩ := h4 i hi
        injection hh2 with hh2
        injection hh2 with e4 e5 _
        rw [e4, e5, hc]
        rw [List.getD_eq_getElem?_getD, List.getD_eq_getElem?_getD, List.getElem?_map, List.getElem?_eq_getElem hi]
        rfl) dst hd
      rw [hx]
      congr 2
      unfold strOfNums bstr
      congr 2
      rw [List.map_map]
      have e : ((fun n : Int => UInt8.ofNat n.toNat) ∘ fun x : UInt8 => (x.toNat : Int)) = id := by
        funext x
        simp
      rw [e, List.map_id]
theorem rconv {w : World} {v : Value} {l : List UInt8} (h : Bs w v l) (n : Nat) : (convert 22 9 v).run Try.prog (w.drewN n) = .ok (.string (bstr l)) (w.drewN n) :=
  bs_string (w := w.drewN n) (h.grow ⟨rfl, rfl, rfl, Nat.le_refl _, fun _ _ => rfl⟩) _ 5 _ Try.underlying22 Try.underlying5 Try.underlying9
set_option maxHeartbeats 400000 in
theorem requal_any (p : Value) (F : Nat → Prop) (o : Option (List Rn)) (u v : Value) (xs ys : List UInt8) (w : World) (h : LgR w p F o) (hb : Room o 1) (hu : Bs w u xs) (hv : Bs w v ys)
    (du : xs ≠ [] → ∀ b, u.ownBlock = some b → ¬ F b) (dv : ys ≠ [] → ∀ b, v.ownBlock = some b → ¬ F b) :
    Calls Try.prog 29 #[p, u, v] w fun e w' => e = .returned (.bool (decide (xs = ys))) ∧ LaidR p F (if xs.length = ys.length then noteO o 6 xs.length 1 else o) w w' := by
  have H := Lib.hid h
  have HU := Lib.hid hu
  have HV := Lib.hid hv
  obtain ⟨ao, cap, rfl, h1, h2, _, _⟩ := hu.form
  obtain ⟨bo, dap, rfl, h3, h4, _, _⟩ := hv.form
  clear hu hv h
  have hla : xs.length ≤ 9223372036854775807 := by omega
  have hlb : ys.length ≤ 9223372036854775807 := by omega
  by_cases hl : xs.length = ys.length
  · have hlI : ((xs.length : Int) != (ys.length : Int)) = false := by rw [hl]; simp
    rw [if_pos hl]
    clear hl
    go_enter Try.func29, Try.ntmps29
    go_wp2_with fail
    refine (rcompare_any p F o xs.length _ H.out hb).mono ?_
    rintro e w1 ⟨rfl, h1⟩
    have HN := Lib.hid h1
    have c1 := rconv (HU.out.only' h1.only du) 0
    have c2 := rconv (HV.out.only' h1.only dv) 0
    have c3 := bstr_eq xs ys
    clear h1
    rw [World.drewN_zero] at c1 c2
    go_wp2
    go_ret
    exact ⟨rfl, HN.out⟩
  · have hlI : ((xs.length : Int) != (ys.length : Int)) = true := by simp; omega
    have HF : Hid (decide (xs = ys) = false) := Lib.hid (by simp; intro h; exact hl (by rw [h]))
    rw [if_neg hl]
    clear hl
    go_enter Try.func29, Try.ntmps29
    go_wp2
    go_ret
    exact ⟨by rw [HF.out]; rfl, LaidR.same H.out 0 rfl⟩
/-- all bytes from k on are 0 -/
theorem zeroL_at (l : List UInt8) (k : Nat) (hk : k < l.length) (hx : ¬ l.getD k 0 = 0) : zeroL l = false := by
  rw [Bool.eq_false_iff]
  intro h
  exact hx ((zeroL_iff l).1 h k hk)
set_option maxHeartbeats 1000000 in
theorem risZero_any (p : Value) (F : Nat → Prop) (o : Option (List Rn)) (u : Value) (xs : List UInt8) (w : World) (h : LgR w p F o) (hb : Room o 1) (hu : Bs w u xs)
    (du : xs ≠ [] → ∀ b, u.ownBlock = some b → ¬ F b) :
    Calls Try.prog 33 #[p, u] w fun e w' => e = .returned (.bool (zeroL xs)) ∧ LaidR p F (noteO o 6 xs.length 1) w w' := by
  have H := Lib.hid h
  have HU := Lib.hid hu
  obtain ⟨ao, cap, rfl, h1, h2, _, _⟩ := hu.form
  clear hu h
  have hla : xs.length ≤ 9223372036854775807 := by omega
  go_enter Try.func33, Try.ntmps33
  go_wp2_with fail
  refine (rcompare_any p F o xs.length _ H.out hb).mono ?_
  rintro e w1 ⟨rfl, h1⟩
  have HN := Lib.hid h1
  have H3 := HU.out.only' h1.only du
  obtain ⟨ao', cap', hv, _, _, _, c1⟩ := H3.form
  injection hv with e1 e2 e3
  subst e1
  have C1 := Lib.hid c1
  clear h1 H3 c1 e2 e3
  go_wp2_with fail
  go_loop [5] (fun i => ∃ k : Nat, k ≤ xs.length ∧ i = .int .i64 (k : Int) ∧ Hid (∀ j, j < k → xs.getD j 0 = 0)) (fun i => xs.length - (intOf i).toNat)
  case atStart => exact ⟨0, Nat.zero_le _, rfl, Lib.hid (fun j hj => by omega)⟩
  case round =>
    obtain ⟨k, hk, rfl, HZ⟩ := hrel
    by_cases hlt : k < xs.length
    · obtain ⟨g, off, rfl, d1⟩ := C1.out k hlt
      by_cases hx0 : xs.getD k 0 = 0
      · have HZ2 : Hid (∀ j, j < k + 1 → xs.getD j 0 = 0) := Lib.hid (fun j hj => by
          by_cases e : j = k
          · rw [e]; exact hx0
          · exact HZ.out j (by omega))
        rw [hx0] at d1
        clear hx0
        go_wp2_with fail
        go_round
        case rel => exact ⟨k + 1, by omega, by go_num, HZ2⟩
        case measure => simp [intOf]; omega
      · have HF := Lib.hid (zeroL_at xs k hlt hx0)
        have hne : (((xs.getD k 0).toNat : Int) != 0) = true := by
          have : ¬ ((xs.getD k 0).toNat : Int) = 0 := fun e => hx0 (UInt8.toNat_inj.1 (by rw [show (0 : UInt8).toNat = 0 from rfl]; omega))
          rw [bne_iff_ne]
          exact this
        clear hx0
        generalize xs.getD k 0 = x at d1 hne
        go_wp2
        go_ret
        exact ⟨by rw [HF.out]; rfl, HN.out⟩
    · obtain rfl : k = xs.length := by omega
      have HF : Hid (zeroL xs = true) := Lib.hid ((zeroL_iff xs).2 HZ.out)
      go_wp2
      go_ret
      exact ⟨by rw [HF.out]; rfl, HN.out⟩
set_option maxHeartbeats 1000000 in
theorem rless_any (p : Value) (F : Nat → Prop) (o : Option (List Rn)) (u v : Value) (xs ys : List UInt8) (w : World) (h : LgR w p F o) (hb : Room o 1) (hu : Bs w u xs) (hv : Bs w v ys)
    (du : xs ≠ [] → ∀ b, u.ownBlock = some b → ¬ F b) (dv : ys ≠ [] → ∀ b, v.ownBlock = some b → ¬ F b) :
    Calls Try.prog 31 #[p, u, v] w fun e w' => e = .returned (.tuple #[.bool (if xs.length = ys.length then ltL xs ys else false), .int .i64 (if xs.length = ys.length then 0 else 2)]) ∧ LaidR p F (if xs.length = ys.length then noteO o 6 xs.length 1 else o) w w' := by
  have H := Lib.hid h
  have HU := Lib.hid hu
  have HV := Lib.hid hv
  obtain ⟨ao, cap, rfl, h1, h2, _, _⟩ := hu.form
  obtain ⟨bo, dap, rfl, h3, h4, _, _⟩ := hv.form
  clear hu hv h
  have hla : xs.length ≤ 9223372036854775807 := by omega
  have hlb : ys.length ≤ 9223372036854775807 := by omega
  by_cases hl : xs.length = ys.length
  · have hlI : ((xs.length : Int) != (ys.length : Int)) = false := by rw [hl]; simp
    have HL := Lib.hid hl
    rw [if_pos hl, if_pos hl, if_pos hl]
    clear hl
    go_enter Try.func31, Try.ntmps31
    go_wp2_with fail
    refine (rcompare_any p F o xs.length _ H.out hb).mono ?_
    rintro e w1 ⟨rfl, h1⟩
    have HN := Lib.hid h1
    have H3 := HU.out.only' h1.only du
    have H4 := HV.out.only' h1.only dv
    obtain ⟨ao', cap', hv, _, _, _, c1⟩ := H3.form
    injection hv with e1 e2 e3
    subst e1
    obtain ⟨bo', dap', hv2, _, _, _, c2⟩ := H4.form
    injection hv2 with e4 e5 e6
    subst e4
    have C1 := Lib.hid c1
    have C2 := Lib.hid c2
    clear h1 H3 H4 c1 c2 e2 e3 e5 e6
    go_wp2_with fail
    go_loopw [8] (fun i w2 => ∃ k : Nat, k ≤ xs.length ∧ i = .int .i64 (k : Int) ∧ Hid (ltL (xs.drop k) (ys.drop k) = ltL xs ys) ∧ ∃ m, w2 = w1.drewN m) (fun i _ => xs.length - (intOf i).toNat)
    case atStart => exact ⟨0, Nat.zero_le _, rfl, Lib.hid rfl, 0, rfl⟩
    case round =>
      obtain ⟨k, hk, rfl, HB, m, rfl⟩ := hrel
      by_cases hk1 : k < xs.length
      · have hk2 : k < ys.length := by rw [← HL.out]; exact hk1
        obtain ⟨g, off, rfl, d1⟩ := C1.out k hk1
        obtain ⟨g2, off2, rfl, d2⟩ := C2.out k hk2
        have HE : Hid ((if xs.getD k 0 = ys.getD k 0 then ltL (xs.drop (k + 1)) (ys.drop (k + 1)) else decide ((xs.getD k 0).toNat < (ys.getD k 0).toNat)) = ltL xs ys) := by
          have h := HB.out
          rw [ltL_drop xs ys k hk1 hk2] at h
          exact h
        clear HB
        generalize xs.getD k 0 = x at d1 HE
        generalize ys.getD k 0 = y at d2 HE
        by_cases hxy : x = y
        · have HE2 : Hid (ltL (xs.drop (k + 1)) (ys.drop (k + 1)) = ltL xs ys) := by
            have h := HE.out
            rw [if_pos hxy] at h
            exact h
          have hne : ((x.toNat : Int) != (y.toNat : Int)) = false := by rw [hxy]; simp
          clear HE hxy
          go_wp2_with fail
          go_quiet (fail)
          go_wp2_with fail
          go_roundw
          case rel => exact ⟨k + 1, by omega, by go_num, HE2, m + nq, by simp⟩
          case measure => simp [intOf]; omega
        · have HE2 : Hid (decide (x.toNat < y.toNat) = ltL xs ys) := by
            have h := HE.out
            rw [if_neg hxy] at h
            exact h
          have hne : ((x.toNat : Int) != (y.toNat : Int)) = true := by
            have : ¬ x.toNat = y.toNat := fun e => hxy (UInt8.toNat_inj.1 e)
            simp
            omega
          clear HE hxy
          go_wp2_with fail
          go_quiet (fail)
          go_wp2_with fail
          go_quiet (fail)
          go_wp2
          go_ret2
          rw [← HE2.out]
          exact ⟨rfl, by simpa using HN.out.draw _⟩
      · obtain rfl : k = xs.length := by omega
        have HF : Hid (ltL xs ys = false) := by
          have h := HB.out
          rw [List.drop_length] at h
          rw [← h]
          exact Lib.hid (by cases ys.drop xs.length <;> rfl)
        go_wp2
        go_ret2
        rw [HF.out]
        exact ⟨rfl, HN.out.draw m⟩
  · have hlI : ((xs.length : Int) != (ys.length : Int)) = true := by simp; omega
    rw [if_neg hl, if_neg hl, if_neg hl]
    clear hl
    go_enter Try.func31, Try.ntmps31
    go_wp2
    go_ret2
    exact ⟨rfl, LaidR.same H.out 0 rfl⟩
end Go.Proofs.Ythegjgbidhbmfaa
