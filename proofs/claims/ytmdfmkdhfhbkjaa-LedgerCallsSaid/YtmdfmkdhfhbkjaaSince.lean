/- Since: the program's. Conditions: the ledger's events are fewer than 2^63. -/
import Derived.Test.YtmdfmkdhfhbkjaaRows
import Derived.Test.YtmdfmkdhfhbkjaaKenv
import Derived.Test.YtmdfmkdhfhbkjaaCount
import Derived.Test.YtmdfmkdhfhbkjaaSums
namespace Go.Proofs.Ytmdfmkdhfhbkjaa
open Go.RowKit
set_option maxRecDepth 100000
set_option linter.unusedVariables false
set_option linter.unusedSimpArgs false
/-- the runs of the events from number m on -/
def sinceL : List Rn → Int → List Rn
  | [], _ => []
  | r :: rs, m => if m ≤ 0 then r :: rs else if m < r.c then ⟨r.k, r.s, r.c - m⟩ :: rs else sinceL rs (m - r.c)
theorem since_low (rs : List Rn) (m : Int) (h : m ≤ 0) : sinceL rs m = rs := by
  cases rs with
  | nil => rfl
  | cons r rs => rw [sinceL, if_pos h]
theorem tot_cons (r : Rn) (rs : List Rn) : tot (r :: rs) = r.c + tot rs := by simp [tot]
theorem since_high : ∀ (rs : List Rn) (m : Int), Posi rs → tot rs ≤ m → sinceL rs m = []
  | [], _, _, _ => rfl
  | r :: rs, m, hp, h => by
    have h1 := hp r (by simp)
    have hp2 : Posi rs := fun x hx => hp x (by simp [hx])
    have h2 := tot_nonneg rs hp2
    rw [tot_cons] at h
    rw [sinceL, if_neg (by omega), if_neg (by omega)]
    exact since_high rs (m - r.c) hp2 (by omega)
/-- what the program tells: the runs from k on, the first one cut -/
def cutL (d t : Int) : List Rn → List Rn
  | [] => []
  | r :: rs => (if t < d then ⟨r.k, r.s, r.c - (d - t)⟩ else r) :: rs
theorem since_at : ∀ (rs : List Rn) (m : Int) (k : Nat) (r : Rn), Posi rs → rs[k]? = some r → tot (rs.take k) ≤ m → m < tot (rs.take k) + r.c → sinceL rs m = cutL m (tot (rs.take k)) (rs.drop k)
  | [], _, _, _, _, hx, _, _ => by simp at hx
  | x :: rs, m, 0, r, hp, hx, h1, h2 => by
    have hx' : x = r := by simpa using hx
    subst hx'
    simp only [List.take_zero, show tot [] = 0 from rfl, List.drop_zero] at *
    rw [sinceL]
    by_cases hm : m ≤ 0
    · rw [if_pos hm]
      simp [cutL, show ¬ (0 < m) from by omega]
    · rw [if_neg hm, if_pos (by omega)]
      simp [cutL, show 0 < m from by omega]
  | x :: rs, m, k + 1, r, hp, hx, h1, h2 => by
    have hc := hp x (by simp)
    have hp2 : Posi rs := fun y hy => hp y (by simp [hy])
    have hx' : rs[k]? = some r := by simpa using hx
    rw [List.take_succ_cons, tot_cons] at h1 h2
    have hn : 0 ≤ tot (rs.take k) := by
      have := tot_nonneg (rs.take k) (fun y hy => hp2 y (List.mem_of_mem_take hy))
      omega
    rw [sinceL, if_neg (by omega), if_neg (by omega), since_at rs (m - x.c) k r hp2 hx' (by omega) (by omega), List.drop_succ_cons, List.take_succ_cons, tot_cons]
    obtain ⟨hk, hr⟩ := List.getElem?_eq_some_iff.1 hx'
    rw [List.drop_eq_getElem_cons hk, hr]
    simp only [cutL]
    by_cases hm : tot (rs.take k) < m - x.c
    · rw [if_pos hm, if_pos (by omega)]
      rw [show r.c - (m - x.c - tot (rs.take k)) = r.c - (m - (x.c + tot (rs.take k))) from by omega]
    · rw [if_neg hm, if_neg (by omega)]
theorem Knd.R.tail {α : Type} {K : Knd α} {w : World} {b off n cap : Nat} {l : List α} (h : K.R w (.slice (some ⟨b, off, none⟩) n cap) l) (k : Nat) (hk : k ≤ l.length) : K.R w (.slice (some ⟨b, off + k * K.sz, none⟩) (l.length - k) (cap - k)) (l.drop k) := by
  obtain ⟨ao', cap', hv, h1, h2, h3, h4⟩ := h.form
  injection hv with e1 e2 e3
  subst e1; subst e3
  refine ⟨by rw [K.fl_len, List.length_drop], K.fl_cells _, some ⟨b, off + k * K.sz, none⟩, cap - k, by rw [List.length_drop], by rw [List.length_drop]; omega, by omega, (fun h => by cases h), fun j u hj => ?_⟩
  have hfl : (K.fl l)[k * K.sz + j]? = some u := by
    have e : K.fl l = K.fl (l.take k) ++ K.fl (l.drop k) := by rw [← K.fl_app, List.take_append_drop]
    have hl : (K.fl (l.take k)).length = k * K.sz := by rw [K.fl_len, List.length_take, Nat.min_eq_left hk]
    rw [e, List.getElem?_append_right (by omega), hl, show k * K.sz + j - k * K.sz = j from by omega]
    exact hj
  obtain ⟨b', off', he, hc⟩ := h4 _ u hfl
  injection he with he
  injection he with q1 q2 _
  subst q1; subst q2
  exact ⟨b, off + k * K.sz, rfl, by rw [Nat.add_assoc]; exact hc⟩
/-- the first run's count is put anew -/
theorem Knd.Mk.head {w w1 : World} {g cap N : Nat} {l : List Rn} {x : Rn} (c : Int) (h : KN.Mk (x :: l) w (.slice (some ⟨g, 0, none⟩) N cap) w1) : KN.Mk (⟨x.k, x.s, c⟩ :: l) w (.slice (some ⟨g, 0, none⟩) N cap) (w1.setCells g 2 [.int .i64 c]) := by
  obtain ⟨h1, h2, h3⟩ := h
  have hN : N = l.length + 1 := by
    rcases h1.2 with ⟨hv, _⟩ | ⟨g', cap', cur, hv, _⟩
    · simp at hv
    · injection hv with _ e _ <;> first | exact e | simpa using e
  subst hN
  have hg : w.heap.size ≤ g := h3 g rfl
  have hw : Only (fpv (.slice (some ⟨g, 0, none⟩) (l.length + 1) cap)) w1 (w1.setCells g 2 [.int .i64 c]) := Only.sets (S := fpv (.slice (some ⟨g, 0, none⟩) (l.length + 1) cap)) (.inl rfl) [.int .i64 c] 2 w1 (Only.refl _ _)
  refine ⟨?_, h2.trans (hw.below0 (fun x hx hs => ?_) h2.size), h3⟩
  · unfold Knd.O at *
    rw [List.length_cons] at *
    have q := ownsRow_setCells [.int .i64 c] w1 (KN.fl (x :: l)) 2 h1
    have e1 : KN.fl (x :: l) = [.int .u8 x.k, .int .i64 x.s] ++ (.int .i64 x.c :: KN.fl l) := by simp [Knd.fl, KN]
    have e2 : KN.fl ((⟨x.k, x.s, c⟩ : Rn) :: l) = [.int .u8 x.k, .int .i64 x.s] ++ (.int .i64 c :: KN.fl l) := by simp [Knd.fl, KN]
    have e4 := putAt_app [.int .i64 c] [.int .u8 x.k, .int .i64 x.s] (.int .i64 x.c :: KN.fl l) (by simp)
    rw [e1] at q
    rw [show [Value.int .u8 x.k, Value.int .i64 x.s].length = 2 from rfl] at e4
    rw [e4] at q
    rw [e2]
    simpa using q
  · have := h3 x hs
    omega
theorem since_off (b : Nat) (v : Value) (rs : List Rn) (m : Int) (w : World) (h : LedP w b v rs) (hm : tot rs ≤ m) : Calls Try.prog 23 #[.pointer (some ⟨b, 0, none⟩), .int .i64 m] w fun e w' => e = .returned (.slice none 0 0) ∧ w = w' := by
  have c1 := h.blk.cellAt 1 (v := .int .i64 (tot rs)) rfl
  have hb := h.blk.lt
  obtain ⟨T, hT⟩ : ∃ T, tot rs = T := ⟨_, rfl⟩
  rw [hT] at hm c1
  have hd : decide (m ≥ T) = true := by simpa using hm
  clear h hT
  go_enter Try.func23, Try.ntmps23
  go_wp2
  go_ret
  exact ⟨rfl, rfl⟩
set_option maxHeartbeats 4000000 in
theorem since_any (b : Nat) (v : Value) (rs : List Rn) (m : Int) (w : World) (h : LedP w b v rs) (hl : rs.length ≤ 5497558138880) (ht : tot rs < 9223372036854775808) (m1 : -9223372036854775808 ≤ m) (m2 : m ≤ 9223372036854775807) : Calls Try.prog 23 #[.pointer (some ⟨b, 0, none⟩), .int .i64 m] w (KN.New (sinceL rs m) w) := by
  by_cases hm : tot rs ≤ m
  · refine (since_off b v rs m w h hm).mono ?_
    rintro e w' ⟨rfl, rfl⟩
    rw [since_high rs m h.posi hm]
    exact (Knd.Mk.nil KN w).new
  · have c0 := h.blk.cellAt 0 (v := v) rfl
    have c1 := h.blk.cellAt 1 (v := .int .i64 (tot rs)) rfl
    have hb := h.blk.lt
    have hrow := h.row
    have hpos := h.posi
    have HPO := Lib.hid hpos
    obtain ⟨i0, hi, hz0, hz1, hz2⟩ := info_parts infoN
    have HI := Lib.hid (And.intro hi (And.intro hz0 (And.intro hz1 hz2)))
    obtain ⟨T, hT⟩ : ∃ T, tot rs = T := ⟨_, rfl⟩
    have hT0 := tot_nonneg rs hpos
    rw [hT] at hm c1 ht hT0
    have HT := Lib.hid hT
    have hd : decide (m ≥ T) = false := by simpa using hm
    have HR : Hid (KN.O w v rs) := Lib.hid hrow
    obtain ⟨ao, cap, rfl⟩ := HR.out.any
    clear h hrow hpos hT hi hz0 hz1 hz2
    go_enter Try.func23, Try.ntmps23
    go_wp2_with fail
    go_loopw [5, 6] (fun a i w2 => ∃ (k : Nat) (t : Int), k ≤ rs.length ∧ i = .int .i64 (k : Int) ∧ a = .int .i64 t ∧ 0 ≤ t ∧ t ≤ T ∧ Hid (tot (rs.take k) = t) ∧ Hid (∀ r, rs[k]? = some r → m < t + r.c) ∧ w = w2) (fun _ i _ => (intOf i).toNat)
    case atStart => exact ⟨rs.length, T, Nat.le_refl _, rfl, rfl, by omega, by omega, by rw [List.take_length]; exact HT, Lib.hid (fun r hr => by simp at hr), rfl⟩
    case round =>
      obtain ⟨k, t, hk, rfl, rfl, t0, t1, HS, HM, rfl⟩ := hrel
      by_cases hgo : 0 < k ∧ m < t
      · obtain ⟨g1, g2⟩ := hgo
        obtain ⟨j, hj⟩ : ∃ j, k = j + 1 := ⟨k - 1, by omega⟩
        have hjl : j < rs.length := by omega
        obtain ⟨⟨rk, rsz, rc⟩, hx⟩ : ∃ x, rs[j]? = some x := ⟨_, List.getElem?_eq_getElem hjl⟩
        obtain ⟨g, off, rfl, hg, d1, d2, d3⟩ := runCells HR.out.rd (Below.refl _ _) hx
        have hs : tot (rs.take (j + 1)) = tot (rs.take j) + rc := by rw [List.take_add_one, hx, tot_append]; simp [tot]
        have hn : 0 ≤ tot (rs.take j) := by
          have := tot_nonneg (rs.take j) (fun y hy => HPO.out y (List.mem_of_mem_take hy))
          omega
        obtain ⟨t', ht'⟩ : ∃ t', tot (rs.take j) = t' := ⟨_, rfl⟩
        rw [← hj, HS.out, ht'] at hs
        rw [ht'] at hn
        have hc1 := HPO.out _ (List.mem_of_getElem? hx)
        dsimp only at hc1
        have HS2 := Lib.hid ht'
        have HM2 : Hid (∀ r, rs[j]? = some r → m < t' + r.c) := Lib.hid (fun r hr => by
          rw [hx] at hr
          injection hr with hr
          subst hr
          dsimp only
          omega)
        have hk1 : IntKind.i64.wrap ((k : Int) - 1) = (j : Int) := by rw [IntWalk.i64_in _ (by omega)]; omega
        have hk2 : IntKind.i64.wrap (t - rc) = t' := by rw [IntWalk.i64_in _ (by omega)]; omega
        have hd1 : decide (0 < k) = true := by simpa using g1
        have hd2 : decide (t > m) = true := by simpa using g2
        have hjk : j < k := by omega
        have HBD : Hid (0 ≤ t' ∧ t' ≤ T ∧ j ≤ rs.length) := Lib.hid ⟨by omega, by omega, by omega⟩
        clear hx hs ht' HS HM hj
        go_wp2_with fail
        go_roundw
        case rel => exact ⟨_, _, HBD.out.2.2, rfl, rfl, HBD.out.1, HBD.out.2.1, HS2, HM2, trivial⟩
        case measure => simp [intOf]; omega
      · rcases Nat.eq_zero_or_pos rs.length with h0 | h0
        · have hr0 : rs = [] := List.length_eq_zero_iff.1 h0
          subst hr0
          obtain rfl : k = 0 := by simpa using hk
          have hown0 : (w.alloc (.cells #[] 61)).ownsRow 0 61 3 (.slice (some ⟨w.heap.size, 0, none⟩) 0 0) 0 [] := World.ownsRow_lit w #[] 0 (Nat.zero_le _) (by decide) rfl
          have hT2 : T = 0 := by rw [← HT.out]; rfl
          have ht2 : t = 0 := by omega
          have hmt : decide (m > t) = false := by simp; omega
          obtain ⟨hi, hz0, hz1, hz2⟩ := HI.out
          have HE := HR.out.2
          have hres : sinceL [] m = [] := rfl
          have hmk0 : Hid (KN.Mk [] w (.slice (some ⟨w.heap.size, 0, none⟩) 0 0) (w.alloc (.cells #[] 61))) := Lib.hid ⟨hown0, (Below.refl _ _).alloc (Nat.le_refl _) _, fun x hx => Nat.le_of_eq (by simpa [fpv, Value.ownBlock] using hx)⟩
          have hcs : (ao = none ∧ cap = 0) ∨ ∃ g, ao = some ⟨g, 0, none⟩ ∧ 0 ≤ cap := by
            rcases HE with ⟨hv, _⟩ | ⟨g', cap', cur, hv, _⟩
            · injection hv with e1 e2 e3
              exact .inl ⟨e1, e3⟩
            · injection hv with e1 e2 e3
              exact .inr ⟨g', e1, Nat.zero_le _⟩
          clear hres HE HS HM hgo
          rcases hcs with ⟨rfl, rfl⟩ | ⟨g, rfl, hle⟩
          · have hy : Sl (w.alloc (.cells #[] 61)) 3 (.slice none 0 0) 0 [] := Sl.nil _ _
            clear HR
            go_wp2_with (at_builtin; refine wpList_append_sl _ rfl _ _ 32 rfl 61 i0 _ 3 24 Try.underlying32 hi hz0 hz1 hz2 rfl (by decide) (.slice (some ⟨w.heap.size, 0, none⟩) 0 0) 0 [] rfl hown0 (.slice none 0 0) 0 [] rfl hy (by unfold maxLen; omega) (by omega) ?_)
            intro v' w1 hown hgrow hat hne
            have HN : Hid (KN.New (sinceL [] m) w (.returned v') w1) := by
              have h := hmk0.out.whole (m := []) (N := 0) (by simp) hown hgrow (by simpa using hat)
              exact Lib.hid (by show KN.New [] w (.returned v') w1; exact h.new)
            clear hown hgrow hat hne hown0 hy hi hz0 hz1 hz2 hmk0
            go_wp2
            go_ret
            exact HN.out
          · have hy : Sl (w.alloc (.cells #[] 61)) 3 (.slice (some ⟨g, 0, none⟩) 0 cap) 0 [] := by
              have h := HR.out.rd.grow ((Below.refl _ _).alloc (Nat.le_refl _) (.cells #[] 61))
              unfold Knd.R at h
              exact h
            clear HR
            go_wp2_with (at_builtin; refine wpList_append_sl _ rfl _ _ 32 rfl 61 i0 _ 3 24 Try.underlying32 hi hz0 hz1 hz2 rfl (by decide) (.slice (some ⟨w.heap.size, 0, none⟩) 0 0) 0 [] rfl hown0 (.slice (some ⟨g, 0, none⟩) 0 cap) 0 [] rfl hy (by unfold maxLen; omega) (by omega) ?_)
            intro v' w1 hown hgrow hat hne
            have HN : Hid (KN.New (sinceL [] m) w (.returned v') w1) := by
              have h := hmk0.out.whole (m := []) (N := 0) (by simp) hown hgrow (by simpa using hat)
              exact Lib.hid (by show KN.New [] w (.returned v') w1; exact h.new)
            clear hown hgrow hat hne hown0 hy hi hz0 hz1 hz2 hmk0
            go_wp2
            go_ret
            exact HN.out
        · obtain ⟨g, cap2, hv⟩ := HR.out.form h0
          injection hv with e1 e2 e3
          subst e1
          subst e3
          have hkl : k < rs.length ∨ k = rs.length := by omega
          have hk3 : k < rs.length := by
            rcases hkl with hkl | hkl
            · exact hkl
            · subst hkl
              have hh := HS.out
              rw [List.take_length] at hh
              have := HT.out
              omega
          obtain ⟨r, hx⟩ : ∃ r, rs[k]? = some r := ⟨_, List.getElem?_eq_getElem hk3⟩
          have hmr := HM.out r hx
          have hres : sinceL rs m = cutL m t (rs.drop k) := by
            rcases Int.lt_or_le m t with hmt | hmt
            · have hk0 : k = 0 := by
                rcases Nat.eq_zero_or_pos k with h | h
                · exact h
                · exact absurd ⟨h, hmt⟩ hgo
              have ht0 : t = 0 := by rw [← HS.out, hk0]; rfl
              subst hk0
              rw [since_low rs m (by omega), List.drop_zero, ht0]
              cases rs with
              | nil => rfl
              | cons x rs => simp [cutL, show ¬ (0 < m) from by omega]
            · rw [← HS.out] at hmt hmr ⊢
              exact since_at rs m k r HPO.out hx hmt hmr
          have HRES := Lib.hid hres
          have hy : Sl (w.alloc (.cells #[] 61)) 3 (.slice (some ⟨g, k * 3, none⟩) (rs.length - k) (cap - k)) (rs.length - k) (KN.fl (rs.drop k)) := by
            have h := (HR.out.rd.tail k hk).grow ((Below.refl _ _).alloc (Nat.le_refl _) (.cells #[] 61))
            unfold Knd.R at h
            rw [List.length_drop, Nat.zero_add] at h
            exact h
          have hown0 : (w.alloc (.cells #[] 61)).ownsRow 0 61 3 (.slice (some ⟨w.heap.size, 0, none⟩) 0 0) 0 [] := World.ownsRow_lit w #[] 0 (Nat.zero_le _) (by decide) rfl
          obtain ⟨hi, hz0, hz1, hz2⟩ := HI.out
          have hkb : decide (0 < k) = false ∨ (decide (0 < k) = true ∧ decide (t > m) = false) := by
            rcases Nat.eq_zero_or_pos k with h | h
            · left; simp [h]
            · right
              refine ⟨by simpa using h, ?_⟩
              simp only [gt_iff_lt, decide_eq_false_iff_not]
              exact fun hh => hgo ⟨h, hh⟩
          have hle : rs.length ≤ cap := by
            obtain ⟨ao', cap', hv', q1, q2, _⟩ := HR.out.rd.any
            injection hv' with _ _ q3
            omega
          have HX := Lib.hid hx
          have hrc := HPO.out r (List.mem_of_getElem? hx)
          have hrt : r.c ≤ T := by
            have q1 : tot (rs.take (k + 1)) = tot (rs.take k) + r.c := by rw [List.take_add_one, hx, tot_append]; simp [tot]
            have q2 := tot_take rs HPO.out (k + 1)
            rw [q1, HS.out] at q2
            have := HT.out
            omega
          clear hx hres hgo hkl HS HM
          rcases hkb with hkb | ⟨hkb, hkt⟩
          all_goals
            go_wp2_with (at_builtin; refine wpList_append_sl _ rfl _ _ 32 rfl 61 i0 _ 3 24 Try.underlying32 hi hz0 hz1 hz2 rfl (by decide) (.slice (some ⟨w.heap.size, 0, none⟩) 0 0) 0 [] rfl hown0 (.slice (some ⟨g, k * 3, none⟩) (rs.length - k) (cap - k)) (rs.length - k) (KN.fl (rs.drop k)) rfl hy (by unfold maxLen; omega) (by omega) ?_)
            intro v' w1 hown hgrow hat hne
            have hmk0 : KN.Mk [] w (.slice (some ⟨w.heap.size, 0, none⟩) 0 0) (w.alloc (.cells #[] 61)) := ⟨hown0, (Below.refl _ _).alloc (Nat.le_refl _) _, fun x hx => Nat.le_of_eq (by simpa [fpv, Value.ownBlock] using hx)⟩
            have ho2 : w1.ownsRow 0 KN.e KN.sz v' (rs.length - k) (KN.fl [] ++ KN.fl (rs.drop k)) := hown
            have hmk : Hid (KN.Mk (rs.drop k) w v' w1) := by
              have h := hmk0.whole (m := rs.drop k) (N := rs.length - k) (by simp) ho2 hgrow (by simpa using hat)
              exact Lib.hid (by simpa using h)
            clear hown hgrow hat hmk0 hne ho2 hown0 hy hi hz0 hz1 hz2
            obtain ⟨hkr, hre⟩ := List.getElem?_eq_some_iff.1 HX.out
            have hdr : rs.drop k = r :: rs.drop (k + 1) := by rw [List.drop_eq_getElem_cons hkr, hre]
            rw [hdr] at hmk HRES
            obtain ⟨g2, cap2, hv'⟩ := hmk.out.1.form (by simp)
            obtain ⟨n2, hn2⟩ : ∃ n2, (r :: rs.drop (k + 1)).length = n2 := ⟨_, rfl⟩
            have hn0 : 0 < n2 := by rw [← hn2]; simp
            rw [hn2] at hv'
            subst hv'
            have c2 : w1.cell? ⟨g2, 2, none⟩ = some (.int .i64 r.c) := by
              have h := hmk.out.1.get (i := 0) (x := r) rfl 2 _ rfl
              simpa using h
            have f2 : w1.frozen? ⟨g2, 2, none⟩ = false := hmk.out.1.frozen 2
            clear hkr hre hdr hn2 HX
            obtain ⟨c, hc⟩ : ∃ c, r.c = c := ⟨_, rfl⟩
            rw [hc] at hmr hrc hrt c2
            by_cases hmt : t < m
            · have hw1 : IntKind.i64.wrap (m - t) = m - t := IntWalk.i64_in _ (by omega)
              have hw2 : IntKind.i64.wrap (c - (m - t)) = c - (m - t) := IntWalk.i64_in _ (by omega)
              have hdm : decide (m > t) = true := by simpa using hmt
              have HN : Hid (KN.New (sinceL rs m) w (.returned (.slice (some ⟨g2, 0, none⟩) n2 cap2)) (w1.setCells g2 2 [.int .i64 (c - (m - t))])) := by
                rw [HRES.out]
                simp only [cutL, if_pos hmt, hc]
                exact Lib.hid (Knd.Mk.head (x := r) (c - (m - t)) hmk.out).new
              clear hmk HRES
              go_wp2
              go_ret
              exact HN.out
            · have hdm : decide (m > t) = false := by simpa using hmt
              have HN : Hid (KN.New (sinceL rs m) w (.returned (.slice (some ⟨g2, 0, none⟩) n2 cap2)) w1) := by
                rw [HRES.out]
                simp only [cutL, if_neg hmt]
                exact Lib.hid hmk.out.new
              clear hmk HRES
              go_wp2
              go_ret
              exact HN.out
end Go.Proofs.Ytmdfmkdhfhbkjaa
