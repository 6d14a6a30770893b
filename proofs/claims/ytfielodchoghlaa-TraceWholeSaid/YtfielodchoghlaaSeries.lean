/- The contract of Series: for each operation how many events of a kind stand in it. Conditions: a list of runs within the form's reach. -/
import Derived.Test.YtfielodchoghlaaRows
import Derived.Test.YtfielodchoghlaaFlat
import Derived.Test.YtfielodchoghlaaInts
import Derived.Test.YtfielodchoghlaaZeros
namespace Go.Proofs.Ytfielodchoghlaa
open Go.RowKit
set_option maxRecDepth 100000
set_option linter.unusedVariables false
set_option linter.unusedSimpArgs false
/-- the last number grows -/
def addLast (l : List Int) (c : Int) : List Int := l.set (l.length - 1) (l.getD (l.length - 1) 0 + c)
def serStep (kk : Int) (st : List Int × Bool) (r : Rn) : List Int × Bool :=
  if r.k = 11 then (st.1 ++ List.replicate r.c.toNat 0, true) else if r.k = 12 then (st.1, false) else if st.2 = true ∧ r.k = kk then (addLast st.1 r.c, st.2) else st
def serTo (rs : List Rn) (kk : Int) (k : Nat) : List Int × Bool := (rs.take k).foldl (serStep kk) ([], false)
def seriesL (rs : List Rn) (kk : Int) : List Int := if mayL rs = true then (serTo rs kk rs.length).1 else []
theorem serTo_succ {rs : List Rn} {k : Nat} {r : Rn} (kk : Int) (h : rs[k]? = some r) : serTo rs kk (k + 1) = serStep kk (serTo rs kk k) r := by
  unfold serTo
  rw [List.take_add_one, h]
  simp [List.foldl_append]
theorem addLast_len (l : List Int) (c : Int) : (addLast l c).length = l.length := by simp [addLast]
theorem opsL_take1 {rs : List Rn} {k : Nat} {r : Rn} (hx : rs[k]? = some r) : opsL (rs.take (k + 1)) = opsL (rs.take k) + if r.k = 11 then r.c else 0 := by
  rw [List.take_add_one, hx]
  simp [opsL]
theorem opsL_take_le {rs : List Rn} (h : ∀ r ∈ rs, okC r) (k : Nat) : opsL (rs.take k) ≤ opsL rs := by
  have app : ∀ a b : List Rn, opsL (a ++ b) = opsL a + opsL b := fun a b => by simp [opsL]
  have e : opsL rs = opsL (rs.take k) + opsL (rs.drop k) := by rw [← app, List.take_append_drop]
  rw [e]
  have := opsL_nonneg (rs.drop k) (fun x hx => h x (List.mem_of_mem_drop hx))
  omega
/-- how long, and within which bounds -/
structure SerInv (rs : List Rn) (k : Nat) (st : List Int × Bool) : Prop where
  len : (st.1.length : Int) = opsL (rs.take k)
  open' : st.2 = true → st.1 ≠ []
  bd : ∀ x ∈ st.1, 0 ≤ x ∧ x ≤ (k : Int) * 4294967296
theorem SerInv.zero (rs : List Rn) : SerInv rs 0 ([], false) := ⟨by simp [opsL], by simp, by simp⟩
theorem SerInv.step {rs : List Rn} {k : Nat} {st : List Int × Bool} {r : Rn} (kk : Int) (h : SerInv rs k st) (hx : rs[k]? = some r) (hr : okC r) : SerInv rs (k + 1) (serStep kk st r) := by
  obtain ⟨h1, h2, h3⟩ := h
  obtain ⟨r1, r2⟩ := hr
  have hb : ∀ x ∈ st.1, 0 ≤ x ∧ x ≤ ((k + 1 : Nat) : Int) * 4294967296 := fun x hx => by have := h3 x hx; omega
  unfold serStep
  by_cases c1 : r.k = 11
  · rw [if_pos c1]
    refine ⟨by rw [opsL_take1 hx, if_pos c1, List.length_append, List.length_replicate]; omega, fun _ => ?_, fun x hx => ?_⟩
    · intro e
      have := congrArg List.length e
      simp at this
      omega
    · rcases List.mem_append.1 hx with hx | hx
      · exact hb x hx
      · have := List.eq_of_mem_replicate hx
        omega
  · rw [if_neg c1]
    by_cases c2 : r.k = 12
    · rw [if_pos c2]
      exact ⟨by rw [opsL_take1 hx, if_neg c1]; dsimp only; omega, by simp, hb⟩
    · rw [if_neg c2]
      by_cases c3 : st.2 = true ∧ r.k = kk
      · rw [if_pos c3]
        refine ⟨by rw [opsL_take1 hx, if_neg c1]; simp only [addLast_len]; omega, fun ho e => h2 ho ?_, fun x hx => ?_⟩
        · have := congrArg List.length e
          rw [addLast_len] at this
          exact List.eq_nil_of_length_eq_zero (by simpa using this)
        · rcases List.mem_or_eq_of_mem_set hx with hx | hx
          · exact hb x hx
          · have hne := h2 c3.1
            have hlt : st.1.length - 1 < st.1.length := by have := List.length_pos_iff.2 hne; omega
            have hm : st.1.getD (st.1.length - 1) 0 ∈ st.1 := by rw [List.getD_eq_getElem?_getD, List.getElem?_eq_getElem hlt]; exact List.getElem_mem _
            have := h3 _ hm
            subst hx
            omega
      · rw [if_neg c3]
        exact ⟨by rw [opsL_take1 hx, if_neg c1]; omega, h2, hb⟩
theorem KI_rep (m : Nat) : KI.fl (List.replicate m 0) = List.replicate m (.int .i64 0) := by
  induction m with
  | zero => rfl
  | succ m ih => rw [List.replicate_succ, List.replicate_succ, ← ih]; simp [Knd.fl, KI]
theorem KI_set (l : List Int) (i : Nat) (x : Int) : (KI.fl l).set i (.int .i64 x) = KI.fl (l.set i x) := by
  have e : ∀ l : List Int, KI.fl l = l.map (Value.int .i64) := fun l => (List.map_eq_flatMap ..).symm
  rw [e, e, List.map_set]
set_option maxHeartbeats 4000000 in
theorem series_any (u : Value) (rs : List Rn) (kk : Int) (w : World) (hu : KN.R w u rs) : Calls Try.prog 25 #[u, .int .u8 kk] w (KI.New (seriesL rs kk) w) := by
  obtain ⟨m, hm⟩ : ∃ m, mayL rs = m := ⟨_, rfl⟩
  have HM := Lib.hid hm
  have HU := Lib.hid hu
  cases m with
  | false =>
    clear hm hu
    go_enter Try.func25, Try.ntmps25
    go_wp2_with fail
    refine (may_any u rs w HU.out).mono ?_
    rintro e w1 ⟨he, hb⟩
    rw [HM.out] at he
    subst he
    have HN : Hid (KI.New (seriesL rs kk) w (.returned (.slice none 0 0)) w1) := by
      have e : seriesL rs kk = [] := by unfold seriesL; rw [HM.out]; rfl
      rw [e]
      exact Lib.hid ⟨_, rfl, Knd.O.nil w1, hb, fun x hx => by simp [fpv, Value.ownBlock] at hx⟩
    clear hb
    go_wp2
    go_ret
    exact HN.out
  | true =>
    obtain ⟨hlen, hok⟩ := may_ok hm
    have HOK := Lib.hid hok
    have hops : opsL rs ≤ 1048576 := by
      have h := hm
      unfold mayL at h
      rw [decide_eq_true_eq] at h
      exact h.2.2
    have HOPS := Lib.hid hops
    obtain ⟨i0, hi, hz0, hz1, hz2⟩ := info_parts infoI
    have HI := Lib.hid (And.intro hi (And.intro hz0 (And.intro hz1 hz2)))
    obtain ⟨ao, cap, rfl, _, _, _⟩ := hu.any
    clear hm hu hok hops hi hz0 hz1 hz2
    go_enter Try.func25, Try.ntmps25
    go_wp2_with fail
    refine (may_any _ rs w HU.out).mono ?_
    rintro e w1 ⟨he, hb⟩
    rw [HM.out] at he
    subst he
    have HB := Lib.hid hb
    clear hb
    go_wp2_with fail
    go_loopw [5, 6, 14] (fun o op i w2 => ∃ (k : Nat) (out : List Int) (b : Bool), k ≤ rs.length ∧ i = .int .i64 (k : Int) ∧ op = .bool b ∧ Hid (serTo rs kk k = (out, b)) ∧ Hid (SerInv rs k (out, b)) ∧ Hid (KI.Mk out w o w2)) (fun _ _ i _ => rs.length - (intOf i).toNat)
    case atStart => exact ⟨0, [], false, Nat.zero_le _, rfl, rfl, Lib.hid rfl, Lib.hid (SerInv.zero rs), Lib.hid ⟨Knd.O.nil _, HB.out, fun x hx => by simp [fpv, Value.ownBlock] at hx⟩⟩
    case round =>
      clear HB
      obtain ⟨k, out, b, hk, rfl, rfl, HS, HV, HR⟩ := hrel
      by_cases hlt : k < rs.length
      · obtain ⟨⟨rk, rsz, rc⟩, hx⟩ : ∃ x, rs[k]? = some x := ⟨_, List.getElem?_eq_getElem hlt⟩
        obtain ⟨g, off, rfl, _, d1, d2, d3⟩ := runAt HU.out HR.out.2.1 hx
        have hr := HOK.out _ (List.mem_of_getElem? hx)
        have HV2 := Lib.hid (HV.out.step kk hx hr)
        have hs := serTo_succ kk hx
        rw [HS.out] at hs
        have hol : (out.length : Int) ≤ 1048576 := by
          have h1 := HV.out.len
          have h2 := opsL_take_le HOK.out k
          have h3 := HOPS.out
          dsimp only at h1
          omega
        have holn : ((serStep kk (out, b) ⟨rk, rsz, rc⟩).1.length : Int) ≤ 1048576 := by
          have h1 := HV2.out.len
          have h2 := opsL_take_le HOK.out (k + 1)
          have h3 := HOPS.out
          omega
        obtain ⟨r1, r2⟩ := hr
        dsimp only at r1 r2
        have HR1 := Lib.hid (HR.out.below ((Below.refl wr.heap.size wr).alloc (Nat.le_refl _) (.cells #[.int .u8 rk, .int .i64 rsz, .int .i64 rc] 51)))
        clear hx HR
        by_cases c1 : rk = 11
        · have hb1 : (rk == 11) = true := by simpa using c1
          have hst : serStep kk (out, b) ⟨rk, rsz, rc⟩ = (out ++ List.replicate rc.toNat 0, true) := by unfold serStep; rw [if_pos c1]
          rw [hst] at hs holn HV2
          obtain ⟨n, hn⟩ : ∃ n : Nat, rc = (n : Int) := ⟨rc.toNat, by omega⟩
          subst hn
          rw [Int.toNat_natCast] at hs holn HV2
          rw [List.length_append, List.length_replicate] at holn
          have HS2 := Lib.hid hs
          have HOWN : (wr.alloc (.cells #[.int .u8 rk, .int .i64 rsz, .int .i64 (n : Int)] 51)).ownsRow 0 3 1 u5 out.length (KI.fl out) := HR1.out.1
          obtain ⟨hi, hz0, hz1, hz2⟩ := HI.out
          clear hs c1 hst HS HV
          go_wp2_with (at_builtin; refine wpList_append_zeros _ rfl _ _ 22 3 rfl 3 i0 _ .i64 .i64 1 8 Try.underlying22 Try.underlying3 hi hz0 hz1 hz2 rfl (by decide) (fun m u hu => by rw [zeros_int] at hu; rw [List.eq_of_mem_replicate hu]; rfl) u5 out.length (KI.fl out) rfl HOWN n rfl (by omega) (by unfold maxLen; omega) (by omega) ?_)
          intro v' w2 hown hgrow hat
          have HN : Hid (KI.Mk (out ++ List.replicate n 0) w v' w2) := by
            rw [zeros_int', ← KI_rep] at hown
            exact Lib.hid (HR1.out.whole (by rw [List.length_replicate]) hown hgrow (by simpa using hat))
          clear hown hgrow hat HOWN hi hz0 hz1 hz2
          go_wp2
          go_roundw
          case rel => exact ⟨k + 1, _, true, by omega, by go_num, rfl, HS2, HV2, HN⟩
          case measure => simp [intOf]; omega
        · have hb1 : (rk == 11) = false := by simpa using c1
          by_cases c2 : rk = 12
          · have hb2 : (rk == 12) = true := by simpa using c2
            have hst : serStep kk (out, b) ⟨rk, rsz, rc⟩ = (out, false) := by unfold serStep; rw [if_neg c1, if_pos c2]
            rw [hst] at hs HV2
            have HS2 := Lib.hid hs
            clear hs c1 c2 hst HS HV
            go_wp2
            go_roundw
            case rel => exact ⟨k + 1, out, false, by omega, by go_num, rfl, HS2, HV2, HR1⟩
            case measure => simp [intOf]; omega
          · have hb2 : (rk == 12) = false := by simpa using c2
            cases b with
            | false =>
              have hst : serStep kk (out, false) ⟨rk, rsz, rc⟩ = (out, false) := by unfold serStep; rw [if_neg c1, if_neg c2, if_neg (by simp)]
              rw [hst] at hs HV2
              have HS2 := Lib.hid hs
              clear hs c1 c2 hst HS HV
              go_wp2
              go_roundw
              case rel => exact ⟨k + 1, out, false, by omega, by go_num, rfl, HS2, HV2, HR1⟩
              case measure => simp [intOf]; omega
            | true =>
              by_cases c3 : rk = kk
              · have hb3 : (rk == kk) = true := by simpa using c3
                have hst : serStep kk (out, true) ⟨rk, rsz, rc⟩ = (addLast out rc, true) := by unfold serStep; rw [if_neg c1, if_neg c2, if_pos ⟨rfl, c3⟩]
                rw [hst] at hs HV2
                have HS2 := Lib.hid hs
                have hne := HV.out.open' rfl
                have hpos : 0 < out.length := List.length_pos_iff.2 hne
                obtain ⟨g1, cap1, rfl⟩ := HR1.out.1.form hpos
                obtain ⟨L, hL⟩ : ∃ L, out.length = L + 1 := ⟨out.length - 1, by omega⟩
                obtain ⟨x, hxl⟩ : ∃ x, out[L]? = some x := ⟨_, List.getElem?_eq_getElem (by omega)⟩
                have hxb := HV.out.bd x (List.mem_of_getElem? hxl)
                have hxb2 : x ≤ 4503599627370496 := by omega
                have hxb1 : 0 ≤ x := hxb.1
                have z1 : (wr.alloc (.cells #[.int .u8 rk, .int .i64 rsz, .int .i64 rc] 51)).cell? ⟨g1, L, none⟩ = some (.int .i64 x) := by
                  have h := HR1.out.1.get hxl 0 _ rfl
                  rw [show L * KI.sz + 0 = L from by show L * 1 + 0 = L; omega] at h
                  exact h
                have z2 : (wr.alloc (.cells #[.int .u8 rk, .int .i64 rsz, .int .i64 rc] 51)).frozen? ⟨g1, L, none⟩ = false := HR1.out.1.frozen L
                have hal : Hid (addLast out rc = out.set L (x + rc)) := Lib.hid (by unfold addLast; rw [show out.length - 1 = L from by omega, List.getD_eq_getElem?_getD, hxl]; rfl)
                have HOUT := Lib.hid hL
                rw [hL]
                clear hs c1 c2 c3 hst HS HV hne hpos hxl hxb
                have hwl : IntKind.i64.wrap (L : Int) = (L : Int) := IntWalk.i64_in _ (by omega)
                have hLL : (L : Int) < (L : Int) + 1 := by omega
                have hwx : IntKind.i64.wrap (x + rc) = x + rc := IntWalk.i64_in _ (by omega)
                go_wp2_with fail
                refine wp_region_tame (fun w' => w' = (wr.alloc (.cells #[.int .u8 rk, .int .i64 rsz, .int .i64 rc] 51)).drewN 1) 0 10 (by kernel_rfl) (by kernel_rfl) (fun _ _ d _ _ h => (by cases d <;> exact h)) rfl (by decide) ?_
                simp only [List.take_succ_cons, List.take_zero, List.drop_succ_cons, List.drop_zero]
                refine wpPre_nil ?_
                refine wpTame_run (v := ?_) (by decide) rfl (fun w' hS => ?_) ?_
                rotate_left
                focus (subst hS; go_simp; try rfl; done)
                simp only [Act.put, List.setIfInBounds_toArray, List.set_cons_zero, List.set_cons_succ]
                refine wpTame_run (v := ?_) (by decide) rfl (fun w' hS => ?_) ?_
                rotate_left
                focus (subst hS; go_simp; try rfl; done)
                simp only [Act.put, List.setIfInBounds_toArray, List.set_cons_zero, List.set_cons_succ]
                refine wpTame_run (v := ?_) (by decide) rfl (fun w' hS => ?_) ?_
                rotate_left
                focus (subst hS; go_simp; try rfl; done)
                simp only [Act.put, List.setIfInBounds_toArray, List.set_cons_zero, List.set_cons_succ]
                refine wpTame_run (v := ?_) (by decide) rfl (fun w' hS => ?_) ?_
                rotate_left
                focus (subst hS; go_simp; try rfl; done)
                simp only [Act.put, List.setIfInBounds_toArray, List.set_cons_zero, List.set_cons_succ]
                refine wpTame_run (v := ?_) (by decide) rfl (fun w' hS => ?_) ?_
                rotate_left
                focus (subst hS; go_simp; try rfl; done)
                simp only [Act.put, List.setIfInBounds_toArray, List.set_cons_zero, List.set_cons_succ]
                refine wpTame_run (v := ?_) (by decide) rfl (fun w' hS => ?_) ?_
                rotate_left
                focus (subst hS; go_simp; try rfl; done)
                simp only [Act.put, List.setIfInBounds_toArray, List.set_cons_zero, List.set_cons_succ]
                refine wpTame_run (v := ?_) (by decide) rfl (fun w' hS => ?_) ?_
                rotate_left
                focus (subst hS; go_simp; try rfl; done)
                simp only [Act.put, List.setIfInBounds_toArray, List.set_cons_zero, List.set_cons_succ]
                refine wpTame_run (v := ?_) (by decide) rfl (fun w' hS => ?_) ?_
                rotate_left
                focus (subst hS; go_simp; try rfl; done)
                simp only [Act.put, List.setIfInBounds_toArray, List.set_cons_zero, List.set_cons_succ]
                refine wpTame_run (v := ?_) (by decide) rfl (fun w' hS => ?_) ?_
                rotate_left
                focus (subst hS; go_simp; try rfl; done)
                simp only [Act.put, List.setIfInBounds_toArray, List.set_cons_zero, List.set_cons_succ]
                refine wpTame_run (v := ?_) (by decide) rfl (fun w' hS => ?_) ?_
                rotate_left
                focus (subst hS; go_simp; try rfl; done)
                simp only [Act.put, List.setIfInBounds_toArray, List.set_cons_zero, List.set_cons_succ]
                refine wpTame_nil ?_
                rintro w' rfl
                go_wp2_with fail
                go_roundw
                case rel =>
                  have hlo : L < out.length := by rw [HOUT.out]; omega
                  have h1 : KI.O (((wr.alloc (.cells #[.int .u8 rk, .int .i64 rsz, .int .i64 rc] 51)).drewN 1).setCell ⟨g1, L, none⟩ (.int .i64 (x + rc))) (.slice (some ⟨g1, 0, none⟩) (L + 1) cap1) (addLast out rc) := by
                    have h := (World.ownsRow.stored (HR1.out.draw 1).1 L (.int .i64 (x + rc))).1
                    rw [KI_set, ← hal.out] at h
                    unfold Knd.O
                    rw [addLast_len, ← HOUT.out]
                    exact h
                  have h2 := HR1.out.draw 1
                  refine ⟨k + 1, _, true, by omega, by go_num, rfl, HS2, HV2, Lib.hid ⟨h1, ?_, fun y hy => h2.2.2 y (by rw [HOUT.out]; exact hy)⟩⟩
                  exact h2.2.1.setCell (h2.2.2 g1 rfl) _
                case measure => simp [intOf]; omega
              · have hb3 : (rk == kk) = false := by simpa using c3
                have hst : serStep kk (out, true) ⟨rk, rsz, rc⟩ = (out, true) := by unfold serStep; rw [if_neg c1, if_neg c2, if_neg (by simp [c3])]
                rw [hst] at hs HV2
                have HS2 := Lib.hid hs
                clear hs c1 c2 c3 hst HS HV
                go_wp2
                go_roundw
                case rel => exact ⟨k + 1, out, true, by omega, by go_num, rfl, HS2, HV2, HR1⟩
                case measure => simp [intOf]; omega
      · obtain rfl : k = rs.length := by omega
        have HN : Hid (KI.New (seriesL rs kk) w (.returned u5) wr) := by
          have e : seriesL rs kk = out := by unfold seriesL; rw [if_pos HM.out, HS.out]
          rw [e]
          exact Lib.hid HR.out.new
        clear HR HS HV
        go_wp2
        go_ret
        exact HN.out
end Go.Proofs.Ytfielodchoghlaa
