/- All events, one behind the other: the contracts of Flat, the program's and the document's. Conditions: a list of runs within the form's reach. -/
import Derived.Test.YtfielodchoghlaaRows
import Derived.Test.YtfielodchoghlaaMay
import Derived.Test.YtfielodchoghlaaEvents
namespace Go.Proofs.Ytfielodchoghlaa
open Go.RowKit
set_option maxRecDepth 100000
set_option linter.unusedVariables false
set_option linter.unusedSimpArgs false
def flatL (rs : List Rn) : List Ev := rs.flatMap fun r => List.replicate r.c.toNat ⟨r.k, r.s⟩
def flatC (rs : List Rn) (most : Int) : Int := if mayL rs = false ∨ most < 0 ∨ 16777216 < most then 2 else if most < tot rs then 9 else 0
def flatV (rs : List Rn) (most : Int) : List Ev := if flatC rs most = 0 then flatL rs else []
theorem tot_cons (r : Rn) (l : List Rn) : tot (r :: l) = r.c + tot l := by simp [tot]
theorem flatL_app (a b : List Rn) : flatL (a ++ b) = flatL a ++ flatL b := by simp [flatL]
theorem flatL_len : ∀ l : List Rn, (∀ r ∈ l, 0 ≤ r.c) → ((flatL l).length : Int) = tot l
  | [], _ => by simp [flatL, tot]
  | r :: l, h => by
    have h1 := flatL_len l (fun x hx => h x (by simp [hx]))
    have h2 := h r (by simp)
    have e : flatL (r :: l) = List.replicate r.c.toNat ⟨r.k, r.s⟩ ++ flatL l := by simp [flatL]
    rw [e, List.length_append, List.length_replicate, tot_cons]
    omega
theorem may_ok {rs : List Rn} (h : mayL rs = true) : rs.length ≤ 1048576 ∧ ∀ r ∈ rs, okC r := by
  unfold mayL at h
  rw [decide_eq_true_eq] at h
  exact ⟨h.1, h.2.1⟩
theorem tot_take1 {rs : List Rn} {k : Nat} {r : Rn} (hx : rs[k]? = some r) : tot (rs.take (k + 1)) = tot (rs.take k) + r.c := by
  rw [List.take_add_one, hx]
  simp [tot]
theorem tot_bd {rs : List Rn} (h : ∀ r ∈ rs, okC r) : ∀ k, 0 ≤ tot (rs.take k) ∧ tot (rs.take k) ≤ (k : Int) * 4294967296
  | 0 => by simp [tot]
  | k + 1 => by
    have ih := tot_bd h k
    cases hx : rs[k]? with
    | none =>
      have e : rs.take (k + 1) = rs.take k := by rw [List.take_add_one, hx]; simp
      rw [e]
      omega
    | some r =>
      have hr := h r (List.mem_of_getElem? hx)
      unfold okC at hr
      rw [tot_take1 hx]
      omega
theorem tot_split (rs : List Rn) (k : Nat) : tot rs = tot (rs.take k) + tot (rs.drop k) := by
  rw [← tot_append, List.take_append_drop]
theorem tot_nn {l : List Rn} (h : ∀ r ∈ l, okC r) : 0 ≤ tot l := by
  induction l with
  | nil => simp [tot]
  | cons r l ih =>
    have h1 := ih (fun x hx => h x (by simp [hx]))
    have h2 := (h r (by simp)).1
    rw [tot_cons]
    omega
theorem tot_more {rs : List Rn} (h : ∀ r ∈ rs, okC r) {k : Nat} {r : Rn} (hx : rs[k]? = some r) : tot (rs.take k) + r.c ≤ tot rs := by
  rw [← tot_take1 hx, tot_split rs (k + 1)]
  have := tot_nn (l := rs.drop (k + 1)) (fun x hx => h x (List.mem_of_mem_drop hx))
  omega
theorem ok_take {rs : List Rn} (h : ∀ r ∈ rs, okC r) (k : Nat) : ∀ r ∈ rs.take k, 0 ≤ r.c := fun r hr => by
  have := (h r (List.mem_of_mem_take hr)).1
  omega
theorem rep_succ {α : Type} (n : Nat) (x : α) : List.replicate (n + 1) x = List.replicate n x ++ [x] := List.replicate_succ'
/-- refused: nothing is told -/
def FlatNo (c : Int) (w : World) (e : Ending) (w' : World) : Prop := e = .returned (.tuple #[.slice none 0 0, .int .i64 c]) ∧ Below w.heap.size w w'
theorem FlatNo.new {rs : List Rn} {most c : Int} {w w' : World} {e : Ending} (h : FlatNo c w e w') (hc : flatC rs most = c) (h0 : c ≠ 0) : ∃ v, e = .returned (.tuple #[v, .int .i64 (flatC rs most)]) ∧ KE.New (flatV rs most) w (.returned v) w' := by
  refine ⟨.slice none 0 0, by rw [hc]; exact h.1, .slice none 0 0, rfl, ?_, h.2, fun x hx => by simp [fpv, Value.ownBlock] at hx⟩
  unfold flatV
  rw [hc, if_neg h0]
  exact Knd.O.nil w'
set_option maxHeartbeats 2000000 in
theorem flat_no (u : Value) (rs : List Rn) (most : Int) (w : World) (hu : KN.R w u rs) (h : mayL rs = false ∨ most < 0 ∨ 16777216 < most) : Calls Try.prog 18 #[u, .int .i64 most] w (FlatNo 2 w) := by
  obtain ⟨m, hm⟩ : ∃ m, mayL rs = m := ⟨_, rfl⟩
  have HM := Lib.hid hm
  have HU := Lib.hid hu
  rw [hm] at h
  clear hm hu
  cases m with
  | false =>
    clear h
    go_enter Try.func18, Try.ntmps18
    go_wp2_with fail
    refine (may_any u rs w HU.out).mono ?_
    rintro e w1 ⟨he, hb⟩
    rw [HM.out] at he
    subst he
    have HB := Lib.hid hb
    clear hb
    go_wp2
    go_ret2
    exact ⟨rfl, HB.out⟩
  | true =>
    by_cases h0 : most < 0
    · go_enter Try.func18, Try.ntmps18
      go_wp2_with fail
      refine (may_any u rs w HU.out).mono ?_
      rintro e w1 ⟨he, hb⟩
      rw [HM.out] at he
      subst he
      have HB := Lib.hid hb
      clear hb
      go_wp2
      go_ret2
      exact ⟨rfl, HB.out⟩
    · have h1 : 16777216 < most := by simpa [h0] using h
      clear h
      go_enter Try.func18, Try.ntmps18
      go_wp2_with fail
      refine (may_any u rs w HU.out).mono ?_
      rintro e w1 ⟨he, hb⟩
      rw [HM.out] at he
      subst he
      have HB := Lib.hid hb
      clear hb
      go_wp2
      go_ret2
      exact ⟨rfl, HB.out⟩
set_option maxHeartbeats 4000000 in
theorem flat_yes (u : Value) (rs : List Rn) (most : Int) (w : World) (hu : KN.R w u rs) (hm : mayL rs = true) (h0 : 0 ≤ most) (h1 : most ≤ 16777216) :
    Calls Try.prog 18 #[u, .int .i64 most] w fun e w' => (most < tot rs ∧ FlatNo 9 w e w') ∨ (tot rs ≤ most ∧ ∃ v, e = .returned (.tuple #[v, .int .i64 0]) ∧ KE.New (flatL rs) w (.returned v) w') := by
  have HU := Lib.hid hu
  have HM := Lib.hid hm
  obtain ⟨hlen, hok⟩ := may_ok hm
  have HOK := Lib.hid hok
  obtain ⟨ao, cap, rfl, _, _, _⟩ := hu.any
  obtain ⟨i0, hi, hz0, hz1, hz2⟩ := info_parts infoE
  have HI := Lib.hid (And.intro hi (And.intro hz0 (And.intro hz1 hz2)))
  obtain ⟨T, hT⟩ : ∃ T, tot rs = T := ⟨_, rfl⟩
  rw [hT]
  have HT := Lib.hid hT
  clear hu hm hok hi hz0 hz1 hz2 hT
  go_enter Try.func18, Try.ntmps18
  go_wp2_with fail
  refine (may_any _ rs w HU.out).mono ?_
  rintro e w1 ⟨he, hb⟩
  rw [HM.out] at he
  subst he
  have HB := Lib.hid hb
  clear hb
  go_wp2_with fail
  go_loopw [6, 25] (fun n i w2 => ∃ (k : Nat) (t : Int), k ≤ rs.length ∧ i = .int .i64 (k : Int) ∧ n = .int .i64 t ∧ 0 ≤ t ∧ t ≤ 4503599627370496 ∧ Hid (tot (rs.take k) = t) ∧ Hid (Below w.heap.size w w2)) (fun _ i _ => rs.length - (intOf i).toNat)
  case atStart => exact ⟨0, 0, Nat.zero_le _, rfl, rfl, by omega, by omega, Lib.hid (by simp [tot]), HB⟩
  case round =>
    clear HB
    obtain ⟨k, t, hk, rfl, rfl, t0, t1, HS, HB⟩ := hrel
    by_cases hlt : k < rs.length
    · obtain ⟨⟨rk, rsz, rc⟩, hx⟩ : ∃ x, rs[k]? = some x := ⟨_, List.getElem?_eq_getElem hlt⟩
      obtain ⟨g, off, rfl, _, d1, d2, d3⟩ := runAt HU.out HB.out hx
      have hr := HOK.out _ (List.mem_of_getElem? hx)
      obtain ⟨r1, r2⟩ := hr
      dsimp only at r1 r2
      have hs := tot_take1 hx
      rw [HS.out] at hs
      have hbd := tot_bd HOK.out (k + 1)
      rw [hs] at hbd
      have HS2 := Lib.hid hs
      have hbd2 : t + rc ≤ 4503599627370496 := by have := hbd.2; dsimp only at this; omega
      have HB1 := Lib.hid (HB.out.alloc HB.out.size (.cells #[.int .u8 rk, .int .i64 rsz, .int .i64 rc] 51))
      clear hx hs hbd HS
      go_wp2
      go_roundw
      case rel => exact ⟨k + 1, t + rc, by omega, by go_num, rfl, by omega, hbd2, HS2, HB1⟩
      case measure => simp [intOf]; omega
    · obtain rfl : k = rs.length := by omega
      have ht : t = T := by have h := HS.out; rw [List.take_length] at h; rw [← h, HT.out]
      subst ht
      clear HS
      by_cases hm : most < t
      · have HN : Hid ((most < t ∧ FlatNo 9 w (.returned (.tuple #[.slice none 0 0, .int .i64 9])) wr) ∨ (t ≤ most ∧ ∃ v, Ending.returned (.tuple #[.slice none 0 0, .int .i64 9]) = .returned (.tuple #[v, .int .i64 0]) ∧ KE.New (flatL rs) w (.returned v) wr)) := Lib.hid (.inl ⟨hm, rfl, HB.out⟩)
        go_wp2
        go_ret2
        exact HN.out
      · have hm2 : t ≤ most := by omega
        go_wp2_with fail
        go_loopw [9, 39] (fun o i w2 => ∃ (k : Nat), k ≤ rs.length ∧ i = .int .i64 (k : Int) ∧ Hid (KE.Mk (flatL (rs.take k)) w o w2)) (fun _ i _ => rs.length - (intOf i).toNat)
        case atStart => exact ⟨0, Nat.zero_le _, rfl, Lib.hid ⟨Knd.O.nil _, HB.out, fun x hx => by simp [fpv, Value.ownBlock] at hx⟩⟩
        case round =>
          clear HB
          obtain ⟨k, hk, rfl, HR⟩ := hrel
          by_cases hlt : k < rs.length
          · obtain ⟨⟨rk, rsz, rc⟩, hx⟩ : ∃ x, rs[k]? = some x := ⟨_, List.getElem?_eq_getElem hlt⟩
            obtain ⟨g, off, rfl, _, d1, d2, d3⟩ := runAt HU.out HR.out.2.1 hx
            obtain ⟨r1, r2⟩ := HOK.out _ (List.mem_of_getElem? hx)
            dsimp only at r1 r2
            have hmore := tot_more HOK.out hx
            rw [HT.out] at hmore
            dsimp only at hmore
            obtain ⟨L, hL⟩ : ∃ L, (flatL (rs.take k)).length = L := ⟨_, rfl⟩
            have hLt := flatL_len (rs.take k) (ok_take HOK.out k)
            rw [hL] at hLt
            have hLc : (L : Int) + rc ≤ 16777216 := by omega
            have HL := Lib.hid hL
            have HX := Lib.hid hx
            obtain ⟨n, hn⟩ : ∃ n : Nat, rc = (n : Int) := ⟨rc.toNat, by omega⟩
            subst hn
            have hLn : L + n ≤ 16777216 := by omega
            have HR1 : Hid (KE.Mk (flatL (rs.take k) ++ List.replicate 0 (⟨rk, rsz⟩ : Ev)) w u9 (wr.alloc (.cells #[.int .u8 rk, .int .i64 rsz, .int .i64 (n : Int)] 51))) := by
              rw [List.replicate_zero, List.append_nil]
              exact Lib.hid (HR.out.below ((Below.refl _ _).alloc (Nat.le_refl _) _))
            have HK1 : Hid (Blk (wr.alloc (.cells #[.int .u8 rk, .int .i64 rsz, .int .i64 (n : Int)] 51)) wr.heap.size 51 #[.int .u8 rk, .int .i64 rsz, .int .i64 (n : Int)]) := Lib.hid (Blk.new _ _ _)
            have HV1 : Hid (¬ u9.ownBlock = some wr.heap.size) := Lib.hid (fun h => by have := HR.out.1.lt _ h; omega)
            clear hx hL hLt hmore HR
            go_wp2_with fail
            clear d1 d2 d3
            obtain ⟨wo, rfl⟩ : ∃ wo : World, wo = wr := ⟨_, rfl⟩
            go_loopw [9, 45] (fun o i w2 => ∃ (j : Nat), j ≤ n ∧ i = .int .i64 (j : Int) ∧ Hid (KE.Mk (flatL (rs.take k) ++ List.replicate j (⟨rk, rsz⟩ : Ev)) w o w2) ∧ Hid (Blk w2 wo.heap.size 51 #[.int .u8 rk, .int .i64 rsz, .int .i64 (n : Int)]) ∧ Hid (¬ o.ownBlock = some wo.heap.size)) (fun _ i _ => n - (intOf i).toNat)
            case atStart => exact ⟨0, Nat.zero_le _, rfl, HR1, HK1, HV1⟩
            case round =>
              clear HR1 HK1 HV1
              obtain ⟨j, hj, rfl, HR, HK, HV⟩ := hrel
              by_cases hjn : j < n
              · have c0 := HK.out.cellAt 0 (v := .int .u8 rk) rfl
                have c1 := HK.out.cellAt 1 (v := .int .i64 rsz) rfl
                have HOWN := HR.out.alloc (.cells #[.int .u8 rk, .int .i64 rsz] 49) (N := L + j) (by rw [List.length_append, HL.out, List.length_replicate])
                obtain ⟨hi, hz0, hz1, hz2⟩ := HI.out
                go_wp2_with (at_builtin; refine wpList_append_keep _ rfl _ _ 34 rfl 49 i0 _ 2 16 Try.underlying34 hi hz0 hz1 hz2 rfl (by decide) u9 (L + j) (KE.fl (flatL (rs.take k) ++ List.replicate j (⟨rk, rsz⟩ : Ev))) rfl HOWN ⟨wr.heap.size, 0, none⟩ 1 1 [.int .u8 rk, .int .i64 rsz] rfl rfl (World.news_of_block (heap_alloc_new _ _)) (KE.one ⟨rk, rsz⟩) (by unfold maxLen; omega) (by omega) (by decide) ?_)
                intro v' w2 hown hgrow hat hne
                have hat2 : v'.ownBlock = u9.ownBlock ∨ v'.ownBlock = some (wr.heap.size + 1) := by
                  rcases hat with hat | hat
                  · exact .inl hat
                  · exact .inr (by simpa using hat.1)
                have HN : Hid (KE.Mk (flatL (rs.take k) ++ List.replicate (j + 1) (⟨rk, rsz⟩ : Ev)) w v' w2) := by
                  rw [rep_succ, ← List.append_assoc]
                  exact Lib.hid (HR.out.more (by rw [List.length_append, HL.out, List.length_replicate]) rfl hown hgrow hat2)
                have HK2 : Hid (Blk w2 wo.heap.size 51 #[.int .u8 rk, .int .i64 rsz, .int .i64 (n : Int)]) := Lib.hid ((hgrow.block _ (by simp; have := HK.out.lt; omega) (fun e => HV.out e.symm)).trans (HK.out.alloc _))
                have HV2 : Hid (¬ v'.ownBlock = some wo.heap.size) := Lib.hid (fun h => by
                  rcases hat2 with hat2 | hat2
                  · exact HV.out (hat2 ▸ h)
                  · rw [hat2] at h
                    injection h with h
                    have := HK.out.lt
                    omega)
                clear hown hgrow hat hne hat2 HOWN hi hz0 hz1 hz2 c0 c1
                go_wp2
                go_roundw
                case rel => exact ⟨j + 1, by omega, by go_num, HN, HK2, HV2⟩
                case measure => simp [intOf]; omega
              · obtain rfl : j = n := by omega
                have HN : Hid (KE.Mk (flatL (rs.take (k + 1))) w u9 wr) := by
                  rw [List.take_add_one, HX.out, show flatL (rs.take k ++ (some (⟨rk, rsz, (j : Int)⟩ : Rn)).toList) = flatL (rs.take k) ++ List.replicate j (⟨rk, rsz⟩ : Ev) from by rw [flatL_app]; simp [flatL]]
                  exact HR
                clear HR HK HV
                go_wp2
                go_roundw
                case rel => exact ⟨k + 1, by omega, by go_num, HN⟩
                case measure => simp [intOf]; omega
          · obtain rfl : k = rs.length := by omega
            have HN : Hid ((most < t ∧ FlatNo 9 w (.returned (.tuple #[u9, .int .i64 0])) wr) ∨ (t ≤ most ∧ ∃ v, Ending.returned (.tuple #[u9, .int .i64 0]) = .returned (.tuple #[v, .int .i64 0]) ∧ KE.New (flatL rs) w (.returned v) wr)) := by
              have h := HR.out
              rw [List.take_length] at h
              exact Lib.hid (.inr ⟨hm2, u9, rfl, h.new⟩)
            clear HR
            go_wp2
            go_ret2
            exact HN.out
theorem flat_any (u : Value) (rs : List Rn) (most : Int) (w : World) (hu : KN.R w u rs) : Calls Try.prog 18 #[u, .int .i64 most] w fun e w' => ∃ v, e = .returned (.tuple #[v, .int .i64 (flatC rs most)]) ∧ KE.New (flatV rs most) w (.returned v) w' := by
  by_cases h : mayL rs = false ∨ most < 0 ∨ 16777216 < most
  · exact (flat_no u rs most w hu h).mono fun e w' hh => hh.new (by unfold flatC; rw [if_pos h]) (by decide)
  · have h2 : mayL rs = true := by cases hm : mayL rs <;> simp_all
    refine (flat_yes u rs most w hu h2 (by omega) (by omega)).mono fun e w' hh => ?_
    rcases hh with ⟨hh1, hh⟩ | ⟨hh1, v, he, hn⟩
    · exact hh.new (by unfold flatC; rw [if_neg h, if_pos hh1]) (by decide)
    · have hc : flatC rs most = 0 := by unfold flatC; rw [if_neg h, if_neg (by omega)]
      refine ⟨v, by rw [hc]; exact he, ?_⟩
      unfold flatV
      rw [hc, if_pos rfl]
      exact hn
set_option maxHeartbeats 2000000 in
theorem rflat_no (u : Value) (rs : List Rn) (most : Int) (w : World) (hu : KN.R w u rs) (h : mayL rs = false ∨ most < 0 ∨ 16777216 < most) : Calls Try.prog 19 #[u, .int .i64 most] w (FlatNo 2 w) := by
  obtain ⟨m, hm⟩ : ∃ m, mayL rs = m := ⟨_, rfl⟩
  have HM := Lib.hid hm
  have HU := Lib.hid hu
  rw [hm] at h
  clear hm hu
  cases m with
  | false =>
    clear h
    go_enter Try.func19, Try.ntmps19
    go_wp2_with fail
    refine (rmay_any u rs w HU.out).mono ?_
    rintro e w1 ⟨he, m, hw⟩
    have hb : Below w.heap.size w w1 := by rw [hw]; exact ⟨rfl, rfl, rfl, Nat.le_refl _, fun _ _ => rfl⟩
    clear hw
    rw [HM.out] at he
    subst he
    have HB := Lib.hid hb
    clear hb
    go_wp2
    go_ret2
    exact ⟨rfl, HB.out⟩
  | true =>
    by_cases h0 : most < 0
    · go_enter Try.func19, Try.ntmps19
      go_wp2_with fail
      refine (rmay_any u rs w HU.out).mono ?_
      rintro e w1 ⟨he, m, hw⟩
      have hb : Below w.heap.size w w1 := by rw [hw]; exact ⟨rfl, rfl, rfl, Nat.le_refl _, fun _ _ => rfl⟩
      clear hw
      rw [HM.out] at he
      subst he
      have HB := Lib.hid hb
      clear hb
      go_wp2
      go_ret2
      exact ⟨rfl, HB.out⟩
    · have h1 : 16777216 < most := by simpa [h0] using h
      clear h
      go_enter Try.func19, Try.ntmps19
      go_wp2_with fail
      refine (rmay_any u rs w HU.out).mono ?_
      rintro e w1 ⟨he, m, hw⟩
      have hb : Below w.heap.size w w1 := by rw [hw]; exact ⟨rfl, rfl, rfl, Nat.le_refl _, fun _ _ => rfl⟩
      clear hw
      rw [HM.out] at he
      subst he
      have HB := Lib.hid hb
      clear hb
      go_wp2
      go_ret2
      exact ⟨rfl, HB.out⟩
set_option maxHeartbeats 4000000 in
theorem rflat_yes (u : Value) (rs : List Rn) (most : Int) (w : World) (hu : KN.R w u rs) (hm : mayL rs = true) (h0 : 0 ≤ most) (h1 : most ≤ 16777216) :
    Calls Try.prog 19 #[u, .int .i64 most] w fun e w' => (most < tot rs ∧ FlatNo 9 w e w') ∨ (tot rs ≤ most ∧ ∃ v, e = .returned (.tuple #[v, .int .i64 0]) ∧ KE.New (flatL rs) w (.returned v) w') := by
  have HU := Lib.hid hu
  have HM := Lib.hid hm
  obtain ⟨hlen, hok⟩ := may_ok hm
  have HOK := Lib.hid hok
  obtain ⟨ao, cap, rfl, _, _, _⟩ := hu.any
  obtain ⟨i0, hi, hz0, hz1, hz2⟩ := info_parts infoE
  have HI := Lib.hid (And.intro hi (And.intro hz0 (And.intro hz1 hz2)))
  obtain ⟨T, hT⟩ : ∃ T, tot rs = T := ⟨_, rfl⟩
  rw [hT]
  have HT := Lib.hid hT
  clear hu hm hok hi hz0 hz1 hz2 hT
  go_enter Try.func19, Try.ntmps19
  go_wp2_with fail
  refine (rmay_any _ rs w HU.out).mono ?_
  rintro e w1 ⟨he, m, hw⟩
  have hb : Below w.heap.size w w1 := by rw [hw]; exact ⟨rfl, rfl, rfl, Nat.le_refl _, fun _ _ => rfl⟩
  clear hw
  rw [HM.out] at he
  subst he
  have HB := Lib.hid hb
  clear hb
  go_wp2_with fail
  go_loopw [7, 8] (fun n i w2 => ∃ (k : Nat) (t : Int), k ≤ rs.length ∧ i = .int .i64 (k : Int) ∧ n = .int .i64 t ∧ 0 ≤ t ∧ t ≤ 4503599627370496 ∧ Hid (tot (rs.take k) = t) ∧ Hid (Below w.heap.size w w2)) (fun _ i _ => rs.length - (intOf i).toNat)
  case atStart => exact ⟨0, 0, Nat.zero_le _, rfl, rfl, by omega, by omega, Lib.hid (by simp [tot]), HB⟩
  case round =>
    clear HB
    obtain ⟨k, t, hk, rfl, rfl, t0, t1, HS, HB⟩ := hrel
    by_cases hlt : k < rs.length
    · obtain ⟨⟨rk, rsz, rc⟩, hx⟩ : ∃ x, rs[k]? = some x := ⟨_, List.getElem?_eq_getElem hlt⟩
      obtain ⟨g, off, rfl, _, d1, d2, d3⟩ := runAt HU.out HB.out hx
      have hr := HOK.out _ (List.mem_of_getElem? hx)
      obtain ⟨r1, r2⟩ := hr
      dsimp only at r1 r2
      have hs := tot_take1 hx
      rw [HS.out] at hs
      have hbd := tot_bd HOK.out (k + 1)
      rw [hs] at hbd
      have HS2 := Lib.hid hs
      have hbd2 : t + rc ≤ 4503599627370496 := by have := hbd.2; dsimp only at this; omega
      have HB1 := HB
      clear hx hs hbd HS
      go_wp2
      go_roundw
      case rel => exact ⟨k + 1, t + rc, by omega, by go_num, rfl, by omega, hbd2, HS2, HB1⟩
      case measure => simp [intOf]; omega
    · obtain rfl : k = rs.length := by omega
      have ht : t = T := by have h := HS.out; rw [List.take_length] at h; rw [← h, HT.out]
      subst ht
      clear HS
      by_cases hm : most < t
      · have HN : Hid ((most < t ∧ FlatNo 9 w (.returned (.tuple #[.slice none 0 0, .int .i64 9])) wr) ∨ (t ≤ most ∧ ∃ v, Ending.returned (.tuple #[.slice none 0 0, .int .i64 9]) = .returned (.tuple #[v, .int .i64 0]) ∧ KE.New (flatL rs) w (.returned v) wr)) := Lib.hid (.inl ⟨hm, rfl, HB.out⟩)
        go_wp2
        go_ret2
        exact HN.out
      · have hm2 : t ≤ most := by omega
        go_wp2_with fail
        go_loopw [9, 10] (fun o i w2 => ∃ (k : Nat), k ≤ rs.length ∧ i = .int .i64 (k : Int) ∧ Hid (KE.Mk (flatL (rs.take k)) w o w2)) (fun _ i _ => rs.length - (intOf i).toNat)
        case atStart => exact ⟨0, Nat.zero_le _, rfl, Lib.hid ⟨Knd.O.nil _, HB.out, fun x hx => by simp [fpv, Value.ownBlock] at hx⟩⟩
        case round =>
          clear HB
          obtain ⟨k, hk, rfl, HR⟩ := hrel
          by_cases hlt : k < rs.length
          · obtain ⟨⟨rk, rsz, rc⟩, hx⟩ : ∃ x, rs[k]? = some x := ⟨_, List.getElem?_eq_getElem hlt⟩
            obtain ⟨g, off, rfl, _, d1, d2, d3⟩ := runAt HU.out HR.out.2.1 hx
            obtain ⟨r1, r2⟩ := HOK.out _ (List.mem_of_getElem? hx)
            dsimp only at r1 r2
            have hmore := tot_more HOK.out hx
            rw [HT.out] at hmore
            dsimp only at hmore
            obtain ⟨L, hL⟩ : ∃ L, (flatL (rs.take k)).length = L := ⟨_, rfl⟩
            have hLt := flatL_len (rs.take k) (ok_take HOK.out k)
            rw [hL] at hLt
            have hLc : (L : Int) + rc ≤ 16777216 := by omega
            have HL := Lib.hid hL
            have HX := Lib.hid hx
            obtain ⟨n, hn⟩ : ∃ n : Nat, rc = (n : Int) := ⟨rc.toNat, by omega⟩
            subst hn
            have hLn : L + n ≤ 16777216 := by omega
            have HR1 : Hid (KE.Mk (flatL (rs.take k) ++ List.replicate 0 (⟨rk, rsz⟩ : Ev)) w u9 wr) := by
              rw [List.replicate_zero, List.append_nil]
              exact HR
            clear hx hL hLt hmore HR
            go_wp2_with fail
            clear d1 d2 d3
            obtain ⟨wo, rfl⟩ : ∃ wo : World, wo = wr := ⟨_, rfl⟩
            go_loopw [9, 11] (fun o i w2 => ∃ (j : Nat), j ≤ n ∧ i = .int .i64 (j : Int) ∧ Hid (KE.Mk (flatL (rs.take k) ++ List.replicate j (⟨rk, rsz⟩ : Ev)) w o w2)) (fun _ i _ => n - (intOf i).toNat)
            case atStart => exact ⟨0, Nat.zero_le _, rfl, HR1⟩
            case round =>
              clear HR1
              obtain ⟨j, hj, rfl, HR⟩ := hrel
              obtain ⟨g', off', hg', _, d1, d2, d3⟩ := runAt HU.out HR.out.2.1 HX.out
              injection hg' with hg'
              injection hg' with e1 e2
              subst e1; subst e2
              by_cases hjn : j < n
              · have HOWN := HR.out.alloc (.cells #[.int .u8 rk, .int .i64 rsz] 49) (N := L + j) (by rw [List.length_append, HL.out, List.length_replicate])
                obtain ⟨hi, hz0, hz1, hz2⟩ := HI.out
                go_wp2_with (at_builtin; refine wpList_append_keep _ rfl _ _ 34 rfl 49 i0 _ 2 16 Try.underlying34 hi hz0 hz1 hz2 rfl (by decide) u9 (L + j) (KE.fl (flatL (rs.take k) ++ List.replicate j (⟨rk, rsz⟩ : Ev))) rfl HOWN ⟨wr.heap.size, 0, none⟩ 1 1 [.int .u8 rk, .int .i64 rsz] rfl rfl (World.news_of_block (heap_alloc_new _ _)) (KE.one ⟨rk, rsz⟩) (by unfold maxLen; omega) (by omega) (by decide) ?_)
                intro v' w2 hown hgrow hat hne
                have hat2 : v'.ownBlock = u9.ownBlock ∨ v'.ownBlock = some (wr.heap.size + 1) := by
                  rcases hat with hat | hat
                  · exact .inl hat
                  · exact .inr (by simpa using hat.1)
                have HN : Hid (KE.Mk (flatL (rs.take k) ++ List.replicate (j + 1) (⟨rk, rsz⟩ : Ev)) w v' w2) := by
                  rw [rep_succ, ← List.append_assoc]
                  exact Lib.hid (HR.out.more (by rw [List.length_append, HL.out, List.length_replicate]) rfl hown hgrow hat2)
                clear hown hgrow hat hne hat2 HOWN hi hz0 hz1 hz2 d1 d2 d3
                go_wp2
                go_roundw
                case rel => exact ⟨j + 1, by omega, by go_num, HN⟩
                case measure => simp [intOf]; omega
              · obtain rfl : j = n := by omega
                have HN : Hid (KE.Mk (flatL (rs.take (k + 1))) w u9 wr) := by
                  rw [List.take_add_one, HX.out, show flatL (rs.take k ++ (some (⟨rk, rsz, (j : Int)⟩ : Rn)).toList) = flatL (rs.take k) ++ List.replicate j (⟨rk, rsz⟩ : Ev) from by rw [flatL_app]; simp [flatL]]
                  exact HR
                clear HR
                go_wp2
                go_roundw
                case rel => exact ⟨k + 1, by omega, by go_num, HN⟩
                case measure => simp [intOf]; omega
          · obtain rfl : k = rs.length := by omega
            have HN : Hid ((most < t ∧ FlatNo 9 w (.returned (.tuple #[u9, .int .i64 0])) wr) ∨ (t ≤ most ∧ ∃ v, Ending.returned (.tuple #[u9, .int .i64 0]) = .returned (.tuple #[v, .int .i64 0]) ∧ KE.New (flatL rs) w (.returned v) wr)) := by
              have h := HR.out
              rw [List.take_length] at h
              exact Lib.hid (.inr ⟨hm2, u9, rfl, h.new⟩)
            clear HR
            go_wp2
            go_ret2
            exact HN.out
theorem rflat_any (u : Value) (rs : List Rn) (most : Int) (w : World) (hu : KN.R w u rs) : Calls Try.prog 19 #[u, .int .i64 most] w fun e w' => ∃ v, e = .returned (.tuple #[v, .int .i64 (flatC rs most)]) ∧ KE.New (flatV rs most) w (.returned v) w' := by
  by_cases h : mayL rs = false ∨ most < 0 ∨ 16777216 < most
  · exact (rflat_no u rs most w hu h).mono fun e w' hh => hh.new (by unfold flatC; rw [if_pos h]) (by decide)
  · have h2 : mayL rs = true := by cases hm : mayL rs <;> simp_all
    refine (rflat_yes u rs most w hu h2 (by omega) (by omega)).mono fun e w' hh => ?_
    rcases hh with ⟨hh1, hh⟩ | ⟨hh1, v, he, hn⟩
    · exact hh.new (by unfold flatC; rw [if_neg h, if_pos hh1]) (by decide)
    · have hc : flatC rs most = 0 := by unfold flatC; rw [if_neg h, if_neg (by omega)]
      refine ⟨v, by rw [hc]; exact he, ?_⟩
      unfold flatV
      rw [hc, if_pos rfl]
      exact hn
end Go.Proofs.Ytfielodchoghlaa
