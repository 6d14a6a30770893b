/- Hist: each unlike event, with how often it stands there, rising. Conditions: the runs are within their types. -/
import Derived.Test.YtfielodchoghlaaRows
import Derived.Test.YtfielodchoghlaaHistM
import Derived.Test.YtfielodchoghlaaHistR
import Derived.Test.YtfielodchoghlaaMay
import Derived.Test.YtfielodchoghlaaOpenR
import Derived.Test.YtfielodchoghlaaHeld
namespace Go.Proofs.Ytfielodchoghlaa
open Go.RowKit Go.Maps
set_option maxRecDepth 1000000
set_option linter.unusedVariables false
set_option linter.unusedSimpArgs false
section
variable {P : Program} {ops : Array Oper} {rest : List Oper} {a : Act} {w : World} {Q : Exit → Act → World → Prop}
/-- an operation that turns the world -/
theorem wpList_runH {o : Oper} (v : Value) {w' : World} (hw : Region.wanted o (yielded ops a.tmps) = true) (h : (execOp a.eval o).run P w = .ok (.value v) w') (kk : wpList P ops Q rest (a.put o.dst v) w') : wpList P ops Q (o :: rest) a w :=
  wpList_step fun K hK => by
    rw [if_pos hw]
    unfold Oper.wp
    rw [h]
    exact hK _ _ kk
theorem wpList_skipH {o : Oper} {w' : World} (hw : Region.wanted o (yielded ops a.tmps) = true) (h : (execOp a.eval o).run P w = .ok .skip w') (kk : wpList P ops Q rest (a.put o.dst undef) w') : wpList P ops Q (o :: rest) a w :=
  wpList_step fun K hK => by
    rw [if_pos hw]
    unfold Oper.wp
    rw [h]
    exact hK _ _ kk
end
theorem okRn_ev {r : Rn} (h : okRn r) : okE r.ev := ⟨h.1, h.2.1⟩
/-- no trace -/
theorem hist_no (u : Value) (rs : List Rn) (w : World) (hu : KN.R w u rs) (hm : mayL rs = false) : Calls Try.prog 30 #[u] w fun e w' => e = .returned (.slice none 0 0) ∧ Below w.heap.size w w' := by
  have HM := Lib.hid (may_any u rs w hu)
  have HF := Lib.hid hm
  clear hu hm
  go_enter Try.func30, Try.ntmps30
  go_wp2_with fail
  refine HM.out.mono ?_
  rintro e w1 ⟨he, hb⟩
  rw [HF.out] at he
  subst he
  have HB := Lib.hid hb
  clear hb
  go_wp2_with fail
  go_ret
  exact ⟨rfl, HB.out⟩
theorem SQ.below_old {w wr w2 : World} {g : Nat} {d : Array Rn} (h : Below w.heap.size w wr) (hq : SQ wr g d w2) (hg : w.heap.size ≤ g) : Below w.heap.size w w2 := by
  have h1 : Below w.heap.size wr (putR wr g d) := ⟨rfl, rfl, rfl, by rw [putR_size]; exact Nat.le_refl _, fun k hk => putR_other wr g d (by omega)⟩
  exact h.trans (h1.trans (Below.mono hq h.size))
set_option maxHeartbeats 4000000 in
theorem hist_any (u : Value) (rs : List Rn) (w : World) (hu : KN.R w u rs) (hm : mayL rs = true) (hok : ∀ r ∈ rs, okRn r) :
    Calls Try.prog 30 #[u] w fun e w' => ∃ h, IsHist rs h ∧ KN.New h w e w' := by
  obtain ⟨hlen, hcs⟩ := may_ok hm
  have HU := Lib.hid hu
  have HM := Lib.hid (may_any u rs w hu)
  have HF := Lib.hid hm
  have HOK := Lib.hid hok
  have HCS := Lib.hid hcs
  obtain ⟨ao, cap, rfl, _, _, _⟩ := hu.any
  obtain ⟨i0, hi, hz0, hz1, hz2⟩ := info_parts infoN
  have HI := Lib.hid (And.intro hi (And.intro hz0 (And.intro hz1 hz2)))
  clear hu hm hok hcs hi hz0 hz1 hz2
  go_enter Try.func30, Try.ntmps30
  go_wp2_with fail
  refine HM.out.mono ?_
  rintro e w1 ⟨he, hb⟩
  rw [HF.out] at he
  subst he
  have HB := Lib.hid hb
  clear hb
  have hmk := fun w : World => run_makeMap (P := Try.prog) 65 w
  go_upto_region 4 with fail
  clear hmk
  have HO : Hid ((w1.alloc (.map #[] 0)).ownsMap Try.prog 49 evR w1.heap.size 0 (.map [])) := World.ownsMap_made w1 _ _ _
  have HBm := Lib.hid (HB.out.alloc HB.out.size (.map #[] 0))
  have hmw : w.heap.size ≤ w1.heap.size := HB.out.size
  obtain ⟨m, hm⟩ : ∃ m, w1.heap.size = m := ⟨_, rfl⟩
  obtain ⟨w2, hw2⟩ : ∃ y, w1.alloc (.map #[] 0) = y := ⟨_, rfl⟩
  rw [hw2, hm] at HO
  rw [hw2] at HBm
  rw [hm] at hmw
  try rw [hw2]
  try rw [hm]
  clear hm hw2 HB
  go_wp2_with fail
  go_loopw [15] (fun vi wr => ∃ (k : Nat) (D : MD), vi = .int .i64 (k : Int) ∧ k ≤ rs.length ∧ Hid (wr.ownsMap Try.prog 49 evR m k D) ∧ Hid (RepE D (rs.take k)) ∧ Hid (Below w.heap.size w wr)) (fun vi _ => rs.length - (intOf vi).toNat)
  case atStart => exact ⟨0, .map [], rfl, Nat.zero_le _, HO, Lib.hid (by rw [List.take_zero]; exact RepE.nil), HBm⟩
  case round =>
    clear HO HBm
    obtain ⟨k, D, rfl, hk, HO, HR, HB⟩ := hrel
    by_cases hlt : k < rs.length
    · obtain ⟨⟨rk, rsz, rc⟩, hx⟩ : ∃ x, rs[k]? = some x := ⟨_, List.getElem?_eq_getElem hlt⟩
      obtain ⟨g, off, rfl, _, d1, d2, d3⟩ := runAt HU.out HB.out hx
      have hr := HCS.out _ (List.mem_of_getElem? hx)
      have he : okE ⟨rk, rsz⟩ := okRn_ev (HOK.out _ (List.mem_of_getElem? hx))
      obtain ⟨r1, r2⟩ := hr
      dsimp only at r1 r2
      have hbd := tot_bd HCS.out k
      have hcn := cnt_nn (⟨rk, rsz⟩ : Ev) (rs.take k) (fun x hx => HCS.out x (List.mem_of_mem_take hx))
      have hc1 : 0 ≤ cntE (rs.take k) ⟨rk, rsz⟩ ∧ cntE (rs.take k) ⟨rk, rsz⟩ ≤ 4503599627370496 := by omega
      have HX := Lib.hid hx
      clear hx hbd hcn
      go_upto_region 7 with fail
      have HOa := Lib.hid (HO.out.alloc (.cells #[.int .u8 rk, .int .i64 rsz, .int .i64 rc] 51))
      have HBa := Lib.hid (HB.out.alloc HB.out.size (.cells #[.int .u8 rk, .int .i64 rsz, .int .i64 rc] 51))
      have hK : Blk (wr.alloc (.cells #[.int .u8 rk, .int .i64 rsz, .int .i64 rc] 51)) wr.heap.size 51 #[.int .u8 rk, .int .i64 rsz, .int .i64 rc] := Blk.new _ _ _
      have hmlt := HO.out.lt
      obtain ⟨b5, hb5⟩ : ∃ b, wr.heap.size = b := ⟨_, rfl⟩
      obtain ⟨wa, hwa⟩ : ∃ y, wr.alloc (.cells #[.int .u8 rk, .int .i64 rsz, .int .i64 rc] 51) = y := ⟨_, rfl⟩
      rw [hwa] at HOa HBa hK
      rw [hb5] at hK hmlt
      try rw [hwa]
      try rw [hb5]
      clear hwa hb5
      have HOq : (wa.drewN 1).ownsMap Try.prog 49 evR m k D := HOa.out
      obtain ⟨st, wx, wy, ha⟩ := add_at HOq HR.out (by omega) (e := ⟨rk, rsz⟩) he (c := rc) (by omega) (by omega)
      obtain ⟨c0, hc0⟩ : ∃ c, cntE (rs.take k) ⟨rk, rsz⟩ = c := ⟨_, rfl⟩
      rw [hc0] at ha hc1
      have hKx : Blk wx b5 51 #[.int .u8 rk, .int .i64 rsz, .int .i64 rc] := (ha.grown1.block b5 hK.lt (fun e => by injection e with e; omega)).trans (hK.draw 1)
      have F1 : ∀ w', (w' = wa.drewN 1 ∨ w' = wx) → w'.cell? ⟨b5, 0, none⟩ = some (.int .u8 rk) := by rintro w' (rfl | rfl); skip; all_goals first | exact (hK.draw 1).cellAt 0 rfl | exact hKx.cellAt 0 rfl
      have F2 : ∀ w', (w' = wa.drewN 1 ∨ w' = wx) → w'.cell? ⟨b5, 1, none⟩ = some (.int .i64 rsz) := by rintro w' (rfl | rfl); skip; all_goals first | exact (hK.draw 1).cellAt 1 rfl | exact hKx.cellAt 1 rfl
      have F3 : ∀ w', (w' = wa.drewN 1 ∨ w' = wx) → w'.cell? ⟨b5, 2, none⟩ = some (.int .i64 rc) := by rintro w' (rfl | rfl); skip; all_goals first | exact (hK.draw 1).cellAt 2 rfl | exact hKx.cellAt 2 rfl
      have F4 : ∀ w', (w' = wa.drewN 1 ∨ w' = wx) → (Instr.lookup 65 (.map (some m)) (.agg #[.int .u8 rk, .int .i64 rsz]) false).run Try.prog w' = .ok (.int .i64 c0) w' := by rintro w' (rfl | rfl); skip; all_goals first | exact ha.look | exact ha.look1
      have F5 : (Instr.mapEntry 65 (.map (some m)) (.agg #[.int .u8 rk, .int .i64 rsz])).run Try.prog (wa.drewN 1) = .ok (.tuple #[.int .i64 c0, .int .i64 (st : Int)]) wx := ha.entry
      have F6 : (Instr.entryStore 65 (.map (some m)) (.int .i64 (st : Int)) (.int .i64 (c0 + rc))).run Try.prog wx = .ok () wy := ha.store
      have hbq : Below w.heap.size w (wa.drewN 1) := ⟨HBa.out.os, HBa.out.tape, HBa.out.output, HBa.out.size, HBa.out.block⟩
      have HBy := Lib.hid (hbq.grown ha.grown2 hbq.size (fun j hj => by injection hj with hj; omega))
      have HOy := Lib.hid ha.owns
      clear ha hK hKx HOq HBa HOa HB HO hbq
      have hwr : IntKind.i64.wrap (c0 + rc) = c0 + rc := IntWalk.i64_in _ (by omega)
      refine wp_region_tame3 7 (fun w' => w' = wa.drewN 1) (fun w' => w' = wx) 0 9 (by kernel_rfl) (by kernel_rfl) (fun _ _ d _ _ h => (by cases d <;> exact h)) rfl (.inl (by decide)) ?_
      simp only [List.take_succ_cons, List.take_zero, List.drop_succ_cons, List.drop_zero]
      refine wpPre_nil ?_
      refine wpTame_run2 (v := ?_) (by decide) rfl (fun w' hS => ?_) ?_
      rotate_left
      focus (have q0 := F1 w' hS; have q1 := F2 w' hS; have q2 := F3 w' hS; have q3 := F4 w' hS; clear hS; go_simp; try rfl; done)
      simp only [List.getElem_toArray, List.getElem_cons_succ, List.getElem_cons_zero, Act.put, List.setIfInBounds_toArray, List.set_cons_zero, List.set_cons_succ]
      refine wpTame_run2 (v := ?_) (by decide) rfl (fun w' hS => ?_) ?_
      rotate_left
      focus (have q0 := F1 w' hS; have q1 := F2 w' hS; have q2 := F3 w' hS; have q3 := F4 w' hS; clear hS; go_simp; try rfl; done)
      simp only [List.getElem_toArray, List.getElem_cons_succ, List.getElem_cons_zero, Act.put, List.setIfInBounds_toArray, List.set_cons_zero, List.set_cons_succ]
      refine wpTame_run2 (v := ?_) (by decide) rfl (fun w' hS => ?_) ?_
      rotate_left
      focus (have q0 := F1 w' hS; have q1 := F2 w' hS; have q2 := F3 w' hS; have q3 := F4 w' hS; clear hS; go_simp; try rfl; done)
      simp only [List.getElem_toArray, List.getElem_cons_succ, List.getElem_cons_zero, Act.put, List.setIfInBounds_toArray, List.set_cons_zero, List.set_cons_succ]
      refine wpTame_run2 (v := ?_) (by decide) rfl (fun w' hS => ?_) ?_
      rotate_left
      focus (have q0 := F1 w' hS; have q1 := F2 w' hS; have q2 := F3 w' hS; have q3 := F4 w' hS; clear hS; go_simp; try rfl; done)
      simp only [List.getElem_toArray, List.getElem_cons_succ, List.getElem_cons_zero, Act.put, List.setIfInBounds_toArray, List.set_cons_zero, List.set_cons_succ]
      refine wpTame_run2 (v := ?_) (by decide) rfl (fun w' hS => ?_) ?_
      rotate_left
      focus (have q0 := F1 w' hS; have q1 := F2 w' hS; have q2 := F3 w' hS; have q3 := F4 w' hS; clear hS; go_simp; try rfl; done)
      simp only [List.getElem_toArray, List.getElem_cons_succ, List.getElem_cons_zero, Act.put, List.setIfInBounds_toArray, List.set_cons_zero, List.set_cons_succ]
      refine wpTame_run2 (v := ?_) (by decide) rfl (fun w' hS => ?_) ?_
      rotate_left
      focus (have q0 := F1 w' hS; have q1 := F2 w' hS; have q2 := F3 w' hS; have q3 := F4 w' hS; clear hS; go_simp; try rfl; done)
      simp only [List.getElem_toArray, List.getElem_cons_succ, List.getElem_cons_zero, Act.put, List.setIfInBounds_toArray, List.set_cons_zero, List.set_cons_succ]
      refine wpTame_run2 (v := ?_) (by decide) rfl (fun w' hS => ?_) ?_
      rotate_left
      focus (have q0 := F1 w' hS; have q1 := F2 w' hS; have q2 := F3 w' hS; have q3 := F4 w' hS; clear hS; go_simp; try rfl; done)
      simp only [List.getElem_toArray, List.getElem_cons_succ, List.getElem_cons_zero, Act.put, List.setIfInBounds_toArray, List.set_cons_zero, List.set_cons_succ]
      refine wpTame_bump (v := .tuple #[.int .i64 c0, .int .i64 (st : Int)]) rfl rfl (fun w' hS => ?_) ?_
      · subst hS
        clear F1 F2 F3 F4
        go_simp
        first | done | exact ⟨rfl, rfl⟩
      simp only [List.getElem_toArray, List.getElem_cons_succ, List.getElem_cons_zero, Act.put, List.setIfInBounds_toArray, List.set_cons_zero, List.set_cons_succ]
      refine wpTame_run2 (v := ?_) (by decide) rfl (fun w' hS => ?_) ?_
      rotate_left
      focus (clear hS; go_simp; try rfl; done)
      simp only [List.getElem_toArray, List.getElem_cons_succ, List.getElem_cons_zero, Act.put, List.setIfInBounds_toArray, List.set_cons_zero, List.set_cons_succ]
      refine wpTame_nil ?_
      intro w' hw'
      subst hw'
      refine wpList_skipH (w' := wy) rfl (by clear F1 F2 F3 F4; go_simp; first | done | rfl) ?_
      clear F1 F2 F3 F4 F5 F6
      have HR2 : Hid (RepE (D.put (evL ⟨rk, rsz⟩) (litI (c0 + rc))) (rs.take (k + 1))) := by
        rw [List.take_add_one, HX.out, ← hc0]
        exact Lib.hid (HR.out.put (r := ⟨rk, rsz, rc⟩) he)
      clear HR hc0
      go_wp2
      go_roundw
      case rel => exact ⟨k + 1, _, by go_num, by omega, HOy, HR2, HBy⟩
      case measure => simp [intOf]; omega
    · obtain rfl : k = rs.length := by omega
      rw [List.take_length] at HR
      go_upto_region 10 with fail
      have hob := HO.out.lt
      have HOa := Lib.hid (HO.out.alloc (.cells #[.slice none 0 0] 32))
      have HBa := Lib.hid (HB.out.alloc HB.out.size (.cells #[.slice none 0 0] 32))
      have hK : Blk (wr.alloc (.cells #[.slice none 0 0] 32)) wr.heap.size 32 #[.slice none 0 0] := Blk.new _ _ _
      have hobw : w.heap.size ≤ wr.heap.size := HB.out.size
      obtain ⟨ob, hob'⟩ : ∃ b, wr.heap.size = b := ⟨_, rfl⟩
      obtain ⟨wa, hwa⟩ : ∃ y, wr.alloc (.cells #[.slice none 0 0] 32) = y := ⟨_, rfl⟩
      rw [hwa] at HOa HBa hK
      rw [hob'] at hK hob hobw
      try rw [hwa]
      try rw [hob']
      clear hwa hob' HO HB
      have hown := HOa.out
      go_wp2_with (first
        | (at_range; refine wpList_range_own _ rfl _ 65 rfl 49 3 evK Try.underlying65 _ m rs.length _ rfl hown ?_; intro w0 hrg0 hg0 hs0)
        | fail)
      have hsz0 : Maps.size D ≤ rs.length := hown.size_le
      have hK0 : Blk w0 ob 32 #[.slice none 0 0] := (hg0.block ob hK.lt (by simp)).trans hK
      have HB0 := Lib.hid (HBa.out.grown hg0 HBa.out.size (fun j hj => by cases hj))
      obtain ⟨it, hit⟩ : ∃ b, wa.heap.size = b := ⟨_, rfl⟩
      rw [hit] at hrg0
      try rw [hit]
      have hitob : it ≠ ob := by have := hK.lt; omega
      have hitw : w.heap.size ≤ it := by have := HBa.out.size; omega
      have hmob : m ≠ ob := by omega
      have HRG := Lib.hid hrg0
      clear hown HOa HBa hK hg0 hs0 hrg0 hit
      go_frame
      go_loopw [] (fun wr2 => ∃ (left : Lit → Bool) (cnt : Nat) (l : List Rn) (v : Value), Hid (wr2.ranges Try.prog 49 evR m it rs.length D left cnt) ∧ l.length + cnt ≤ rs.length ∧ Hid (Blk wr2 ob 32 #[v]) ∧
        Hid (KN.Mk l w v wr2) ∧ Hid (¬ v.ownBlock = some ob) ∧ Hid (¬ v.ownBlock = some m) ∧ Hid (¬ v.ownBlock = some it) ∧ Hid (CollE D left rs l)) (fun wr2 => wr2.rangeLeft m it)
      case atStart => exact ⟨_, _, [], .slice none 0 0, HRG, by simpa using hsz0, Lib.hid hK0, Lib.hid ⟨Knd.O.nil _, HB0.out, fun x hx => by simp [fpv, Value.ownBlock] at hx⟩, Lib.hid (by simp [Value.ownBlock]), Lib.hid (by simp [Value.ownBlock]), Lib.hid (by simp [Value.ownBlock]), Lib.hid (CollE.start D rs)⟩
      case round =>
        clear HRG hK0 HB0
        obtain ⟨left, cnt, l, v, HRG, hcl, HK, HMk, hv1, hv2, hv3, HC⟩ := hrel
        have hrg := HRG.out
        go_wp2_with (first
          | (at_next; refine wpList_next_ranges _ rfl _ rfl 49 evK evR evV (Value.int .i64) (fun key kl hk => by obtain ⟨e, he, _⟩ := evInv hk; exact ⟨e, he⟩) (fun v y hv => by obtain ⟨c, hc, _⟩ := plainElem_int_inv Try.underlying3 hv; exact ⟨c, hc⟩) m it rs.length _ _ _ rfl hrg ?_ ?_)
          | fail)
        · intro hc0 hl0
          have HALL := Lib.hid (HC.out.all HR.out (fun r hr => okRn_ev (HOK.out r hr)) hl0)
          have hcell := HK.out.cellAt 0 (v := v) rfl
          have hoblt := HK.out.lt
          clear hrg hc0 hl0
          rcases HMk.out.1.2 with ⟨hv, hl⟩ | ⟨g, gcap, cur, hv, _, hg, hx3⟩
          · subst hv
            have hl2 : l = [] := List.eq_nil_of_length_eq_zero hl
            subst hl2
            have HB2 := Lib.hid HMk.out.2.1
            clear hl HMk
            go_wp2_with fail
            refine (slice_none ob _).mono ?_
            rintro e w3 ⟨rfl, hb3⟩
            have hcell2 := (hb3.cell (p := ⟨ob, 0, none⟩) hoblt).trans hcell
            have HB3 := Lib.hid (HB2.out.trans (hb3.mono HB2.out.size))
            clear hcell hb3
            go_wp2_with fail
            go_ret
            exact ⟨[], IsHist.of_sorted (List.Perm.refl _) List.nodup_nil HALL.out (fun x hx => by simp at hx) List.Pairwise.nil, .slice none 0 0, rfl, Knd.O.nil _, HB3.out, fun x hx => by simp [fpv, Value.ownBlock] at hx⟩
          · have hv' : v = .slice (some ⟨g, 0, none⟩) l.length gcap := hv
            clear hv
            subst hv'
            have hglt : g < wr.heap.size := (Array.getElem?_eq_some_iff.1 hg).1
            have hgw : w.heap.size ≤ g := HMk.out.2.2 g rfl
            have hne : ob ≠ g := fun e => hv1.out (by rw [e]; rfl)
            have hlen2 : l.length ≤ 1048576 := by omega
            have hS := Lib.hid (slice_any ob g gcap l.toArray wr (hold_of_own HMk.out.1) hglt hne hoblt hcell (by simp; omega))
            clear hg hx3
            clear cur
            go_wp2_with fail
            refine hS.out.mono ?_
            rintro e w3 ⟨rfl, d', hp, hso, hq⟩
            have hds : d'.size = l.length := by simpa using hp.1
            have hcell2 := (hq.cell (a := ⟨ob, 0, none⟩) hoblt hne).trans hcell
            have HN : Hid (∃ h, IsHist rs h ∧ KN.New h w (.returned (.slice (some ⟨g, 0, none⟩) l.length gcap)) w3) := by
              refine Lib.hid ⟨d'.toList, IsHist.sorted HC.out.nd HALL.out (fun x hx => (HC.out.ok x hx).2) (by simpa using hp) (by simpa using hso), .slice (some ⟨g, 0, none⟩) l.length gcap, rfl, ?_, SQ.below_old HMk.out.2.1 hq hgw, fun x hx => ?_⟩
              · have h1 := own_of_sq HMk.out.1 hq hds
                unfold Knd.O
                rw [show d'.toList.length = l.length by simpa using hds]
                exact h1
              · have : g = x := by simpa [fpv, Value.ownBlock] using hx
                omega
            clear hp hso hq hds hcell
            go_wp2_with fail
            go_ret
            exact HN.out
        · intro x c kl yd yp w2 cnt2 hkey hlk hv hat hrg2 hlt2 hg2 hs2 hen
          obtain ⟨e', ee, he⟩ := evInv hkey
          have ee2 := evV_inj ee
          subst ee2
          have hkl : kl = evL x := by
            have := evL_key he
            rw [this] at hkey
            injection hkey with hkey
            exact hkey.symm
          subst hkl
          obtain ⟨c', ec, ey, _⟩ := plainElem_int_inv Try.underlying3 hv
          injection ec with _ ec
          subst ec
          injection ey with ey1 ey2
          subst ey1
          subst ey2
          have HC2 := Lib.hid (HC.out.step HR.out he hlk hat)
          have HK2 : Hid (Blk w2 ob 32 #[v]) := Lib.hid ((hg2.block ob HK.out.lt (by intro e; injection e with e; omega)).trans HK.out)
          have HMk2 : Hid (KN.Mk l w v w2) := Lib.hid ⟨ownsRow_keep HMk.out.1 (Only.refl (fun z => z = it) wr |>.grown hg2 (fun k hk => by injection hk with hk; exact .inl hk.symm)) (fun z hz e => hv3.out (by rw [← e]; exact hz)), HMk.out.2.1.grown hg2 HMk.out.2.1.size (fun j hj => by injection hj with hj; omega), HMk.out.2.2⟩
          have HEN := Lib.hid hen
          have HRG2 := Lib.hid hrg2
          obtain ⟨xk, xs⟩ := x
          dsimp only at HC2
          unfold evV at hen
          clear hrg hkey hlk hv hat hrg2 hg2 hs2 ee HEN HMk HK HC
          go_upto_region 13 with fail
          have HMb := Lib.hid (HMk2.out.below ((Below.refl _ _).alloc (Nat.le_refl _) (.cells #[.int .u8 xk, .int .i64 xs] 49)))
          have hKb := HK2.out.alloc (.cells #[.int .u8 xk, .int .i64 xs] 49)
          have hE : Blk (w2.alloc (.cells #[.int .u8 xk, .int .i64 xs] 49)) w2.heap.size 49 #[.int .u8 xk, .int .i64 xs] := Blk.new _ _ _
          have HRGb := Lib.hid (HRG2.out.alloc (.cells #[.int .u8 xk, .int .i64 xs] 49))
          obtain ⟨eb, heb⟩ : ∃ b, w2.heap.size = b := ⟨_, rfl⟩
          obtain ⟨wb, hwb⟩ : ∃ y, w2.alloc (.cells #[.int .u8 xk, .int .i64 xs] 49) = y := ⟨_, rfl⟩
          rw [hwb] at HMb hKb hE HRGb
          rw [heb] at hE
          try rw [hwb]
          try rw [heb]
          clear hwb heb HMk2 HK2 HRG2 hen
          have c0 := hKb.cellAt 0 (v := v) rfl
          have f0 := hKb.unfrozen 0
          have e0 := hE.cellAt 0 rfl
          have e1 := hE.cellAt 1 rfl
          have hoblt := hKb.lt
          have hitlt := HRGb.out.lt
          have hmlt := HRGb.out.owns.lt
          have HKb := Lib.hid hKb
          have hl20 : l.length ≤ 1048576 := by omega
          have HOWN := HMb.out.alloc (.cells #[.int .u8 xk, .int .i64 xs, .int .i64 c] 51) (N := l.length) rfl
          clear hKb hE
          obtain ⟨hi, hz0, hz1, hz2⟩ := HI.out
          go_wp2_with (at_builtin; refine wpList_append_keep _ rfl _ _ 32 rfl 51 i0 _ 3 24 Try.underlying32 hi hz0 hz1 hz2 rfl (by decide) v l.length (KN.fl l) rfl HOWN ⟨wb.heap.size, 0, none⟩ 1 1 [.int .u8 xk, .int .i64 xs, .int .i64 c] rfl rfl (World.news_of_block (heap_alloc_new _ _)) (KN.one ⟨xk, xs, c⟩) (by unfold maxLen; omega) (by omega) (by decide) ?_)
          intro v' w3 hown3 hgrow3 hat3 hne3
          obtain ⟨g3, cap3, hvf, _⟩ := World.ownsRow.form hown3 (by omega)
          subst hvf
          have hat2 : (Value.slice (some ⟨g3, 0, none⟩) (l.length + 1) cap3).ownBlock = v.ownBlock ∨ (Value.slice (some ⟨g3, 0, none⟩) (l.length + 1) cap3).ownBlock = some (wb.heap.size + 1) := by
            rcases hat3 with hat | hat
            · exact .inl hat
            · exact .inr (by simpa using hat.1)
          have hn1 : Hid (¬ (Value.slice (some ⟨g3, 0, none⟩) (l.length + 1) cap3).ownBlock = some ob) := Lib.hid (fun h => by
            rcases hat2 with hat2 | hat2
            · exact hv1.out (hat2 ▸ h)
            · rw [hat2] at h; injection h with h; omega)
          have hn2 : Hid (¬ (Value.slice (some ⟨g3, 0, none⟩) (l.length + 1) cap3).ownBlock = some m) := Lib.hid (fun h => by
            rcases hat2 with hat2 | hat2
            · exact hv2.out (hat2 ▸ h)
            · rw [hat2] at h; injection h with h; omega)
          have hn3 : Hid (¬ (Value.slice (some ⟨g3, 0, none⟩) (l.length + 1) cap3).ownBlock = some it) := Lib.hid (fun h => by
            rcases hat2 with hat2 | hat2
            · exact hv3.out (hat2 ▸ h)
            · rw [hat2] at h; injection h with h; omega)
          have HM3 : Hid (KN.Mk (l ++ [⟨xk, xs, c⟩]) w (.slice (some ⟨g3, 0, none⟩) (l.length + 1) cap3) w3) := Lib.hid (HMb.out.more (x := ⟨xk, xs, c⟩) rfl rfl hown3 hgrow3 hat2)
          have hK3 : Blk w3 ob 32 #[v] := (hgrow3.block ob (by simp; omega) (fun e => hv1.out e.symm)).trans (HKb.out.alloc _)
          have HRG3 := Lib.hid ((HRGb.out.alloc (.cells #[.int .u8 xk, .int .i64 xs, .int .i64 c] 51)).kept hgrow3 (fun e => hv2.out e.symm) (fun e => hv3.out e.symm))
          have c2 := hK3.cellAt 0 (v := v) rfl
          have f2 := hK3.unfrozen 0
          have HK4 : Hid (Blk (w3.setCell ⟨ob, 0, none⟩ (.slice (some ⟨g3, 0, none⟩) (l.length + 1) cap3)) ob 32 #[.slice (some ⟨g3, 0, none⟩) (l.length + 1) cap3]) := Lib.hid (hK3.set 0 (.slice (some ⟨g3, 0, none⟩) (l.length + 1) cap3))
          have ho4 : Only (fun z => z = ob) w3 (w3.setCell ⟨ob, 0, none⟩ (.slice (some ⟨g3, 0, none⟩) (l.length + 1) cap3)) := (Only.refl (fun z => z = ob) w3).set (p := ⟨ob, 0, none⟩) (.inl rfl) (.slice (some ⟨g3, 0, none⟩) (l.length + 1) cap3)
          have HM4 : Hid (KN.Mk (l ++ [⟨xk, xs, c⟩]) w (.slice (some ⟨g3, 0, none⟩) (l.length + 1) cap3) (w3.setCell ⟨ob, 0, none⟩ (.slice (some ⟨g3, 0, none⟩) (l.length + 1) cap3))) := Lib.hid ⟨ownsRow_keep HM3.out.1 ho4 (fun z hz e => hn1.out (by rw [← e]; exact hz)), HM3.out.2.1.trans (ho4.below0 (fun z hz e => by omega) HM3.out.2.1.size), HM3.out.2.2⟩
          have HRG4 := Lib.hid (HRG3.out.kept (w' := w3.setCell ⟨ob, 0, none⟩ (.slice (some ⟨g3, 0, none⟩) (l.length + 1) cap3)) (row := some ob) ⟨ho4.os, ho4.tape, ho4.output, ho4.size, fun j hj hne => ho4.block j hj (fun e => hne (by rw [e]))⟩ (by intro e; injection e with e; omega) (by intro e; injection e with e; omega))
          clear hown3 hgrow3 hat3 hne3 hat2 HOWN hi hz0 hz1 hz2 c0 f0 e0 e1 HMb HKb hK3 HRGb HM3 HRG3 ho4
          go_wp2
          go_roundw
          case rel => exact ⟨_, cnt2, l ++ [⟨xk, xs, c⟩], _, HRG4, by simp; omega, HK4, HM4, hn1, hn2, hn3, HC2⟩
          case measure => rw [HRG4.out.left_eq, HRG.out.left_eq]; exact hlt2
end Go.Proofs.Ytfielodchoghlaa
