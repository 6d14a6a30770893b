/- The walk of SlotPlays. -/
import Derived.Test.YtaphjdfpffhpfaaRows
import Derived.Test.YtaphjdfpffhpfaaPlaysObs
import Derived.Deep.DeepCutAuto
import Derived.Deep.CutBlock
namespace Go.Proofs.Ytaphjdfpffhpfaa
open Go.RowKit
set_option maxRecDepth 100000
set_option linter.unusedVariables false
set_option linter.unusedSimpArgs false

def four (a b c : Value) : Nat → Value := fun k => if k = 0 then a else if k = 1 then b else if k = 2 then .pointer none else c
def start4 : Nat → Mst := fun k => if k = 0 then .is [] else if k = 1 then .is [] else if k = 2 then .no else .raw
def pt (b : Nat) : Value := .pointer (some ⟨b, 0, none⟩)
theorem plays_start {w0 w : World} {l q : Value} {p0 p1 p2 q0 q1 q2 gs gr : Nat} (h : Env w0 w [obP l (some []), obR q (some []), obM (pt p0) (.is []), obM (pt p1) (.is []), obM (pt p2) .raw, obK gs 27 #[pt p0, pt p1, .pointer none, pt p2], obN (pt q0) (.is []), obN (pt q1) (.is []), obN (pt q2) .raw, obK gr 33 #[pt q0, pt q1, .pointer none, pt q2]]) :
    Env w0 w (sObs l q (some []) (some []) (four (pt p0) (pt p1) (pt p2)) (four (pt q0) (pt q1) (pt q2)) start4 start4 gs gr (.slice none 0 0) (.slice none 0 0) [] []) := by
  have h1 := h.push (F' := fun _ => False) (obM (.pointer none) .no) ⟨rfl, rfl⟩ (Below.refl _ _) (fun x hx => hx.elim)
  have h2 := h1.push (F' := fun _ => False) (obN (.pointer none) .no) (.inl ⟨rfl, rfl, rfl⟩) (Below.refl _ _) (fun x hx => hx.elim)
  have h3 := (h2.llNil (st := 35) (e := 5) (sz := 1)).llNil (st := 35) (e := 5) (sz := 1)
  refine h3.pick (fun j => if j = 4 then 10 else if j = 5 then 4 else if j = 8 then 11 else if j = 9 then 8 else if j = 10 then 5 else if j = 11 then 9 else j) ?_ ?_
  · intro i j hi hj
    simp [sObs] at hi hj
    exact (by decide : ∀ i, i < 14 → ∀ j, j < 14 → (if i = 4 then 10 else if i = 5 then 4 else if i = 8 then 11 else if i = 9 then 8 else if i = 10 then 5 else if i = 11 then 9 else i) = (if j = 4 then 10 else if j = 5 then 4 else if j = 8 then 11 else if j = 9 then 8 else if j = 10 then 5 else if j = 11 then 9 else j) → i = j) i hi j hj
  · intro j ob hj
    match j, hj with
    | 0, hj | 1, hj | 2, hj | 3, hj | 4, hj | 5, hj | 6, hj | 7, hj | 8, hj | 9, hj | 10, hj | 11, hj | 12, hj | 13, hj => exact hj
    | j + 14, hj => simp [sObs] at hj
structure Plays (w wx : World) (l q : Value) (ps rs : Nat → Value) (gs gr i : Nat) (led : List Rn) (ms : Nat → Mst) (tu wu : Value) (ts ws : List (Value × List UInt8)) : Prop where
  few : Few led i
  bytes : ts.map (·.2) = ws.map (·.2)
  tl : ts.length ≤ i
  small : ∀ p ∈ ts, p.2.length ≤ 1024
  env : Env w wx (sObs l q (some led) (some led) ps rs ms ms gs gr tu wu ts ws)
theorem Plays.wl {w wx : World} {l q : Value} {ps rs : Nat → Value} {gs gr i : Nat} {led : List Rn} {ms : Nat → Mst} {tu wu : Value} {ts ws : List (Value × List UInt8)} (h : Plays w wx l q ps rs gs gr i led ms tu wu ts ws) : ws.length = ts.length := by
  have := congrArg List.length h.bytes
  simpa using this.symm
theorem Plays.room {w wx : World} {l q : Value} {ps rs : Nat → Value} {gs gr i : Nat} {led : List Rn} {ms : Nat → Mst} {tu wu : Value} {ts ws : List (Value × List UInt8)} (h : Plays w wx l q ps rs gs gr i led ms tu wu ts ws) (hi : i ≤ 3518437208781) : Room (some led) 1 :=
  Room.some (by have := h.few.1; omega) (by have := h.few.2; omega)
set_option maxHeartbeats 8000000 in
theorem slotPlays.walk {w : World} (v0 : Value) (steps : List Stp) (h0 : InS w v0 steps) :
    Calls Try.prog 3 #[v0] w fun e w' => e = .returned (.bool true) ∧ Below w.heap.size w w' := by
  obtain ⟨ao, cap, rfl, k1, k2, k3, hst⟩ := h0
  have HST := Lib.hid hst
  have hla : steps.length ≤ 9223372036854775807 := by omega
  clear hst
  go_enter Try.func3, Try.ntmps3
  go_wp2_with fail
  refine (newP_env (Env.start w)).mono ?_
  rintro e w1 ⟨l, rfl, h5⟩
  have H1 := Lib.hid h5
  clear h5
  go_wp2_with fail
  refine (newR_env H1.out).mono ?_
  rintro e w2 ⟨q, rfl, h5⟩
  have H2 := Lib.hid h5
  clear h5 H1
  go_wp2_with fail
  refine (newM_env H2.out).mono ?_
  rintro e w3 ⟨p0, rfl, h5⟩
  have H3 := Lib.hid h5
  clear h5 H2
  go_wp2_with fail
  refine (newM_env H3.out).mono ?_
  rintro e w4 ⟨p1, rfl, h5⟩
  have H4 := Lib.hid h5
  clear h5 H3
  go_upto_region 3 with fail
  have h5 := (H4.out.push (F' := fun x => x = w4.heap.size) (w' := w4.alloc (.cells #[.pointer none, .int .i64 0] 31)) (obM (pt w4.heap.size) .raw) ⟨w4.heap.size, rfl, rfl, Blk.new _ _ _⟩ ((Below.refl _ _).alloc (Nat.le_refl _) _) (fun x hx => by rw [hx]; exact Nat.le_refl _)).newK 27 #[pt p0, pt p1, .pointer none, pt w4.heap.size]
  rw [show (w4.alloc (.cells #[.pointer none, .int .i64 0] 31)).heap.size = w4.heap.size + 1 by simp] at h5
  have H5 : Hid (Env w ((w4.alloc (.cells #[.pointer none, .int .i64 0] 31)).alloc (.cells #[.pointer (some ⟨p0, 0, none⟩), .pointer (some ⟨p1, 0, none⟩), .pointer none, .pointer (some ⟨w4.heap.size, 0, none⟩)] 27)) [obP l (some []), obR q (some []), obM (pt p0) (.is []), obM (pt p1) (.is []), obM (pt w4.heap.size) .raw, obK (w4.heap.size + 1) 27 #[pt p0, pt p1, .pointer none, pt w4.heap.size]]) := Lib.hid h5
  clear h5 H4
  generalize ((w4.alloc (.cells #[.pointer none, .int .i64 0] 31)).alloc (.cells #[.pointer (some ⟨p0, 0, none⟩), .pointer (some ⟨p1, 0, none⟩), .pointer none, .pointer (some ⟨w4.heap.size, 0, none⟩)] 27)) = w5 at H5 ⊢
  generalize w4.heap.size = p2 at H5 ⊢
  go_wp2_with fail
  refine (newN_env H5.out).mono ?_
  rintro e w6 ⟨q0, rfl, h5⟩
  have H6 := Lib.hid h5
  clear h5 H5
  go_wp2_with fail
  refine (newN_env H6.out).mono ?_
  rintro e w7 ⟨q1, rfl, h5⟩
  have H7 := Lib.hid h5
  clear h5 H6
  go_wp2_with fail
  have h5 := (H7.out.push (F' := fun x => x = w7.heap.size ∨ fpv (.slice none 0 0) x) (w' := w7.alloc (.cells #[.slice none 0 0, .bool false] 37)) (obN (pt w7.heap.size) .raw) (.inr ⟨by simp, _, _, rfl, rfl, Blk.new _ _ _, OB.nil _, by simp [Mst.bs], by simp [fpv, Value.ownBlock]⟩) ((Below.refl _ _).alloc (Nat.le_refl _) _) (fun x hx => by
    rcases hx with hx | hx
    · rw [hx]; exact Nat.le_refl _
    · simp [fpv, Value.ownBlock] at hx)).newK 33 #[pt q0, pt q1, .pointer none, pt w7.heap.size]
  rw [show (w7.alloc (.cells #[.slice none 0 0, .bool false] 37)).heap.size = w7.heap.size + 1 by simp] at h5
  have h6 := plays_start (w := (w7.alloc (.cells #[.slice none 0 0, .bool false] 37)).alloc (.cells #[.pointer (some ⟨q0, 0, none⟩), .pointer (some ⟨q1, 0, none⟩), .pointer none, .pointer (some ⟨w7.heap.size, 0, none⟩)] 33)) h5
  clear h5 H7
  generalize ((w7.alloc (.cells #[.slice none 0 0, .bool false] 37)).alloc (.cells #[.pointer (some ⟨q0, 0, none⟩), .pointer (some ⟨q1, 0, none⟩), .pointer none, .pointer (some ⟨w7.heap.size, 0, none⟩)] 33)) = w8 at h6 ⊢
  generalize w7.heap.size = q2 at h6 ⊢
  generalize four (pt p0) (pt p1) (pt p2) = ps at h6
  generalize four (pt q0) (pt q1) (pt q2) = rs at h6
  generalize p2 + 1 = gs at h6 ⊢
  generalize q2 + 1 = gr at h6 ⊢
  have H8 : Hid (Plays w w8 l q ps rs gs gr 0 [] start4 (.slice none 0 0) (.slice none 0 0) [] []) := Lib.hid ⟨Few.nil, rfl, Nat.zero_le _, fun p hp => by simp at hp, h6⟩
  clear h6
  go_loopw [7, 8, 9] (fun tv wv iv wx => ∃ (i : Nat) (led : List Rn) (ms : Nat → Mst) (ts ws : List (Value × List UInt8)), i ≤ steps.length ∧ iv = .int .i64 (i : Int) ∧ Hid (Plays w wx l q ps rs gs gr i led ms tv wv ts ws)) (fun _ _ i _ => steps.length - (intOf i).toNat)
  case atStart => exact ⟨0, [], start4, [], [], Nat.zero_le _, rfl, H8⟩
  case round =>
    obtain ⟨i, led, ms, ts, ws, hi, rfl, H⟩ := hrel
    clear H8
    by_cases hlt : i < steps.length
    · obtain ⟨s, hs⟩ : ∃ s, steps[i]? = some s := ⟨_, List.getElem?_eq_getElem hlt⟩
      obtain ⟨b, off, c, rfl, c0, c1, c2, c3, hcl⟩ := HST.out i s hs
      obtain ⟨xo, xc, rfl, k5, k6, _, _⟩ := hcl.1.form
      have HC := Lib.hid hcl
      have d0 := (H.out.env.base.cell (World.block_lt_of_cell? w _ c0)).trans c0
      have d1 := (H.out.env.base.cell (World.block_lt_of_cell? w _ c1)).trans c1
      have d2 := (H.out.env.base.cell (World.block_lt_of_cell? w _ c2)).trans c2
      have d3 := (H.out.env.base.cell (World.block_lt_of_cell? w _ c3)).trans c3
      have hxl : s.p.length ≤ 140737488351232 := hcl.2
      clear c0 c1 c2 c3 hcl hs
      go_upto_region 9 with fail
      have h9 := H.out.env.newK 41 #[.int .i64 s.d, .int .u8 (s.k.toNat : Int), .int .u8 (s.o.toNat : Int), .slice xo s.p.length xc]
      clear d0 d1 d2 d3
      generalize wr.alloc (.cells #[.int .i64 s.d, .int .u8 (s.k.toNat : Int), .int .u8 (s.o.toNat : Int), .slice xo s.p.length xc] 41) = w9 at h9 ⊢
      generalize wr.heap.size = G at h9 ⊢
      have HE := Lib.hid h9
      have d0 := (h9.blk 14 rfl).cellAt 0 rfl
      have d1 := (h9.blk 14 rfl).cellAt 1 rfl
      have d2 := (h9.blk 14 rfl).cellAt 2 rfl
      have d3 := (h9.blk 14 rfl).cellAt 3 rfl
      clear h9
      obtain ⟨k, hk⟩ : ∃ k, s.k.toNat % 4 = k := ⟨_, rfl⟩
      have hk4 : k < 4 := by omega
      have ek : (s.k.toNat : Int).tmod 4 = (k : Int) := by rw [Int.tmod_eq_emod_of_nonneg (by omega)]; omega
      have ek' : (wrap64 (s.k.toNat : Int)).tmod 4 = (k : Int) := by rw [IntWalk.wrap64_in _ (by have := s.k.toNat_lt; omega), ek]
      have bk : 0 ≤ (k : Int) ∧ (k : Int) < 4 := by omega
      have HK := Lib.hid hk
      clear ek hk
      go_upto_block 2 with fail
      clear ek'
      go_cut [12, 7, 8] from 47 to 173 (fun okv tv wv wx => ∃ (led' : List Rn) (ms' : Nat → Mst) (ts' ws' : List (Value × List UInt8)), okv = .bool true ∧ Plays w wx l q ps rs gs gr (i + 1) led' ms' tv wv ts' ws')
      case first =>
        by_cases e1 : s.d = 1
        · have t1 : (s.d == (1 : Int)) = true := by rw [e1]; rfl
          clear e1
          --[put
          go_wp2_with fail
          refine (lent_env HE.out (HE.out.old HC.out.1) (by omega)).mono ?_
          rintro e w10 ⟨g, capL, rfl, h5⟩
          rw [List.append_assoc] at h5
          have H10 := Lib.hid h5
          clear h5 HE
          obtain ⟨hcp, hcm⟩ := (H10.out.bytes 15 rfl).caps
          have hcl1 : s.p.length ≤ capL := by rw [lent_length] at hcp; omega
          have st10 : Stat gs gr G k k ps rs (.slice xo s.p.length xc) w10 := Stat.of hk4 hk4 H10.out
          have ST10 := Lib.hid st10
          obtain ⟨E, hE⟩ : ∃ E, putC (ms k) s.p = E := ⟨_, rfl⟩
          clear st10 t1 hcp
          go_upto_region 14 with fail
          refine hd_start (Stat gs gr G k k ps rs (.slice xo s.p.length xc)) (by kernel_rfl) ?_
          intro w11 hw'
          have H11 := Lib.hid (H10.out.draw 1)
          rw [← hw'] at H11
          clear hw' H10
          have S11 : Stat gs gr G k k ps rs (.slice xo s.p.length xc) w11 := Stat.of hk4 hk4 H11.out
          refine hd_take (v := ?_) 0 rfl (by kernel_rfl) (fun _ _ d _ _ h => (by cases d <;> exact h)) (by kernel_rfl) S11 (fun w' hS => ?_) ?_
          rotate_left
          focus (have q0 := Stat.p w' hS; have q1 := Stat.e w' hS; clear hS; go_simp; try rfl; done)
          simp only [List.getElem_toArray, List.getElem_cons_succ, List.getElem_cons_zero, Act.put, List.setIfInBounds_toArray, List.set_cons_zero, List.set_cons_succ]
          refine hd_take (v := ?_) 1 rfl (by kernel_rfl) (fun _ _ d _ _ h => (by cases d <;> exact h)) (by kernel_rfl) S11 (fun w' hS => ?_) ?_
          rotate_left
          focus (have q0 := Stat.p w' hS; have q1 := Stat.e w' hS; clear hS; go_simp; try rfl; done)
          simp only [List.getElem_toArray, List.getElem_cons_succ, List.getElem_cons_zero, Act.put, List.setIfInBounds_toArray, List.set_cons_zero, List.set_cons_succ]
          refine hd_take (v := ?_) 2 rfl (by kernel_rfl) (fun _ _ d _ _ h => (by cases d <;> exact h)) (by kernel_rfl) S11 (fun w' hS => ?_) ?_
          rotate_left
          focus (have q0 := Stat.p w' hS; have q1 := Stat.e w' hS; clear hS; go_simp; try rfl; done)
          simp only [List.getElem_toArray, List.getElem_cons_succ, List.getElem_cons_zero, Act.put, List.setIfInBounds_toArray, List.set_cons_zero, List.set_cons_succ]
          refine hd_take (v := ?_) 3 rfl (by kernel_rfl) (fun _ _ d _ _ h => (by cases d <;> exact h)) (by kernel_rfl) S11 (fun w' hS => ?_) ?_
          rotate_left
          focus (have q0 := Stat.p w' hS; have q1 := Stat.e w' hS; clear hS; go_simp; try rfl; done)
          simp only [List.getElem_toArray, List.getElem_cons_succ, List.getElem_cons_zero, Act.put, List.setIfInBounds_toArray, List.set_cons_zero, List.set_cons_succ]
          refine hd_take (v := ?_) 4 rfl (by kernel_rfl) (fun _ _ d _ _ h => (by cases d <;> exact h)) (by kernel_rfl) S11 (fun w' hS => ?_) ?_
          rotate_left
          focus (have q0 := Stat.p w' hS; have q1 := Stat.e w' hS; clear hS; go_simp; try rfl; done)
          simp only [List.getElem_toArray, List.getElem_cons_succ, List.getElem_cons_zero, Act.put, List.setIfInBounds_toArray, List.set_cons_zero, List.set_cons_succ]
          refine hd_take (v := ?_) 5 rfl (by kernel_rfl) (fun _ _ d _ _ h => (by cases d <;> exact h)) (by kernel_rfl) S11 (fun w' hS => ?_) ?_
          rotate_left
          focus (have q0 := Stat.p w' hS; have q1 := Stat.e w' hS; clear hS; go_simp; try rfl; done)
          simp only [List.getElem_toArray, List.getElem_cons_succ, List.getElem_cons_zero, Act.put, List.setIfInBounds_toArray, List.set_cons_zero, List.set_cons_succ]
          refine hd_take (v := ?_) 6 rfl (by kernel_rfl) (fun _ _ d _ _ h => (by cases d <;> exact h)) (by kernel_rfl) S11 (fun w' hS => ?_) ?_
          rotate_left
          focus (have q0 := Stat.p w' hS; have q1 := Stat.e w' hS; clear hS; go_simp; try rfl; done)
          simp only [List.getElem_toArray, List.getElem_cons_succ, List.getElem_cons_zero, Act.put, List.setIfInBounds_toArray, List.set_cons_zero, List.set_cons_succ]
          refine hd_take (v := ?_) 7 rfl (by kernel_rfl) (fun _ _ d _ _ h => (by cases d <;> exact h)) (by kernel_rfl) S11 (fun w' hS => ?_) ?_
          rotate_left
          focus (have q0 := Stat.p w' hS; have q1 := Stat.e w' hS; clear hS; go_simp; try rfl; done)
          simp only [List.getElem_toArray, List.getElem_cons_succ, List.getElem_cons_zero, Act.put, List.setIfInBounds_toArray, List.set_cons_zero, List.set_cons_succ]
          refine hd_take (v := ?_) 8 rfl (by kernel_rfl) (fun _ _ d _ _ h => (by cases d <;> exact h)) (by kernel_rfl) S11 (fun w' hS => ?_) ?_
          rotate_left
          focus (have q0 := Stat.p w' hS; have q1 := Stat.e w' hS; clear hS; go_simp; try rfl; done)
          simp only [List.getElem_toArray, List.getElem_cons_succ, List.getElem_cons_zero, Act.put, List.setIfInBounds_toArray, List.set_cons_zero, List.set_cons_succ]
          refine hd_one 9 (by kernel_rfl) ?_
          refine op_call rfl (by kernel_rfl) (by go_simp; first | exact ⟨rfl, rfl⟩ | rfl) ?_
          refine (putM_env H11.out (2 + k) (sObs_M k hk4) (Src.lent H11.out (2 + k) 15 (by omega) rfl)).mono ?_
          rintro e w12 ⟨he, h5⟩
          rw [hE] at he
          subst he
          rw [sObs_setM k hk4] at h5
          have hS2 := Stat.of hk4 hk4 h5
          have S12 := hS2
          have H12 := Lib.hid h5
          clear h5 H11
          refine ⟨_, rfl, hS2, ?_⟩
          simp only [List.getElem_toArray, List.getElem_cons_succ, List.getElem_cons_zero, Act.put, List.setIfInBounds_toArray, List.set_cons_zero, List.set_cons_succ]
          refine hd_take (v := ?_) 10 rfl (by kernel_rfl) (fun _ _ d _ _ h => (by cases d <;> exact h)) (by kernel_rfl) S12 (fun w' hS => ?_) ?_
          rotate_left
          focus (clear hS; go_simp; try rfl; done)
          simp only [List.getElem_toArray, List.getElem_cons_succ, List.getElem_cons_zero, Act.put, List.setIfInBounds_toArray, List.set_cons_zero, List.set_cons_succ]
          refine hd_done (by kernel_rfl) ?_
          clear S11 hS2
          go_upto_region 15 with fail
          refine hd_start (Stat gs gr G k k ps rs (.slice xo s.p.length xc)) (by kernel_rfl) ?_
          intro w13 hw'
          have H13 := Lib.hid (H12.out.draw 1)
          rw [← hw'] at H13
          clear hw' H12
          have S13 : Stat gs gr G k k ps rs (.slice xo s.p.length xc) w13 := Stat.of hk4 hk4 H13.out
          refine hd_take (v := ?_) 0 rfl (by kernel_rfl) (fun _ _ d _ _ h => (by cases d <;> exact h)) (by kernel_rfl) S13 (fun w' hS => ?_) ?_
          rotate_left
          focus (have q0 := Stat.p w' hS; have q1 := Stat.e w' hS; clear hS; go_simp; try rfl; done)
          simp only [List.getElem_toArray, List.getElem_cons_succ, List.getElem_cons_zero, Act.put, List.setIfInBounds_toArray, List.set_cons_zero, List.set_cons_succ]
          refine hd_take (v := ?_) 1 rfl (by kernel_rfl) (fun _ _ d _ _ h => (by cases d <;> exact h)) (by kernel_rfl) S13 (fun w' hS => ?_) ?_
          rotate_left
          focus (have q0 := Stat.p w' hS; have q1 := Stat.e w' hS; clear hS; go_simp; try rfl; done)
          simp only [List.getElem_toArray, List.getElem_cons_succ, List.getElem_cons_zero, Act.put, List.setIfInBounds_toArray, List.set_cons_zero, List.set_cons_succ]
          refine hd_take (v := ?_) 2 rfl (by kernel_rfl) (fun _ _ d _ _ h => (by cases d <;> exact h)) (by kernel_rfl) S13 (fun w' hS => ?_) ?_
          rotate_left
          focus (have q0 := Stat.p w' hS; have q1 := Stat.e w' hS; clear hS; go_simp; try rfl; done)
          simp only [List.getElem_toArray, List.getElem_cons_succ, List.getElem_cons_zero, Act.put, List.setIfInBounds_toArray, List.set_cons_zero, List.set_cons_succ]
          refine hd_one 3 (by kernel_rfl) ?_
          refine op_call rfl (by kernel_rfl) (by go_simp; first | exact ⟨rfl, rfl⟩ | rfl) ?_
          refine (kept_env H13.out (H13.out.bytes 15 rfl).rd (H13.out.old HC.out.1) (by omega)).mono ?_
          rintro e w14 ⟨he, h5⟩
          rw [decide_eq_true rfl] at he
          subst he
          have hS2 : Stat gs gr G k k ps rs (.slice xo s.p.length xc) w14 := Stat.of hk4 hk4 h5
          have S14 := hS2
          have H14 := Lib.hid h5
          clear h5 H13
          refine ⟨_, rfl, hS2, ?_⟩
          simp only [List.getElem_toArray, List.getElem_cons_succ, List.getElem_cons_zero, Act.put, List.setIfInBounds_toArray, List.set_cons_zero, List.set_cons_succ]
          clear hS2
          refine hd_take (v := ?_) 4 rfl (by kernel_rfl) (fun _ _ d _ _ h => (by cases d <;> exact h)) (by kernel_rfl) S14 (fun w' hS => ?_) ?_
          rotate_left
          focus (have q0 := Stat.r w' hS; have q1 := Stat.e w' hS; clear hS; go_simp; try rfl; done)
          simp only [List.getElem_toArray, List.getElem_cons_succ, List.getElem_cons_zero, Act.put, List.setIfInBounds_toArray, List.set_cons_zero, List.set_cons_succ]
          refine hd_take (v := ?_) 5 rfl (by kernel_rfl) (fun _ _ d _ _ h => (by cases d <;> exact h)) (by kernel_rfl) S14 (fun w' hS => ?_) ?_
          rotate_left
          focus (have q0 := Stat.r w' hS; have q1 := Stat.e w' hS; clear hS; go_simp; try rfl; done)
          simp only [List.getElem_toArray, List.getElem_cons_succ, List.getElem_cons_zero, Act.put, List.setIfInBounds_toArray, List.set_cons_zero, List.set_cons_succ]
          refine hd_take (v := ?_) 6 rfl (by kernel_rfl) (fun _ _ d _ _ h => (by cases d <;> exact h)) (by kernel_rfl) S14 (fun w' hS => ?_) ?_
          rotate_left
          focus (have q0 := Stat.r w' hS; have q1 := Stat.e w' hS; clear hS; go_simp; try rfl; done)
          simp only [List.getElem_toArray, List.getElem_cons_succ, List.getElem_cons_zero, Act.put, List.setIfInBounds_toArray, List.set_cons_zero, List.set_cons_succ]
          refine hd_take (v := ?_) 7 rfl (by kernel_rfl) (fun _ _ d _ _ h => (by cases d <;> exact h)) (by kernel_rfl) S14 (fun w' hS => ?_) ?_
          rotate_left
          focus (have q0 := Stat.r w' hS; have q1 := Stat.e w' hS; clear hS; go_simp; try rfl; done)
          simp only [List.getElem_toArray, List.getElem_cons_succ, List.getElem_cons_zero, Act.put, List.setIfInBounds_toArray, List.set_cons_zero, List.set_cons_succ]
          refine hd_take (v := ?_) 8 rfl (by kernel_rfl) (fun _ _ d _ _ h => (by cases d <;> exact h)) (by kernel_rfl) S14 (fun w' hS => ?_) ?_
          rotate_left
          focus (have q0 := Stat.r w' hS; have q1 := Stat.e w' hS; clear hS; go_simp; try rfl; done)
          simp only [List.getElem_toArray, List.getElem_cons_succ, List.getElem_cons_zero, Act.put, List.setIfInBounds_toArray, List.set_cons_zero, List.set_cons_succ]
          refine hd_take (v := ?_) 9 rfl (by kernel_rfl) (fun _ _ d _ _ h => (by cases d <;> exact h)) (by kernel_rfl) S14 (fun w' hS => ?_) ?_
          rotate_left
          focus (have q0 := Stat.r w' hS; have q1 := Stat.e w' hS; clear hS; go_simp; try rfl; done)
          simp only [List.getElem_toArray, List.getElem_cons_succ, List.getElem_cons_zero, Act.put, List.setIfInBounds_toArray, List.set_cons_zero, List.set_cons_succ]
          refine hd_take (v := ?_) 10 rfl (by kernel_rfl) (fun _ _ d _ _ h => (by cases d <;> exact h)) (by kernel_rfl) S14 (fun w' hS => ?_) ?_
          rotate_left
          focus (have q0 := Stat.r w' hS; have q1 := Stat.e w' hS; clear hS; go_simp; try rfl; done)
          simp only [List.getElem_toArray, List.getElem_cons_succ, List.getElem_cons_zero, Act.put, List.setIfInBounds_toArray, List.set_cons_zero, List.set_cons_succ]
          refine hd_take (v := ?_) 11 rfl (by kernel_rfl) (fun _ _ d _ _ h => (by cases d <;> exact h)) (by kernel_rfl) S14 (fun w' hS => ?_) ?_
          rotate_left
          focus (have q0 := Stat.r w' hS; have q1 := Stat.e w' hS; clear hS; go_simp; try rfl; done)
          simp only [List.getElem_toArray, List.getElem_cons_succ, List.getElem_cons_zero, Act.put, List.setIfInBounds_toArray, List.set_cons_zero, List.set_cons_succ]
          refine hd_one 12 (by kernel_rfl) ?_
          refine op_call rfl (by kernel_rfl) (by go_simp; first | exact ⟨rfl, rfl⟩ | rfl) ?_
          refine (putN_env H14.out (6 + k) (sObs_N k hk4) (H14.out.old HC.out.1)).mono ?_
          rintro e w15 ⟨he, h5⟩
          rw [hE] at he
          subst he
          rw [sObs_setN k hk4] at h5
          have hS2 := Stat.of hk4 hk4 h5
          have S15 := hS2
          have H15 := Lib.hid h5
          clear h5 H14
          refine ⟨_, rfl, hS2, ?_⟩
          simp only [List.getElem_toArray, List.getElem_cons_succ, List.getElem_cons_zero, Act.put, List.setIfInBounds_toArray, List.set_cons_zero, List.set_cons_succ]
          clear hS2
          refine hd_take (v := ?_) 13 rfl (by kernel_rfl) (fun _ _ d _ _ h => (by cases d <;> exact h)) (by kernel_rfl) S15 (fun w' hS => ?_) ?_
          rotate_left
          focus (clear hS; go_simp; try rfl; done)
          simp only [List.getElem_toArray, List.getElem_cons_succ, List.getElem_cons_zero, Act.put, List.setIfInBounds_toArray, List.set_cons_zero, List.set_cons_succ]
          refine hd_take (v := ?_) 14 rfl (by kernel_rfl) (fun _ _ d _ _ h => (by cases d <;> exact h)) (by kernel_rfl) S15 (fun w' hS => ?_) ?_
          rotate_left
          focus (clear hS; go_simp; try rfl; done)
          simp only [List.getElem_toArray, List.getElem_cons_succ, List.getElem_cons_zero, Act.put, List.setIfInBounds_toArray, List.set_cons_zero, List.set_cons_succ]
          refine hd_take (v := ?_) 15 rfl (by kernel_rfl) (fun _ _ d _ _ h => (by cases d <;> exact h)) (by kernel_rfl) S15 (fun w' hS => ?_) ?_
          rotate_left
          focus (clear hS; go_simp; try rfl; done)
          simp only [List.getElem_toArray, List.getElem_cons_succ, List.getElem_cons_zero, Act.put, List.setIfInBounds_toArray, List.set_cons_zero, List.set_cons_succ]
          refine hd_done (by kernel_rfl) ?_
          clear S12 S13 S14 S15
          go_wp2_with fail
          refine (over_env H15.out 15 rfl (by rw [lent_length]; omega)).mono ?_
          rintro e w16 ⟨rfl, h5⟩
          have H16 : Hid (Env w w16 (sObs l q (some led) (some led) ps rs (upd ms k (putS (ms k) s.p)) (upd ms k (putS (ms k) s.p)) gs gr u7 u8 ts ws)) := Lib.hid (Env.left (B := [_, _]) h5)
          clear h5 H15
          go_wp2_with fail
          go_meet
          exact ⟨led, _, ts, ws, rfl, H.out.few.le (Nat.le_succ i), H.out.bytes, Nat.le_succ_of_le H.out.tl, H.out.small, H16.out⟩
          --]put
        · have t1 : (s.d == (1 : Int)) = false := by simpa using e1
          by_cases e2 : s.d = 2
          · have t2 : (s.d == (2 : Int)) = true := by rw [e2]; rfl
            clear e1 e2
            --[look
            have st10 := Stat.of (k := k) (o := k) hk4 hk4 HE.out
            have dp := st10.1
            have dr := st10.2.2.1
            clear st10
            go_wp2_with fail
            refine (bytesM_env HE.out (2 + k) (sObs_M k hk4)).mono ?_
            rintro e w10 ⟨v, rfl, h5⟩
            obtain ⟨vo, vc, rfl⟩ := (h5.bytes 15 rfl).any
            obtain ⟨L, hL⟩ : ∃ L, (ms k).bs = L := ⟨_, rfl⟩
            have hL4 := sObs_small HE.out k hk4
            rw [hL] at h5 hL4 ⊢
            have H10 := Lib.hid h5
            have HL := Lib.hid hL
            have HTL := Lib.hid H.out.tl
            have HWL := Lib.hid H.out.wl
            obtain ⟨zo, zc, rfl, hzc1, hzc2⟩ := obT_form HE.out 12 rfl
            obtain ⟨yo, yc, rfl, hyc1, hyc2⟩ := obT_form HE.out 13 rfl
            clear h5 HE hL dp dr
            go_wp2_with (at_builtin; refine wpList_append_T H10.out 12 rfl _ _ rfl rfl rfl rfl (by have := HTL.out; omega) ?_)
            intro u11 w11 h5
            have H11 : Hid (Env w w11 (sObs l q (some led) (some led) ps rs ms ms gs gr u11 (.slice yo ws.length yc) (ts ++ [(.slice vo L.length vc, L)]) ws ++ [obK G 41 #[.int .i64 s.d, .int .u8 (s.k.toNat : Int), .int .u8 (s.o.toNat : Int), .slice xo s.p.length xc]])) := Lib.hid h5
            have dr := (Stat.of (k := k) (o := k) hk4 hk4 h5).2.2.1
            clear h5 H10
            go_wp2_with fail
            refine (bytesN_env H11.out (6 + k) (sObs_N k hk4)).mono ?_
            rintro e w12 ⟨v2, rfl, h5⟩
            rw [HL.out] at h5
            obtain ⟨v2o, v2c, rfl⟩ := (h5.bytes 15 rfl).any
            have H12 := Lib.hid h5
            clear h5 H11 dr
            go_wp2_with (at_builtin; refine wpList_append_T H12.out 13 rfl _ _ rfl rfl rfl rfl (by have := HTL.out; have := HWL.out; omega) ?_)
            intro u13 w13 h5
            have H13 : Hid (Env w w13 (sObs l q (some led) (some led) ps rs ms ms gs gr u11 u13 (ts ++ [(.slice vo L.length vc, L)]) (ws ++ [(.slice v2o L.length v2c, L)]) ++ [obK G 41 #[.int .i64 s.d, .int .u8 (s.k.toNat : Int), .int .u8 (s.o.toNat : Int), .slice xo s.p.length xc]])) := Lib.hid h5
            clear h5 H12
            obtain ⟨wg, wcc, h13, hwc1, hwc2⟩ := obT_slice H13.out 13 rfl (by simp)
            have elw : (ws ++ [((.slice v2o L.length v2c : Value), L)]).length = ws.length + 1 := by simp
            rw [elw] at hwc1 h13
            subst h13
            clear elw
            have bw1 : IntKind.i64.wrap (ws.length : Int) = (ws.length : Int) := IntWalk.i64_in _ (by have := HTL.out; have := HWL.out; omega)
            have bw2 : (ws.length : Int) ≤ 9223372036854775807 := by omega
            have bw3 : 0 ≤ (ws.length : Int) ∧ (ws.length : Int) < (ws.length : Int) + 1 := by omega
            go_upto_region 21 with fail
            refine hd_start (Stq gs gr k ps rs wg ws.length (.slice v2o L.length v2c)) (by kernel_rfl) ?_
            intro w14 hw'
            have H14 := Lib.hid (H13.out.draw 1)
            rw [← hw'] at H14
            clear hw' H13
            have S14 : Stq gs gr k ps rs wg ws.length (.slice v2o L.length v2c) w14 := Stq.of (x := L) hk4 H14.out (by rw [List.getElem?_append_right (Nat.le_refl _), Nat.sub_self]; rfl)
            refine hd_take (v := ?_) 0 rfl (by kernel_rfl) (fun _ _ d _ _ h => (by cases d <;> exact h)) (by kernel_rfl) S14 (fun w' hS => ?_) ?_
            rotate_left
            focus (have q0 := Stq.e w' hS; clear hS; go_simp; try rfl; done)
            simp only [List.getElem_toArray, List.getElem_cons_succ, List.getElem_cons_zero, Act.put, List.setIfInBounds_toArray, List.set_cons_zero, List.set_cons_succ]
            refine hd_take (v := ?_) 1 rfl (by kernel_rfl) (fun _ _ d _ _ h => (by cases d <;> exact h)) (by kernel_rfl) S14 (fun w' hS => ?_) ?_
            rotate_left
            focus (have q0 := Stq.e w' hS; clear hS; go_simp; try rfl; done)
            simp only [List.getElem_toArray, List.getElem_cons_succ, List.getElem_cons_zero, Act.put, List.setIfInBounds_toArray, List.set_cons_zero, List.set_cons_succ]
            refine hd_take (v := ?_) 2 rfl (by kernel_rfl) (fun _ _ d _ _ h => (by cases d <;> exact h)) (by kernel_rfl) S14 (fun w' hS => ?_) ?_
            rotate_left
            focus (have q0 := Stq.e w' hS; clear hS; go_simp; try rfl; done)
            simp only [List.getElem_toArray, List.getElem_cons_succ, List.getElem_cons_zero, Act.put, List.setIfInBounds_toArray, List.set_cons_zero, List.set_cons_succ]
            refine hd_take (v := ?_) 3 rfl (by kernel_rfl) (fun _ _ d _ _ h => (by cases d <;> exact h)) (by kernel_rfl) S14 (fun w' hS => ?_) ?_
            rotate_left
            focus (have q0 := Stq.e w' hS; clear hS; go_simp; try rfl; done)
            simp only [List.getElem_toArray, List.getElem_cons_succ, List.getElem_cons_zero, Act.put, List.setIfInBounds_toArray, List.set_cons_zero, List.set_cons_succ]
            refine hd_take (v := ?_) 4 rfl (by kernel_rfl) (fun _ _ d _ _ h => (by cases d <;> exact h)) (by kernel_rfl) S14 (fun w' hS => ?_) ?_
            rotate_left
            focus (have q0 := Stq.e w' hS; clear hS; go_simp; try rfl; done)
            simp only [List.getElem_toArray, List.getElem_cons_succ, List.getElem_cons_zero, Act.put, List.setIfInBounds_toArray, List.set_cons_zero, List.set_cons_succ]
            refine hd_take (v := ?_) 5 rfl (by kernel_rfl) (fun _ _ d _ _ h => (by cases d <;> exact h)) (by kernel_rfl) S14 (fun w' hS => ?_) ?_
            rotate_left
            focus (have q0 := Stq.e w' hS; clear hS; go_simp; try rfl; done)
            simp only [List.getElem_toArray, List.getElem_cons_succ, List.getElem_cons_zero, Act.put, List.setIfInBounds_toArray, List.set_cons_zero, List.set_cons_succ]
            refine hd_take (v := ?_) 6 rfl (by kernel_rfl) (fun _ _ d _ _ h => (by cases d <;> exact h)) (by kernel_rfl) S14 (fun w' hS => ?_) ?_
            rotate_left
            focus (have q0 := Stq.e w' hS; clear hS; go_simp; try rfl; done)
            simp only [List.getElem_toArray, List.getElem_cons_succ, List.getElem_cons_zero, Act.put, List.setIfInBounds_toArray, List.set_cons_zero, List.set_cons_succ]
            refine hd_one 7 (by kernel_rfl) ?_
            refine op_call rfl (by kernel_rfl) (by go_simp; first | exact ⟨rfl, rfl⟩ | rfl) ?_
            refine (sameBytes_env H14.out (obT_get H14.out 12 rfl (v := .slice vo L.length vc) (l := L) (by rw [List.getElem?_append_right (Nat.le_refl _), Nat.sub_self]; rfl)) (obT_get H14.out 13 rfl (v := .slice v2o L.length v2c) (l := L) (by rw [List.getElem?_append_right (Nat.le_refl _), Nat.sub_self]; rfl))).mono ?_
            rintro e w15 ⟨he, h5⟩
            rw [decide_eq_true rfl] at he
            subst he
            have hS2 : Stq gs gr k ps rs wg ws.length (.slice v2o L.length v2c) w15 := Stq.of (x := L) hk4 h5 (by rw [List.getElem?_append_right (Nat.le_refl _), Nat.sub_self]; rfl)
            have S15 := hS2
            have H15 := Lib.hid h5
            clear h5 H14
            refine ⟨_, rfl, hS2, ?_⟩
            simp only [List.getElem_toArray, List.getElem_cons_succ, List.getElem_cons_zero, Act.put, List.setIfInBounds_toArray, List.set_cons_zero, List.set_cons_succ]
            clear hS2
            refine hd_take (v := ?_) 8 rfl (by kernel_rfl) (fun _ _ d _ _ h => (by cases d <;> exact h)) (by kernel_rfl) S15 (fun w' hS => ?_) ?_
            rotate_left
            focus (have q0 := Stq.p w' hS; have q1 := Stq.r w' hS; clear hS; go_simp; try rfl; done)
            simp only [List.getElem_toArray, List.getElem_cons_succ, List.getElem_cons_zero, Act.put, List.setIfInBounds_toArray, List.set_cons_zero, List.set_cons_succ]
            refine hd_take (v := ?_) 9 rfl (by kernel_rfl) (fun _ _ d _ _ h => (by cases d <;> exact h)) (by kernel_rfl) S15 (fun w' hS => ?_) ?_
            rotate_left
            focus (have q0 := Stq.p w' hS; have q1 := Stq.r w' hS; clear hS; go_simp; try rfl; done)
            simp only [List.getElem_toArray, List.getElem_cons_succ, List.getElem_cons_zero, Act.put, List.setIfInBounds_toArray, List.set_cons_zero, List.set_cons_succ]
            refine hd_take (v := ?_) 10 rfl (by kernel_rfl) (fun _ _ d _ _ h => (by cases d <;> exact h)) (by kernel_rfl) S15 (fun w' hS => ?_) ?_
            rotate_left
            focus (have q0 := Stq.p w' hS; have q1 := Stq.r w' hS; clear hS; go_simp; try rfl; done)
            simp only [List.getElem_toArray, List.getElem_cons_succ, List.getElem_cons_zero, Act.put, List.setIfInBounds_toArray, List.set_cons_zero, List.set_cons_succ]
            refine hd_take (v := ?_) 11 rfl (by kernel_rfl) (fun _ _ d _ _ h => (by cases d <;> exact h)) (by kernel_rfl) S15 (fun w' hS => ?_) ?_
            rotate_left
            focus (have q0 := Stq.p w' hS; have q1 := Stq.r w' hS; clear hS; go_simp; try rfl; done)
            simp only [List.getElem_toArray, List.getElem_cons_succ, List.getElem_cons_zero, Act.put, List.setIfInBounds_toArray, List.set_cons_zero, List.set_cons_succ]
            refine hd_take (v := ?_) 12 rfl (by kernel_rfl) (fun _ _ d _ _ h => (by cases d <;> exact h)) (by kernel_rfl) S15 (fun w' hS => ?_) ?_
            rotate_left
            focus (have q0 := Stq.p w' hS; have q1 := Stq.r w' hS; clear hS; go_simp; try rfl; done)
            simp only [List.getElem_toArray, List.getElem_cons_succ, List.getElem_cons_zero, Act.put, List.setIfInBounds_toArray, List.set_cons_zero, List.set_cons_succ]
            refine hd_take (v := ?_) 14 rfl (by kernel_rfl) (fun _ _ d _ _ h => (by cases d <;> exact h)) (by kernel_rfl) S15 (fun w' hS => ?_) ?_
            rotate_left
            focus (have q0 := Stq.p w' hS; have q1 := Stq.r w' hS; clear hS; go_simp; try rfl; done)
            simp only [List.getElem_toArray, List.getElem_cons_succ, List.getElem_cons_zero, Act.put, List.setIfInBounds_toArray, List.set_cons_zero, List.set_cons_succ]
            refine hd_take (v := ?_) 15 rfl (by kernel_rfl) (fun _ _ d _ _ h => (by cases d <;> exact h)) (by kernel_rfl) S15 (fun w' hS => ?_) ?_
            rotate_left
            focus (have q0 := Stq.p w' hS; have q1 := Stq.r w' hS; clear hS; go_simp; try rfl; done)
            simp only [List.getElem_toArray, List.getElem_cons_succ, List.getElem_cons_zero, Act.put, List.setIfInBounds_toArray, List.set_cons_zero, List.set_cons_succ]
            refine hd_take (v := ?_) 16 rfl (by kernel_rfl) (fun _ _ d _ _ h => (by cases d <;> exact h)) (by kernel_rfl) S15 (fun w' hS => ?_) ?_
            rotate_left
            focus (have q0 := Stq.p w' hS; have q1 := Stq.r w' hS; clear hS; go_simp; try rfl; done)
            simp only [List.getElem_toArray, List.getElem_cons_succ, List.getElem_cons_zero, Act.put, List.setIfInBounds_toArray, List.set_cons_zero, List.set_cons_succ]
            refine hd_take (v := ?_) 17 rfl (by kernel_rfl) (fun _ _ d _ _ h => (by cases d <;> exact h)) (by kernel_rfl) S15 (fun w' hS => ?_) ?_
            rotate_left
            focus (have q0 := Stq.p w' hS; have q1 := Stq.r w' hS; clear hS; go_simp; try rfl; done)
            simp only [List.getElem_toArray, List.getElem_cons_succ, List.getElem_cons_zero, Act.put, List.setIfInBounds_toArray, List.set_cons_zero, List.set_cons_succ]
            refine hd_one 13 (by kernel_rfl) ?_
            refine op_call rfl (by kernel_rfl) (by go_simp; first | exact ⟨rfl, rfl⟩ | rfl) ?_
            refine (lookM_env H15.out (2 + k) (sObs_M k hk4)).mono ?_
            rintro e w16 ⟨he, h5⟩
            rw [HL.out] at he
            subst he
            have hS2 : Stq gs gr k ps rs wg ws.length (.slice v2o L.length v2c) w16 := Stq.of (x := L) hk4 h5 (by rw [List.getElem?_append_right (Nat.le_refl _), Nat.sub_self]; rfl)
            have S16 := hS2
            have H16 := Lib.hid h5
            clear h5 H15
            refine ⟨_, rfl, hS2, ?_⟩
            simp only [List.getElem_toArray, List.getElem_cons_succ, List.getElem_cons_zero, Act.put, List.setIfInBounds_toArray, List.set_cons_zero, List.set_cons_succ]
            clear hS2
            refine hd_one 18 (by kernel_rfl) ?_
            refine op_call rfl (by kernel_rfl) (by go_simp; first | exact ⟨rfl, rfl⟩ | rfl) ?_
            refine (lookN_env H16.out (6 + k) (sObs_N k hk4)).mono ?_
            rintro e w17 ⟨he, h5⟩
            rw [HL.out] at he
            subst he
            have hS2 : Stq gs gr k ps rs wg ws.length (.slice v2o L.length v2c) w17 := Stq.of (x := L) hk4 h5 (by rw [List.getElem?_append_right (Nat.le_refl _), Nat.sub_self]; rfl)
            have S17 := hS2
            have H17 := Lib.hid h5
            clear h5 H16
            refine ⟨_, rfl, hS2, ?_⟩
            simp only [List.getElem_toArray, List.getElem_cons_succ, List.getElem_cons_zero, Act.put, List.setIfInBounds_toArray, List.set_cons_zero, List.set_cons_succ]
            clear hS2
            refine hd_take (v := .bool true) 19 rfl (by kernel_rfl) (fun _ _ d _ _ h => (by cases d <;> exact h)) (by kernel_rfl) S17 (fun w' hS => exec_eql_arr (pad L) (pad L) true rfl rfl slotGuard (eqPad L hL4)) ?_
            simp only [List.getElem_toArray, List.getElem_cons_succ, List.getElem_cons_zero, Act.put, List.setIfInBounds_toArray, List.set_cons_zero, List.set_cons_succ]
            refine hd_take (v := ?_) 20 rfl (by kernel_rfl) (fun _ _ d _ _ h => (by cases d <;> exact h)) (by kernel_rfl) S17 (fun w' hS => ?_) ?_
            rotate_left
            focus (have q0 := Stq.p w' hS; have q1 := Stq.r w' hS; clear hS; go_simp; try rfl; done)
            simp only [List.getElem_toArray, List.getElem_cons_succ, List.getElem_cons_zero, Act.put, List.setIfInBounds_toArray, List.set_cons_zero, List.set_cons_succ]
            refine hd_take (v := ?_) 21 rfl (by kernel_rfl) (fun _ _ d _ _ h => (by cases d <;> exact h)) (by kernel_rfl) S17 (fun w' hS => ?_) ?_
            rotate_left
            focus (have q0 := Stq.p w' hS; have q1 := Stq.r w' hS; clear hS; go_simp; try rfl; done)
            simp only [List.getElem_toArray, List.getElem_cons_succ, List.getElem_cons_zero, Act.put, List.setIfInBounds_toArray, List.set_cons_zero, List.set_cons_succ]
            refine hd_take (v := ?_) 22 rfl (by kernel_rfl) (fun _ _ d _ _ h => (by cases d <;> exact h)) (by kernel_rfl) S17 (fun w' hS => ?_) ?_
            rotate_left
            focus (have q0 := Stq.p w' hS; have q1 := Stq.r w' hS; clear hS; go_simp; try rfl; done)
            simp only [List.getElem_toArray, List.getElem_cons_succ, List.getElem_cons_zero, Act.put, List.setIfInBounds_toArray, List.set_cons_zero, List.set_cons_succ]
            refine hd_take (v := ?_) 23 rfl (by kernel_rfl) (fun _ _ d _ _ h => (by cases d <;> exact h)) (by kernel_rfl) S17 (fun w' hS => ?_) ?_
            rotate_left
            focus (have q0 := Stq.p w' hS; have q1 := Stq.r w' hS; clear hS; go_simp; try rfl; done)
            simp only [List.getElem_toArray, List.getElem_cons_succ, List.getElem_cons_zero, Act.put, List.setIfInBounds_toArray, List.set_cons_zero, List.set_cons_succ]
            refine hd_take (v := ?_) 24 rfl (by kernel_rfl) (fun _ _ d _ _ h => (by cases d <;> exact h)) (by kernel_rfl) S17 (fun w' hS => ?_) ?_
            rotate_left
            focus (have q0 := Stq.p w' hS; have q1 := Stq.r w' hS; clear hS; go_simp; try rfl; done)
            simp only [List.getElem_toArray, List.getElem_cons_succ, List.getElem_cons_zero, Act.put, List.setIfInBounds_toArray, List.set_cons_zero, List.set_cons_succ]
            refine hd_take (v := ?_) 25 rfl (by kernel_rfl) (fun _ _ d _ _ h => (by cases d <;> exact h)) (by kernel_rfl) S17 (fun w' hS => ?_) ?_
            rotate_left
            focus (have q0 := Stq.p w' hS; have q1 := Stq.r w' hS; clear hS; go_simp; try rfl; done)
            simp only [List.getElem_toArray, List.getElem_cons_succ, List.getElem_cons_zero, Act.put, List.setIfInBounds_toArray, List.set_cons_zero, List.set_cons_succ]
            refine hd_take (v := ?_) 27 rfl (by kernel_rfl) (fun _ _ d _ _ h => (by cases d <;> exact h)) (by kernel_rfl) S17 (fun w' hS => ?_) ?_
            rotate_left
            focus (have q0 := Stq.p w' hS; have q1 := Stq.r w' hS; clear hS; go_simp; try rfl; done)
            simp only [List.getElem_toArray, List.getElem_cons_succ, List.getElem_cons_zero, Act.put, List.setIfInBounds_toArray, List.set_cons_zero, List.set_cons_succ]
            refine hd_take (v := ?_) 28 rfl (by kernel_rfl) (fun _ _ d _ _ h => (by cases d <;> exact h)) (by kernel_rfl) S17 (fun w' hS => ?_) ?_
            rotate_left
            focus (have q0 := Stq.p w' hS; have q1 := Stq.r w' hS; clear hS; go_simp; try rfl; done)
            simp only [List.getElem_toArray, List.getElem_cons_succ, List.getElem_cons_zero, Act.put, List.setIfInBounds_toArray, List.set_cons_zero, List.set_cons_succ]
            refine hd_take (v := ?_) 29 rfl (by kernel_rfl) (fun _ _ d _ _ h => (by cases d <;> exact h)) (by kernel_rfl) S17 (fun w' hS => ?_) ?_
            rotate_left
            focus (have q0 := Stq.p w' hS; have q1 := Stq.r w' hS; clear hS; go_simp; try rfl; done)
            simp only [List.getElem_toArray, List.getElem_cons_succ, List.getElem_cons_zero, Act.put, List.setIfInBounds_toArray, List.set_cons_zero, List.set_cons_succ]
            refine hd_take (v := ?_) 30 rfl (by kernel_rfl) (fun _ _ d _ _ h => (by cases d <;> exact h)) (by kernel_rfl) S17 (fun w' hS => ?_) ?_
            rotate_left
            focus (have q0 := Stq.p w' hS; have q1 := Stq.r w' hS; clear hS; go_simp; try rfl; done)
            simp only [List.getElem_toArray, List.getElem_cons_succ, List.getElem_cons_zero, Act.put, List.setIfInBounds_toArray, List.set_cons_zero, List.set_cons_succ]
            refine hd_one 26 (by kernel_rfl) ?_
            refine op_call rfl (by kernel_rfl) (by go_simp; first | exact ⟨rfl, rfl⟩ | rfl) ?_
            refine (lenM_env H17.out (2 + k) (sObs_M k hk4)).mono ?_
            rintro e w18 ⟨he, hw⟩
            rw [HL.out] at he
            subst he
            subst hw
            have hS2 := S17
            refine ⟨_, rfl, hS2, ?_⟩
            simp only [List.getElem_toArray, List.getElem_cons_succ, List.getElem_cons_zero, Act.put, List.setIfInBounds_toArray, List.set_cons_zero, List.set_cons_succ]
            clear hS2
            refine hd_one 31 (by kernel_rfl) ?_
            refine op_call rfl (by kernel_rfl) (by go_simp; first | exact ⟨rfl, rfl⟩ | rfl) ?_
            refine (lenN_env H17.out (6 + k) (sObs_N k hk4)).mono ?_
            rintro e w19 ⟨he, hw⟩
            rw [HL.out] at he
            subst he
            subst hw
            have hS2 := S17
            refine ⟨_, rfl, hS2, ?_⟩
            simp only [List.getElem_toArray, List.getElem_cons_succ, List.getElem_cons_zero, Act.put, List.setIfInBounds_toArray, List.set_cons_zero, List.set_cons_succ]
            clear hS2
            refine hd_take (v := ?_) 32 rfl (by kernel_rfl) (fun _ _ d _ _ h => (by cases d <;> exact h)) (by kernel_rfl) S17 (fun w' hS => ?_) ?_
            rotate_left
            focus (clear hS; go_simp; try rfl; done)
            simp only [List.getElem_toArray, List.getElem_cons_succ, List.getElem_cons_zero, Act.put, List.setIfInBounds_toArray, List.set_cons_zero, List.set_cons_succ]
            refine hd_take (v := ?_) 33 rfl (by kernel_rfl) (fun _ _ d _ _ h => (by cases d <;> exact h)) (by kernel_rfl) S17 (fun w' hS => ?_) ?_
            rotate_left
            focus (clear hS; go_simp; try rfl; done)
            simp only [List.getElem_toArray, List.getElem_cons_succ, List.getElem_cons_zero, Act.put, List.setIfInBounds_toArray, List.set_cons_zero, List.set_cons_succ]
            refine hd_take (v := ?_) 34 rfl (by kernel_rfl) (fun _ _ d _ _ h => (by cases d <;> exact h)) (by kernel_rfl) S17 (fun w' hS => ?_) ?_
            rotate_left
            focus (clear hS; go_simp; try rfl; done)
            simp only [List.getElem_toArray, List.getElem_cons_succ, List.getElem_cons_zero, Act.put, List.setIfInBounds_toArray, List.set_cons_zero, List.set_cons_succ]
            refine hd_done (by kernel_rfl) ?_
            clear S14 S15 S16 S17 bw1 bw2 bw3
            go_wp2_with fail
            go_meet
            have hb := H.out.bytes
            refine ⟨led, ms, ts ++ [(.slice vo L.length vc, L)], ws ++ [(.slice v2o L.length v2c, L)], rfl, H.out.few.le (Nat.le_succ i), ?_, ?_, ?_, Env.left (B := [_]) H17.out⟩
            · rw [List.map_append, List.map_append, hb]; rfl
            · have := H.out.tl; simp; omega
            · intro p hp
              rcases List.mem_append.1 hp with hp | hp
              · exact H.out.small p hp
              · simp at hp
                subst hp
                exact hL4
            --]look
          · have t2 : (s.d == (2 : Int)) = false := by simpa using e2
            by_cases e3 : s.d = 3
            · have t3 : (s.d == (3 : Int)) = true := by rw [e3]; rfl
              clear e1 e2 e3
              --[wipe
              obtain ⟨mm, hmm⟩ : ∃ mm, (ms k).made = mm := ⟨_, rfl⟩
              obtain ⟨E, hE⟩ : ∃ E, wipeC (ms k) = E := ⟨_, rfl⟩
              obtain ⟨led', hled, hfew⟩ := noteC_few H.out.few mm 8 1024
              have hro := H.out.room (by omega)
              have HX := Lib.hid (And.intro hmm (And.intro hled (And.intro hfew hro)))
              have HE2 := Lib.hid hE
              clear hmm hled hfew hro hE
              go_upto_region 23 with fail
              refine hd_start (Sta gs gr k k ps rs) (by kernel_rfl) ?_
              intro w11 hw'
              have H11 := Lib.hid (HE.out.draw 1)
              rw [← hw'] at H11
              clear hw' HE
              have S11 : Sta gs gr k k ps rs w11 := Sta.of hk4 hk4 H11.out
              refine hd_take (v := ?_) 0 rfl (by kernel_rfl) (fun _ _ d _ _ h => (by cases d <;> exact h)) (by kernel_rfl) S11 (fun w' hS => ?_) ?_
              rotate_left
              focus (have q0 := Sta.p w' hS; have q1 := Sta.r w' hS; clear hS; go_simp; try rfl; done)
              simp only [List.getElem_toArray, List.getElem_cons_succ, List.getElem_cons_zero, Act.put, List.setIfInBounds_toArray, List.set_cons_zero, List.set_cons_succ]
              refine hd_take (v := ?_) 1 rfl (by kernel_rfl) (fun _ _ d _ _ h => (by cases d <;> exact h)) (by kernel_rfl) S11 (fun w' hS => ?_) ?_
              rotate_left
              focus (have q0 := Sta.p w' hS; have q1 := Sta.r w' hS; clear hS; go_simp; try rfl; done)
              simp only [List.getElem_toArray, List.getElem_cons_succ, List.getElem_cons_zero, Act.put, List.setIfInBounds_toArray, List.set_cons_zero, List.set_cons_succ]
              refine hd_take (v := ?_) 2 rfl (by kernel_rfl) (fun _ _ d _ _ h => (by cases d <;> exact h)) (by kernel_rfl) S11 (fun w' hS => ?_) ?_
              rotate_left
              focus (have q0 := Sta.p w' hS; have q1 := Sta.r w' hS; clear hS; go_simp; try rfl; done)
              simp only [List.getElem_toArray, List.getElem_cons_succ, List.getElem_cons_zero, Act.put, List.setIfInBounds_toArray, List.set_cons_zero, List.set_cons_succ]
              refine hd_take (v := ?_) 3 rfl (by kernel_rfl) (fun _ _ d _ _ h => (by cases d <;> exact h)) (by kernel_rfl) S11 (fun w' hS => ?_) ?_
              rotate_left
              focus (have q0 := Sta.p w' hS; have q1 := Sta.r w' hS; clear hS; go_simp; try rfl; done)
              simp only [List.getElem_toArray, List.getElem_cons_succ, List.getElem_cons_zero, Act.put, List.setIfInBounds_toArray, List.set_cons_zero, List.set_cons_succ]
              refine hd_take (v := ?_) 4 rfl (by kernel_rfl) (fun _ _ d _ _ h => (by cases d <;> exact h)) (by kernel_rfl) S11 (fun w' hS => ?_) ?_
              rotate_left
              focus (have q0 := Sta.p w' hS; have q1 := Sta.r w' hS; clear hS; go_simp; try rfl; done)
              simp only [List.getElem_toArray, List.getElem_cons_succ, List.getElem_cons_zero, Act.put, List.setIfInBounds_toArray, List.set_cons_zero, List.set_cons_succ]
              refine hd_take (v := ?_) 6 rfl (by kernel_rfl) (fun _ _ d _ _ h => (by cases d <;> exact h)) (by kernel_rfl) S11 (fun w' hS => ?_) ?_
              rotate_left
              focus (have q0 := Sta.p w' hS; have q1 := Sta.r w' hS; clear hS; go_simp; try rfl; done)
              simp only [List.getElem_toArray, List.getElem_cons_succ, List.getElem_cons_zero, Act.put, List.setIfInBounds_toArray, List.set_cons_zero, List.set_cons_succ]
              refine hd_take (v := ?_) 7 rfl (by kernel_rfl) (fun _ _ d _ _ h => (by cases d <;> exact h)) (by kernel_rfl) S11 (fun w' hS => ?_) ?_
              rotate_left
              focus (have q0 := Sta.p w' hS; have q1 := Sta.r w' hS; clear hS; go_simp; try rfl; done)
              simp only [List.getElem_toArray, List.getElem_cons_succ, List.getElem_cons_zero, Act.put, List.setIfInBounds_toArray, List.set_cons_zero, List.set_cons_succ]
              refine hd_take (v := ?_) 8 rfl (by kernel_rfl) (fun _ _ d _ _ h => (by cases d <;> exact h)) (by kernel_rfl) S11 (fun w' hS => ?_) ?_
              rotate_left
              focus (have q0 := Sta.p w' hS; have q1 := Sta.r w' hS; clear hS; go_simp; try rfl; done)
              simp only [List.getElem_toArray, List.getElem_cons_succ, List.getElem_cons_zero, Act.put, List.setIfInBounds_toArray, List.set_cons_zero, List.set_cons_succ]
              refine hd_take (v := ?_) 9 rfl (by kernel_rfl) (fun _ _ d _ _ h => (by cases d <;> exact h)) (by kernel_rfl) S11 (fun w' hS => ?_) ?_
              rotate_left
              focus (have q0 := Sta.p w' hS; have q1 := Sta.r w' hS; clear hS; go_simp; try rfl; done)
              simp only [List.getElem_toArray, List.getElem_cons_succ, List.getElem_cons_zero, Act.put, List.setIfInBounds_toArray, List.set_cons_zero, List.set_cons_succ]
              refine hd_take (v := ?_) 10 rfl (by kernel_rfl) (fun _ _ d _ _ h => (by cases d <;> exact h)) (by kernel_rfl) S11 (fun w' hS => ?_) ?_
              rotate_left
              focus (have q0 := Sta.p w' hS; have q1 := Sta.r w' hS; clear hS; go_simp; try rfl; done)
              simp only [List.getElem_toArray, List.getElem_cons_succ, List.getElem_cons_zero, Act.put, List.setIfInBounds_toArray, List.set_cons_zero, List.set_cons_succ]
              refine hd_one 5 (by kernel_rfl) ?_
              refine op_call rfl (by kernel_rfl) (by go_simp; first | exact ⟨rfl, rfl⟩ | rfl) ?_
              refine (wipeM_env H11.out (2 + k) 0 (by omega) (sObs_M k hk4) rfl HX.out.2.2.2).mono ?_
              rintro e w12 ⟨he, h5⟩
              rw [HE2.out] at he
              subst he
              rw [HX.out.1, sObs_setM k hk4, HX.out.2.1] at h5
              replace h5 : Env w w12 (sObs l q (some led') (some led) ps rs (upd ms k (wipeS (ms k))) ms gs gr u7 u8 ts ws ++ [obK G 41 #[.int .i64 s.d, .int .u8 (s.k.toNat : Int), .int .u8 (s.o.toNat : Int), .slice xo s.p.length xc]]) := h5
              have hS2 : Sta gs gr k k ps rs w12 := Sta.of hk4 hk4 h5
              have S12 := hS2
              have H12 := Lib.hid h5
              clear h5 H11
              refine ⟨_, rfl, hS2, ?_⟩
              simp only [List.getElem_toArray, List.getElem_cons_succ, List.getElem_cons_zero, Act.put, List.setIfInBounds_toArray, List.set_cons_zero, List.set_cons_succ]
              clear hS2
              refine hd_one 11 (by kernel_rfl) ?_
              refine op_call rfl (by kernel_rfl) (by go_simp; first | exact ⟨rfl, rfl⟩ | rfl) ?_
              refine (wipeN_env H12.out (6 + k) 1 (by omega) (sObs_N k hk4) rfl HX.out.2.2.2).mono ?_
              rintro e w13 ⟨he, h5⟩
              rw [HE2.out] at he
              subst he
              rw [HX.out.1, sObs_setN k hk4, HX.out.2.1] at h5
              replace h5 : Env w w13 (sObs l q (some led') (some led') ps rs (upd ms k (wipeS (ms k))) (upd ms k (wipeS (ms k))) gs gr u7 u8 ts ws ++ [obK G 41 #[.int .i64 s.d, .int .u8 (s.k.toNat : Int), .int .u8 (s.o.toNat : Int), .slice xo s.p.length xc]]) := h5
              have hS2 : Sta gs gr k k ps rs w13 := Sta.of hk4 hk4 h5
              have S13 := hS2
              have H13 := Lib.hid h5
              clear h5 H12
              refine ⟨_, rfl, hS2, ?_⟩
              simp only [List.getElem_toArray, List.getElem_cons_succ, List.getElem_cons_zero, Act.put, List.setIfInBounds_toArray, List.set_cons_zero, List.set_cons_succ]
              clear hS2
              refine hd_take (v := ?_) 12 rfl (by kernel_rfl) (fun _ _ d _ _ h => (by cases d <;> exact h)) (by kernel_rfl) S13 (fun w' hS => ?_) ?_
              rotate_left
              focus (clear hS; go_simp; try rfl; done)
              simp only [List.getElem_toArray, List.getElem_cons_succ, List.getElem_cons_zero, Act.put, List.setIfInBounds_toArray, List.set_cons_zero, List.set_cons_succ]
              refine hd_take (v := ?_) 13 rfl (by kernel_rfl) (fun _ _ d _ _ h => (by cases d <;> exact h)) (by kernel_rfl) S13 (fun w' hS => ?_) ?_
              rotate_left
              focus (clear hS; go_simp; try rfl; done)
              simp only [List.getElem_toArray, List.getElem_cons_succ, List.getElem_cons_zero, Act.put, List.setIfInBounds_toArray, List.set_cons_zero, List.set_cons_succ]
              refine hd_done (by kernel_rfl) ?_
              clear S11 S12 S13
              go_wp2_with fail
              go_meet
              exact ⟨led', _, ts, ws, rfl, HX.out.2.2.1, H.out.bytes, Nat.le_succ_of_le H.out.tl, H.out.small, Env.left (B := [_]) H13.out⟩
              --]wipe
            · have t3 : (s.d == (3 : Int)) = false := by simpa using e3
              by_cases e4 : s.d = 4
              · have t4 : (s.d == (4 : Int)) = true := by rw [e4]; rfl
                clear e1 e2 e3 e4
                --[same
                obtain ⟨o, ho⟩ : ∃ o, s.o.toNat % 4 = o := ⟨_, rfl⟩
                have ho4 : o < 4 := by omega
                have eo : (s.o.toNat : Int).tmod 4 = (o : Int) := by rw [Int.tmod_eq_emod_of_nonneg (by omega)]; omega
                have eo' : (wrap64 (s.o.toNat : Int)).tmod 4 = (o : Int) := by rw [IntWalk.wrap64_in _ (by have := s.o.toNat_lt; omega), eo]
                have bo : 0 ≤ (o : Int) ∧ (o : Int) < 4 := ⟨Int.natCast_nonneg o, Int.ofNat_lt.2 ho4⟩
                have d2 := (HE.out.blk 14 rfl).cellAt 2 rfl
                clear eo ho
                obtain ⟨mm, hmm⟩ : ∃ mm, ((ms k).made && (ms o).made) = mm := ⟨_, rfl⟩
                obtain ⟨sb, hE⟩ : ∃ sb, sameC (ms k) (ms o) = sb := ⟨_, rfl⟩
                obtain ⟨led', hled, hfew⟩ := noteC_few H.out.few mm 6 1024
                have hro := H.out.room (by omega)
                have HX := Lib.hid (And.intro hmm (And.intro hled (And.intro hfew hro)))
                have HE2 := Lib.hid hE
                clear hmm hled hfew hro hE
                go_upto_region 26 with fail
                clear eo' d2
                refine hd_start (Sta gs gr k o ps rs) (by kernel_rfl) ?_
                intro w11 hw'
                have H11 := Lib.hid (HE.out.draw 1)
                rw [← hw'] at H11
                clear hw' HE
                have S11 : Sta gs gr k o ps rs w11 := Sta.of hk4 ho4 H11.out
                refine hd_take (v := ?_) 0 rfl (by kernel_rfl) (fun _ _ d _ _ h => (by cases d <;> exact h)) (by kernel_rfl) S11 (fun w' hS => ?_) ?_
                rotate_left
                focus (have q0 := Sta.p w' hS; have q1 := Sta.r w' hS; have q2 := Sta.p2 w' hS; have q3 := Sta.r2 w' hS; clear hS; go_simp; try rfl; done)
                simp only [List.getElem_toArray, List.getElem_cons_succ, List.getElem_cons_zero, Act.put, List.setIfInBounds_toArray, List.set_cons_zero, List.set_cons_succ]
                refine hd_take (v := ?_) 1 rfl (by kernel_rfl) (fun _ _ d _ _ h => (by cases d <;> exact h)) (by kernel_rfl) S11 (fun w' hS => ?_) ?_
                rotate_left
                focus (have q0 := Sta.p w' hS; have q1 := Sta.r w' hS; have q2 := Sta.p2 w' hS; have q3 := Sta.r2 w' hS; clear hS; go_simp; try rfl; done)
                simp only [List.getElem_toArray, List.getElem_cons_succ, List.getElem_cons_zero, Act.put, List.setIfInBounds_toArray, List.set_cons_zero, List.set_cons_succ]
                refine hd_take (v := ?_) 2 rfl (by kernel_rfl) (fun _ _ d _ _ h => (by cases d <;> exact h)) (by kernel_rfl) S11 (fun w' hS => ?_) ?_
                rotate_left
                focus (have q0 := Sta.p w' hS; have q1 := Sta.r w' hS; have q2 := Sta.p2 w' hS; have q3 := Sta.r2 w' hS; clear hS; go_simp; try rfl; done)
                simp only [List.getElem_toArray, List.getElem_cons_succ, List.getElem_cons_zero, Act.put, List.setIfInBounds_toArray, List.set_cons_zero, List.set_cons_succ]
                refine hd_take (v := ?_) 3 rfl (by kernel_rfl) (fun _ _ d _ _ h => (by cases d <;> exact h)) (by kernel_rfl) S11 (fun w' hS => ?_) ?_
                rotate_left
                focus (have q0 := Sta.p w' hS; have q1 := Sta.r w' hS; have q2 := Sta.p2 w' hS; have q3 := Sta.r2 w' hS; clear hS; go_simp; try rfl; done)
                simp only [List.getElem_toArray, List.getElem_cons_succ, List.getElem_cons_zero, Act.put, List.setIfInBounds_toArray, List.set_cons_zero, List.set_cons_succ]
                refine hd_take (v := ?_) 4 rfl (by kernel_rfl) (fun _ _ d _ _ h => (by cases d <;> exact h)) (by kernel_rfl) S11 (fun w' hS => ?_) ?_
                rotate_left
                focus (have q0 := Sta.p w' hS; have q1 := Sta.r w' hS; have q2 := Sta.p2 w' hS; have q3 := Sta.r2 w' hS; clear hS; go_simp; try rfl; done)
                simp only [List.getElem_toArray, List.getElem_cons_succ, List.getElem_cons_zero, Act.put, List.setIfInBounds_toArray, List.set_cons_zero, List.set_cons_succ]
                refine hd_take (v := ?_) 5 rfl (by kernel_rfl) (fun _ _ d _ _ h => (by cases d <;> exact h)) (by kernel_rfl) S11 (fun w' hS => ?_) ?_
                rotate_left
                focus (have q0 := Sta.p w' hS; have q1 := Sta.r w' hS; have q2 := Sta.p2 w' hS; have q3 := Sta.r2 w' hS; clear hS; go_simp; try rfl; done)
                simp only [List.getElem_toArray, List.getElem_cons_succ, List.getElem_cons_zero, Act.put, List.setIfInBounds_toArray, List.set_cons_zero, List.set_cons_succ]
                refine hd_take (v := ?_) 6 rfl (by kernel_rfl) (fun _ _ d _ _ h => (by cases d <;> exact h)) (by kernel_rfl) S11 (fun w' hS => ?_) ?_
                rotate_left
                focus (have q0 := Sta.p w' hS; have q1 := Sta.r w' hS; have q2 := Sta.p2 w' hS; have q3 := Sta.r2 w' hS; clear hS; go_simp; try rfl; done)
                simp only [List.getElem_toArray, List.getElem_cons_succ, List.getElem_cons_zero, Act.put, List.setIfInBounds_toArray, List.set_cons_zero, List.set_cons_succ]
                refine hd_take (v := ?_) 7 rfl (by kernel_rfl) (fun _ _ d _ _ h => (by cases d <;> exact h)) (by kernel_rfl) S11 (fun w' hS => ?_) ?_
                rotate_left
                focus (have q0 := Sta.p w' hS; have q1 := Sta.r w' hS; have q2 := Sta.p2 w' hS; have q3 := Sta.r2 w' hS; clear hS; go_simp; try rfl; done)
                simp only [List.getElem_toArray, List.getElem_cons_succ, List.getElem_cons_zero, Act.put, List.setIfInBounds_toArray, List.set_cons_zero, List.set_cons_succ]
                refine hd_take (v := ?_) 8 rfl (by kernel_rfl) (fun _ _ d _ _ h => (by cases d <;> exact h)) (by kernel_rfl) S11 (fun w' hS => ?_) ?_
                rotate_left
                focus (have q0 := Sta.p w' hS; have q1 := Sta.r w' hS; have q2 := Sta.p2 w' hS; have q3 := Sta.r2 w' hS; clear hS; go_simp; try rfl; done)
                simp only [List.getElem_toArray, List.getElem_cons_succ, List.getElem_cons_zero, Act.put, List.setIfInBounds_toArray, List.set_cons_zero, List.set_cons_succ]
                refine hd_take (v := ?_) 10 rfl (by kernel_rfl) (fun _ _ d _ _ h => (by cases d <;> exact h)) (by kernel_rfl) S11 (fun w' hS => ?_) ?_
                rotate_left
                focus (have q0 := Sta.p w' hS; have q1 := Sta.r w' hS; have q2 := Sta.p2 w' hS; have q3 := Sta.r2 w' hS; clear hS; go_simp; try rfl; done)
                simp only [List.getElem_toArray, List.getElem_cons_succ, List.getElem_cons_zero, Act.put, List.setIfInBounds_toArray, List.set_cons_zero, List.set_cons_succ]
                refine hd_take (v := ?_) 11 rfl (by kernel_rfl) (fun _ _ d _ _ h => (by cases d <;> exact h)) (by kernel_rfl) S11 (fun w' hS => ?_) ?_
                rotate_left
                focus (have q0 := Sta.p w' hS; have q1 := Sta.r w' hS; have q2 := Sta.p2 w' hS; have q3 := Sta.r2 w' hS; clear hS; go_simp; try rfl; done)
                simp only [List.getElem_toArray, List.getElem_cons_succ, List.getElem_cons_zero, Act.put, List.setIfInBounds_toArray, List.set_cons_zero, List.set_cons_succ]
                refine hd_take (v := ?_) 12 rfl (by kernel_rfl) (fun _ _ d _ _ h => (by cases d <;> exact h)) (by kernel_rfl) S11 (fun w' hS => ?_) ?_
                rotate_left
                focus (have q0 := Sta.p w' hS; have q1 := Sta.r w' hS; have q2 := Sta.p2 w' hS; have q3 := Sta.r2 w' hS; clear hS; go_simp; try rfl; done)
                simp only [List.getElem_toArray, List.getElem_cons_succ, List.getElem_cons_zero, Act.put, List.setIfInBounds_toArray, List.set_cons_zero, List.set_cons_succ]
                refine hd_take (v := ?_) 13 rfl (by kernel_rfl) (fun _ _ d _ _ h => (by cases d <;> exact h)) (by kernel_rfl) S11 (fun w' hS => ?_) ?_
                rotate_left
                focus (have q0 := Sta.p w' hS; have q1 := Sta.r w' hS; have q2 := Sta.p2 w' hS; have q3 := Sta.r2 w' hS; clear hS; go_simp; try rfl; done)
                simp only [List.getElem_toArray, List.getElem_cons_succ, List.getElem_cons_zero, Act.put, List.setIfInBounds_toArray, List.set_cons_zero, List.set_cons_succ]
                refine hd_take (v := ?_) 14 rfl (by kernel_rfl) (fun _ _ d _ _ h => (by cases d <;> exact h)) (by kernel_rfl) S11 (fun w' hS => ?_) ?_
                rotate_left
                focus (have q0 := Sta.p w' hS; have q1 := Sta.r w' hS; have q2 := Sta.p2 w' hS; have q3 := Sta.r2 w' hS; clear hS; go_simp; try rfl; done)
                simp only [List.getElem_toArray, List.getElem_cons_succ, List.getElem_cons_zero, Act.put, List.setIfInBounds_toArray, List.set_cons_zero, List.set_cons_succ]
                refine hd_take (v := ?_) 15 rfl (by kernel_rfl) (fun _ _ d _ _ h => (by cases d <;> exact h)) (by kernel_rfl) S11 (fun w' hS => ?_) ?_
                rotate_left
                focus (have q0 := Sta.p w' hS; have q1 := Sta.r w' hS; have q2 := Sta.p2 w' hS; have q3 := Sta.r2 w' hS; clear hS; go_simp; try rfl; done)
                simp only [List.getElem_toArray, List.getElem_cons_succ, List.getElem_cons_zero, Act.put, List.setIfInBounds_toArray, List.set_cons_zero, List.set_cons_succ]
                refine hd_take (v := ?_) 16 rfl (by kernel_rfl) (fun _ _ d _ _ h => (by cases d <;> exact h)) (by kernel_rfl) S11 (fun w' hS => ?_) ?_
                rotate_left
                focus (have q0 := Sta.p w' hS; have q1 := Sta.r w' hS; have q2 := Sta.p2 w' hS; have q3 := Sta.r2 w' hS; clear hS; go_simp; try rfl; done)
                simp only [List.getElem_toArray, List.getElem_cons_succ, List.getElem_cons_zero, Act.put, List.setIfInBounds_toArray, List.set_cons_zero, List.set_cons_succ]
                refine hd_take (v := ?_) 17 rfl (by kernel_rfl) (fun _ _ d _ _ h => (by cases d <;> exact h)) (by kernel_rfl) S11 (fun w' hS => ?_) ?_
                rotate_left
                focus (have q0 := Sta.p w' hS; have q1 := Sta.r w' hS; have q2 := Sta.p2 w' hS; have q3 := Sta.r2 w' hS; clear hS; go_simp; try rfl; done)
                simp only [List.getElem_toArray, List.getElem_cons_succ, List.getElem_cons_zero, Act.put, List.setIfInBounds_toArray, List.set_cons_zero, List.set_cons_succ]
                refine hd_take (v := ?_) 18 rfl (by kernel_rfl) (fun _ _ d _ _ h => (by cases d <;> exact h)) (by kernel_rfl) S11 (fun w' hS => ?_) ?_
                rotate_left
                focus (have q0 := Sta.p w' hS; have q1 := Sta.r w' hS; have q2 := Sta.p2 w' hS; have q3 := Sta.r2 w' hS; clear hS; go_simp; try rfl; done)
                simp only [List.getElem_toArray, List.getElem_cons_succ, List.getElem_cons_zero, Act.put, List.setIfInBounds_toArray, List.set_cons_zero, List.set_cons_succ]
                refine hd_one 9 (by kernel_rfl) ?_
                refine op_call rfl (by kernel_rfl) (by go_simp; first | exact ⟨rfl, rfl⟩ | rfl) ?_
                refine (sameM_env H11.out (2 + k) (2 + o) 0 (by omega) (by omega) (sObs_M k hk4) (sObs_M o ho4) rfl HX.out.2.2.2).mono ?_
                rintro e w12 ⟨he, h5⟩
                rw [HE2.out] at he
                subst he
                rw [HX.out.1, HX.out.2.1] at h5
                replace h5 : Env w w12 (sObs l q (some led') (some led) ps rs ms ms gs gr u7 u8 ts ws ++ [obK G 41 #[.int .i64 s.d, .int .u8 (s.k.toNat : Int), .int .u8 (s.o.toNat : Int), .slice xo s.p.length xc]]) := h5
                have hS2 : Sta gs gr k o ps rs w12 := Sta.of hk4 ho4 h5
                have S12 := hS2
                have H12 := Lib.hid h5
                clear h5 H11
                refine ⟨_, rfl, hS2, ?_⟩
                simp only [List.getElem_toArray, List.getElem_cons_succ, List.getElem_cons_zero, Act.put, List.setIfInBounds_toArray, List.set_cons_zero, List.set_cons_succ]
                clear hS2
                refine hd_one 19 (by kernel_rfl) ?_
                refine op_call rfl (by kernel_rfl) (by go_simp; first | exact ⟨rfl, rfl⟩ | rfl) ?_
                refine (sameN_env H12.out (6 + k) (6 + o) 1 (by omega) (by omega) (sObs_N k hk4) (sObs_N o ho4) rfl HX.out.2.2.2).mono ?_
                rintro e w13 ⟨he, h5⟩
                rw [HE2.out] at he
                subst he
                rw [HX.out.1, HX.out.2.1] at h5
                replace h5 : Env w w13 (sObs l q (some led') (some led') ps rs ms ms gs gr u7 u8 ts ws ++ [obK G 41 #[.int .i64 s.d, .int .u8 (s.k.toNat : Int), .int .u8 (s.o.toNat : Int), .slice xo s.p.length xc]]) := h5
                have hS2 : Sta gs gr k o ps rs w13 := Sta.of hk4 ho4 h5
                have S13 := hS2
                have H13 := Lib.hid h5
                clear h5 H12
                refine ⟨_, rfl, hS2, ?_⟩
                simp only [List.getElem_toArray, List.getElem_cons_succ, List.getElem_cons_zero, Act.put, List.setIfInBounds_toArray, List.set_cons_zero, List.set_cons_succ]
                clear hS2
                refine hd_take (v := ?_) 20 rfl (by kernel_rfl) (fun _ _ d _ _ h => (by cases d <;> exact h)) (by kernel_rfl) S13 (fun w' hS => ?_) ?_
                rotate_left
                focus (clear hS; go_simp; try rfl; done)
                simp only [List.getElem_toArray, List.getElem_cons_succ, List.getElem_cons_zero, Act.put, List.setIfInBounds_toArray, List.set_cons_zero, List.set_cons_succ]
                refine hd_take (v := ?_) 21 rfl (by kernel_rfl) (fun _ _ d _ _ h => (by cases d <;> exact h)) (by kernel_rfl) S13 (fun w' hS => ?_) ?_
                rotate_left
                focus (clear hS; go_simp; try rfl; done)
                simp only [List.getElem_toArray, List.getElem_cons_succ, List.getElem_cons_zero, Act.put, List.setIfInBounds_toArray, List.set_cons_zero, List.set_cons_succ]
                refine hd_done (by kernel_rfl) ?_
                clear S11 S12 S13
                go_wp2_with fail
                go_meet
                exact ⟨led', ms, ts, ws, rfl, HX.out.2.2.1, H.out.bytes, Nat.le_succ_of_le H.out.tl, H.out.small, Env.left (B := [_]) H13.out⟩
                --]same
              · have t4 : (s.d == (4 : Int)) = false := by simpa using e4
                clear e1 e2 e3 e4
                --[else
                go_wp2_with fail
                go_meet
                exact ⟨led, ms, ts, ws, rfl, H.out.few.le (Nat.le_succ i), H.out.bytes, Nat.le_succ_of_le H.out.tl, H.out.small, Env.left (B := [_]) HE.out⟩
                --]else
      case rest =>
        obtain ⟨led', ms', ts', ws', rfl, h6⟩ := hcut
        have H6 := Lib.hid h6
        have hlen : led'.length ≤ 5497558138880 := by have := h6.few.2; omega
        clear h6 H HE HC HK
        --[runs
        go_wp2_with fail
        refine (runsP_env H6.out.env 0 rfl hlen).mono ?_
        rintro e w10 ⟨v1, rfl, h5⟩
        have H10 := Lib.hid h5
        clear h5
        go_wp2_with fail
        refine (runsR_env H10.out 1 rfl hlen).mono ?_
        rintro e w11 ⟨v2, rfl, h5⟩
        have H11 := Lib.hid h5
        clear h5 H10
        go_wp2_with fail
        refine (sameRuns_env H11.out (H11.out.runs 14 rfl).rd (H11.out.runs 15 rfl).rd).mono ?_
        rintro e w12 ⟨he, h5⟩
        rw [decide_eq_true rfl] at he
        subst he
        have H12 : Hid (Env w w12 (sObs l q (some led') (some led') ps rs ms' ms' gs gr u7 u8 ts' ws')) := Lib.hid (Env.left (B := [_, _]) (by rw [List.append_assoc] at h5; exact h5))
        clear h5 H11
        go_wp2_with fail
        go_roundw
        case rel => exact ⟨i + 1, led', ms', ts', ws', by omega, by go_num, Lib.hid ⟨H6.out.few, H6.out.bytes, H6.out.tl, H6.out.small, H12.out⟩⟩
        case measure => simp [intOf]; omega
        --]runs
    · obtain rfl : i = steps.length := by omega
      have h9 : Env w wr (sObs l q (some led) (some led) ps rs ms ms gs gr u7 u8 ts ws ++ []) := by rw [List.append_nil]; exact H.out.env
      have H9 := Lib.hid h9
      clear h9
      have HB := Lib.hid H.out.bytes
      have HTS := Lib.hid (And.intro H.out.small (And.intro H.out.tl H.out.wl))
      have hsm := fun k hk => sObs_small H9.out k hk
      have HSM := Lib.hid hsm
      clear H hsm
      obtain ⟨zo, zc, rfl, hzc1, hzc2⟩ := obT_form H9.out 12 rfl
      obtain ⟨yo, yc, rfl, hyc1, hyc2⟩ := obT_form H9.out 13 rfl
      go_wp2_with fail
      go_loopw [17] (fun kv wx => ∃ k : Nat, k ≤ 4 ∧ kv = .int .i64 (k : Int) ∧ Hid (Env w wx (sObs l q (some led) (some led) ps rs ms ms gs gr (.slice zo ts.length zc) (.slice yo ws.length yc) ts ws ++ []))) (fun kv _ => 4 - (intOf kv).toNat)
      case atStart => exact ⟨0, by omega, rfl, H9⟩
      case round =>
        obtain ⟨k, hk, rfl, H⟩ := hrel
        clear H9
        by_cases hk4 : k < 4
        · --[loop3
          have hL4 := HSM.out k hk4
          obtain ⟨L, hL⟩ : ∃ L, (ms k).bs = L := ⟨_, rfl⟩
          rw [hL] at hL4
          have HL := Lib.hid hL
          clear hL
          have bk : 0 ≤ (k : Int) ∧ (k : Int) < 4 := ⟨Int.natCast_nonneg k, Int.ofNat_lt.2 hk4⟩
          have t1 : decide ((k : Int) < 4) = true := by rw [decide_eq_true_eq]; exact bk.2
          go_upto_region 32 with fail
          refine hd_start (Sta gs gr k k ps rs) (by kernel_rfl) ?_
          intro w10 hw'
          have H10 := Lib.hid (H.out.draw 1)
          rw [← hw'] at H10
          clear hw' H
          have S10 : Sta gs gr k k ps rs w10 := Sta.of hk4 hk4 H10.out
          refine hd_take (v := ?_) 0 rfl (by kernel_rfl) (fun _ _ d _ _ h => (by cases d <;> exact h)) (by kernel_rfl) S10 (fun w' hS => ?_) ?_
          rotate_left
          focus (have q0 := Sta.p w' hS; have q1 := Sta.r w' hS; clear hS; go_simp; try rfl; done)
          simp only [List.getElem_toArray, List.getElem_cons_succ, List.getElem_cons_zero, Act.put, List.setIfInBounds_toArray, List.set_cons_zero, List.set_cons_succ]
          refine hd_take (v := ?_) 1 rfl (by kernel_rfl) (fun _ _ d _ _ h => (by cases d <;> exact h)) (by kernel_rfl) S10 (fun w' hS => ?_) ?_
          rotate_left
          focus (have q0 := Sta.p w' hS; have q1 := Sta.r w' hS; clear hS; go_simp; try rfl; done)
          simp only [List.getElem_toArray, List.getElem_cons_succ, List.getElem_cons_zero, Act.put, List.setIfInBounds_toArray, List.set_cons_zero, List.set_cons_succ]
          refine hd_take (v := ?_) 2 rfl (by kernel_rfl) (fun _ _ d _ _ h => (by cases d <;> exact h)) (by kernel_rfl) S10 (fun w' hS => ?_) ?_
          rotate_left
          focus (have q0 := Sta.p w' hS; have q1 := Sta.r w' hS; clear hS; go_simp; try rfl; done)
          simp only [List.getElem_toArray, List.getElem_cons_succ, List.getElem_cons_zero, Act.put, List.setIfInBounds_toArray, List.set_cons_zero, List.set_cons_succ]
          refine hd_take (v := ?_) 3 rfl (by kernel_rfl) (fun _ _ d _ _ h => (by cases d <;> exact h)) (by kernel_rfl) S10 (fun w' hS => ?_) ?_
          rotate_left
          focus (have q0 := Sta.p w' hS; have q1 := Sta.r w' hS; clear hS; go_simp; try rfl; done)
          simp only [List.getElem_toArray, List.getElem_cons_succ, List.getElem_cons_zero, Act.put, List.setIfInBounds_toArray, List.set_cons_zero, List.set_cons_succ]
          refine hd_take (v := ?_) 5 rfl (by kernel_rfl) (fun _ _ d _ _ h => (by cases d <;> exact h)) (by kernel_rfl) S10 (fun w' hS => ?_) ?_
          rotate_left
          focus (have q0 := Sta.p w' hS; have q1 := Sta.r w' hS; clear hS; go_simp; try rfl; done)
          simp only [List.getElem_toArray, List.getElem_cons_succ, List.getElem_cons_zero, Act.put, List.setIfInBounds_toArray, List.set_cons_zero, List.set_cons_succ]
          refine hd_take (v := ?_) 6 rfl (by kernel_rfl) (fun _ _ d _ _ h => (by cases d <;> exact h)) (by kernel_rfl) S10 (fun w' hS => ?_) ?_
          rotate_left
          focus (have q0 := Sta.p w' hS; have q1 := Sta.r w' hS; clear hS; go_simp; try rfl; done)
          simp only [List.getElem_toArray, List.getElem_cons_succ, List.getElem_cons_zero, Act.put, List.setIfInBounds_toArray, List.set_cons_zero, List.set_cons_succ]
          refine hd_take (v := ?_) 7 rfl (by kernel_rfl) (fun _ _ d _ _ h => (by cases d <;> exact h)) (by kernel_rfl) S10 (fun w' hS => ?_) ?_
          rotate_left
          focus (have q0 := Sta.p w' hS; have q1 := Sta.r w' hS; clear hS; go_simp; try rfl; done)
          simp only [List.getElem_toArray, List.getElem_cons_succ, List.getElem_cons_zero, Act.put, List.setIfInBounds_toArray, List.set_cons_zero, List.set_cons_succ]
          refine hd_take (v := ?_) 8 rfl (by kernel_rfl) (fun _ _ d _ _ h => (by cases d <;> exact h)) (by kernel_rfl) S10 (fun w' hS => ?_) ?_
          rotate_left
          focus (have q0 := Sta.p w' hS; have q1 := Sta.r w' hS; clear hS; go_simp; try rfl; done)
          simp only [List.getElem_toArray, List.getElem_cons_succ, List.getElem_cons_zero, Act.put, List.setIfInBounds_toArray, List.set_cons_zero, List.set_cons_succ]
          refine hd_one 4 (by kernel_rfl) ?_
          refine op_call rfl (by kernel_rfl) (by go_simp; first | exact ⟨rfl, rfl⟩ | rfl) ?_
          refine (lookM_env H10.out (2 + k) (sObs_M k hk4)).mono ?_
          rintro e w11 ⟨he, h5⟩
          rw [HL.out] at he
          subst he
          have hS2 : Sta gs gr k k ps rs w11 := Sta.of hk4 hk4 h5
          have S11 := hS2
          have H11 := Lib.hid h5
          clear h5 H10
          refine ⟨_, rfl, hS2, ?_⟩
          simp only [List.getElem_toArray, List.getElem_cons_succ, List.getElem_cons_zero, Act.put, List.setIfInBounds_toArray, List.set_cons_zero, List.set_cons_succ]
          clear hS2
          refine hd_one 9 (by kernel_rfl) ?_
          refine op_call rfl (by kernel_rfl) (by go_simp; first | exact ⟨rfl, rfl⟩ | rfl) ?_
          refine (lookN_env H11.out (6 + k) (sObs_N k hk4)).mono ?_
          rintro e w12 ⟨he, h5⟩
          rw [HL.out] at he
          subst he
          have hS2 : Sta gs gr k k ps rs w12 := Sta.of hk4 hk4 h5
          have S12 := hS2
          have H12 := Lib.hid h5
          clear h5 H11
          refine ⟨_, rfl, hS2, ?_⟩
          simp only [List.getElem_toArray, List.getElem_cons_succ, List.getElem_cons_zero, Act.put, List.setIfInBounds_toArray, List.set_cons_zero, List.set_cons_succ]
          clear hS2
          refine hd_take (v := .bool false) 10 rfl (by kernel_rfl) (fun _ _ d _ _ h => (by cases d <;> exact h)) (by kernel_rfl) S12 (fun w' hS => exec_neq_arr (pad L) (pad L) true rfl rfl slotGuard (eqPad L hL4)) ?_
          simp only [List.getElem_toArray, List.getElem_cons_succ, List.getElem_cons_zero, Act.put, List.setIfInBounds_toArray, List.set_cons_zero, List.set_cons_succ]
          refine hd_take (v := ?_) 11 rfl (by kernel_rfl) (fun _ _ d _ _ h => (by cases d <;> exact h)) (by kernel_rfl) S12 (fun w' hS => ?_) ?_
          rotate_left
          focus (have q0 := Sta.p w' hS; have q1 := Sta.r w' hS; clear hS; go_simp; try rfl; done)
          simp only [List.getElem_toArray, List.getElem_cons_succ, List.getElem_cons_zero, Act.put, List.setIfInBounds_toArray, List.set_cons_zero, List.set_cons_succ]
          refine hd_take (v := ?_) 12 rfl (by kernel_rfl) (fun _ _ d _ _ h => (by cases d <;> exact h)) (by kernel_rfl) S12 (fun w' hS => ?_) ?_
          rotate_left
          focus (have q0 := Sta.p w' hS; have q1 := Sta.r w' hS; clear hS; go_simp; try rfl; done)
          simp only [List.getElem_toArray, List.getElem_cons_succ, List.getElem_cons_zero, Act.put, List.setIfInBounds_toArray, List.set_cons_zero, List.set_cons_succ]
          refine hd_take (v := ?_) 13 rfl (by kernel_rfl) (fun _ _ d _ _ h => (by cases d <;> exact h)) (by kernel_rfl) S12 (fun w' hS => ?_) ?_
          rotate_left
          focus (have q0 := Sta.p w' hS; have q1 := Sta.r w' hS; clear hS; go_simp; try rfl; done)
          simp only [List.getElem_toArray, List.getElem_cons_succ, List.getElem_cons_zero, Act.put, List.setIfInBounds_toArray, List.set_cons_zero, List.set_cons_succ]
          refine hd_take (v := ?_) 14 rfl (by kernel_rfl) (fun _ _ d _ _ h => (by cases d <;> exact h)) (by kernel_rfl) S12 (fun w' hS => ?_) ?_
          rotate_left
          focus (have q0 := Sta.p w' hS; have q1 := Sta.r w' hS; clear hS; go_simp; try rfl; done)
          simp only [List.getElem_toArray, List.getElem_cons_succ, List.getElem_cons_zero, Act.put, List.setIfInBounds_toArray, List.set_cons_zero, List.set_cons_succ]
          refine hd_take (v := ?_) 15 rfl (by kernel_rfl) (fun _ _ d _ _ h => (by cases d <;> exact h)) (by kernel_rfl) S12 (fun w' hS => ?_) ?_
          rotate_left
          focus (have q0 := Sta.p w' hS; have q1 := Sta.r w' hS; clear hS; go_simp; try rfl; done)
          simp only [List.getElem_toArray, List.getElem_cons_succ, List.getElem_cons_zero, Act.put, List.setIfInBounds_toArray, List.set_cons_zero, List.set_cons_succ]
          refine hd_take (v := ?_) 17 rfl (by kernel_rfl) (fun _ _ d _ _ h => (by cases d <;> exact h)) (by kernel_rfl) S12 (fun w' hS => ?_) ?_
          rotate_left
          focus (have q0 := Sta.p w' hS; have q1 := Sta.r w' hS; clear hS; go_simp; try rfl; done)
          simp only [List.getElem_toArray, List.getElem_cons_succ, List.getElem_cons_zero, Act.put, List.setIfInBounds_toArray, List.set_cons_zero, List.set_cons_succ]
          refine hd_take (v := ?_) 18 rfl (by kernel_rfl) (fun _ _ d _ _ h => (by cases d <;> exact h)) (by kernel_rfl) S12 (fun w' hS => ?_) ?_
          rotate_left
          focus (have q0 := Sta.p w' hS; have q1 := Sta.r w' hS; clear hS; go_simp; try rfl; done)
          simp only [List.getElem_toArray, List.getElem_cons_succ, List.getElem_cons_zero, Act.put, List.setIfInBounds_toArray, List.set_cons_zero, List.set_cons_succ]
          refine hd_take (v := ?_) 19 rfl (by kernel_rfl) (fun _ _ d _ _ h => (by cases d <;> exact h)) (by kernel_rfl) S12 (fun w' hS => ?_) ?_
          rotate_left
          focus (have q0 := Sta.p w' hS; have q1 := Sta.r w' hS; clear hS; go_simp; try rfl; done)
          simp only [List.getElem_toArray, List.getElem_cons_succ, List.getElem_cons_zero, Act.put, List.setIfInBounds_toArray, List.set_cons_zero, List.set_cons_succ]
          refine hd_take (v := ?_) 20 rfl (by kernel_rfl) (fun _ _ d _ _ h => (by cases d <;> exact h)) (by kernel_rfl) S12 (fun w' hS => ?_) ?_
          rotate_left
          focus (have q0 := Sta.p w' hS; have q1 := Sta.r w' hS; clear hS; go_simp; try rfl; done)
          simp only [List.getElem_toArray, List.getElem_cons_succ, List.getElem_cons_zero, Act.put, List.setIfInBounds_toArray, List.set_cons_zero, List.set_cons_succ]
          refine hd_one 16 (by kernel_rfl) ?_
          refine op_call rfl (by kernel_rfl) (by go_simp; first | exact ⟨rfl, rfl⟩ | rfl) ?_
          refine (lenM_env H12.out (2 + k) (sObs_M k hk4)).mono ?_
          rintro e w18 ⟨he, hw⟩
          rw [HL.out] at he
          subst he
          subst hw
          have hS2 := S12
          refine ⟨_, rfl, hS2, ?_⟩
          simp only [List.getElem_toArray, List.getElem_cons_succ, List.getElem_cons_zero, Act.put, List.setIfInBounds_toArray, List.set_cons_zero, List.set_cons_succ]
          clear hS2
          refine hd_one 21 (by kernel_rfl) ?_
          refine op_call rfl (by kernel_rfl) (by go_simp; first | exact ⟨rfl, rfl⟩ | rfl) ?_
          refine (lenN_env H12.out (6 + k) (sObs_N k hk4)).mono ?_
          rintro e w19 ⟨he, hw⟩
          rw [HL.out] at he
          subst he
          subst hw
          have hS2 := S12
          refine ⟨_, rfl, hS2, ?_⟩
          simp only [List.getElem_toArray, List.getElem_cons_succ, List.getElem_cons_zero, Act.put, List.setIfInBounds_toArray, List.set_cons_zero, List.set_cons_succ]
          clear hS2
          refine hd_take (v := ?_) 22 rfl (by kernel_rfl) (fun _ _ d _ _ h => (by cases d <;> exact h)) (by kernel_rfl) S12 (fun w' hS => ?_) ?_
          rotate_left
          focus (clear hS; go_simp; try rfl; done)
          simp only [List.getElem_toArray, List.getElem_cons_succ, List.getElem_cons_zero, Act.put, List.setIfInBounds_toArray, List.set_cons_zero, List.set_cons_succ]
          refine hd_take (v := ?_) 23 rfl (by kernel_rfl) (fun _ _ d _ _ h => (by cases d <;> exact h)) (by kernel_rfl) S12 (fun w' hS => ?_) ?_
          rotate_left
          focus (clear hS; go_simp; try rfl; done)
          simp only [List.getElem_toArray, List.getElem_cons_succ, List.getElem_cons_zero, Act.put, List.setIfInBounds_toArray, List.set_cons_zero, List.set_cons_succ]
          refine hd_done (by kernel_rfl) ?_
          clear S10 S11 S12
          go_wp2_with fail
          go_roundw
          case rel => exact ⟨k + 1, by omega, by go_num, H12⟩
          case measure => simp [intOf]; omega
          --]loop3
        · obtain rfl : k = 4 := by omega
          clear hk hk4
          go_wp2_with fail
          go_loopw [18] (fun jv wx => ∃ j : Nat, j ≤ ts.length ∧ jv = .int .i64 (j : Int) ∧ Hid (Env w wx (sObs l q (some led) (some led) ps rs ms ms gs gr (.slice zo ts.length zc) (.slice yo ws.length yc) ts ws ++ []))) (fun jv _ => ts.length - (intOf jv).toNat)
          case atStart => exact ⟨0, Nat.zero_le _, rfl, H⟩
          case round =>
            obtain ⟨j, hj, rfl, H9⟩ := hrel
            clear H
            by_cases hjt : j < ts.length
            · --[loop5
              obtain ⟨tg, tc, e1, _, _⟩ := obT_slice H9.out 12 rfl (by omega)
              injection e1 with e1 _ e3
              subst e1; subst e3
              have hwl := HTS.out.2.2
              obtain ⟨wg, wc2, e1, _, _⟩ := obT_slice H9.out 13 rfl (by omega)
              injection e1 with e1 _ e3
              subst e1; subst e3
              obtain ⟨⟨v1, x1⟩, g1⟩ : ∃ p, ts[j]? = some p := ⟨_, List.getElem?_eq_getElem hjt⟩
              obtain ⟨⟨v2, x2⟩, g2⟩ : ∃ p, ws[j]? = some p := ⟨_, List.getElem?_eq_getElem (by omega)⟩
              have hx : x1 = x2 := by
                have := congrArg (fun l => l[j]?) HB.out
                simpa [g1, g2] using this
              subst hx
              have G1 := Lib.hid g1
              have G2 := Lib.hid g2
              have bj : 0 ≤ (j : Int) ∧ (j : Int) < (ts.length : Int) := by omega
              have bj2 : 0 ≤ (j : Int) ∧ (j : Int) < (ws.length : Int) := by omega
              have t1 : decide ((j : Int) < (ts.length : Int)) = true := by rw [decide_eq_true_eq]; exact bj.2
              clear g1 g2 hwl
              go_upto_region 37 with fail
              refine hd_start (St2 tg wg j v1 v2) (by kernel_rfl) ?_
              intro w10 hw'
              have H10 := Lib.hid (H9.out.draw 1)
              rw [← hw'] at H10
              clear hw' H9
              have S10 : St2 tg wg j v1 v2 w10 := ⟨obT_cell H10.out 12 rfl G1.out, obT_cell H10.out 13 rfl G2.out⟩
              refine hd_take (v := ?_) 0 rfl (by kernel_rfl) (fun _ _ d _ _ h => (by cases d <;> exact h)) (by kernel_rfl) S10 (fun w' hS => ?_) ?_
              rotate_left
              focus (have q0 := St2.a w' hS; have q1 := St2.b w' hS; clear hS; go_simp; try rfl; done)
              simp only [List.getElem_toArray, List.getElem_cons_succ, List.getElem_cons_zero, Act.put, List.setIfInBounds_toArray, List.set_cons_zero, List.set_cons_succ]
              refine hd_take (v := ?_) 1 rfl (by kernel_rfl) (fun _ _ d _ _ h => (by cases d <;> exact h)) (by kernel_rfl) S10 (fun w' hS => ?_) ?_
              rotate_left
              focus (have q0 := St2.a w' hS; have q1 := St2.b w' hS; clear hS; go_simp; try rfl; done)
              simp only [List.getElem_toArray, List.getElem_cons_succ, List.getElem_cons_zero, Act.put, List.setIfInBounds_toArray, List.set_cons_zero, List.set_cons_succ]
              refine hd_take (v := ?_) 2 rfl (by kernel_rfl) (fun _ _ d _ _ h => (by cases d <;> exact h)) (by kernel_rfl) S10 (fun w' hS => ?_) ?_
              rotate_left
              focus (have q0 := St2.a w' hS; have q1 := St2.b w' hS; clear hS; go_simp; try rfl; done)
              simp only [List.getElem_toArray, List.getElem_cons_succ, List.getElem_cons_zero, Act.put, List.setIfInBounds_toArray, List.set_cons_zero, List.set_cons_succ]
              refine hd_take (v := ?_) 3 rfl (by kernel_rfl) (fun _ _ d _ _ h => (by cases d <;> exact h)) (by kernel_rfl) S10 (fun w' hS => ?_) ?_
              rotate_left
              focus (have q0 := St2.a w' hS; have q1 := St2.b w' hS; clear hS; go_simp; try rfl; done)
              simp only [List.getElem_toArray, List.getElem_cons_succ, List.getElem_cons_zero, Act.put, List.setIfInBounds_toArray, List.set_cons_zero, List.set_cons_succ]
              refine hd_take (v := ?_) 4 rfl (by kernel_rfl) (fun _ _ d _ _ h => (by cases d <;> exact h)) (by kernel_rfl) S10 (fun w' hS => ?_) ?_
              rotate_left
              focus (have q0 := St2.a w' hS; have q1 := St2.b w' hS; clear hS; go_simp; try rfl; done)
              simp only [List.getElem_toArray, List.getElem_cons_succ, List.getElem_cons_zero, Act.put, List.setIfInBounds_toArray, List.set_cons_zero, List.set_cons_succ]
              refine hd_take (v := ?_) 5 rfl (by kernel_rfl) (fun _ _ d _ _ h => (by cases d <;> exact h)) (by kernel_rfl) S10 (fun w' hS => ?_) ?_
              rotate_left
              focus (have q0 := St2.a w' hS; have q1 := St2.b w' hS; clear hS; go_simp; try rfl; done)
              simp only [List.getElem_toArray, List.getElem_cons_succ, List.getElem_cons_zero, Act.put, List.setIfInBounds_toArray, List.set_cons_zero, List.set_cons_succ]
              refine hd_take (v := ?_) 6 rfl (by kernel_rfl) (fun _ _ d _ _ h => (by cases d <;> exact h)) (by kernel_rfl) S10 (fun w' hS => ?_) ?_
              rotate_left
              focus (have q0 := St2.a w' hS; have q1 := St2.b w' hS; clear hS; go_simp; try rfl; done)
              simp only [List.getElem_toArray, List.getElem_cons_succ, List.getElem_cons_zero, Act.put, List.setIfInBounds_toArray, List.set_cons_zero, List.set_cons_succ]
              refine hd_take (v := ?_) 7 rfl (by kernel_rfl) (fun _ _ d _ _ h => (by cases d <;> exact h)) (by kernel_rfl) S10 (fun w' hS => ?_) ?_
              rotate_left
              focus (have q0 := St2.a w' hS; have q1 := St2.b w' hS; clear hS; go_simp; try rfl; done)
              simp only [List.getElem_toArray, List.getElem_cons_succ, List.getElem_cons_zero, Act.put, List.setIfInBounds_toArray, List.set_cons_zero, List.set_cons_succ]
              refine hd_one 8 (by kernel_rfl) ?_
              refine op_call rfl (by kernel_rfl) (by go_simp; first | exact ⟨rfl, rfl⟩ | rfl) ?_
              refine (sameBytes_env H10.out (obT_get H10.out 12 rfl G1.out) (obT_get H10.out 13 rfl G2.out)).mono ?_
              rintro e w11 ⟨he, h5⟩
              rw [decide_eq_true rfl] at he
              subst he
              have hS2 : St2 tg wg j v1 v2 w11 := ⟨obT_cell h5 12 rfl G1.out, obT_cell h5 13 rfl G2.out⟩
              have S11 := hS2
              have H11 := Lib.hid h5
              clear h5 H10
              refine ⟨_, rfl, hS2, ?_⟩
              simp only [List.getElem_toArray, List.getElem_cons_succ, List.getElem_cons_zero, Act.put, List.setIfInBounds_toArray, List.set_cons_zero, List.set_cons_succ]
              clear hS2
              refine hd_take (v := ?_) 9 rfl (by kernel_rfl) (fun _ _ d _ _ h => (by cases d <;> exact h)) (by kernel_rfl) S11 (fun w' hS => ?_) ?_
              rotate_left
              focus (clear hS; go_simp; try rfl; done)
              simp only [List.getElem_toArray, List.getElem_cons_succ, List.getElem_cons_zero, Act.put, List.setIfInBounds_toArray, List.set_cons_zero, List.set_cons_succ]
              refine hd_done (by kernel_rfl) ?_
              clear S10 S11
              go_wp2_with fail
              go_roundw
              case rel => exact ⟨j + 1, by omega, by go_num, H11⟩
              case measure => simp [intOf]; omega
              --]loop5
            · obtain rfl : j = ts.length := by omega
              clear hj hjt
              --[end
              have t1 : decide ((ts.length : Int) < (ts.length : Int)) = false := by rw [decide_eq_false_iff_not]; omega
              have hL0 := HSM.out 0 (by omega)
              have hL1 := HSM.out 1 (by omega)
              obtain ⟨L0, hl0⟩ : ∃ L, (ms 0).bs = L := ⟨_, rfl⟩
              obtain ⟨L1, hl1⟩ : ∃ L, (ms 1).bs = L := ⟨_, rfl⟩
              rw [hl0] at hL0
              rw [hl1] at hL1
              have HL0 := Lib.hid hl0
              have HL1 := Lib.hid hl1
              clear hl0 hl1
              go_upto_region 39 with fail
              clear t1
              refine hd_start (Sta gs gr 0 1 ps rs) (by kernel_rfl) ?_
              intro w10 hw'
              have H10 := Lib.hid (H9.out.draw 1)
              rw [← hw'] at H10
              clear hw' H9
              have S10 : Sta gs gr 0 1 ps rs w10 := Sta.of (by omega) (by omega) H10.out
              refine hd_take (v := ?_) 0 rfl (by kernel_rfl) (fun _ _ d _ _ h => (by cases d <;> exact h)) (by kernel_rfl) S10 (fun w' hS => ?_) ?_
              rotate_left
              focus (clear hS; go_simp; try rfl; done)
              simp only [List.getElem_toArray, List.getElem_cons_succ, List.getElem_cons_zero, Act.put, List.setIfInBounds_toArray, List.set_cons_zero, List.set_cons_succ]
              refine hd_one 1 (by kernel_rfl) ?_
              refine op_call rfl (by kernel_rfl) (by go_simp; first | exact ⟨rfl, rfl⟩ | rfl) ?_
              refine (apart_told (sObs_told (Env.left H10.out)) (fun p hp => by have := HTS.out.1 p hp; omega) (by have := HTS.out.2.1; omega)).mono ?_
              rintro e w11 ⟨rfl, h5⟩
              have H11 := Lib.hid h5
              have hS2 : Sta gs gr 0 1 ps rs w11 := Sta.cut h5
              have S11 := hS2
              clear h5 H10
              refine ⟨_, rfl, hS2, ?_⟩
              simp only [List.getElem_toArray, List.getElem_cons_succ, List.getElem_cons_zero, Act.put, List.setIfInBounds_toArray, List.set_cons_zero, List.set_cons_succ]
              clear hS2
              refine hd_take (v := ?_) 2 rfl (by kernel_rfl) (fun _ _ d _ _ h => (by cases d <;> exact h)) (by kernel_rfl) S11 (fun w' hS => ?_) ?_
              rotate_left
              focus (have q0 := Sta.p w' hS; have q1 := Sta.r w' hS; clear hS; go_simp; try rfl; done)
              simp only [List.getElem_toArray, List.getElem_cons_succ, List.getElem_cons_zero, Act.put, List.setIfInBounds_toArray, List.set_cons_zero, List.set_cons_succ]
              refine hd_take (v := ?_) 3 rfl (by kernel_rfl) (fun _ _ d _ _ h => (by cases d <;> exact h)) (by kernel_rfl) S11 (fun w' hS => ?_) ?_
              rotate_left
              focus (have q0 := Sta.p w' hS; have q1 := Sta.r w' hS; clear hS; go_simp; try rfl; done)
              simp only [List.getElem_toArray, List.getElem_cons_succ, List.getElem_cons_zero, Act.put, List.setIfInBounds_toArray, List.set_cons_zero, List.set_cons_succ]
              refine hd_take (v := ?_) 4 rfl (by kernel_rfl) (fun _ _ d _ _ h => (by cases d <;> exact h)) (by kernel_rfl) S11 (fun w' hS => ?_) ?_
              rotate_left
              focus (have q0 := Sta.p w' hS; have q1 := Sta.r w' hS; clear hS; go_simp; try rfl; done)
              simp only [List.getElem_toArray, List.getElem_cons_succ, List.getElem_cons_zero, Act.put, List.setIfInBounds_toArray, List.set_cons_zero, List.set_cons_succ]
              refine hd_take (v := ?_) 5 rfl (by kernel_rfl) (fun _ _ d _ _ h => (by cases d <;> exact h)) (by kernel_rfl) S11 (fun w' hS => ?_) ?_
              rotate_left
              focus (have q0 := Sta.p w' hS; have q1 := Sta.r w' hS; clear hS; go_simp; try rfl; done)
              simp only [List.getElem_toArray, List.getElem_cons_succ, List.getElem_cons_zero, Act.put, List.setIfInBounds_toArray, List.set_cons_zero, List.set_cons_succ]
              refine hd_take (v := ?_) 7 rfl (by kernel_rfl) (fun _ _ d _ _ h => (by cases d <;> exact h)) (by kernel_rfl) S11 (fun w' hS => ?_) ?_
              rotate_left
              focus (have q0 := Sta.p w' hS; have q1 := Sta.r w' hS; clear hS; go_simp; try rfl; done)
              simp only [List.getElem_toArray, List.getElem_cons_succ, List.getElem_cons_zero, Act.put, List.setIfInBounds_toArray, List.set_cons_zero, List.set_cons_succ]
              refine hd_take (v := ?_) 8 rfl (by kernel_rfl) (fun _ _ d _ _ h => (by cases d <;> exact h)) (by kernel_rfl) S11 (fun w' hS => ?_) ?_
              rotate_left
              focus (have q0 := Sta.p w' hS; have q1 := Sta.r w' hS; clear hS; go_simp; try rfl; done)
              simp only [List.getElem_toArray, List.getElem_cons_succ, List.getElem_cons_zero, Act.put, List.setIfInBounds_toArray, List.set_cons_zero, List.set_cons_succ]
              refine hd_take (v := ?_) 9 rfl (by kernel_rfl) (fun _ _ d _ _ h => (by cases d <;> exact h)) (by kernel_rfl) S11 (fun w' hS => ?_) ?_
              rotate_left
              focus (have q0 := Sta.p w' hS; have q1 := Sta.r w' hS; clear hS; go_simp; try rfl; done)
              simp only [List.getElem_toArray, List.getElem_cons_succ, List.getElem_cons_zero, Act.put, List.setIfInBounds_toArray, List.set_cons_zero, List.set_cons_succ]
              refine hd_one 6 (by kernel_rfl) ?_
              refine op_call rfl (by kernel_rfl) (by go_simp; first | exact ⟨rfl, rfl⟩ | rfl) ?_
              refine (lookM_env H11.out 2 rfl).mono ?_
              rintro e w12 ⟨he, h5⟩
              rw [HL0.out] at he
              subst he
              have hS2 : Sta gs gr 0 1 ps rs w12 := Sta.cut h5
              have S12 := hS2
              have H12 := Lib.hid h5
              clear h5 H11
              refine ⟨_, rfl, hS2, ?_⟩
              simp only [List.getElem_toArray, List.getElem_cons_succ, List.getElem_cons_zero, Act.put, List.setIfInBounds_toArray, List.set_cons_zero, List.set_cons_succ]
              clear hS2
              refine hd_one 10 (by kernel_rfl) ?_
              refine op_call rfl (by kernel_rfl) (by go_simp; first | exact ⟨rfl, rfl⟩ | rfl) ?_
              refine (lookN_env H12.out 6 rfl).mono ?_
              rintro e w13 ⟨he, h5⟩
              rw [HL0.out] at he
              subst he
              have hS2 : Sta gs gr 0 1 ps rs w13 := Sta.cut h5
              have S13 := hS2
              have H13 := Lib.hid h5
              clear h5 H12
              refine ⟨_, rfl, hS2, ?_⟩
              simp only [List.getElem_toArray, List.getElem_cons_succ, List.getElem_cons_zero, Act.put, List.setIfInBounds_toArray, List.set_cons_zero, List.set_cons_succ]
              clear hS2
              refine hd_take (v := .bool true) 11 rfl (by kernel_rfl) (fun _ _ d _ _ h => (by cases d <;> exact h)) (by kernel_rfl) S13 (fun w' hS => exec_eql_arr (pad L0) (pad L0) true rfl rfl slotGuard (eqPad L0 hL0)) ?_
              simp only [List.getElem_toArray, List.getElem_cons_succ, List.getElem_cons_zero, Act.put, List.setIfInBounds_toArray, List.set_cons_zero, List.set_cons_succ]
              refine hd_take (v := ?_) 12 rfl (by kernel_rfl) (fun _ _ d _ _ h => (by cases d <;> exact h)) (by kernel_rfl) S13 (fun w' hS => ?_) ?_
              rotate_left
              focus (have q0 := Sta.p2 w' hS; have q1 := Sta.r2 w' hS; clear hS; go_simp; try rfl; done)
              simp only [List.getElem_toArray, List.getElem_cons_succ, List.getElem_cons_zero, Act.put, List.setIfInBounds_toArray, List.set_cons_zero, List.set_cons_succ]
              refine hd_take (v := ?_) 13 rfl (by kernel_rfl) (fun _ _ d _ _ h => (by cases d <;> exact h)) (by kernel_rfl) S13 (fun w' hS => ?_) ?_
              rotate_left
              focus (have q0 := Sta.p2 w' hS; have q1 := Sta.r2 w' hS; clear hS; go_simp; try rfl; done)
              simp only [List.getElem_toArray, List.getElem_cons_succ, List.getElem_cons_zero, Act.put, List.setIfInBounds_toArray, List.set_cons_zero, List.set_cons_succ]
              refine hd_take (v := ?_) 14 rfl (by kernel_rfl) (fun _ _ d _ _ h => (by cases d <;> exact h)) (by kernel_rfl) S13 (fun w' hS => ?_) ?_
              rotate_left
              focus (have q0 := Sta.p2 w' hS; have q1 := Sta.r2 w' hS; clear hS; go_simp; try rfl; done)
              simp only [List.getElem_toArray, List.getElem_cons_succ, List.getElem_cons_zero, Act.put, List.setIfInBounds_toArray, List.set_cons_zero, List.set_cons_succ]
              refine hd_take (v := ?_) 15 rfl (by kernel_rfl) (fun _ _ d _ _ h => (by cases d <;> exact h)) (by kernel_rfl) S13 (fun w' hS => ?_) ?_
              rotate_left
              focus (have q0 := Sta.p2 w' hS; have q1 := Sta.r2 w' hS; clear hS; go_simp; try rfl; done)
              simp only [List.getElem_toArray, List.getElem_cons_succ, List.getElem_cons_zero, Act.put, List.setIfInBounds_toArray, List.set_cons_zero, List.set_cons_succ]
              refine hd_take (v := ?_) 16 rfl (by kernel_rfl) (fun _ _ d _ _ h => (by cases d <;> exact h)) (by kernel_rfl) S13 (fun w' hS => ?_) ?_
              rotate_left
              focus (have q0 := Sta.p2 w' hS; have q1 := Sta.r2 w' hS; clear hS; go_simp; try rfl; done)
              simp only [List.getElem_toArray, List.getElem_cons_succ, List.getElem_cons_zero, Act.put, List.setIfInBounds_toArray, List.set_cons_zero, List.set_cons_succ]
              refine hd_take (v := ?_) 18 rfl (by kernel_rfl) (fun _ _ d _ _ h => (by cases d <;> exact h)) (by kernel_rfl) S13 (fun w' hS => ?_) ?_
              rotate_left
              focus (have q0 := Sta.p2 w' hS; have q1 := Sta.r2 w' hS; clear hS; go_simp; try rfl; done)
              simp only [List.getElem_toArray, List.getElem_cons_succ, List.getElem_cons_zero, Act.put, List.setIfInBounds_toArray, List.set_cons_zero, List.set_cons_succ]
              refine hd_take (v := ?_) 19 rfl (by kernel_rfl) (fun _ _ d _ _ h => (by cases d <;> exact h)) (by kernel_rfl) S13 (fun w' hS => ?_) ?_
              rotate_left
              focus (have q0 := Sta.p2 w' hS; have q1 := Sta.r2 w' hS; clear hS; go_simp; try rfl; done)
              simp only [List.getElem_toArray, List.getElem_cons_succ, List.getElem_cons_zero, Act.put, List.setIfInBounds_toArray, List.set_cons_zero, List.set_cons_succ]
              refine hd_take (v := ?_) 20 rfl (by kernel_rfl) (fun _ _ d _ _ h => (by cases d <;> exact h)) (by kernel_rfl) S13 (fun w' hS => ?_) ?_
              rotate_left
              focus (have q0 := Sta.p2 w' hS; have q1 := Sta.r2 w' hS; clear hS; go_simp; try rfl; done)
              simp only [List.getElem_toArray, List.getElem_cons_succ, List.getElem_cons_zero, Act.put, List.setIfInBounds_toArray, List.set_cons_zero, List.set_cons_succ]
              refine hd_one 17 (by kernel_rfl) ?_
              refine op_call rfl (by kernel_rfl) (by go_simp; first | exact ⟨rfl, rfl⟩ | rfl) ?_
              refine (lookM_env H13.out 3 rfl).mono ?_
              rintro e w14 ⟨he, h5⟩
              rw [HL1.out] at he
              subst he
              have hS2 : Sta gs gr 0 1 ps rs w14 := Sta.cut h5
              have S14 := hS2
              have H14 := Lib.hid h5
              clear h5 H13
              refine ⟨_, rfl, hS2, ?_⟩
              simp only [List.getElem_toArray, List.getElem_cons_succ, List.getElem_cons_zero, Act.put, List.setIfInBounds_toArray, List.set_cons_zero, List.set_cons_succ]
              clear hS2
              refine hd_one 21 (by kernel_rfl) ?_
              refine op_call rfl (by kernel_rfl) (by go_simp; first | exact ⟨rfl, rfl⟩ | rfl) ?_
              refine (lookN_env H14.out 7 rfl).mono ?_
              rintro e w15 ⟨he, h5⟩
              rw [HL1.out] at he
              subst he
              have hS2 : Sta gs gr 0 1 ps rs w15 := Sta.cut h5
              have S15 := hS2
              have H15 := Lib.hid h5
              clear h5 H14
              refine ⟨_, rfl, hS2, ?_⟩
              simp only [List.getElem_toArray, List.getElem_cons_succ, List.getElem_cons_zero, Act.put, List.setIfInBounds_toArray, List.set_cons_zero, List.set_cons_succ]
              clear hS2
              refine hd_take (v := .bool true) 22 rfl (by kernel_rfl) (fun _ _ d _ _ h => (by cases d <;> exact h)) (by kernel_rfl) S15 (fun w' hS => exec_eql_arr (pad L1) (pad L1) true rfl rfl slotGuard (eqPad L1 hL1)) ?_
              simp only [List.getElem_toArray, List.getElem_cons_succ, List.getElem_cons_zero, Act.put, List.setIfInBounds_toArray, List.set_cons_zero, List.set_cons_succ]
              refine hd_take (v := ?_) 23 rfl (by kernel_rfl) (fun _ _ d _ _ h => (by cases d <;> exact h)) (by kernel_rfl) S15 (fun w' hS => ?_) ?_
              rotate_left
              focus (clear hS; go_simp; try rfl; done)
              simp only [List.getElem_toArray, List.getElem_cons_succ, List.getElem_cons_zero, Act.put, List.setIfInBounds_toArray, List.set_cons_zero, List.set_cons_succ]
              refine hd_take (v := ?_) 24 rfl (by kernel_rfl) (fun _ _ d _ _ h => (by cases d <;> exact h)) (by kernel_rfl) S15 (fun w' hS => ?_) ?_
              rotate_left
              focus (clear hS; go_simp; try rfl; done)
              simp only [List.getElem_toArray, List.getElem_cons_succ, List.getElem_cons_zero, Act.put, List.setIfInBounds_toArray, List.set_cons_zero, List.set_cons_succ]
              refine hd_done (by kernel_rfl) ?_
              go_wp2_with fail
              go_ret
              exact ⟨rfl, H15.out.base⟩
              --]end
end Go.Proofs.Ytaphjdfpffhpfaa
