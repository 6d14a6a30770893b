/- The statement CostScript: for every input turnkey/turnkeylaw22.CostScript returns true, and each argument reads as it did. Its walk is proved in CostScript; here is the step from the walk to the row. -/
import Derived.Test.YtkidijjhedjifaaGreatRows
import Derived.Test.YtkidijjhedjifaaGreatQCostScript11
import Derived.Test.YtkidijjhedjifaaGreatQCostScript12
import Derived.Test.YtkidijjhedjifaaGreatQCostScript8
/- The law CostScript: two Publics, any skeletons in turns, beside the document's. -/
namespace Go.Proofs.YtkidijjhedjifaaGreat
open Go.RowKit
set_option maxRecDepth 100000
set_option linter.unusedVariables false
set_option linter.unusedSimpArgs false
attribute [local go_sem] Oper.semAt_some
theorem pick22S (i n : Int) (w : World) (hn : 0 < n) (hn' : n ≤ 9223372036854775807) :
    Calls Tryz.prog 6 #[.int .i64 i, .int .i64 n] w fun e w' => e = .returned (.int .i64 (i % n)) ∧ w = w' := by
  have ht : i.tmod n = if i % n = 0 ∨ 0 ≤ i then i % n else i % n - n := by
    have := Int.emod_nonneg i (show n ≠ 0 by omega)
    rw [Int.tmod_eq_emod]
    have : (n.natAbs : Int) = n := by omega
    by_cases h : 0 ≤ i ∨ n ∣ i
    · rw [if_pos h]
      rcases h with h | h
      · rw [if_pos (.inr h)]; omega
      · rw [if_pos (.inl (Int.emod_eq_zero_of_dvd h))]; omega
    · rw [if_neg h]
      have : ¬ (i % n = 0 ∨ 0 ≤ i) := by
        rintro (h1 | h1)
        · exact h (.inr (Int.dvd_of_emod_eq_zero h1))
        · exact h (.inl h1)
      rw [if_neg this]
      omega
  have h1 := Int.emod_nonneg i (show n ≠ 0 by omega)
  have h2 := Int.emod_lt_of_pos i hn
  by_cases hc : i % n = 0 ∨ 0 ≤ i
  · rw [if_pos hc] at ht
    clear hc
    generalize i % n = r at ht h1 h2 ⊢
    go_enter Tryz.func6, Tryz.ntmps6
    go_wp2
    go_ret
    exact ⟨rfl, rfl⟩
  · rw [if_neg hc] at ht
    have h3 : ¬ i % n = 0 := fun e => hc (.inl e)
    clear hc
    generalize i % n = r at ht h1 h2 h3 ⊢
    have e : r - n + n = r := by omega
    go_enter Tryz.func6, Tryz.ntmps6
    go_wp2
    go_ret
    exact ⟨rfl, rfl⟩
theorem pick_any (i : Int) (w : World) : Calls Tryz.prog 6 #[.int .i64 i, .int .i64 2] w fun e w' => (e = .returned (.int .i64 0) ∨ e = .returned (.int .i64 1)) ∧ w = w' := by
  refine (pick22S i 2 w (by omega) (by omega)).mono ?_
  rintro e w' ⟨rfl, rfl⟩
  refine ⟨?_, rfl⟩
  have h : i % 2 = 0 ∨ i % 2 = 1 := by omega
  rcases h with h | h <;> rw [h]
  · exact .inl rfl
  · exact .inr rfl
theorem skElemS {w : World} {b off n cap : Nat} {l : List Sk} (h : KS.R w (.slice (some ⟨b, off, none⟩) n cap) l) {j : Nat} {s : Sk} (hs : l[j]? = some s) : SkAt w b (off + j * 7) s := by
  obtain ⟨b', off', e, _, hsk⟩ := KS.elem h hs
  injection e with e
  injection e with e1 e2
  subst e1 e2
  exact hsk
structure SSc (A k p b o : Nat) (s : Sk) (W : World) : Prop where
  p : W.cell? ⟨A, k, none⟩ = some (.pointer (some ⟨p, 0, none⟩))
  s : SkAt W b o s
section
variable {A k p b o : Nat} {s : Sk}
theorem SSc.g (W : World) (h : SSc A k p b o s W) : W.cell? ⟨A, k, none⟩ = some (.pointer (some ⟨p, 0, none⟩)) := h.p
theorem SSc.g0 (W : World) (h : SSc A k p b o s W) : W.cell? ⟨b, o, none⟩ = some (.int .u8 s.kind) := h.s.c0
theorem SSc.g1 (W : World) (h : SSc A k p b o s W) : W.cell? ⟨b, o + 1, none⟩ = some (.int .i64 s.handle) := h.s.c1
theorem SSc.g2 (W : World) (h : SSc A k p b o s W) : W.cell? ⟨b, o + 2, none⟩ = some (.int .u8 s.alg) := h.s.c2
theorem SSc.g3 (W : World) (h : SSc A k p b o s W) : W.cell? ⟨b, o + 3, none⟩ = some (.int .i64 s.count) := h.s.c3
theorem SSc.g4 (W : World) (h : SSc A k p b o s W) : W.cell? ⟨b, o + 4, none⟩ = some (.int .i64 s.out) := h.s.c4
theorem SSc.g5 (W : World) (h : SSc A k p b o s W) : W.cell? ⟨b, o + 5, none⟩ = some (.int .i64 s.data) := h.s.c5
theorem SSc.g6 (W : World) (h : SSc A k p b o s W) : W.cell? ⟨b, o + 6, none⟩ = some (.int .i64 s.more) := h.s.c6
end
def SA2 (g b : Nat) (j : Nat) (rv sv : Value) (W : World) : Prop := W.cell? ⟨g, j, none⟩ = some rv ∧ W.cell? ⟨b, j, none⟩ = some sv
theorem SA2.id {g b : Nat} {j : Nat} {rv sv : Value} (W : World) (h : SA2 g b j rv sv W) : W.cell? ⟨g, j, none⟩ = some rv ∧ W.cell? ⟨b, j, none⟩ = some sv := h
theorem OKh.step2 {j : Nat} {σ : Hs} (h : OKh (65536 * (j : Int)) σ) (s : Sk) : OKh (65536 * ((j + 1 : Nat) : Int)) (nxD σ s) := by
  have := h.step (by omega) s
  have e : (65536 * ((j + 1 : Nat) : Int)) = 65536 * (j : Int) + 65536 := by omega
  rw [e]
  exact this
theorem OKh.up2 {j : Nat} {σ : Hs} (h : OKh (65536 * (j : Int)) σ) : OKh (65536 * ((j + 1 : Nat) : Int)) σ := h.up (by omega)
/-- what the script holds behind j operations -/
structure Scr (j : Nat) (σ0 σ1 : Hs) (ts us : List (Value × List Rn)) (hs : List (Value × List Int)) : Prop where
  o0 : OKh (65536 * (j : Int)) σ0
  o1 : OKh (65536 * (j : Int)) σ1
  lt : ts.length = j
  lu : us.length = j
  lh : hs.length = j
  same : ts.map (·.2) = us.map (·.2)
  sm : ∀ p ∈ ts, p.2.length ≤ 5
  sh : ∀ p ∈ hs, p.2.length ≤ 64
theorem Scr.start : Scr 0 hs0 hs0 [] [] [] := ⟨OKh.start, OKh.start, rfl, rfl, rfl, rfl, fun p hp => (by simp at hp), fun p hp => (by simp at hp)⟩
theorem Scr.step {j : Nat} {σ0 σ1 σ2 σ3 : Hs} {ts us : List (Value × List Rn)} {hs : List (Value × List Int)} (h : Scr j σ0 σ1 ts us hs) (h0 : OKh (65536 * ((j + 1 : Nat) : Int)) σ2) (h1 : OKh (65536 * ((j + 1 : Nat) : Int)) σ3) {a b c : Value} {r : List Rn} {x : List Int} (hr : r.length ≤ 5) (hx : x.length ≤ 64) :
    Scr (j + 1) σ2 σ3 (ts ++ [(a, r)]) (us ++ [(b, r)]) (hs ++ [(c, x)]) := by
  refine ⟨h0, h1, by simp [h.lt], by simp [h.lu], by simp [h.lh], by simp [h.same], fun p hp => ?_, fun p hp => ?_⟩
  · rcases List.mem_append.1 hp with hp | hp
    · exact h.sm p hp
    · simp at hp
      subst hp
      exact hr
  · rcases List.mem_append.1 hp with hp | hp
    · exact h.sh p hp
    · simp at hp
      subst hp
      exact hx
namespace costScript
set_option maxHeartbeats 16000000 in
theorem walk (v : Value) (l : List Sk) {w : World} (hin : InSk w v l) (v1 : Value) (turns : List Int) (hin1 : KI.R w v1 turns) :
    Calls Tryz.prog 3 #[v, v1] w fun e w' => e = .returned (.bool true) ∧ Below w.heap.size w w' := by
  obtain ⟨hv, hok⟩ := hin
  obtain ⟨ao, cap, rfl, hc1, hc2, hc3⟩ := hv.any
  obtain ⟨bo, bcap, rfl, hd1, hd2, hd3⟩ := hin1.any
  have HV := Lib.hid hv
  have HOK := Lib.hid hok
  have HTU := Lib.hid hin1
  clear hv hok hin1
  go_enter Tryz.func3, Tryz.ntmps3
  by_cases h300 : 300 < l.length
  · have t3 : decide (300 < (l.length : Int)) = true := by rw [decide_eq_true_eq]; omega
    go_wp2_with fail
    go_ret
    exact ⟨rfl, Below.refl _ _⟩
  · have t3 : decide (300 < (l.length : Int)) = false := by rw [decide_eq_false_iff_not]; omega
    go_wp2_with fail
    refine (new_env (Env.start w)).mono ?_
    rintro e w1 ⟨p0, m0, k0, rfl, h1⟩
    have H1 := Lib.hid h1
    clear h1
    unfold pV
    go_wp2_with fail
    refine (new_env H1.out).mono ?_
    rintro e w2 ⟨p1, m1, k1, rfl, h2⟩
    have h3 := (show Env w w2 [obPub p0 m0 k0 hs0, obPub p1 m1 k1 hs0] from h2).newK 26 #[.pointer (some ⟨p0, 0, none⟩), .pointer (some ⟨p1, 0, none⟩)]
    unfold pV
    go_upto_region 4 with fail
    obtain ⟨w3, hw3⟩ : ∃ y, w2.alloc (.cells #[.pointer (some ⟨p0, 0, none⟩), .pointer (some ⟨p1, 0, none⟩)] 26) = y := ⟨_, rfl⟩
    obtain ⟨A2, hA2⟩ : ∃ y, w2.heap.size = y := ⟨_, rfl⟩
    rw [hw3, hA2] at h3
    rw [hw3]
    try simp only [hA2]
    have H3 := Lib.hid h3
    clear h2 h3 H1 hw3 hA2
    go_wp2_with fail
    refine (rnew_env H3.out).mono ?_
    rintro e w4 ⟨P0, rfl, h4⟩
    have H4 := Lib.hid h4
    clear h4 H3
    unfold rpV
    go_wp2_with fail
    refine (rnew_env H4.out).mono ?_
    rintro e w5 ⟨P1, rfl, h5⟩
    unfold rpV
    have h6 := h5.newK 29 #[.pointer (some ⟨P0, 0, none⟩), .pointer (some ⟨P1, 0, none⟩)]
    go_upto_region 5 with fail
    obtain ⟨w6, hw6⟩ : ∃ y, w5.alloc (.cells #[.pointer (some ⟨P0, 0, none⟩), .pointer (some ⟨P1, 0, none⟩)] 29) = y := ⟨_, rfl⟩
    obtain ⟨R2, hR2⟩ : ∃ y, w5.heap.size = y := ⟨_, rfl⟩
    rw [hw6, hR2] at h6
    rw [hw6]
    try simp only [hR2]
    have h7 : Env w w6 [obPub p0 m0 k0 hs0, obPub p1 m1 k1 hs0, obK A2 26 #[.pointer (some ⟨p0, 0, none⟩), .pointer (some ⟨p1, 0, none⟩)], obRP P0 hs0, obRP P1 hs0, obK R2 29 #[.pointer (some ⟨P0, 0, none⟩), .pointer (some ⟨P1, 0, none⟩)]] := h6
    have h8 := ((h7.llNil (st := 33) (e := 76) (sz := 3)).llNil (st := 33) (e := 76) (sz := 3)).llNil (st := 23) (e := 3) (sz := 1)
    have h9 : Env w w6 [obPub p0 m0 k0 (hs0), obPub p1 m1 k1 (hs0), obRP P0 (hs0), obRP P1 (hs0), obK A2 26 #[.pointer (some ⟨p0, 0, none⟩), .pointer (some ⟨p1, 0, none⟩)], obK R2 29 #[.pointer (some ⟨P0, 0, none⟩), .pointer (some ⟨P1, 0, none⟩)], obTR (.slice none 0 0) [], obTR (.slice none 0 0) [], obTI (.slice none 0 0) []] := by
      refine Env.pick h8 (fun j => [0, 1, 3, 4, 2, 5, 6, 7, 8].getD j 0) ?_ ?_
      · intro i j hi hj
        simp at hi hj
        exact (by decide : ∀ i, i < 9 → ∀ j, j < 9 → [0, 1, 3, 4, 2, 5, 6, 7, 8].getD i 0 = [0, 1, 3, 4, 2, 5, 6, 7, 8].getD j 0 → i = j) i hi j hj
      · intro j ob hj
        match j, hj with
        | 0, hj => exact hj
        | 1, hj => exact hj
        | 2, hj => exact hj
        | 3, hj => exact hj
        | 4, hj => exact hj
        | 5, hj => exact hj
        | 6, hj => exact hj
        | 7, hj => exact hj
        | 8, hj => exact hj
        | n + 9, hj => simp at hj
    have H9 := Lib.hid h9
    have y0 : w6.cell? ⟨A2, 0, none⟩ = some (.pointer (some ⟨p0, 0, none⟩)) := (h9.blk 4 (b := A2) rfl).cellAt 0 rfl
    have y1 : w6.cell? ⟨A2, 1, none⟩ = some (.pointer (some ⟨p1, 0, none⟩)) := (h9.blk 4 (b := A2) rfl).cellAt 1 rfl
    clear h5 h6 h7 h8 h9 H4 hw6 hR2
    go_wp2_with fail
    clear y0 y1
    go_loopw [7, 8, 9, 10] (fun told wants hu iv wx => ∃ (j : Nat) (σ0 σ1 : Hs) (ts us : List (Value × List Rn)) (hs : List (Value × List Int)), j ≤ l.length ∧ iv = .int .i64 (j : Int) ∧ Hid (Scr j σ0 σ1 ts us hs) ∧ Hid (Env w wx [obPub p0 m0 k0 (σ0), obPub p1 m1 k1 (σ1), obRP P0 (σ0), obRP P1 (σ1), obK A2 26 #[.pointer (some ⟨p0, 0, none⟩), .pointer (some ⟨p1, 0, none⟩)], obK R2 29 #[.pointer (some ⟨P0, 0, none⟩), .pointer (some ⟨P1, 0, none⟩)], obTR told ts, obTR wants us, obTI hu hs])) (fun _ _ _ iv _ => l.length - (RowKit.intOf iv).toNat)
    case atStart => exact ⟨0, hs0, hs0, [], [], [], Nat.zero_le _, rfl, Lib.hid Scr.start, H9⟩
    case round =>
      obtain ⟨j, σ0, σ1, ts, us, hs, hj, rfl, HR, HK⟩ := hrel
      clear H9
      by_cases hlt : j < l.length
      · obtain ⟨s, hs0'⟩ : ∃ s, l[j]? = some s := ⟨_, List.getElem?_eq_getElem hlt⟩
        have t4 : decide ((j : Int) < (l.length : Int)) = true := by rw [decide_eq_true_eq]; omega
        have bj : 0 ≤ (j : Int) ∧ (j : Int) < (l.length : Int) := by omega
        have HS := Lib.hid hs0'
        obtain ⟨b, off, hao, hbl, _⟩ := KS.elem (HV.out) hs0'
        subst hao
        have hw1 : IntKind.i64.wrap ((j : Int) + 1) = ((j + 1 : Nat) : Int) := by rw [IntWalk.i64_in _ (by omega)]; omega
        clear hs0'
        by_cases htl : j < turns.length
        · have t5 : decide ((j : Int) < (turns.length : Int)) = true := by rw [decide_eq_true_eq]; omega
          have bt : 0 ≤ (j : Int) ∧ (j : Int) < (turns.length : Int) := by omega
          obtain ⟨x, hx⟩ : ∃ x, turns[j]? = some x := ⟨_, List.getElem?_eq_getElem htl⟩
          obtain ⟨tb, to', hbo, htb, htc⟩ := Knd.R.get (HK.out.oldK HTU.out) hx
          subst hbo
          have c0 := htc 0 _ rfl
          have c0 : wr.cell? ⟨tb, to' + j, none⟩ = some (.int .i64 x) := by
            have q : wr.cell? ⟨tb, to' + j * 1, none⟩ = some (.int .i64 x) := c0
            rw [Nat.mul_one] at q
            exact q
          clear hx htc
          go_wp2_with fail
          clear c0
          refine (pick_any x wr).mono ?_
          rintro e wp ⟨he, rfl⟩
          rcases he with rfl | rfl
          · go_upto_region 15 with fail
            clear t5 bt
            have hS : Hid (∀ W, Env w W [obPub p0 m0 k0 (σ0), obPub p1 m1 k1 (σ1), obRP P0 (σ0), obRP P1 (σ1), obK A2 26 #[.pointer (some ⟨p0, 0, none⟩), .pointer (some ⟨p1, 0, none⟩)], obK R2 29 #[.pointer (some ⟨P0, 0, none⟩), .pointer (some ⟨P1, 0, none⟩)], obTR u7 ts, obTR u8 us, obTI u9 hs] → SSc A2 0 p0 b (off + j * 7) s W) := Lib.hid fun W hW => ⟨(hW.blk 4 (b := A2) rfl).cellAt 0 rfl, skElemS (hW.oldK HV.out) HS.out⟩
            have hS2' : Hid (∀ W vx, Env w W [obPub p0 m0 k0 (nxD σ0 s), obPub p1 m1 k1 (σ1), obRP P0 (σ0), obRP P1 (σ1), obK A2 26 #[.pointer (some ⟨p0, 0, none⟩), .pointer (some ⟨p1, 0, none⟩)], obK R2 29 #[.pointer (some ⟨P0, 0, none⟩), .pointer (some ⟨P1, 0, none⟩)], obTR u7 ts, obTR u8 us, obTI u9 hs, obRuns vx (runsD σ0 s)] → SSc A2 0 p0 b (off + j * 7) s W ∧ SSc R2 0 P0 b (off + j * 7) s W) := Lib.hid fun W vx hW => ⟨⟨(hW.blk 4 (b := A2) rfl).cellAt 0 rfl, skElemS (hW.oldK HV.out) HS.out⟩, ⟨(hW.blk 5 (b := R2) rfl).cellAt 0 rfl, skElemS (hW.oldK HV.out) HS.out⟩⟩
            have hS3 : Hid (∀ W vx vy, Env w W [obPub p0 m0 k0 (nxD σ0 s), obPub p1 m1 k1 (σ1), obRP P0 (nxD σ0 s), obRP P1 (σ1), obK A2 26 #[.pointer (some ⟨p0, 0, none⟩), .pointer (some ⟨p1, 0, none⟩)], obK R2 29 #[.pointer (some ⟨P0, 0, none⟩), .pointer (some ⟨P1, 0, none⟩)], obTR u7 ts, obTR u8 us, obTI u9 hs, obRuns vx (runsD σ0 s), obRuns vy (runsD σ0 s)] → SSc R2 0 P0 b (off + j * 7) s W) := Lib.hid fun W vx vy hW => ⟨(hW.blk 5 (b := R2) rfl).cellAt 0 rfl, skElemS (hW.oldK HV.out) HS.out⟩
            refine hd_start (SSc A2 0 p0 b (off + j * 7) s) (by kernel_rfl) ?_
            intro wa hw'
            have Ha := Lib.hid (HK.out.draw 1)
            rw [← hw'] at Ha
            clear hw' HK
            have Sa := hS.out _ Ha.out
            refine hd_take (v := ?_) 0 rfl (by kernel_rfl) (fun _ _ d _ _ h => (by cases d <;> exact h)) (by kernel_rfl) Sa (fun w' hS => ?_) ?_
            rotate_left
            focus (have q0 := SSc.g w' hS; have q1 := SSc.g0 w' hS; have q2 := SSc.g1 w' hS; have q3 := SSc.g2 w' hS; have q4 := SSc.g3 w' hS; have q5 := SSc.g4 w' hS; have q6 := SSc.g5 w' hS; have q7 := SSc.g6 w' hS; clear hS; go_simp; try rfl; done)
            simp only [List.getElem_toArray, List.getElem_cons_succ, List.getElem_cons_zero, Act.put, List.setIfInBounds_toArray, List.set_cons_zero, List.set_cons_succ]
            refine hd_take (v := ?_) 1 rfl (by kernel_rfl) (fun _ _ d _ _ h => (by cases d <;> exact h)) (by kernel_rfl) Sa (fun w' hS => ?_) ?_
            rotate_left
            focus (have q0 := SSc.g w' hS; have q1 := SSc.g0 w' hS; have q2 := SSc.g1 w' hS; have q3 := SSc.g2 w' hS; have q4 := SSc.g3 w' hS; have q5 := SSc.g4 w' hS; have q6 := SSc.g5 w' hS; have q7 := SSc.g6 w' hS; clear hS; go_simp; try rfl; done)
            simp only [List.getElem_toArray, List.getElem_cons_succ, List.getElem_cons_zero, Act.put, List.setIfInBounds_toArray, List.set_cons_zero, List.set_cons_succ]
            refine hd_take (v := ?_) 2 rfl (by kernel_rfl) (fun _ _ d _ _ h => (by cases d <;> exact h)) (by kernel_rfl) Sa (fun w' hS => ?_) ?_
            rotate_left
            focus (have q0 := SSc.g w' hS; have q1 := SSc.g0 w' hS; have q2 := SSc.g1 w' hS; have q3 := SSc.g2 w' hS; have q4 := SSc.g3 w' hS; have q5 := SSc.g4 w' hS; have q6 := SSc.g5 w' hS; have q7 := SSc.g6 w' hS; clear hS; go_simp; try rfl; done)
            simp only [List.getElem_toArray, List.getElem_cons_succ, List.getElem_cons_zero, Act.put, List.setIfInBounds_toArray, List.set_cons_zero, List.set_cons_succ]
            refine hd_take (v := ?_) 3 rfl (by kernel_rfl) (fun _ _ d _ _ h => (by cases d <;> exact h)) (by kernel_rfl) Sa (fun w' hS => ?_) ?_
            rotate_left
            focus (have q0 := SSc.g w' hS; have q1 := SSc.g0 w' hS; have q2 := SSc.g1 w' hS; have q3 := SSc.g2 w' hS; have q4 := SSc.g3 w' hS; have q5 := SSc.g4 w' hS; have q6 := SSc.g5 w' hS; have q7 := SSc.g6 w' hS; clear hS; go_simp; try rfl; done)
            simp only [List.getElem_toArray, List.getElem_cons_succ, List.getElem_cons_zero, Act.put, List.setIfInBounds_toArray, List.set_cons_zero, List.set_cons_succ]
            refine hd_take (v := ?_) 4 rfl (by kernel_rfl) (fun _ _ d _ _ h => (by cases d <;> exact h)) (by kernel_rfl) Sa (fun w' hS => ?_) ?_
            rotate_left
            focus (have q0 := SSc.g w' hS; have q1 := SSc.g0 w' hS; have q2 := SSc.g1 w' hS; have q3 := SSc.g2 w' hS; have q4 := SSc.g3 w' hS; have q5 := SSc.g4 w' hS; have q6 := SSc.g5 w' hS; have q7 := SSc.g6 w' hS; clear hS; go_simp; try rfl; done)
            simp only [List.getElem_toArray, List.getElem_cons_succ, List.getElem_cons_zero, Act.put, List.setIfInBounds_toArray, List.set_cons_zero, List.set_cons_succ]
            refine hd_take (v := ?_) 5 rfl (by kernel_rfl) (fun _ _ d _ _ h => (by cases d <;> exact h)) (by kernel_rfl) Sa (fun w' hS => ?_) ?_
            rotate_left
            focus (have q0 := SSc.g w' hS; have q1 := SSc.g0 w' hS; have q2 := SSc.g1 w' hS; have q3 := SSc.g2 w' hS; have q4 := SSc.g3 w' hS; have q5 := SSc.g4 w' hS; have q6 := SSc.g5 w' hS; have q7 := SSc.g6 w' hS; clear hS; go_simp; try rfl; done)
            simp only [List.getElem_toArray, List.getElem_cons_succ, List.getElem_cons_zero, Act.put, List.setIfInBounds_toArray, List.set_cons_zero, List.set_cons_succ]
            refine hd_take (v := ?_) 6 rfl (by kernel_rfl) (fun _ _ d _ _ h => (by cases d <;> exact h)) (by kernel_rfl) Sa (fun w' hS => ?_) ?_
            rotate_left
            focus (have q0 := SSc.g w' hS; have q1 := SSc.g0 w' hS; have q2 := SSc.g1 w' hS; have q3 := SSc.g2 w' hS; have q4 := SSc.g3 w' hS; have q5 := SSc.g4 w' hS; have q6 := SSc.g5 w' hS; have q7 := SSc.g6 w' hS; clear hS; go_simp; try rfl; done)
            simp only [List.getElem_toArray, List.getElem_cons_succ, List.getElem_cons_zero, Act.put, List.setIfInBounds_toArray, List.set_cons_zero, List.set_cons_succ]
            refine hd_one 7 (by kernel_rfl) ?_
            refine op_call rfl (by kernel_rfl) (by go_simp; first | exact ⟨rfl, rfl⟩ | rfl) ?_
            refine (do_env Ha.out 0 rfl HR.out.o0 (by omega) s (HOK.out s (List.mem_of_getElem? HS.out))).mono ?_
            rintro e wb ⟨vx, rfl, hb⟩
            have hb : Env w wb [obPub p0 m0 k0 (nxD σ0 s), obPub p1 m1 k1 (σ1), obRP P0 (σ0), obRP P1 (σ1), obK A2 26 #[.pointer (some ⟨p0, 0, none⟩), .pointer (some ⟨p1, 0, none⟩)], obK R2 29 #[.pointer (some ⟨P0, 0, none⟩), .pointer (some ⟨P1, 0, none⟩)], obTR u7 ts, obTR u8 us, obTI u9 hs, obRuns vx (runsD σ0 s)] := hb
            have Hb := Lib.hid hb
            have hS2 := (hS2'.out _ _ hb).1
            have Sb := hS2
            clear hb
            refine ⟨_, rfl, hS2, ?_⟩
            simp only [List.getElem_toArray, List.getElem_cons_succ, List.getElem_cons_zero, Act.put, List.setIfInBounds_toArray, List.set_cons_zero, List.set_cons_succ]
            refine hd_take (v := ?_) 8 rfl (by kernel_rfl) (fun _ _ d _ _ h => (by cases d <;> exact h)) (by kernel_rfl) Sb (fun w' hS => ?_) ?_
            rotate_left
            focus (clear hS; go_simp; try rfl; done)
            simp only [List.getElem_toArray, List.getElem_cons_succ, List.getElem_cons_zero, Act.put, List.setIfInBounds_toArray, List.set_cons_zero, List.set_cons_succ]
            refine hd_take (v := ?_) 9 rfl (by kernel_rfl) (fun _ _ d _ _ h => (by cases d <;> exact h)) (by kernel_rfl) Sb (fun w' hS => ?_) ?_
            rotate_left
            focus (clear hS; go_simp; try rfl; done)
            simp only [List.getElem_toArray, List.getElem_cons_succ, List.getElem_cons_zero, Act.put, List.setIfInBounds_toArray, List.set_cons_zero, List.set_cons_succ]
            refine hd_take (v := ?_) 10 rfl (by kernel_rfl) (fun _ _ d _ _ h => (by cases d <;> exact h)) (by kernel_rfl) Sb (fun w' hS => ?_) ?_
            rotate_left
            focus (clear hS; go_simp; try rfl; done)
            simp only [List.getElem_toArray, List.getElem_cons_succ, List.getElem_cons_zero, Act.put, List.setIfInBounds_toArray, List.set_cons_zero, List.set_cons_succ]
            refine hd_take (v := ?_) 11 rfl (by kernel_rfl) (fun _ _ d _ _ h => (by cases d <;> exact h)) (by kernel_rfl) Sb (fun w' hS => ?_) ?_
            rotate_left
            focus (clear hS; go_simp; try rfl; done)
            simp only [List.getElem_toArray, List.getElem_cons_succ, List.getElem_cons_zero, Act.put, List.setIfInBounds_toArray, List.set_cons_zero, List.set_cons_succ]
            refine hd_take (v := ?_) 12 rfl (by kernel_rfl) (fun _ _ d _ _ h => (by cases d <;> exact h)) (by kernel_rfl) Sb (fun w' hS => ?_) ?_
            rotate_left
            focus (clear hS; go_simp; try rfl; done)
            simp only [List.getElem_toArray, List.getElem_cons_succ, List.getElem_cons_zero, Act.put, List.setIfInBounds_toArray, List.set_cons_zero, List.set_cons_succ]
            refine hd_done (by kernel_rfl) ?_
            obtain ⟨cd, hcd⟩ : ∃ c, codeD σ0 s = c := ⟨_, rfl⟩
            rw [hcd]
            have HCD := Lib.hid hcd
            clear Sa Sb Ha hS hcd
            go_upto_region 16 with fail
            refine hd_start (SSc R2 0 P0 b (off + j * 7) s) (by kernel_rfl) ?_
            intro wc hw'
            have Hc := Lib.hid (Hb.out.draw 1)
            rw [← hw'] at Hc
            clear hw' Hb
            have Sc := (hS2'.out _ _ Hc.out).2
            refine hd_take (v := ?_) 0 rfl (by kernel_rfl) (fun _ _ d _ _ h => (by cases d <;> exact h)) (by kernel_rfl) Sc (fun w' hS => ?_) ?_
            rotate_left
            focus (have q0 := SSc.g w' hS; have q1 := SSc.g0 w' hS; have q2 := SSc.g1 w' hS; have q3 := SSc.g2 w' hS; have q4 := SSc.g3 w' hS; have q5 := SSc.g4 w' hS; have q6 := SSc.g5 w' hS; have q7 := SSc.g6 w' hS; clear hS; go_simp; try rfl; done)
            simp only [List.getElem_toArray, List.getElem_cons_succ, List.getElem_cons_zero, Act.put, List.setIfInBounds_toArray, List.set_cons_zero, List.set_cons_succ]
            refine hd_take (v := ?_) 1 rfl (by kernel_rfl) (fun _ _ d _ _ h => (by cases d <;> exact h)) (by kernel_rfl) Sc (fun w' hS => ?_) ?_
            rotate_left
            focus (have q0 := SSc.g w' hS; have q1 := SSc.g0 w' hS; have q2 := SSc.g1 w' hS; have q3 := SSc.g2 w' hS; have q4 := SSc.g3 w' hS; have q5 := SSc.g4 w' hS; have q6 := SSc.g5 w' hS; have q7 := SSc.g6 w' hS; clear hS; go_simp; try rfl; done)
            simp only [List.getElem_toArray, List.getElem_cons_succ, List.getElem_cons_zero, Act.put, List.setIfInBounds_toArray, List.set_cons_zero, List.set_cons_succ]
            refine hd_take (v := ?_) 2 rfl (by kernel_rfl) (fun _ _ d _ _ h => (by cases d <;> exact h)) (by kernel_rfl) Sc (fun w' hS => ?_) ?_
            rotate_left
            focus (have q0 := SSc.g w' hS; have q1 := SSc.g0 w' hS; have q2 := SSc.g1 w' hS; have q3 := SSc.g2 w' hS; have q4 := SSc.g3 w' hS; have q5 := SSc.g4 w' hS; have q6 := SSc.g5 w' hS; have q7 := SSc.g6 w' hS; clear hS; go_simp; try rfl; done)
            simp only [List.getElem_toArray, List.getElem_cons_succ, List.getElem_cons_zero, Act.put, List.setIfInBounds_toArray, List.set_cons_zero, List.set_cons_succ]
            refine hd_take (v := ?_) 3 rfl (by kernel_rfl) (fun _ _ d _ _ h => (by cases d <;> exact h)) (by kernel_rfl) Sc (fun w' hS => ?_) ?_
            rotate_left
            focus (have q0 := SSc.g w' hS; have q1 := SSc.g0 w' hS; have q2 := SSc.g1 w' hS; have q3 := SSc.g2 w' hS; have q4 := SSc.g3 w' hS; have q5 := SSc.g4 w' hS; have q6 := SSc.g5 w' hS; have q7 := SSc.g6 w' hS; clear hS; go_simp; try rfl; done)
            simp only [List.getElem_toArray, List.getElem_cons_succ, List.getElem_cons_zero, Act.put, List.setIfInBounds_toArray, List.set_cons_zero, List.set_cons_succ]
            refine hd_take (v := ?_) 4 rfl (by kernel_rfl) (fun _ _ d _ _ h => (by cases d <;> exact h)) (by kernel_rfl) Sc (fun w' hS => ?_) ?_
            rotate_left
            focus (have q0 := SSc.g w' hS; have q1 := SSc.g0 w' hS; have q2 := SSc.g1 w' hS; have q3 := SSc.g2 w' hS; have q4 := SSc.g3 w' hS; have q5 := SSc.g4 w' hS; have q6 := SSc.g5 w' hS; have q7 := SSc.g6 w' hS; clear hS; go_simp; try rfl; done)
            simp only [List.getElem_toArray, List.getElem_cons_succ, List.getElem_cons_zero, Act.put, List.setIfInBounds_toArray, List.set_cons_zero, List.set_cons_succ]
            refine hd_take (v := ?_) 5 rfl (by kernel_rfl) (fun _ _ d _ _ h => (by cases d <;> exact h)) (by kernel_rfl) Sc (fun w' hS => ?_) ?_
            rotate_left
            focus (have q0 := SSc.g w' hS; have q1 := SSc.g0 w' hS; have q2 := SSc.g1 w' hS; have q3 := SSc.g2 w' hS; have q4 := SSc.g3 w' hS; have q5 := SSc.g4 w' hS; have q6 := SSc.g5 w' hS; have q7 := SSc.g6 w' hS; clear hS; go_simp; try rfl; done)
            simp only [List.getElem_toArray, List.getElem_cons_succ, List.getElem_cons_zero, Act.put, List.setIfInBounds_toArray, List.set_cons_zero, List.set_cons_succ]
            refine hd_take (v := ?_) 6 rfl (by kernel_rfl) (fun _ _ d _ _ h => (by cases d <;> exact h)) (by kernel_rfl) Sc (fun w' hS => ?_) ?_
            rotate_left
            focus (have q0 := SSc.g w' hS; have q1 := SSc.g0 w' hS; have q2 := SSc.g1 w' hS; have q3 := SSc.g2 w' hS; have q4 := SSc.g3 w' hS; have q5 := SSc.g4 w' hS; have q6 := SSc.g5 w' hS; have q7 := SSc.g6 w' hS; clear hS; go_simp; try rfl; done)
            simp only [List.getElem_toArray, List.getElem_cons_succ, List.getElem_cons_zero, Act.put, List.setIfInBounds_toArray, List.set_cons_zero, List.set_cons_succ]
            refine hd_one 7 (by kernel_rfl) ?_
            refine op_call rfl (by kernel_rfl) (by go_simp; first | exact ⟨rfl, rfl⟩ | rfl) ?_
            refine (rdo_env Hc.out 2 rfl HR.out.o0 (by omega) s (HOK.out s (List.mem_of_getElem? HS.out))).mono ?_
            rintro e wd ⟨vy, rfl, hd⟩
            have hd : Env w wd [obPub p0 m0 k0 (nxD σ0 s), obPub p1 m1 k1 (σ1), obRP P0 (nxD σ0 s), obRP P1 (σ1), obK A2 26 #[.pointer (some ⟨p0, 0, none⟩), .pointer (some ⟨p1, 0, none⟩)], obK R2 29 #[.pointer (some ⟨P0, 0, none⟩), .pointer (some ⟨P1, 0, none⟩)], obTR u7 ts, obTR u8 us, obTI u9 hs, obRuns vx (runsD σ0 s), obRuns vy (runsD σ0 s)] := hd
            have Hd := Lib.hid hd
            have hS2 := hS3.out _ _ _ hd
            have Sd := hS2
            clear hd
            refine ⟨_, rfl, hS2, ?_⟩
            simp only [List.getElem_toArray, List.getElem_cons_succ, List.getElem_cons_zero, Act.put, List.setIfInBounds_toArray, List.set_cons_zero, List.set_cons_succ]
            rw [HCD.out]
            refine hd_take (v := ?_) 8 rfl (by kernel_rfl) (fun _ _ d _ _ h => (by cases d <;> exact h)) (by kernel_rfl) Sd (fun w' hS => ?_) ?_
            rotate_left
            focus (clear hS; go_simp; try rfl; done)
            simp only [List.getElem_toArray, List.getElem_cons_succ, List.getElem_cons_zero, Act.put, List.setIfInBounds_toArray, List.set_cons_zero, List.set_cons_succ]
            refine hd_take (v := ?_) 9 rfl (by kernel_rfl) (fun _ _ d _ _ h => (by cases d <;> exact h)) (by kernel_rfl) Sd (fun w' hS => ?_) ?_
            rotate_left
            focus (clear hS; go_simp; try rfl; done)
            simp only [List.getElem_toArray, List.getElem_cons_succ, List.getElem_cons_zero, Act.put, List.setIfInBounds_toArray, List.set_cons_zero, List.set_cons_succ]
            refine hd_take (v := ?_) 10 rfl (by kernel_rfl) (fun _ _ d _ _ h => (by cases d <;> exact h)) (by kernel_rfl) Sd (fun w' hS => ?_) ?_
            rotate_left
            focus (clear hS; go_simp; try rfl; done)
            simp only [List.getElem_toArray, List.getElem_cons_succ, List.getElem_cons_zero, Act.put, List.setIfInBounds_toArray, List.set_cons_zero, List.set_cons_succ]
            refine hd_take (v := ?_) 11 rfl (by kernel_rfl) (fun _ _ d _ _ h => (by cases d <;> exact h)) (by kernel_rfl) Sd (fun w' hS => ?_) ?_
            rotate_left
            focus (clear hS; go_simp; try rfl; done)
            simp only [List.getElem_toArray, List.getElem_cons_succ, List.getElem_cons_zero, Act.put, List.setIfInBounds_toArray, List.set_cons_zero, List.set_cons_succ]
            refine hd_take (v := ?_) 12 rfl (by kernel_rfl) (fun _ _ d _ _ h => (by cases d <;> exact h)) (by kernel_rfl) Sd (fun w' hS => ?_) ?_
            rotate_left
            focus (clear hS; go_simp; try rfl; done)
            simp only [List.getElem_toArray, List.getElem_cons_succ, List.getElem_cons_zero, Act.put, List.setIfInBounds_toArray, List.set_cons_zero, List.set_cons_succ]
            refine hd_done (by kernel_rfl) ?_
            clear Sc Sd Hc hS2' hS3
            have y0 : wd.cell? ⟨A2, 0, none⟩ = some (.pointer (some ⟨p0, 0, none⟩)) := (Hd.out.blk 4 (b := A2) rfl).cellAt 0 rfl
            go_wp2_with fail
            clear y0
            refine (held_env Hd.out 0 rfl).mono ?_
            rintro e we ⟨hx, rfl, he⟩
            have he : Env w we [obPub p0 m0 k0 (nxD σ0 s), obPub p1 m1 k1 (σ1), obRP P0 (nxD σ0 s), obRP P1 (σ1), obK A2 26 #[.pointer (some ⟨p0, 0, none⟩), .pointer (some ⟨p1, 0, none⟩)], obK R2 29 #[.pointer (some ⟨P0, 0, none⟩), .pointer (some ⟨P1, 0, none⟩)], obTR u7 ts, obTR u8 us, obTI u9 hs, obRuns vx (runsD σ0 s), obRuns vy (runsD σ0 s), KI.ob hx (heldL (nxD σ0 s))] := he
            have He := Lib.hid he
            clear he Hd
            go_wp2_with fail
            refine (sameRuns_env' He.out (He.out.runs 9 rfl).rd (He.out.runs 10 rfl).rd).mono ?_
            rintro e wf ⟨heq, hf⟩
            rw [decide_eq_true rfl] at heq
            subst heq
            have Hf := Lib.hid hf
            have y1 : wf.cell? ⟨R2, 0, none⟩ = some (.pointer (some ⟨P0, 0, none⟩)) := (Hf.out.blk 5 (b := R2) rfl).cellAt 0 rfl
            clear hf He
            go_wp2_with fail
            clear y1
            refine (rheld_env Hf.out 2 rfl).mono ?_
            rintro e wg ⟨hy, rfl, hg⟩
            have hg : Env w wg [obPub p0 m0 k0 (nxD σ0 s), obPub p1 m1 k1 (σ1), obRP P0 (nxD σ0 s), obRP P1 (σ1), obK A2 26 #[.pointer (some ⟨p0, 0, none⟩), .pointer (some ⟨p1, 0, none⟩)], obK R2 29 #[.pointer (some ⟨P0, 0, none⟩), .pointer (some ⟨P1, 0, none⟩)], obTR u7 ts, obTR u8 us, obTI u9 hs, obRuns vx (runsD σ0 s), obRuns vy (runsD σ0 s), KI.ob hx (heldL (nxD σ0 s)), KI.ob hy (heldL (nxD σ0 s))] := hg
            have ka : KI.R wg hx (heldL (nxD σ0 s)) := hg.kR 11 rfl
            have kb : KI.R wg hy (heldL (nxD σ0 s)) := hg.kR 12 rfl
            have HKK := Lib.hid (And.intro ka kb)
            have Hg := Lib.hid hg
            clear hg Hf ka kb
            go_wp2_with fail
            refine (sameI_any _ _ _ _ _ HKK.out.1 HKK.out.2).mono ?_
            rintro e wh ⟨heq, n, hn⟩
            rw [sameL_refl eqI (fun x => by simp [eqI])] at heq
            subst heq
            have hh := Hg.out.draw n
            rw [← hn] at hh
            have hi : Env w wh [obPub p0 m0 k0 (nxD σ0 s), obPub p1 m1 k1 (σ1), obRP P0 (nxD σ0 s), obRP P1 (σ1), obK A2 26 #[.pointer (some ⟨p0, 0, none⟩), .pointer (some ⟨p1, 0, none⟩)], obK R2 29 #[.pointer (some ⟨P0, 0, none⟩), .pointer (some ⟨P1, 0, none⟩)], obTR u7 ts, obTR u8 us, obTI u9 hs, KI.ob hx (heldL (nxD σ0 s)), obRuns vy (runsD σ0 s), obRuns vx (runsD σ0 s)] := by
              refine Env.pick hh (fun j => [0, 1, 2, 3, 4, 5, 6, 7, 8, 11, 10, 9].getD j 0) ?_ ?_
              · intro i j hi hj
                simp at hi hj
                exact (by decide : ∀ i, i < 12 → ∀ j, j < 12 → [0, 1, 2, 3, 4, 5, 6, 7, 8, 11, 10, 9].getD i 0 = [0, 1, 2, 3, 4, 5, 6, 7, 8, 11, 10, 9].getD j 0 → i = j) i hi j hj
              · intro j ob hj
                match j, hj with
                | 0, hj => exact hj
                | 1, hj => exact hj
                | 2, hj => exact hj
                | 3, hj => exact hj
                | 4, hj => exact hj
                | 5, hj => exact hj
                | 6, hj => exact hj
                | 7, hj => exact hj
                | 8, hj => exact hj
                | 9, hj => exact hj
                | 10, hj => exact hj
                | 11, hj => exact hj
                | n + 12, hj => simp at hj
            obtain ⟨xo, xc, hxe, _, _, _⟩ := (show KI.R wh hx (heldL (nxD σ0 s)) from hi.kR 9 rfl).any
            obtain ⟨yo, yc, hye, _, _, _⟩ := (show KN.R wh vy (runsD σ0 s) from hi.kR 10 rfl).any
            obtain ⟨zo, zc, hze, _, _, _⟩ := (show KN.R wh vx (runsD σ0 s) from hi.kR 11 rfl).any
            subst hxe hye hze
            obtain ⟨r, hr⟩ : ∃ r, runsD σ0 s = r := ⟨_, rfl⟩
            obtain ⟨hl, hhl⟩ : ∃ r, heldL (nxD σ0 s) = r := ⟨_, rfl⟩
            have hr5 : r.length ≤ 5 := by rw [← hr]; exact runsD_lenB _ _
            have hl64 : hl.length ≤ 64 := by rw [← hhl]; exact heldL_len _
            rw [hr, hhl] at hi
            rw [hr, hhl]
            have Hi := Lib.hid hi
            have HLN := Lib.hid (And.intro hr5 hl64)
            have htl1 : ts.length ≤ 5000000000000 := by have := HR.out.lt; omega
            have htl2 : us.length ≤ 5000000000000 := by have := HR.out.lu; omega
            have htl3 : hs.length ≤ 5000000000000 := by have := HR.out.lh; omega
            clear hh hi hn Hg HKK hr hhl hr5 hl64
            go_wp2_with (at_builtin; refine wpList_append_TR (obs := [obPub p0 m0 k0 (nxD σ0 s), obPub p1 m1 k1 (σ1), obRP P0 (nxD σ0 s), obRP P1 (σ1), obK A2 26 #[.pointer (some ⟨p0, 0, none⟩), .pointer (some ⟨p1, 0, none⟩)], obK R2 29 #[.pointer (some ⟨P0, 0, none⟩), .pointer (some ⟨P1, 0, none⟩)], obTR u7 ts, obTR u8 us, obTI u9 hs, KI.ob (.slice xo hl.length xc) hl, obRuns (.slice yo r.length yc) r]) Hi.out 6 rfl _ _ rfl rfl rfl rfl htl1 ?_)
            intro told2 wj hj1
            have Hj : Hid (Env w wj [obPub p0 m0 k0 (nxD σ0 s), obPub p1 m1 k1 (σ1), obRP P0 (nxD σ0 s), obRP P1 (σ1), obK A2 26 #[.pointer (some ⟨p0, 0, none⟩), .pointer (some ⟨p1, 0, none⟩)], obK R2 29 #[.pointer (some ⟨P0, 0, none⟩), .pointer (some ⟨P1, 0, none⟩)], obTR told2 (ts ++ [((.slice zo r.length zc : Value), r)]), obTR u8 us, obTI u9 hs, KI.ob (.slice xo hl.length xc) hl, obRuns (.slice yo r.length yc) r]) := Lib.hid hj1
            clear hj1 Hi
            go_wp2_with (at_builtin; refine wpList_append_TR (obs := [obPub p0 m0 k0 (nxD σ0 s), obPub p1 m1 k1 (σ1), obRP P0 (nxD σ0 s), obRP P1 (σ1), obK A2 26 #[.pointer (some ⟨p0, 0, none⟩), .pointer (some ⟨p1, 0, none⟩)], obK R2 29 #[.pointer (some ⟨P0, 0, none⟩), .pointer (some ⟨P1, 0, none⟩)], obTR told2 (ts ++ [((.slice zo r.length zc : Value), r)]), obTR u8 us, obTI u9 hs, KI.ob (.slice xo hl.length xc) hl]) Hj.out 7 rfl _ _ rfl rfl rfl rfl htl2 ?_)
            intro wants2 wk hk1
            have Hk : Hid (Env w wk [obPub p0 m0 k0 (nxD σ0 s), obPub p1 m1 k1 (σ1), obRP P0 (nxD σ0 s), obRP P1 (σ1), obK A2 26 #[.pointer (some ⟨p0, 0, none⟩), .pointer (some ⟨p1, 0, none⟩)], obK R2 29 #[.pointer (some ⟨P0, 0, none⟩), .pointer (some ⟨P1, 0, none⟩)], obTR told2 (ts ++ [((.slice zo r.length zc : Value), r)]), obTR wants2 (us ++ [((.slice yo r.length yc : Value), r)]), obTI u9 hs, KI.ob (.slice xo hl.length xc) hl]) := Lib.hid hk1
            clear hk1 Hj
            go_wp2_with (at_builtin; refine wpList_append_TI (obs := [obPub p0 m0 k0 (nxD σ0 s), obPub p1 m1 k1 (σ1), obRP P0 (nxD σ0 s), obRP P1 (σ1), obK A2 26 #[.pointer (some ⟨p0, 0, none⟩), .pointer (some ⟨p1, 0, none⟩)], obK R2 29 #[.pointer (some ⟨P0, 0, none⟩), .pointer (some ⟨P1, 0, none⟩)], obTR told2 (ts ++ [((.slice zo r.length zc : Value), r)]), obTR wants2 (us ++ [((.slice yo r.length yc : Value), r)]), obTI u9 hs]) Hk.out 8 rfl _ _ rfl rfl rfl rfl htl3 ?_)
            intro hu2 wl hl1
            have Hl : Hid (Env w wl [obPub p0 m0 k0 (nxD σ0 s), obPub p1 m1 k1 (σ1), obRP P0 (nxD σ0 s), obRP P1 (σ1), obK A2 26 #[.pointer (some ⟨p0, 0, none⟩), .pointer (some ⟨p1, 0, none⟩)], obK R2 29 #[.pointer (some ⟨P0, 0, none⟩), .pointer (some ⟨P1, 0, none⟩)], obTR told2 (ts ++ [((.slice zo r.length zc : Value), r)]), obTR wants2 (us ++ [((.slice yo r.length yc : Value), r)]), obTI hu2 (hs ++ [((.slice xo hl.length xc : Value), hl)])]) := Lib.hid hl1
            clear hl1 Hk htl1 htl2 htl3
            have HR2 : Hid (Scr (j + 1) (nxD σ0 s) σ1 (ts ++ [((.slice zo r.length zc : Value), r)]) (us ++ [((.slice yo r.length yc : Value), r)]) (hs ++ [((.slice xo hl.length xc : Value), hl)])) := Lib.hid (HR.out.step (HR.out.o0.step2 s) HR.out.o1.up2 HLN.out.1 HLN.out.2)
            go_wp2_with fail
            refine ⟨⟨j + 1, _, _, _, _, _, by omega, rfl, HR2, Hl⟩, ?_⟩
            have q9 : l.length - ((j : Int) + 1).toNat < l.length - ((j : Int)).toNat := by omega
            exact q9
          · go_upto_region 15 with fail
            clear t5 bt
            have hS : Hid (∀ W, Env w W [obPub p0 m0 k0 (σ0), obPub p1 m1 k1 (σ1), obRP P0 (σ0), obRP P1 (σ1), obK A2 26 #[.pointer (some ⟨p0, 0, none⟩), .pointer (some ⟨p1, 0, none⟩)], obK R2 29 #[.pointer (some ⟨P0, 0, none⟩), .pointer (some ⟨P1, 0, none⟩)], obTR u7 ts, obTR u8 us, obTI u9 hs] → SSc A2 1 p1 b (off + j * 7) s W) := Lib.hid fun W hW => ⟨(hW.blk 4 (b := A2) rfl).cellAt 1 rfl, skElemS (hW.oldK HV.out) HS.out⟩
            have hS2' : Hid (∀ W vx, Env w W [obPub p0 m0 k0 (σ0), obPub p1 m1 k1 (nxD σ1 s), obRP P0 (σ0), obRP P1 (σ1), obK A2 26 #[.pointer (some ⟨p0, 0, none⟩), .pointer (some ⟨p1, 0, none⟩)], obK R2 29 #[.pointer (some ⟨P0, 0, none⟩), .pointer (some ⟨P1, 0, none⟩)], obTR u7 ts, obTR u8 us, obTI u9 hs, obRuns vx (runsD σ1 s)] → SSc A2 1 p1 b (off + j * 7) s W ∧ SSc R2 1 P1 b (off + j * 7) s W) := Lib.hid fun W vx hW => ⟨⟨(hW.blk 4 (b := A2) rfl).cellAt 1 rfl, skElemS (hW.oldK HV.out) HS.out⟩, ⟨(hW.blk 5 (b := R2) rfl).cellAt 1 rfl, skElemS (hW.oldK HV.out) HS.out⟩⟩
            have hS3 : Hid (∀ W vx vy, Env w W [obPub p0 m0 k0 (σ0), obPub p1 m1 k1 (nxD σ1 s), obRP P0 (σ0), obRP P1 (nxD σ1 s), obK A2 26 #[.pointer (some ⟨p0, 0, none⟩), .pointer (some ⟨p1, 0, none⟩)], obK R2 29 #[.pointer (some ⟨P0, 0, none⟩), .pointer (some ⟨P1, 0, none⟩)], obTR u7 ts, obTR u8 us, obTI u9 hs, obRuns vx (runsD σ1 s), obRuns vy (runsD σ1 s)] → SSc R2 1 P1 b (off + j * 7) s W) := Lib.hid fun W vx vy hW => ⟨(hW.blk 5 (b := R2) rfl).cellAt 1 rfl, skElemS (hW.oldK HV.out) HS.out⟩
            refine hd_start (SSc A2 1 p1 b (off + j * 7) s) (by kernel_rfl) ?_
            intro wa hw'
            have Ha := Lib.hid (HK.out.draw 1)
            rw [← hw'] at Ha
            clear hw' HK
            have Sa := hS.out _ Ha.out
            refine hd_take (v := ?_) 0 rfl (by kernel_rfl) (fun _ _ d _ _ h => (by cases d <;> exact h)) (by kernel_rfl) Sa (fun w' hS => ?_) ?_
            rotate_left
            focus (have q0 := SSc.g w' hS; have q1 := SSc.g0 w' hS; have q2 := SSc.g1 w' hS; have q3 := SSc.g2 w' hS; have q4 := SSc.g3 w' hS; have q5 := SSc.g4 w' hS; have q6 := SSc.g5 w' hS; have q7 := SSc.g6 w' hS; clear hS; go_simp; try rfl; done)
            simp only [List.getElem_toArray, List.getElem_cons_succ, List.getElem_cons_zero, Act.put, List.setIfInBounds_toArray, List.set_cons_zero, List.set_cons_succ]
            refine hd_take (v := ?_) 1 rfl (by kernel_rfl) (fun _ _ d _ _ h => (by cases d <;> exact h)) (by kernel_rfl) Sa (fun w' hS => ?_) ?_
            rotate_left
            focus (have q0 := SSc.g w' hS; have q1 := SSc.g0 w' hS; have q2 := SSc.g1 w' hS; have q3 := SSc.g2 w' hS; have q4 := SSc.g3 w' hS; have q5 := SSc.g4 w' hS; have q6 := SSc.g5 w' hS; have q7 := SSc.g6 w' hS; clear hS; go_simp; try rfl; done)
            simp only [List.getElem_toArray, List.getElem_cons_succ, List.getElem_cons_zero, Act.put, List.setIfInBounds_toArray, List.set_cons_zero, List.set_cons_succ]
            refine hd_take (v := ?_) 2 rfl (by kernel_rfl) (fun _ _ d _ _ h => (by cases d <;> exact h)) (by kernel_rfl) Sa (fun w' hS => ?_) ?_
            rotate_left
            focus (have q0 := SSc.g w' hS; have q1 := SSc.g0 w' hS; have q2 := SSc.g1 w' hS; have q3 := SSc.g2 w' hS; have q4 := SSc.g3 w' hS; have q5 := SSc.g4 w' hS; have q6 := SSc.g5 w' hS; have q7 := SSc.g6 w' hS; clear hS; go_simp; try rfl; done)
            simp only [List.getElem_toArray, List.getElem_cons_succ, List.getElem_cons_zero, Act.put, List.setIfInBounds_toArray, List.set_cons_zero, List.set_cons_succ]
            refine hd_take (v := ?_) 3 rfl (by kernel_rfl) (fun _ _ d _ _ h => (by cases d <;> exact h)) (by kernel_rfl) Sa (fun w' hS => ?_) ?_
            rotate_left
            focus (have q0 := SSc.g w' hS; have q1 := SSc.g0 w' hS; have q2 := SSc.g1 w' hS; have q3 := SSc.g2 w' hS; have q4 := SSc.g3 w' hS; have q5 := SSc.g4 w' hS; have q6 := SSc.g5 w' hS; have q7 := SSc.g6 w' hS; clear hS; go_simp; try rfl; done)
            simp only [List.getElem_toArray, List.getElem_cons_succ, List.getElem_cons_zero, Act.put, List.setIfInBounds_toArray, List.set_cons_zero, List.set_cons_succ]
            refine hd_take (v := ?_) 4 rfl (by kernel_rfl) (fun _ _ d _ _ h => (by cases d <;> exact h)) (by kernel_rfl) Sa (fun w' hS => ?_) ?_
            rotate_left
            focus (have q0 := SSc.g w' hS; have q1 := SSc.g0 w' hS; have q2 := SSc.g1 w' hS; have q3 := SSc.g2 w' hS; have q4 := SSc.g3 w' hS; have q5 := SSc.g4 w' hS; have q6 := SSc.g5 w' hS; have q7 := SSc.g6 w' hS; clear hS; go_simp; try rfl; done)
            simp only [List.getElem_toArray, List.getElem_cons_succ, List.getElem_cons_zero, Act.put, List.setIfInBounds_toArray, List.set_cons_zero, List.set_cons_succ]
            refine hd_take (v := ?_) 5 rfl (by kernel_rfl) (fun _ _ d _ _ h => (by cases d <;> exact h)) (by kernel_rfl) Sa (fun w' hS => ?_) ?_
            rotate_left
            focus (have q0 := SSc.g w' hS; have q1 := SSc.g0 w' hS; have q2 := SSc.g1 w' hS; have q3 := SSc.g2 w' hS; have q4 := SSc.g3 w' hS; have q5 := SSc.g4 w' hS; have q6 := SSc.g5 w' hS; have q7 := SSc.g6 w' hS; clear hS; go_simp; try rfl; done)
            simp only [List.getElem_toArray, List.getElem_cons_succ, List.getElem_cons_zero, Act.put, List.setIfInBounds_toArray, List.set_cons_zero, List.set_cons_succ]
            refine hd_take (v := ?_) 6 rfl (by kernel_rfl) (fun _ _ d _ _ h => (by cases d <;> exact h)) (by kernel_rfl) Sa (fun w' hS => ?_) ?_
            rotate_left
            focus (have q0 := SSc.g w' hS; have q1 := SSc.g0 w' hS; have q2 := SSc.g1 w' hS; have q3 := SSc.g2 w' hS; have q4 := SSc.g3 w' hS; have q5 := SSc.g4 w' hS; have q6 := SSc.g5 w' hS; have q7 := SSc.g6 w' hS; clear hS; go_simp; try rfl; done)
            simp only [List.getElem_toArray, List.getElem_cons_succ, List.getElem_cons_zero, Act.put, List.setIfInBounds_toArray, List.set_cons_zero, List.set_cons_succ]
            refine hd_one 7 (by kernel_rfl) ?_
            refine op_call rfl (by kernel_rfl) (by go_simp; first | exact ⟨rfl, rfl⟩ | rfl) ?_
            refine (do_env Ha.out 1 rfl HR.out.o1 (by omega) s (HOK.out s (List.mem_of_getElem? HS.out))).mono ?_
            rintro e wb ⟨vx, rfl, hb⟩
            have hb : Env w wb [obPub p0 m0 k0 (σ0), obPub p1 m1 k1 (nxD σ1 s), obRP P0 (σ0), obRP P1 (σ1), obK A2 26 #[.pointer (some ⟨p0, 0, none⟩), .pointer (some ⟨p1, 0, none⟩)], obK R2 29 #[.pointer (some ⟨P0, 0, none⟩), .pointer (some ⟨P1, 0, none⟩)], obTR u7 ts, obTR u8 us, obTI u9 hs, obRuns vx (runsD σ1 s)] := hb
            have Hb := Lib.hid hb
            have hS2 := (hS2'.out _ _ hb).1
            have Sb := hS2
            clear hb
            refine ⟨_, rfl, hS2, ?_⟩
            simp only [List.getElem_toArray, List.getElem_cons_succ, List.getElem_cons_zero, Act.put, List.setIfInBounds_toArray, List.set_cons_zero, List.set_cons_succ]
            refine hd_take (v := ?_) 8 rfl (by kernel_rfl) (fun _ _ d _ _ h => (by cases d <;> exact h)) (by kernel_rfl) Sb (fun w' hS => ?_) ?_
            rotate_left
            focus (clear hS; go_simp; try rfl; done)
            simp only [List.getElem_toArray, List.getElem_cons_succ, List.getElem_cons_zero, Act.put, List.setIfInBounds_toArray, List.set_cons_zero, List.set_cons_succ]
            refine hd_take (v := ?_) 9 rfl (by kernel_rfl) (fun _ _ d _ _ h => (by cases d <;> exact h)) (by kernel_rfl) Sb (fun w' hS => ?_) ?_
            rotate_left
            focus (clear hS; go_simp; try rfl; done)
            simp only [List.getElem_toArray, List.getElem_cons_succ, List.getElem_cons_zero, Act.put, List.setIfInBounds_toArray, List.set_cons_zero, List.set_cons_succ]
            refine hd_take (v := ?_) 10 rfl (by kernel_rfl) (fun _ _ d _ _ h => (by cases d <;> exact h)) (by kernel_rfl) Sb (fun w' hS => ?_) ?_
            rotate_left
            focus (clear hS; go_simp; try rfl; done)
            simp only [List.getElem_toArray, List.getElem_cons_succ, List.getElem_cons_zero, Act.put, List.setIfInBounds_toArray, List.set_cons_zero, List.set_cons_succ]
            refine hd_take (v := ?_) 11 rfl (by kernel_rfl) (fun _ _ d _ _ h => (by cases d <;> exact h)) (by kernel_rfl) Sb (fun w' hS => ?_) ?_
            rotate_left
            focus (clear hS; go_simp; try rfl; done)
            simp only [List.getElem_toArray, List.getElem_cons_succ, List.getElem_cons_zero, Act.put, List.setIfInBounds_toArray, List.set_cons_zero, List.set_cons_succ]
            refine hd_take (v := ?_) 12 rfl (by kernel_rfl) (fun _ _ d _ _ h => (by cases d <;> exact h)) (by kernel_rfl) Sb (fun w' hS => ?_) ?_
            rotate_left
            focus (clear hS; go_simp; try rfl; done)
            simp only [List.getElem_toArray, List.getElem_cons_succ, List.getElem_cons_zero, Act.put, List.setIfInBounds_toArray, List.set_cons_zero, List.set_cons_succ]
            refine hd_done (by kernel_rfl) ?_
            obtain ⟨cd, hcd⟩ : ∃ c, codeD σ1 s = c := ⟨_, rfl⟩
            rw [hcd]
            have HCD := Lib.hid hcd
            clear Sa Sb Ha hS hcd
            go_upto_region 16 with fail
            refine hd_start (SSc R2 1 P1 b (off + j * 7) s) (by kernel_rfl) ?_
            intro wc hw'
            have Hc := Lib.hid (Hb.out.draw 1)
            rw [← hw'] at Hc
            clear hw' Hb
            have Sc := (hS2'.out _ _ Hc.out).2
            refine hd_take (v := ?_) 0 rfl (by kernel_rfl) (fun _ _ d _ _ h => (by cases d <;> exact h)) (by kernel_rfl) Sc (fun w' hS => ?_) ?_
            rotate_left
            focus (have q0 := SSc.g w' hS; have q1 := SSc.g0 w' hS; have q2 := SSc.g1 w' hS; have q3 := SSc.g2 w' hS; have q4 := SSc.g3 w' hS; have q5 := SSc.g4 w' hS; have q6 := SSc.g5 w' hS; have q7 := SSc.g6 w' hS; clear hS; go_simp; try rfl; done)
            simp only [List.getElem_toArray, List.getElem_cons_succ, List.getElem_cons_zero, Act.put, List.setIfInBounds_toArray, List.set_cons_zero, List.set_cons_succ]
            refine hd_take (v := ?_) 1 rfl (by kernel_rfl) (fun _ _ d _ _ h => (by cases d <;> exact h)) (by kernel_rfl) Sc (fun w' hS => ?_) ?_
            rotate_left
            focus (have q0 := SSc.g w' hS; have q1 := SSc.g0 w' hS; have q2 := SSc.g1 w' hS; have q3 := SSc.g2 w' hS; have q4 := SSc.g3 w' hS; have q5 := SSc.g4 w' hS; have q6 := SSc.g5 w' hS; have q7 := SSc.g6 w' hS; clear hS; go_simp; try rfl; done)
            simp only [List.getElem_toArray, List.getElem_cons_succ, List.getElem_cons_zero, Act.put, List.setIfInBounds_toArray, List.set_cons_zero, List.set_cons_succ]
            refine hd_take (v := ?_) 2 rfl (by kernel_rfl) (fun _ _ d _ _ h => (by cases d <;> exact h)) (by kernel_rfl) Sc (fun w' hS => ?_) ?_
            rotate_left
            focus (have q0 := SSc.g w' hS; have q1 := SSc.g0 w' hS; have q2 := SSc.g1 w' hS; have q3 := SSc.g2 w' hS; have q4 := SSc.g3 w' hS; have q5 := SSc.g4 w' hS; have q6 := SSc.g5 w' hS; have q7 := SSc.g6 w' hS; clear hS; go_simp; try rfl; done)
            simp only [List.getElem_toArray, List.getElem_cons_succ, List.getElem_cons_zero, Act.put, List.setIfInBounds_toArray, List.set_cons_zero, List.set_cons_succ]
            refine hd_take (v := ?_) 3 rfl (by kernel_rfl) (fun _ _ d _ _ h => (by cases d <;> exact h)) (by kernel_rfl) Sc (fun w' hS => ?_) ?_
            rotate_left
            focus (have q0 := SSc.g w' hS; have q1 := SSc.g0 w' hS; have q2 := SSc.g1 w' hS; have q3 := SSc.g2 w' hS; have q4 := SSc.g3 w' hS; have q5 := SSc.g4 w' hS; have q6 := SSc.g5 w' hS; have q7 := SSc.g6 w' hS; clear hS; go_simp; try rfl; done)
            simp only [List.getElem_toArray, List.getElem_cons_succ, List.getElem_cons_zero, Act.put, List.setIfInBounds_toArray, List.set_cons_zero, List.set_cons_succ]
            refine hd_take (v := ?_) 4 rfl (by kernel_rfl) (fun _ _ d _ _ h => (by cases d <;> exact h)) (by kernel_rfl) Sc (fun w' hS => ?_) ?_
            rotate_left
            focus (have q0 := SSc.g w' hS; have q1 := SSc.g0 w' hS; have q2 := SSc.g1 w' hS; have q3 := SSc.g2 w' hS; have q4 := SSc.g3 w' hS; have q5 := SSc.g4 w' hS; have q6 := SSc.g5 w' hS; have q7 := SSc.g6 w' hS; clear hS; go_simp; try rfl; done)
            simp only [List.getElem_toArray, List.getElem_cons_succ, List.getElem_cons_zero, Act.put, List.setIfInBounds_toArray, List.set_cons_zero, List.set_cons_succ]
            refine hd_take (v := ?_) 5 rfl (by kernel_rfl) (fun _ _ d _ _ h => (by cases d <;> exact h)) (by kernel_rfl) Sc (fun w' hS => ?_) ?_
            rotate_left
            focus (have q0 := SSc.g w' hS; have q1 := SSc.g0 w' hS; have q2 := SSc.g1 w' hS; have q3 := SSc.g2 w' hS; have q4 := SSc.g3 w' hS; have q5 := SSc.g4 w' hS; have q6 := SSc.g5 w' hS; have q7 := SSc.g6 w' hS; clear hS; go_simp; try rfl; done)
            simp only [List.getElem_toArray, List.getElem_cons_succ, List.getElem_cons_zero, Act.put, List.setIfInBounds_toArray, List.set_cons_zero, List.set_cons_succ]
            refine hd_take (v := ?_) 6 rfl (by kernel_rfl) (fun _ _ d _ _ h => (by cases d <;> exact h)) (by kernel_rfl) Sc (fun w' hS => ?_) ?_
            rotate_left
            focus (have q0 := SSc.g w' hS; have q1 := SSc.g0 w' hS; have q2 := SSc.g1 w' hS; have q3 := SSc.g2 w' hS; have q4 := SSc.g3 w' hS; have q5 := SSc.g4 w' hS; have q6 := SSc.g5 w' hS; have q7 := SSc.g6 w' hS; clear hS; go_simp; try rfl; done)
            simp only [List.getElem_toArray, List.getElem_cons_succ, List.getElem_cons_zero, Act.put, List.setIfInBounds_toArray, List.set_cons_zero, List.set_cons_succ]
            refine hd_one 7 (by kernel_rfl) ?_
            refine op_call rfl (by kernel_rfl) (by go_simp; first | exact ⟨rfl, rfl⟩ | rfl) ?_
            refine (rdo_env Hc.out 3 rfl HR.out.o1 (by omega) s (HOK.out s (List.mem_of_getElem? HS.out))).mono ?_
            rintro e wd ⟨vy, rfl, hd⟩
            have hd : Env w wd [obPub p0 m0 k0 (σ0), obPub p1 m1 k1 (nxD σ1 s), obRP P0 (σ0), obRP P1 (nxD σ1 s), obK A2 26 #[.pointer (some ⟨p0, 0, none⟩), .pointer (some ⟨p1, 0, none⟩)], obK R2 29 #[.pointer (some ⟨P0, 0, none⟩), .pointer (some ⟨P1, 0, none⟩)], obTR u7 ts, obTR u8 us, obTI u9 hs, obRuns vx (runsD σ1 s), obRuns vy (runsD σ1 s)] := hd
            have Hd := Lib.hid hd
            have hS2 := hS3.out _ _ _ hd
            have Sd := hS2
            clear hd
            refine ⟨_, rfl, hS2, ?_⟩
            simp only [List.getElem_toArray, List.getElem_cons_succ, List.getElem_cons_zero, Act.put, List.setIfInBounds_toArray, List.set_cons_zero, List.set_cons_succ]
            rw [HCD.out]
            refine hd_take (v := ?_) 8 rfl (by kernel_rfl) (fun _ _ d _ _ h => (by cases d <;> exact h)) (by kernel_rfl) Sd (fun w' hS => ?_) ?_
            rotate_left
            focus (clear hS; go_simp; try rfl; done)
            simp only [List.getElem_toArray, List.getElem_cons_succ, List.getElem_cons_zero, Act.put, List.setIfInBounds_toArray, List.set_cons_zero, List.set_cons_succ]
            refine hd_take (v := ?_) 9 rfl (by kernel_rfl) (fun _ _ d _ _ h => (by cases d <;> exact h)) (by kernel_rfl) Sd (fun w' hS => ?_) ?_
            rotate_left
            focus (clear hS; go_simp; try rfl; done)
            simp only [List.getElem_toArray, List.getElem_cons_succ, List.getElem_cons_zero, Act.put, List.setIfInBounds_toArray, List.set_cons_zero, List.set_cons_succ]
            refine hd_take (v := ?_) 10 rfl (by kernel_rfl) (fun _ _ d _ _ h => (by cases d <;> exact h)) (by kernel_rfl) Sd (fun w' hS => ?_) ?_
            rotate_left
            focus (clear hS; go_simp; try rfl; done)
            simp only [List.getElem_toArray, List.getElem_cons_succ, List.getElem_cons_zero, Act.put, List.setIfInBounds_toArray, List.set_cons_zero, List.set_cons_succ]
            refine hd_take (v := ?_) 11 rfl (by kernel_rfl) (fun _ _ d _ _ h => (by cases d <;> exact h)) (by kernel_rfl) Sd (fun w' hS => ?_) ?_
            rotate_left
            focus (clear hS; go_simp; try rfl; done)
            simp only [List.getElem_toArray, List.getElem_cons_succ, List.getElem_cons_zero, Act.put, List.setIfInBounds_toArray, List.set_cons_zero, List.set_cons_succ]
            refine hd_take (v := ?_) 12 rfl (by kernel_rfl) (fun _ _ d _ _ h => (by cases d <;> exact h)) (by kernel_rfl) Sd (fun w' hS => ?_) ?_
            rotate_left
            focus (clear hS; go_simp; try rfl; done)
            simp only [List.getElem_toArray, List.getElem_cons_succ, List.getElem_cons_zero, Act.put, List.setIfInBounds_toArray, List.set_cons_zero, List.set_cons_succ]
            refine hd_done (by kernel_rfl) ?_
            clear Sc Sd Hc hS2' hS3
            have y0 : wd.cell? ⟨A2, 1, none⟩ = some (.pointer (some ⟨p1, 0, none⟩)) := (Hd.out.blk 4 (b := A2) rfl).cellAt 1 rfl
            go_wp2_with fail
            clear y0
            refine (held_env Hd.out 1 rfl).mono ?_
            rintro e we ⟨hx, rfl, he⟩
            have he : Env w we [obPub p0 m0 k0 (σ0), obPub p1 m1 k1 (nxD σ1 s), obRP P0 (σ0), obRP P1 (nxD σ1 s), obK A2 26 #[.pointer (some ⟨p0, 0, none⟩), .pointer (some ⟨p1, 0, none⟩)], obK R2 29 #[.pointer (some ⟨P0, 0, none⟩), .pointer (some ⟨P1, 0, none⟩)], obTR u7 ts, obTR u8 us, obTI u9 hs, obRuns vx (runsD σ1 s), obRuns vy (runsD σ1 s), KI.ob hx (heldL (nxD σ1 s))] := he
            have He := Lib.hid he
            clear he Hd
            go_wp2_with fail
            refine (sameRuns_env' He.out (He.out.runs 9 rfl).rd (He.out.runs 10 rfl).rd).mono ?_
            rintro e wf ⟨heq, hf⟩
            rw [decide_eq_true rfl] at heq
            subst heq
            have Hf := Lib.hid hf
            have y1 : wf.cell? ⟨R2, 1, none⟩ = some (.pointer (some ⟨P1, 0, none⟩)) := (Hf.out.blk 5 (b := R2) rfl).cellAt 1 rfl
            clear hf He
            go_wp2_with fail
            clear y1
            refine (rheld_env Hf.out 3 rfl).mono ?_
            rintro e wg ⟨hy, rfl, hg⟩
            have hg : Env w wg [obPub p0 m0 k0 (σ0), obPub p1 m1 k1 (nxD σ1 s), obRP P0 (σ0), obRP P1 (nxD σ1 s), obK A2 26 #[.pointer (some ⟨p0, 0, none⟩), .pointer (some ⟨p1, 0, none⟩)], obK R2 29 #[.pointer (some ⟨P0, 0, none⟩), .pointer (some ⟨P1, 0, none⟩)], obTR u7 ts, obTR u8 us, obTI u9 hs, obRuns vx (runsD σ1 s), obRuns vy (runsD σ1 s), KI.ob hx (heldL (nxD σ1 s)), KI.ob hy (heldL (nxD σ1 s))] := hg
            have ka : KI.R wg hx (heldL (nxD σ1 s)) := hg.kR 11 rfl
            have kb : KI.R wg hy (heldL (nxD σ1 s)) := hg.kR 12 rfl
            have HKK := Lib.hid (And.intro ka kb)
            have Hg := Lib.hid hg
            clear hg Hf ka kb
            go_wp2_with fail
            refine (sameI_any _ _ _ _ _ HKK.out.1 HKK.out.2).mono ?_
            rintro e wh ⟨heq, n, hn⟩
            rw [sameL_refl eqI (fun x => by simp [eqI])] at heq
            subst heq
            have hh := Hg.out.draw n
            rw [← hn] at hh
            have hi : Env w wh [obPub p0 m0 k0 (σ0), obPub p1 m1 k1 (nxD σ1 s), obRP P0 (σ0), obRP P1 (nxD σ1 s), obK A2 26 #[.pointer (some ⟨p0, 0, none⟩), .pointer (some ⟨p1, 0, none⟩)], obK R2 29 #[.pointer (some ⟨P0, 0, none⟩), .pointer (some ⟨P1, 0, none⟩)], obTR u7 ts, obTR u8 us, obTI u9 hs, KI.ob hx (heldL (nxD σ1 s)), obRuns vy (runsD σ1 s), obRuns vx (runsD σ1 s)] := by
              refine Env.pick hh (fun j => [0, 1, 2, 3, 4, 5, 6, 7, 8, 11, 10, 9].getD j 0) ?_ ?_
              · intro i j hi hj
                simp at hi hj
                exact (by decide : ∀ i, i < 12 → ∀ j, j < 12 → [0, 1, 2, 3, 4, 5, 6, 7, 8, 11, 10, 9].getD i 0 = [0, 1, 2, 3, 4, 5, 6, 7, 8, 11, 10, 9].getD j 0 → i = j) i hi j hj
              · intro j ob hj
                match j, hj with
                | 0, hj => exact hj
                | 1, hj => exact hj
                | 2, hj => exact hj
                | 3, hj => exact hj
                | 4, hj => exact hj
                | 5, hj => exact hj
                | 6, hj => exact hj
                | 7, hj => exact hj
                | 8, hj => exact hj
                | 9, hj => exact hj
                | 10, hj => exact hj
                | 11, hj => exact hj
                | n + 12, hj => simp at hj
            obtain ⟨xo, xc, hxe, _, _, _⟩ := (show KI.R wh hx (heldL (nxD σ1 s)) from hi.kR 9 rfl).any
            obtain ⟨yo, yc, hye, _, _, _⟩ := (show KN.R wh vy (runsD σ1 s) from hi.kR 10 rfl).any
            obtain ⟨zo, zc, hze, _, _, _⟩ := (show KN.R wh vx (runsD σ1 s) from hi.kR 11 rfl).any
            subst hxe hye hze
            obtain ⟨r, hr⟩ : ∃ r, runsD σ1 s = r := ⟨_, rfl⟩
            obtain ⟨hl, hhl⟩ : ∃ r, heldL (nxD σ1 s) = r := ⟨_, rfl⟩
            have hr5 : r.length ≤ 5 := by rw [← hr]; exact runsD_lenB _ _
            have hl64 : hl.length ≤ 64 := by rw [← hhl]; exact heldL_len _
            rw [hr, hhl] at hi
            rw [hr, hhl]
            have Hi := Lib.hid hi
            have HLN := Lib.hid (And.intro hr5 hl64)
            have htl1 : ts.length ≤ 5000000000000 := by have := HR.out.lt; omega
            have htl2 : us.length ≤ 5000000000000 := by have := HR.out.lu; omega
            have htl3 : hs.length ≤ 5000000000000 := by have := HR.out.lh; omega
            clear hh hi hn Hg HKK hr hhl hr5 hl64
            go_wp2_with (at_builtin; refine wpList_append_TR (obs := [obPub p0 m0 k0 (σ0), obPub p1 m1 k1 (nxD σ1 s), obRP P0 (σ0), obRP P1 (nxD σ1 s), obK A2 26 #[.pointer (some ⟨p0, 0, none⟩), .pointer (some ⟨p1, 0, none⟩)], obK R2 29 #[.pointer (some ⟨P0, 0, none⟩), .pointer (some ⟨P1, 0, none⟩)], obTR u7 ts, obTR u8 us, obTI u9 hs, KI.ob (.slice xo hl.length xc) hl, obRuns (.slice yo r.length yc) r]) Hi.out 6 rfl _ _ rfl rfl rfl rfl htl1 ?_)
            intro told2 wj hj1
            have Hj : Hid (Env w wj [obPub p0 m0 k0 (σ0), obPub p1 m1 k1 (nxD σ1 s), obRP P0 (σ0), obRP P1 (nxD σ1 s), obK A2 26 #[.pointer (some ⟨p0, 0, none⟩), .pointer (some ⟨p1, 0, none⟩)], obK R2 29 #[.pointer (some ⟨P0, 0, none⟩), .pointer (some ⟨P1, 0, none⟩)], obTR told2 (ts ++ [((.slice zo r.length zc : Value), r)]), obTR u8 us, obTI u9 hs, KI.ob (.slice xo hl.length xc) hl, obRuns (.slice yo r.length yc) r]) := Lib.hid hj1
            clear hj1 Hi
            go_wp2_with (at_builtin; refine wpList_append_TR (obs := [obPub p0 m0 k0 (σ0), obPub p1 m1 k1 (nxD σ1 s), obRP P0 (σ0), obRP P1 (nxD σ1 s), obK A2 26 #[.pointer (some ⟨p0, 0, none⟩), .pointer (some ⟨p1, 0, none⟩)], obK R2 29 #[.pointer (some ⟨P0, 0, none⟩), .pointer (some ⟨P1, 0, none⟩)], obTR told2 (ts ++ [((.slice zo r.length zc : Value), r)]), obTR u8 us, obTI u9 hs, KI.ob (.slice xo hl.length xc) hl]) Hj.out 7 rfl _ _ rfl rfl rfl rfl htl2 ?_)
            intro wants2 wk hk1
            have Hk : Hid (Env w wk [obPub p0 m0 k0 (σ0), obPub p1 m1 k1 (nxD σ1 s), obRP P0 (σ0), obRP P1 (nxD σ1 s), obK A2 26 #[.pointer (some ⟨p0, 0, none⟩), .pointer (some ⟨p1, 0, none⟩)], obK R2 29 #[.pointer (some ⟨P0, 0, none⟩), .pointer (some ⟨P1, 0, none⟩)], obTR told2 (ts ++ [((.slice zo r.length zc : Value), r)]), obTR wants2 (us ++ [((.slice yo r.length yc : Value), r)]), obTI u9 hs, KI.ob (.slice xo hl.length xc) hl]) := Lib.hid hk1
            clear hk1 Hj
            go_wp2_with (at_builtin; refine wpList_append_TI (obs := [obPub p0 m0 k0 (σ0), obPub p1 m1 k1 (nxD σ1 s), obRP P0 (σ0), obRP P1 (nxD σ1 s), obK A2 26 #[.pointer (some ⟨p0, 0, none⟩), .pointer (some ⟨p1, 0, none⟩)], obK R2 29 #[.pointer (some ⟨P0, 0, none⟩), .pointer (some ⟨P1, 0, none⟩)], obTR told2 (ts ++ [((.slice zo r.length zc : Value), r)]), obTR wants2 (us ++ [((.slice yo r.length yc : Value), r)]), obTI u9 hs]) Hk.out 8 rfl _ _ rfl rfl rfl rfl htl3 ?_)
            intro hu2 wl hl1
            have Hl : Hid (Env w wl [obPub p0 m0 k0 (σ0), obPub p1 m1 k1 (nxD σ1 s), obRP P0 (σ0), obRP P1 (nxD σ1 s), obK A2 26 #[.pointer (some ⟨p0, 0, none⟩), .pointer (some ⟨p1, 0, none⟩)], obK R2 29 #[.pointer (some ⟨P0, 0, none⟩), .pointer (some ⟨P1, 0, none⟩)], obTR told2 (ts ++ [((.slice zo r.length zc : Value), r)]), obTR wants2 (us ++ [((.slice yo r.length yc : Value), r)]), obTI hu2 (hs ++ [((.slice xo hl.length xc : Value), hl)])]) := Lib.hid hl1
            clear hl1 Hk htl1 htl2 htl3
            have HR2 : Hid (Scr (j + 1) σ0 (nxD σ1 s) (ts ++ [((.slice zo r.length zc : Value), r)]) (us ++ [((.slice yo r.length yc : Value), r)]) (hs ++ [((.slice xo hl.length xc : Value), hl)])) := Lib.hid (HR.out.step HR.out.o0.up2 (HR.out.o1.step2 s) HLN.out.1 HLN.out.2)
            go_wp2_with fail
            refine ⟨⟨j + 1, _, _, _, _, _, by omega, rfl, HR2, Hl⟩, ?_⟩
            have q9 : l.length - ((j : Int) + 1).toNat < l.length - ((j : Int)).toNat := by omega
            exact q9
        · have t5 : decide ((j : Int) < (turns.length : Int)) = false := by rw [decide_eq_false_iff_not]; omega
          go_upto_region 15 with fail
          clear t5
          have hS : Hid (∀ W, Env w W [obPub p0 m0 k0 (σ0), obPub p1 m1 k1 (σ1), obRP P0 (σ0), obRP P1 (σ1), obK A2 26 #[.pointer (some ⟨p0, 0, none⟩), .pointer (some ⟨p1, 0, none⟩)], obK R2 29 #[.pointer (some ⟨P0, 0, none⟩), .pointer (some ⟨P1, 0, none⟩)], obTR u7 ts, obTR u8 us, obTI u9 hs] → SSc A2 0 p0 b (off + j * 7) s W) := Lib.hid fun W hW => ⟨(hW.blk 4 (b := A2) rfl).cellAt 0 rfl, skElemS (hW.oldK HV.out) HS.out⟩
          have hS2' : Hid (∀ W vx, Env w W [obPub p0 m0 k0 (nxD σ0 s), obPub p1 m1 k1 (σ1), obRP P0 (σ0), obRP P1 (σ1), obK A2 26 #[.pointer (some ⟨p0, 0, none⟩), .pointer (some ⟨p1, 0, none⟩)], obK R2 29 #[.pointer (some ⟨P0, 0, none⟩), .pointer (some ⟨P1, 0, none⟩)], obTR u7 ts, obTR u8 us, obTI u9 hs, obRuns vx (runsD σ0 s)] → SSc A2 0 p0 b (off + j * 7) s W ∧ SSc R2 0 P0 b (off + j * 7) s W) := Lib.hid fun W vx hW => ⟨⟨(hW.blk 4 (b := A2) rfl).cellAt 0 rfl, skElemS (hW.oldK HV.out) HS.out⟩, ⟨(hW.blk 5 (b := R2) rfl).cellAt 0 rfl, skElemS (hW.oldK HV.out) HS.out⟩⟩
          have hS3 : Hid (∀ W vx vy, Env w W [obPub p0 m0 k0 (nxD σ0 s), obPub p1 m1 k1 (σ1), obRP P0 (nxD σ0 s), obRP P1 (σ1), obK A2 26 #[.pointer (some ⟨p0, 0, none⟩), .pointer (some ⟨p1, 0, none⟩)], obK R2 29 #[.pointer (some ⟨P0, 0, none⟩), .pointer (some ⟨P1, 0, none⟩)], obTR u7 ts, obTR u8 us, obTI u9 hs, obRuns vx (runsD σ0 s), obRuns vy (runsD σ0 s)] → SSc R2 0 P0 b (off + j * 7) s W) := Lib.hid fun W vx vy hW => ⟨(hW.blk 5 (b := R2) rfl).cellAt 0 rfl, skElemS (hW.oldK HV.out) HS.out⟩
          refine hd_start (SSc A2 0 p0 b (off + j * 7) s) (by kernel_rfl) ?_
          intro wa hw'
          have Ha := Lib.hid (HK.out.draw 1)
          rw [← hw'] at Ha
          clear hw' HK
          have Sa := hS.out _ Ha.out
          refine hd_take (v := ?_) 0 rfl (by kernel_rfl) (fun _ _ d _ _ h => (by cases d <;> exact h)) (by kernel_rfl) Sa (fun w' hS => ?_) ?_
          rotate_left
          focus (have q0 := SSc.g w' hS; have q1 := SSc.g0 w' hS; have q2 := SSc.g1 w' hS; have q3 := SSc.g2 w' hS; have q4 := SSc.g3 w' hS; have q5 := SSc.g4 w' hS; have q6 := SSc.g5 w' hS; have q7 := SSc.g6 w' hS; clear hS; go_simp; try rfl; done)
          simp only [List.getElem_toArray, List.getElem_cons_succ, List.getElem_cons_zero, Act.put, List.setIfInBounds_toArray, List.set_cons_zero, List.set_cons_succ]
          refine hd_take (v := ?_) 1 rfl (by kernel_rfl) (fun _ _ d _ _ h => (by cases d <;> exact h)) (by kernel_rfl) Sa (fun w' hS => ?_) ?_
          rotate_left
          focus (have q0 := SSc.g w' hS; have q1 := SSc.g0 w' hS; have q2 := SSc.g1 w' hS; have q3 := SSc.g2 w' hS; have q4 := SSc.g3 w' hS; have q5 := SSc.g4 w' hS; have q6 := SSc.g5 w' hS; have q7 := SSc.g6 w' hS; clear hS; go_simp; try rfl; done)
          simp only [List.getElem_toArray, List.getElem_cons_succ, List.getElem_cons_zero, Act.put, List.setIfInBounds_toArray, List.set_cons_zero, List.set_cons_succ]
          refine hd_take (v := ?_) 2 rfl (by kernel_rfl) (fun _ _ d _ _ h => (by cases d <;> exact h)) (by kernel_rfl) Sa (fun w' hS => ?_) ?_
          rotate_left
          focus (have q0 := SSc.g w' hS; have q1 := SSc.g0 w' hS; have q2 := SSc.g1 w' hS; have q3 := SSc.g2 w' hS; have q4 := SSc.g3 w' hS; have q5 := SSc.g4 w' hS; have q6 := SSc.g5 w' hS; have q7 := SSc.g6 w' hS; clear hS; go_simp; try rfl; done)
          simp only [List.getElem_toArray, List.getElem_cons_succ, List.getElem_cons_zero, Act.put, List.setIfInBounds_toArray, List.set_cons_zero, List.set_cons_succ]
          refine hd_take (v := ?_) 3 rfl (by kernel_rfl) (fun _ _ d _ _ h => (by cases d <;> exact h)) (by kernel_rfl) Sa (fun w' hS => ?_) ?_
          rotate_left
          focus (have q0 := SSc.g w' hS; have q1 := SSc.g0 w' hS; have q2 := SSc.g1 w' hS; have q3 := SSc.g2 w' hS; have q4 := SSc.g3 w' hS; have q5 := SSc.g4 w' hS; have q6 := SSc.g5 w' hS; have q7 := SSc.g6 w' hS; clear hS; go_simp; try rfl; done)
          simp only [List.getElem_toArray, List.getElem_cons_succ, List.getElem_cons_zero, Act.put, List.setIfInBounds_toArray, List.set_cons_zero, List.set_cons_succ]
          refine hd_take (v := ?_) 4 rfl (by kernel_rfl) (fun _ _ d _ _ h => (by cases d <;> exact h)) (by kernel_rfl) Sa (fun w' hS => ?_) ?_
          rotate_left
          focus (have q0 := SSc.g w' hS; have q1 := SSc.g0 w' hS; have q2 := SSc.g1 w' hS; have q3 := SSc.g2 w' hS; have q4 := SSc.g3 w' hS; have q5 := SSc.g4 w' hS; have q6 := SSc.g5 w' hS; have q7 := SSc.g6 w' hS; clear hS; go_simp; try rfl; done)
          simp only [List.getElem_toArray, List.getElem_cons_succ, List.getElem_cons_zero, Act.put, List.setIfInBounds_toArray, List.set_cons_zero, List.set_cons_succ]
          refine hd_take (v := ?_) 5 rfl (by kernel_rfl) (fun _ _ d _ _ h => (by cases d <;> exact h)) (by kernel_rfl) Sa (fun w' hS => ?_) ?_
          rotate_left
          focus (have q0 := SSc.g w' hS; have q1 := SSc.g0 w' hS; have q2 := SSc.g1 w' hS; have q3 := SSc.g2 w' hS; have q4 := SSc.g3 w' hS; have q5 := SSc.g4 w' hS; have q6 := SSc.g5 w' hS; have q7 := SSc.g6 w' hS; clear hS; go_simp; try rfl; done)
          simp only [List.getElem_toArray, List.getElem_cons_succ, List.getElem_cons_zero, Act.put, List.setIfInBounds_toArray, List.set_cons_zero, List.set_cons_succ]
          refine hd_take (v := ?_) 6 rfl (by kernel_rfl) (fun _ _ d _ _ h => (by cases d <;> exact h)) (by kernel_rfl) Sa (fun w' hS => ?_) ?_
          rotate_left
          focus (have q0 := SSc.g w' hS; have q1 := SSc.g0 w' hS; have q2 := SSc.g1 w' hS; have q3 := SSc.g2 w' hS; have q4 := SSc.g3 w' hS; have q5 := SSc.g4 w' hS; have q6 := SSc.g5 w' hS; have q7 := SSc.g6 w' hS; clear hS; go_simp; try rfl; done)
          simp only [List.getElem_toArray, List.getElem_cons_succ, List.getElem_cons_zero, Act.put, List.setIfInBounds_toArray, List.set_cons_zero, List.set_cons_succ]
          refine hd_one 7 (by kernel_rfl) ?_
          refine op_call rfl (by kernel_rfl) (by go_simp; first | exact ⟨rfl, rfl⟩ | rfl) ?_
          refine (do_env Ha.out 0 rfl HR.out.o0 (by omega) s (HOK.out s (List.mem_of_getElem? HS.out))).mono ?_
          rintro e wb ⟨vx, rfl, hb⟩
          have hb : Env w wb [obPub p0 m0 k0 (nxD σ0 s), obPub p1 m1 k1 (σ1), obRP P0 (σ0), obRP P1 (σ1), obK A2 26 #[.pointer (some ⟨p0, 0, none⟩), .pointer (some ⟨p1, 0, none⟩)], obK R2 29 #[.pointer (some ⟨P0, 0, none⟩), .pointer (some ⟨P1, 0, none⟩)], obTR u7 ts, obTR u8 us, obTI u9 hs, obRuns vx (runsD σ0 s)] := hb
          have Hb := Lib.hid hb
          have hS2 := (hS2'.out _ _ hb).1
          have Sb := hS2
          clear hb
          refine ⟨_, rfl, hS2, ?_⟩
          simp only [List.getElem_toArray, List.getElem_cons_succ, List.getElem_cons_zero, Act.put, List.setIfInBounds_toArray, List.set_cons_zero, List.set_cons_succ]
          refine hd_take (v := ?_) 8 rfl (by kernel_rfl) (fun _ _ d _ _ h => (by cases d <;> exact h)) (by kernel_rfl) Sb (fun w' hS => ?_) ?_
          rotate_left
          focus (clear hS; go_simp; try rfl; done)
          simp only [List.getElem_toArray, List.getElem_cons_succ, List.getElem_cons_zero, Act.put, List.setIfInBounds_toArray, List.set_cons_zero, List.set_cons_succ]
          refine hd_take (v := ?_) 9 rfl (by kernel_rfl) (fun _ _ d _ _ h => (by cases d <;> exact h)) (by kernel_rfl) Sb (fun w' hS => ?_) ?_
          rotate_left
          focus (clear hS; go_simp; try rfl; done)
          simp only [List.getElem_toArray, List.getElem_cons_succ, List.getElem_cons_zero, Act.put, List.setIfInBounds_toArray, List.set_cons_zero, List.set_cons_succ]
          refine hd_take (v := ?_) 10 rfl (by kernel_rfl) (fun _ _ d _ _ h => (by cases d <;> exact h)) (by kernel_rfl) Sb (fun w' hS => ?_) ?_
          rotate_left
          focus (clear hS; go_simp; try rfl; done)
          simp only [List.getElem_toArray, List.getElem_cons_succ, List.getElem_cons_zero, Act.put, List.setIfInBounds_toArray, List.set_cons_zero, List.set_cons_succ]
          refine hd_take (v := ?_) 11 rfl (by kernel_rfl) (fun _ _ d _ _ h => (by cases d <;> exact h)) (by kernel_rfl) Sb (fun w' hS => ?_) ?_
          rotate_left
          focus (clear hS; go_simp; try rfl; done)
          simp only [List.getElem_toArray, List.getElem_cons_succ, List.getElem_cons_zero, Act.put, List.setIfInBounds_toArray, List.set_cons_zero, List.set_cons_succ]
          refine hd_take (v := ?_) 12 rfl (by kernel_rfl) (fun _ _ d _ _ h => (by cases d <;> exact h)) (by kernel_rfl) Sb (fun w' hS => ?_) ?_
          rotate_left
          focus (clear hS; go_simp; try rfl; done)
          simp only [List.getElem_toArray, List.getElem_cons_succ, List.getElem_cons_zero, Act.put, List.setIfInBounds_toArray, List.set_cons_zero, List.set_cons_succ]
          refine hd_done (by kernel_rfl) ?_
          obtain ⟨cd, hcd⟩ : ∃ c, codeD σ0 s = c := ⟨_, rfl⟩
          rw [hcd]
          have HCD := Lib.hid hcd
          clear Sa Sb Ha hS hcd
          go_upto_region 16 with fail
          refine hd_start (SSc R2 0 P0 b (off + j * 7) s) (by kernel_rfl) ?_
          intro wc hw'
          have Hc := Lib.hid (Hb.out.draw 1)
          rw [← hw'] at Hc
          clear hw' Hb
          have Sc := (hS2'.out _ _ Hc.out).2
          refine hd_take (v := ?_) 0 rfl (by kernel_rfl) (fun _ _ d _ _ h => (by cases d <;> exact h)) (by kernel_rfl) Sc (fun w' hS => ?_) ?_
          rotate_left
          focus (have q0 := SSc.g w' hS; have q1 := SSc.g0 w' hS; have q2 := SSc.g1 w' hS; have q3 := SSc.g2 w' hS; have q4 := SSc.g3 w' hS; have q5 := SSc.g4 w' hS; have q6 := SSc.g5 w' hS; have q7 := SSc.g6 w' hS; clear hS; go_simp; try rfl; done)
          simp only [List.getElem_toArray, List.getElem_cons_succ, List.getElem_cons_zero, Act.put, List.setIfInBounds_toArray, List.set_cons_zero, List.set_cons_succ]
          refine hd_take (v := ?_) 1 rfl (by kernel_rfl) (fun _ _ d _ _ h => (by cases d <;> exact h)) (by kernel_rfl) Sc (fun w' hS => ?_) ?_
          rotate_left
          focus (have q0 := SSc.g w' hS; have q1 := SSc.g0 w' hS; have q2 := SSc.g1 w' hS; have q3 := SSc.g2 w' hS; have q4 := SSc.g3 w' hS; have q5 := SSc.g4 w' hS; have q6 := SSc.g5 w' hS; have q7 := SSc.g6 w' hS; clear hS; go_simp; try rfl; done)
          simp only [List.getElem_toArray, List.getElem_cons_succ, List.getElem_cons_zero, Act.put, List.setIfInBounds_toArray, List.set_cons_zero, List.set_cons_succ]
          refine hd_take (v := ?_) 2 rfl (by kernel_rfl) (fun _ _ d _ _ h => (by cases d <;> exact h)) (by kernel_rfl) Sc (fun w' hS => ?_) ?_
          rotate_left
          focus (have q0 := SSc.g w' hS; have q1 := SSc.g0 w' hS; have q2 := SSc.g1 w' hS; have q3 := SSc.g2 w' hS; have q4 := SSc.g3 w' hS; have q5 := SSc.g4 w' hS; have q6 := SSc.g5 w' hS; have q7 := SSc.g6 w' hS; clear hS; go_simp; try rfl; done)
          simp only [List.getElem_toArray, List.getElem_cons_succ, List.getElem_cons_zero, Act.put, List.setIfInBounds_toArray, List.set_cons_zero, List.set_cons_succ]
          refine hd_take (v := ?_) 3 rfl (by kernel_rfl) (fun _ _ d _ _ h => (by cases d <;> exact h)) (by kernel_rfl) Sc (fun w' hS => ?_) ?_
          rotate_left
          focus (have q0 := SSc.g w' hS; have q1 := SSc.g0 w' hS; have q2 := SSc.g1 w' hS; have q3 := SSc.g2 w' hS; have q4 := SSc.g3 w' hS; have q5 := SSc.g4 w' hS; have q6 := SSc.g5 w' hS; have q7 := SSc.g6 w' hS; clear hS; go_simp; try rfl; done)
          simp only [List.getElem_toArray, List.getElem_cons_succ, List.getElem_cons_zero, Act.put, List.setIfInBounds_toArray, List.set_cons_zero, List.set_cons_succ]
          refine hd_take (v := ?_) 4 rfl (by kernel_rfl) (fun _ _ d _ _ h => (by cases d <;> exact h)) (by kernel_rfl) Sc (fun w' hS => ?_) ?_
          rotate_left
          focus (have q0 := SSc.g w' hS; have q1 := SSc.g0 w' hS; have q2 := SSc.g1 w' hS; have q3 := SSc.g2 w' hS; have q4 := SSc.g3 w' hS; have q5 := SSc.g4 w' hS; have q6 := SSc.g5 w' hS; have q7 := SSc.g6 w' hS; clear hS; go_simp; try rfl; done)
          simp only [List.getElem_toArray, List.getElem_cons_succ, List.getElem_cons_zero, Act.put, List.setIfInBounds_toArray, List.set_cons_zero, List.set_cons_succ]
          refine hd_take (v := ?_) 5 rfl (by kernel_rfl) (fun _ _ d _ _ h => (by cases d <;> exact h)) (by kernel_rfl) Sc (fun w' hS => ?_) ?_
          rotate_left
          focus (have q0 := SSc.g w' hS; have q1 := SSc.g0 w' hS; have q2 := SSc.g1 w' hS; have q3 := SSc.g2 w' hS; have q4 := SSc.g3 w' hS; have q5 := SSc.g4 w' hS; have q6 := SSc.g5 w' hS; have q7 := SSc.g6 w' hS; clear hS; go_simp; try rfl; done)
          simp only [List.getElem_toArray, List.getElem_cons_succ, List.getElem_cons_zero, Act.put, List.setIfInBounds_toArray, List.set_cons_zero, List.set_cons_succ]
          refine hd_take (v := ?_) 6 rfl (by kernel_rfl) (fun _ _ d _ _ h => (by cases d <;> exact h)) (by kernel_rfl) Sc (fun w' hS => ?_) ?_
          rotate_left
          focus (have q0 := SSc.g w' hS; have q1 := SSc.g0 w' hS; have q2 := SSc.g1 w' hS; have q3 := SSc.g2 w' hS; have q4 := SSc.g3 w' hS; have q5 := SSc.g4 w' hS; have q6 := SSc.g5 w' hS; have q7 := SSc.g6 w' hS; clear hS; go_simp; try rfl; done)
          simp only [List.getElem_toArray, List.getElem_cons_succ, List.getElem_cons_zero, Act.put, List.setIfInBounds_toArray, List.set_cons_zero, List.set_cons_succ]
          refine hd_one 7 (by kernel_rfl) ?_
          refine op_call rfl (by kernel_rfl) (by go_simp; first | exact ⟨rfl, rfl⟩ | rfl) ?_
          refine (rdo_env Hc.out 2 rfl HR.out.o0 (by omega) s (HOK.out s (List.mem_of_getElem? HS.out))).mono ?_
          rintro e wd ⟨vy, rfl, hd⟩
          have hd : Env w wd [obPub p0 m0 k0 (nxD σ0 s), obPub p1 m1 k1 (σ1), obRP P0 (nxD σ0 s), obRP P1 (σ1), obK A2 26 #[.pointer (some ⟨p0, 0, none⟩), .pointer (some ⟨p1, 0, none⟩)], obK R2 29 #[.pointer (some ⟨P0, 0, none⟩), .pointer (some ⟨P1, 0, none⟩)], obTR u7 ts, obTR u8 us, obTI u9 hs, obRuns vx (runsD σ0 s), obRuns vy (runsD σ0 s)] := hd
          have Hd := Lib.hid hd
          have hS2 := hS3.out _ _ _ hd
          have Sd := hS2
          clear hd
          refine ⟨_, rfl, hS2, ?_⟩
          simp only [List.getElem_toArray, List.getElem_cons_succ, List.getElem_cons_zero, Act.put, List.setIfInBounds_toArray, List.set_cons_zero, List.set_cons_succ]
          rw [HCD.out]
          refine hd_take (v := ?_) 8 rfl (by kernel_rfl) (fun _ _ d _ _ h => (by cases d <;> exact h)) (by kernel_rfl) Sd (fun w' hS => ?_) ?_
          rotate_left
          focus (clear hS; go_simp; try rfl; done)
          simp only [List.getElem_toArray, List.getElem_cons_succ, List.getElem_cons_zero, Act.put, List.setIfInBounds_toArray, List.set_cons_zero, List.set_cons_succ]
          refine hd_take (v := ?_) 9 rfl (by kernel_rfl) (fun _ _ d _ _ h => (by cases d <;> exact h)) (by kernel_rfl) Sd (fun w' hS => ?_) ?_
          rotate_left
          focus (clear hS; go_simp; try rfl; done)
          simp only [List.getElem_toArray, List.getElem_cons_succ, List.getElem_cons_zero, Act.put, List.setIfInBounds_toArray, List.set_cons_zero, List.set_cons_succ]
          refine hd_take (v := ?_) 10 rfl (by kernel_rfl) (fun _ _ d _ _ h => (by cases d <;> exact h)) (by kernel_rfl) Sd (fun w' hS => ?_) ?_
          rotate_left
          focus (clear hS; go_simp; try rfl; done)
          simp only [List.getElem_toArray, List.getElem_cons_succ, List.getElem_cons_zero, Act.put, List.setIfInBounds_toArray, List.set_cons_zero, List.set_cons_succ]
          refine hd_take (v := ?_) 11 rfl (by kernel_rfl) (fun _ _ d _ _ h => (by cases d <;> exact h)) (by kernel_rfl) Sd (fun w' hS => ?_) ?_
          rotate_left
          focus (clear hS; go_simp; try rfl; done)
          simp only [List.getElem_toArray, List.getElem_cons_succ, List.getElem_cons_zero, Act.put, List.setIfInBounds_toArray, List.set_cons_zero, List.set_cons_succ]
          refine hd_take (v := ?_) 12 rfl (by kernel_rfl) (fun _ _ d _ _ h => (by cases d <;> exact h)) (by kernel_rfl) Sd (fun w' hS => ?_) ?_
          rotate_left
          focus (clear hS; go_simp; try rfl; done)
          simp only [List.getElem_toArray, List.getElem_cons_succ, List.getElem_cons_zero, Act.put, List.setIfInBounds_toArray, List.set_cons_zero, List.set_cons_succ]
          refine hd_done (by kernel_rfl) ?_
          clear Sc Sd Hc hS2' hS3
          have y0 : wd.cell? ⟨A2, 0, none⟩ = some (.pointer (some ⟨p0, 0, none⟩)) := (Hd.out.blk 4 (b := A2) rfl).cellAt 0 rfl
          go_wp2_with fail
          clear y0
          refine (held_env Hd.out 0 rfl).mono ?_
          rintro e we ⟨hx, rfl, he⟩
          have he : Env w we [obPub p0 m0 k0 (nxD σ0 s), obPub p1 m1 k1 (σ1), obRP P0 (nxD σ0 s), obRP P1 (σ1), obK A2 26 #[.pointer (some ⟨p0, 0, none⟩), .pointer (some ⟨p1, 0, none⟩)], obK R2 29 #[.pointer (some ⟨P0, 0, none⟩), .pointer (some ⟨P1, 0, none⟩)], obTR u7 ts, obTR u8 us, obTI u9 hs, obRuns vx (runsD σ0 s), obRuns vy (runsD σ0 s), KI.ob hx (heldL (nxD σ0 s))] := he
          have He := Lib.hid he
          clear he Hd
          go_wp2_with fail
          refine (sameRuns_env' He.out (He.out.runs 9 rfl).rd (He.out.runs 10 rfl).rd).mono ?_
          rintro e wf ⟨heq, hf⟩
          rw [decide_eq_true rfl] at heq
          subst heq
          have Hf := Lib.hid hf
          have y1 : wf.cell? ⟨R2, 0, none⟩ = some (.pointer (some ⟨P0, 0, none⟩)) := (Hf.out.blk 5 (b := R2) rfl).cellAt 0 rfl
          clear hf He
          go_wp2_with fail
          clear y1
          refine (rheld_env Hf.out 2 rfl).mono ?_
          rintro e wg ⟨hy, rfl, hg⟩
          have hg : Env w wg [obPub p0 m0 k0 (nxD σ0 s), obPub p1 m1 k1 (σ1), obRP P0 (nxD σ0 s), obRP P1 (σ1), obK A2 26 #[.pointer (some ⟨p0, 0, none⟩), .pointer (some ⟨p1, 0, none⟩)], obK R2 29 #[.pointer (some ⟨P0, 0, none⟩), .pointer (some ⟨P1, 0, none⟩)], obTR u7 ts, obTR u8 us, obTI u9 hs, obRuns vx (runsD σ0 s), obRuns vy (runsD σ0 s), KI.ob hx (heldL (nxD σ0 s)), KI.ob hy (heldL (nxD σ0 s))] := hg
          have ka : KI.R wg hx (heldL (nxD σ0 s)) := hg.kR 11 rfl
          have kb : KI.R wg hy (heldL (nxD σ0 s)) := hg.kR 12 rfl
          have HKK := Lib.hid (And.intro ka kb)
          have Hg := Lib.hid hg
          clear hg Hf ka kb
          go_wp2_with fail
          refine (sameI_any _ _ _ _ _ HKK.out.1 HKK.out.2).mono ?_
          rintro e wh ⟨heq, n, hn⟩
          rw [sameL_refl eqI (fun x => by simp [eqI])] at heq
          subst heq
          have hh := Hg.out.draw n
          rw [← hn] at hh
          have hi : Env w wh [obPub p0 m0 k0 (nxD σ0 s), obPub p1 m1 k1 (σ1), obRP P0 (nxD σ0 s), obRP P1 (σ1), obK A2 26 #[.pointer (some ⟨p0, 0, none⟩), .pointer (some ⟨p1, 0, none⟩)], obK R2 29 #[.pointer (some ⟨P0, 0, none⟩), .pointer (some ⟨P1, 0, none⟩)], obTR u7 ts, obTR u8 us, obTI u9 hs, KI.ob hx (heldL (nxD σ0 s)), obRuns vy (runsD σ0 s), obRuns vx (runsD σ0 s)] := by
            refine Env.pick hh (fun j => [0, 1, 2, 3, 4, 5, 6, 7, 8, 11, 10, 9].getD j 0) ?_ ?_
            · intro i j hi hj
              simp at hi hj
              exact (by decide : ∀ i, i < 12 → ∀ j, j < 12 → [0, 1, 2, 3, 4, 5, 6, 7, 8, 11, 10, 9].getD i 0 = [0, 1, 2, 3, 4, 5, 6, 7, 8, 11, 10, 9].getD j 0 → i = j) i hi j hj
            · intro j ob hj
              match j, hj with
              | 0, hj => exact hj
              | 1, hj => exact hj
              | 2, hj => exact hj
              | 3, hj => exact hj
              | 4, hj => exact hj
              | 5, hj => exact hj
              | 6, hj => exact hj
              | 7, hj => exact hj
              | 8, hj => exact hj
              | 9, hj => exact hj
              | 10, hj => exact hj
              | 11, hj => exact hj
              | n + 12, hj => simp at hj
          obtain ⟨xo, xc, hxe, _, _, _⟩ := (show KI.R wh hx (heldL (nxD σ0 s)) from hi.kR 9 rfl).any
          obtain ⟨yo, yc, hye, _, _, _⟩ := (show KN.R wh vy (runsD σ0 s) from hi.kR 10 rfl).any
          obtain ⟨zo, zc, hze, _, _, _⟩ := (show KN.R wh vx (runsD σ0 s) from hi.kR 11 rfl).any
          subst hxe hye hze
          obtain ⟨r, hr⟩ : ∃ r, runsD σ0 s = r := ⟨_, rfl⟩
          obtain ⟨hl, hhl⟩ : ∃ r, heldL (nxD σ0 s) = r := ⟨_, rfl⟩
          have hr5 : r.length ≤ 5 := by rw [← hr]; exact runsD_lenB _ _
          have hl64 : hl.length ≤ 64 := by rw [← hhl]; exact heldL_len _
          rw [hr, hhl] at hi
          rw [hr, hhl]
          have Hi := Lib.hid hi
          have HLN := Lib.hid (And.intro hr5 hl64)
          have htl1 : ts.length ≤ 5000000000000 := by have := HR.out.lt; omega
          have htl2 : us.length ≤ 5000000000000 := by have := HR.out.lu; omega
          have htl3 : hs.length ≤ 5000000000000 := by have := HR.out.lh; omega
          clear hh hi hn Hg HKK hr hhl hr5 hl64
          go_wp2_with (at_builtin; refine wpList_append_TR (obs := [obPub p0 m0 k0 (nxD σ0 s), obPub p1 m1 k1 (σ1), obRP P0 (nxD σ0 s), obRP P1 (σ1), obK A2 26 #[.pointer (some ⟨p0, 0, none⟩), .pointer (some ⟨p1, 0, none⟩)], obK R2 29 #[.pointer (some ⟨P0, 0, none⟩), .pointer (some ⟨P1, 0, none⟩)], obTR u7 ts, obTR u8 us, obTI u9 hs, KI.ob (.slice xo hl.length xc) hl, obRuns (.slice yo r.length yc) r]) Hi.out 6 rfl _ _ rfl rfl rfl rfl htl1 ?_)
          intro told2 wj hj1
          have Hj : Hid (Env w wj [obPub p0 m0 k0 (nxD σ0 s), obPub p1 m1 k1 (σ1), obRP P0 (nxD σ0 s), obRP P1 (σ1), obK A2 26 #[.pointer (some ⟨p0, 0, none⟩), .pointer (some ⟨p1, 0, none⟩)], obK R2 29 #[.pointer (some ⟨P0, 0, none⟩), .pointer (some ⟨P1, 0, none⟩)], obTR told2 (ts ++ [((.slice zo r.length zc : Value), r)]), obTR u8 us, obTI u9 hs, KI.ob (.slice xo hl.length xc) hl, obRuns (.slice yo r.length yc) r]) := Lib.hid hj1
          clear hj1 Hi
          go_wp2_with (at_builtin; refine wpList_append_TR (obs := [obPub p0 m0 k0 (nxD σ0 s), obPub p1 m1 k1 (σ1), obRP P0 (nxD σ0 s), obRP P1 (σ1), obK A2 26 #[.pointer (some ⟨p0, 0, none⟩), .pointer (some ⟨p1, 0, none⟩)], obK R2 29 #[.pointer (some ⟨P0, 0, none⟩), .pointer (some ⟨P1, 0, none⟩)], obTR told2 (ts ++ [((.slice zo r.length zc : Value), r)]), obTR u8 us, obTI u9 hs, KI.ob (.slice xo hl.length xc) hl]) Hj.out 7 rfl _ _ rfl rfl rfl rfl htl2 ?_)
          intro wants2 wk hk1
          have Hk : Hid (Env w wk [obPub p0 m0 k0 (nxD σ0 s), obPub p1 m1 k1 (σ1), obRP P0 (nxD σ0 s), obRP P1 (σ1), obK A2 26 #[.pointer (some ⟨p0, 0, none⟩), .pointer (some ⟨p1, 0, none⟩)], obK R2 29 #[.pointer (some ⟨P0, 0, none⟩), .pointer (some ⟨P1, 0, none⟩)], obTR told2 (ts ++ [((.slice zo r.length zc : Value), r)]), obTR wants2 (us ++ [((.slice yo r.length yc : Value), r)]), obTI u9 hs, KI.ob (.slice xo hl.length xc) hl]) := Lib.hid hk1
          clear hk1 Hj
          go_wp2_with (at_builtin; refine wpList_append_TI (obs := [obPub p0 m0 k0 (nxD σ0 s), obPub p1 m1 k1 (σ1), obRP P0 (nxD σ0 s), obRP P1 (σ1), obK A2 26 #[.pointer (some ⟨p0, 0, none⟩), .pointer (some ⟨p1, 0, none⟩)], obK R2 29 #[.pointer (some ⟨P0, 0, none⟩), .pointer (some ⟨P1, 0, none⟩)], obTR told2 (ts ++ [((.slice zo r.length zc : Value), r)]), obTR wants2 (us ++ [((.slice yo r.length yc : Value), r)]), obTI u9 hs]) Hk.out 8 rfl _ _ rfl rfl rfl rfl htl3 ?_)
          intro hu2 wl hl1
          have Hl : Hid (Env w wl [obPub p0 m0 k0 (nxD σ0 s), obPub p1 m1 k1 (σ1), obRP P0 (nxD σ0 s), obRP P1 (σ1), obK A2 26 #[.pointer (some ⟨p0, 0, none⟩), .pointer (some ⟨p1, 0, none⟩)], obK R2 29 #[.pointer (some ⟨P0, 0, none⟩), .pointer (some ⟨P1, 0, none⟩)], obTR told2 (ts ++ [((.slice zo r.length zc : Value), r)]), obTR wants2 (us ++ [((.slice yo r.length yc : Value), r)]), obTI hu2 (hs ++ [((.slice xo hl.length xc : Value), hl)])]) := Lib.hid hl1
          clear hl1 Hk htl1 htl2 htl3
          have HR2 : Hid (Scr (j + 1) (nxD σ0 s) σ1 (ts ++ [((.slice zo r.length zc : Value), r)]) (us ++ [((.slice yo r.length yc : Value), r)]) (hs ++ [((.slice xo hl.length xc : Value), hl)])) := Lib.hid (HR.out.step (HR.out.o0.step2 s) HR.out.o1.up2 HLN.out.1 HLN.out.2)
          go_wp2_with fail
          refine ⟨⟨j + 1, _, _, _, _, _, by omega, rfl, HR2, Hl⟩, ?_⟩
          have q9 : l.length - ((j : Int) + 1).toNat < l.length - ((j : Int)).toNat := by omega
          exact q9
      · have t4 : decide (j < l.length) = false := by rw [decide_eq_false_iff_not]; omega
        have hjl : j = l.length := by omega
        rw [hjl] at HR
        clear hj hlt hjl
        have HK2 := HK
        clear HK
        have htl := HR.out.lt
        have hul := HR.out.lu
        obtain ⟨tto, tc, hte, htc1, htc2⟩ := obTR_form HK2.out 6 rfl
        obtain ⟨wwo, wc, hwe, hwc1, hwc2⟩ := obTR_form HK2.out 7 rfl
        rw [htl] at hte htc1
        rw [hul] at hwe hwc1
        subst hte hwe
        clear htl hul
        go_wp2_with fail
        clear t4
        go_loopw [17] (fun iv wx => ∃ j : Nat, j ≤ l.length ∧ iv = .int .i64 (j : Int) ∧ Hid (Env w wx [obPub p0 m0 k0 (σ0), obPub p1 m1 k1 (σ1), obRP P0 (σ0), obRP P1 (σ1), obK A2 26 #[.pointer (some ⟨p0, 0, none⟩), .pointer (some ⟨p1, 0, none⟩)], obK R2 29 #[.pointer (some ⟨P0, 0, none⟩), .pointer (some ⟨P1, 0, none⟩)], obTR (.slice tto l.length tc) ts, obTR (.slice wwo l.length wc) us, obTI u9 hs])) (fun iv _ => l.length - (RowKit.intOf iv).toNat)
        case atStart => exact ⟨0, Nat.zero_le _, rfl, HK2⟩
        case round =>
          obtain ⟨i, hi, rfl, HL⟩ := hrel
          clear HK2
          by_cases hil : i < l.length
          · have t5 : decide ((i : Int) < (l.length : Int)) = true := by rw [decide_eq_true_eq]; omega
            have bi : 0 ≤ (i : Int) ∧ (i : Int) < (l.length : Int) := by omega
            obtain ⟨⟨rv, r⟩, hr⟩ : ∃ y, ts[i]? = some y := ⟨_, List.getElem?_eq_getElem (by rw [HR.out.lt]; omega)⟩
            obtain ⟨⟨sv, r'⟩, hs'⟩ : ∃ y, us[i]? = some y := ⟨_, List.getElem?_eq_getElem (by rw [HR.out.lu]; omega)⟩
            have e1 := congrArg (fun z => z[i]?) HR.out.same
            simp only [List.getElem?_map, hr, hs', Option.map_some] at e1
            injection e1 with e1
            subst e1
            obtain ⟨g, c1, q1, _, _⟩ := obTR_slice HL.out 6 rfl (by rw [HR.out.lt]; omega)
            obtain ⟨g2, c2, q2, _, _⟩ := obTR_slice HL.out 7 rfl (by rw [HR.out.lu]; omega)
            injection q1 with q1 q1b q1c
            injection q2 with q2 q2b q2c
            subst q1 q2
            clear q1b q1c q2b q2c
            have HRS := Lib.hid (And.intro hr hs')
            have hS : Hid (∀ W, Env w W [obPub p0 m0 k0 (σ0), obPub p1 m1 k1 (σ1), obRP P0 (σ0), obRP P1 (σ1), obK A2 26 #[.pointer (some ⟨p0, 0, none⟩), .pointer (some ⟨p1, 0, none⟩)], obK R2 29 #[.pointer (some ⟨P0, 0, none⟩), .pointer (some ⟨P1, 0, none⟩)], obTR (.slice (some ⟨g, 0, none⟩) l.length tc) ts, obTR (.slice (some ⟨g2, 0, none⟩) l.length wc) us, obTI u9 hs] → SA2 g g2 i rv sv W ∧ RunsRd W rv r ∧ RunsRd W sv r) := Lib.hid fun W hW => ⟨⟨obTR_cell hW 6 rfl HRS.out.1, obTR_cell hW 7 rfl HRS.out.2⟩, obTR_get hW 6 rfl HRS.out.1, obTR_get hW 7 rfl HRS.out.2⟩
            clear hr hs'
            go_upto_region 26 with fail
            refine hd_start (SA2 g g2 i rv sv) (by kernel_rfl) ?_
            intro wa hw'
            have Ha := Lib.hid (HL.out.draw 1)
            rw [← hw'] at Ha
            clear hw' HL
            have Sa := (hS.out _ Ha.out).1
            refine hd_take (v := ?_) 0 rfl (by kernel_rfl) (fun _ _ d _ _ h => (by cases d <;> exact h)) (by kernel_rfl) Sa (fun w' hS => ?_) ?_
            rotate_left
            focus (have q0 := SA2.id w' hS; clear hS; go_simp; try rfl; done)
            simp only [List.getElem_toArray, List.getElem_cons_succ, List.getElem_cons_zero, Act.put, List.setIfInBounds_toArray, List.set_cons_zero, List.set_cons_succ]
            refine hd_take (v := ?_) 1 rfl (by kernel_rfl) (fun _ _ d _ _ h => (by cases d <;> exact h)) (by kernel_rfl) Sa (fun w' hS => ?_) ?_
            rotate_left
            focus (have q0 := SA2.id w' hS; clear hS; go_simp; try rfl; done)
            simp only [List.getElem_toArray, List.getElem_cons_succ, List.getElem_cons_zero, Act.put, List.setIfInBounds_toArray, List.set_cons_zero, List.set_cons_succ]
            refine hd_take (v := ?_) 2 rfl (by kernel_rfl) (fun _ _ d _ _ h => (by cases d <;> exact h)) (by kernel_rfl) Sa (fun w' hS => ?_) ?_
            rotate_left
            focus (have q0 := SA2.id w' hS; clear hS; go_simp; try rfl; done)
            simp only [List.getElem_toArray, List.getElem_cons_succ, List.getElem_cons_zero, Act.put, List.setIfInBounds_toArray, List.set_cons_zero, List.set_cons_succ]
            refine hd_take (v := ?_) 3 rfl (by kernel_rfl) (fun _ _ d _ _ h => (by cases d <;> exact h)) (by kernel_rfl) Sa (fun w' hS => ?_) ?_
            rotate_left
            focus (have q0 := SA2.id w' hS; clear hS; go_simp; try rfl; done)
            simp only [List.getElem_toArray, List.getElem_cons_succ, List.getElem_cons_zero, Act.put, List.setIfInBounds_toArray, List.set_cons_zero, List.set_cons_succ]
            refine hd_take (v := ?_) 4 rfl (by kernel_rfl) (fun _ _ d _ _ h => (by cases d <;> exact h)) (by kernel_rfl) Sa (fun w' hS => ?_) ?_
            rotate_left
            focus (have q0 := SA2.id w' hS; clear hS; go_simp; try rfl; done)
            simp only [List.getElem_toArray, List.getElem_cons_succ, List.getElem_cons_zero, Act.put, List.setIfInBounds_toArray, List.set_cons_zero, List.set_cons_succ]
            refine hd_take (v := ?_) 5 rfl (by kernel_rfl) (fun _ _ d _ _ h => (by cases d <;> exact h)) (by kernel_rfl) Sa (fun w' hS => ?_) ?_
            rotate_left
            focus (have q0 := SA2.id w' hS; clear hS; go_simp; try rfl; done)
            simp only [List.getElem_toArray, List.getElem_cons_succ, List.getElem_cons_zero, Act.put, List.setIfInBounds_toArray, List.set_cons_zero, List.set_cons_succ]
            refine hd_take (v := ?_) 6 rfl (by kernel_rfl) (fun _ _ d _ _ h => (by cases d <;> exact h)) (by kernel_rfl) Sa (fun w' hS => ?_) ?_
            rotate_left
            focus (have q0 := SA2.id w' hS; clear hS; go_simp; try rfl; done)
            simp only [List.getElem_toArray, List.getElem_cons_succ, List.getElem_cons_zero, Act.put, List.setIfInBounds_toArray, List.set_cons_zero, List.set_cons_succ]
            refine hd_take (v := ?_) 7 rfl (by kernel_rfl) (fun _ _ d _ _ h => (by cases d <;> exact h)) (by kernel_rfl) Sa (fun w' hS => ?_) ?_
            rotate_left
            focus (have q0 := SA2.id w' hS; clear hS; go_simp; try rfl; done)
            simp only [List.getElem_toArray, List.getElem_cons_succ, List.getElem_cons_zero, Act.put, List.setIfInBounds_toArray, List.set_cons_zero, List.set_cons_succ]
            refine hd_one 8 (by kernel_rfl) ?_
            refine op_call rfl (by kernel_rfl) (by go_simp; first | exact ⟨rfl, rfl⟩ | rfl) ?_
            refine (sameRuns_env' Ha.out (hS.out _ Ha.out).2.1 (hS.out _ Ha.out).2.2).mono ?_
            rintro e wb ⟨he, hb⟩
            rw [decide_eq_true rfl] at he
            subst he
            have hS2 := (hS.out _ hb).1
            have Sb := hS2
            have Hb := Lib.hid hb
            clear hb
            refine ⟨_, rfl, hS2, ?_⟩
            simp only [List.getElem_toArray, List.getElem_cons_succ, List.getElem_cons_zero, Act.put, List.setIfInBounds_toArray, List.set_cons_zero, List.set_cons_succ]
            refine hd_take (v := ?_) 9 rfl (by kernel_rfl) (fun _ _ d _ _ h => (by cases d <;> exact h)) (by kernel_rfl) Sb (fun w' hS => ?_) ?_
            rotate_left
            focus (clear hS; go_simp; try rfl; done)
            simp only [List.getElem_toArray, List.getElem_cons_succ, List.getElem_cons_zero, Act.put, List.setIfInBounds_toArray, List.set_cons_zero, List.set_cons_succ]
            refine hd_done (by kernel_rfl) ?_
            clear Sa Sb hS Ha
            have hw1 : IntKind.i64.wrap ((i : Int) + 1) = ((i + 1 : Nat) : Int) := by rw [IntWalk.i64_in _ (by omega)]; omega
            go_wp2_with fail
            refine ⟨⟨i + 1, by omega, rfl, Hb⟩, ?_⟩
            have q9 : l.length - ((i : Int) + 1).toNat < l.length - ((i : Int)).toNat := by omega
            exact q9
          · have t5 : decide ((i : Int) < (l.length : Int)) = false := by rw [decide_eq_false_iff_not]; omega
            have hm : Env w wr [obTR (.slice tto l.length tc) ts, obTI u9 hs] := by
              refine Env.pick HL.out (fun j => [6, 8].getD j 0) ?_ ?_
              · intro i j hi hj
                simp at hi hj
                exact (by decide : ∀ i, i < 2 → ∀ j, j < 2 → [6, 8].getD i 0 = [6, 8].getD j 0 → i = j) i hi j hj
              · intro j ob hj
                match j, hj with
                | 0, hj => exact hj
                | 1, hj => exact hj
                | n + 2, hj => simp at hj
            have HM := Lib.hid hm
            clear hm HL
            go_wp2_with fail
            refine (apart_toldR HM.out (fun p hp => by have := HR.out.sm p hp; omega) (by have := HR.out.lt; omega)).mono ?_
            rintro e wa ⟨rfl, ha⟩
            have Ha := Lib.hid ha
            clear ha HM
            go_wp2_with fail
            refine (apart_toldI Ha.out (fun p hp => by have := HR.out.sh p hp; omega) (by have := HR.out.lh; omega)).mono ?_
            rintro e wb ⟨rfl, hb⟩
            have HB := Lib.hid hb.base
            clear hb Ha
            go_wp2_with fail
            go_ret
            exact ⟨rfl, HB.out⟩
end costScript
end Go.Proofs.YtkidijjhedjifaaGreat
/- Opening a list of ints, of whatever size. -/
namespace Go.Proofs.YtkidijjhedjifaaGreat
open Go.RowKit Go.ChangeShapes Go.WideShapes Go.ChangeAt
set_option maxRecDepth 100000
theorem openIntsU {H : Type} {enc : TypeId × Value → H} {W : World} {base : Nat} {v : Value} {d : DataW H} {p : List MemPlace}
    (hval : Value.okWide Tryz.prog W .any base 23 v) (h : DataW.Trod enc Tryz.prog W 0 (fun _ => true) true 23 v d p) : ∃ l : List Int, KI.R W v l := by
  obtain ⟨l, hl, _⟩ := open_ints_sized Tryz.underlying23 Tryz.underlying3 cellsI64 hval h
  exact ⟨l, hl⟩
end Go.Proofs.YtkidijjhedjifaaGreat
namespace Go.Proofs.YtkidijjhedjifaaGreat.costScript
open Go.ChangeShapes Go.WideShapes Go.ChangeAt Go.RowKit
set_option linter.unusedVariables false

set_option maxRecDepth 100000 in
theorem lifted (os : Os) (started : os.Started) (H : Type) (enc : TypeId × Value → H) :
    ReturnsInHanded {} Tryz.checked os 3 .any (Rows.costScriptSpec.pre6 enc Tryz.prog Tryz.f3 Rows.costScriptRow.domain false) (Rows.costScriptSpec.post enc Tryz.prog Tryz.f3 false true false false) := by
  refine returnsInHanded_of_change (C := Tryz.checked) own started (by kernel_rfl) Tryz.func3
    (ChangeSpec.witness6 (enc := enc) (C := Tryz.checked) false ⟨#[], #[.slice none 0 0, .slice none 0 0], []⟩ 8 (by kernel_rfl) (by kernel_rfl) (by kernel_rfl) (by kernel_rfl)) ?_
  intro W base args ds gs before hval0 hW hcnd _
  have hval : ∀ (j : Nat) t v, Tryz.f3.params[j]? = some t → args[j]? = some v → Value.okWide Tryz.prog W .any base t v := hval0
  have hW' := hW
  obtain ⟨p, q, hA0, hV, rfl, hfz, hnd⟩ := hW
  have hA : DataW.TrodAll enc Tryz.prog W 0 (fun _ => true) true Tryz.f3.params.toList args.toList ds p := hA0
  rw [Tryz.params3] at hA hval
  obtain ⟨v0, vs0, d0, ds0, p0, q0, hargs, rfl, rfl, h0, r0⟩ := trodAll_cons hA
  obtain ⟨v1, vs1, d1, ds1, p1, q1, rfl, rfl, rfl, h1, r1⟩ := trodAll_cons r0
  obtain ⟨rfl, rfl, rfl⟩ := trodAll_nil r1
  obtain rfl : args = #[v0, v1] := by cases args; simp_all
  obtain ⟨rfl, rfl⟩ := trodVars_none hV
  obtain ⟨a0, e0⟩ := openSks (hval 0 22 v0 rfl rfl) h0
  obtain ⟨a1, e1⟩ := openIntsU (hval 1 23 v1 rfl rfl) h1
  clear hA0 hval0
  simp only [List.append_nil] at hW'
  refine (walk v0 a0 e0 v1 a1 e1).mono fun e W' ⟨he, hg⟩ => ?_
  subst he
  exact ⟨_, rfl, law_post laidOut (by kernel_rfl) rfl rfl Tryz.underlying4 hW' hg rfl rfl rfl⟩

theorem over : Rows.costScriptRow.holds Tryz.pinned (OpenSpec.ofChange Rows.costScriptSpec) :=
  OpenClaim.holds_of_wide 3 Tryz.f3 rfl rfl rfl rfl rfl rfl rfl ⟨rfl, rfl, rfl, rfl, rfl⟩ rfl rfl rfl rfl rfl (by kernel_rfl) Tryz.func3 (by kernel_rfl)
    (of_decide_eq_true (by kernel_rfl)) (by unfold Func.isWrapper; rw [if_neg (of_decide_eq_false (by kernel_rfl))]; exact ⟨rfl, rfl⟩)
    (fun os started H enc _ => lifted os started H enc)

theorem proved : Rows.CostScriptSaid := over
end Go.Proofs.YtkidijjhedjifaaGreat.costScript
