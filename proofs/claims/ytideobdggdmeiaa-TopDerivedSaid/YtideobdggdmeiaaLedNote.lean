/- The contract of the program's NoteTimes: three ways (the last run's event; another event or the first; no event). Conditions: the sum of all counts stays below 2^63, at most 2^40 runs. -/
import Derived.Test.YtideobdggdmeiaaLed
namespace Go.Proofs.Ytideobdggdmeiaa
open Go.RowKit
set_option maxRecDepth 100000
set_option maxHeartbeats 1000000 in
theorem noteTimes_same (b g cap : Nat) (rs : List Rn) (r : Rn) (n : Int) (w : World) (h : LedP w b (.slice (some ⟨g, 0, none⟩) (rs ++ [r]).length cap) (rs ++ [r])) (hn : 1 ≤ n) (hb : tot (rs ++ [r]) + n < 9223372036854775808) :
    Calls Try.prog 55 #[.pointer (some ⟨b, 0, none⟩), .agg #[.int .u8 r.k, .int .i64 r.s], .int .i64 n] w (NotedP b (.slice (some ⟨g, 0, none⟩) (rs ++ [r]).length cap) (rs ++ [⟨r.k, r.s, r.c + n⟩]) w) := by
  obtain ⟨d1, d2, d3⟩ := h.row.cells rs.length r (by simp)
  have hp := h.posi r (by simp)
  have ht : r.c ≤ tot (rs ++ [r]) := by
    have := tot_nonneg rs (fun x hx => h.posi x (by simp [hx]))
    rw [tot_append, tot_one]; omega
  have c0 := h.blk.cellAt 0 (v := .slice (some ⟨g, 0, none⟩) (rs ++ [r]).length cap) rfl
  have c1 := h.blk.cellAt 1 (v := .int .i64 (tot (rs ++ [r]))) rfl
  have f1 := h.blk.unfrozen 1
  have fg := World.ownsRow.frozenAt h.row (rs.length * 3 + 2)
  have hbl := h.blk.lt
  have hgl : g < w.heap.size := h.row.lt g rfl
  have hne : ¬ b = g := fun e => h.apart (by rw [e]; rfl)
  have hne' : ¬ g = b := fun e => hne e.symm
  have ht0 : 0 ≤ tot (rs ++ [r]) := by omega
  have H := Lib.hid h
  clear h
  have hlen : (rs ++ [r]).length = rs.length + 1 := by simp
  rw [hlen] at c0
  generalize hT : tot (rs ++ [r]) = T at hb c1 ht0 ht
  have HT := Lib.hid hT
  clear hT
  obtain ⟨rk, rs', rc⟩ := r
  generalize hL : rs.length = L at c0 d1 d2 d3 fg
  have HL := Lib.hid hL
  clear hL hlen
  have hl63 : L < 9223372036854775807 := by
    have h1 := tot_nonneg _ H.out.posi
    rw [List.length_append] at h1
    have h2 := HL.out
    simp only [List.length_cons, List.length_nil] at h1
    have h3 := HT.out
    omega
  go_enter Try.func55, Try.ntmps55
  go_wp2_with fail
  go_quiet (fail)
  go_wp2_with fail
  refine bodyPost_ret (results_none rfl _ _ _) rfl ?_
  have e := HL.out
  subst e
  have ho : Only (fun x => x = b) w (((w.setCell ⟨b, 1, none⟩ (.int .i64 (T + n))).alloc (.cells #[.int .u8 rk, .int .i64 rs'] 47)).drewN nq) := (((Only.refl (fun x => x = b) w).set (.inl rfl) _).alloc _).draw _
  have hb2 := (((H.out.blk.set 1 (.int .i64 (T + n))).alloc (.cells #[.int .u8 rk, .int .i64 rs'] 47)).draw nq)
  have hb3 : Blk (((w.setCell ⟨b, 1, none⟩ (.int .i64 (T + n))).alloc (.cells #[.int .u8 rk, .int .i64 rs'] 47)).drewN nq) b 105 #[.slice (some ⟨g, 0, none⟩) (rs ++ [(⟨rk, rs', rc⟩ : Rn)]).length cap, .int .i64 (tot (rs ++ [(⟨rk, rs', rc⟩ : Rn)]) + n)] := by
    rw [HT.out]
    exact hb2
  exact NotedP.same (r := ⟨rk, rs', rc⟩) H.out hn ho hb3

/-- behind the count: the ledger's block, the event's copy -/
structure NewS (b : Nat) (v : Value) (T k s : Int) (w w' : World) : Prop where
  only : Only (fun x => x = b) w w'
  blk : Blk w' b 105 #[v, .int .i64 T]
  ev : Blk w' w.heap.size 47 #[.int .u8 k, .int .i64 s]
  size : w'.heap.size = w.heap.size + 1
structure NewS' (b : Nat) (v : Value) (T k s n : Int) (w w' : World) : Prop where
  only : Only (fun x => x = b) w w'
  blk : Blk w' b 105 #[v, .int .i64 T]
  ev : Blk w' w.heap.size 47 #[.int .u8 k, .int .i64 s]
  lit : Blk w' (w.heap.size + 1) 107 #[.int .u8 k, .int .i64 s, .int .i64 n]
  size : w'.heap.size = w.heap.size + 2
theorem NewS.start {b : Nat} {v : Value} {rs : List Rn} {T k s n : Int} {w : World} (h : LedP w b v rs) (_hT : tot rs = T) (nq : Nat) :
    NewS b v (T + n) k s w (((w.setCell ⟨b, 1, none⟩ (.int .i64 (T + n))).alloc (.cells #[.int .u8 k, .int .i64 s] 47)).drewN nq) :=
  ⟨(((Only.refl (fun x => x = b) w).set (.inl rfl) _).alloc _).draw _, ((h.blk.set 1 (.int .i64 (T + n))).alloc _).draw nq, (Blk.at (by simp) rfl : Blk ((w.setCell ⟨b, 1, none⟩ (.int .i64 (T + n))).alloc (.cells #[.int .u8 k, .int .i64 s] 47)) w.heap.size 47 #[.int .u8 k, .int .i64 s]), by show ((w.setCell ⟨b, 1, none⟩ (.int .i64 (T + n))).alloc (.cells #[.int .u8 k, .int .i64 s] 47)).heap.size = _; simp⟩
theorem NewS.lit {b : Nat} {v : Value} {T k s : Int} {w w' : World} (h : NewS b v T k s w w') (n : Int) : NewS' b v T k s n w (w'.alloc (.cells #[.int .u8 k, .int .i64 s, .int .i64 n] 107)) :=
  ⟨h.only.alloc _, h.blk.alloc _, h.ev.alloc _, Blk.at h.size.symm rfl, by simp [h.size]⟩
theorem three_cells (k s n : Int) : ∀ u ∈ [Value.int .u8 k, .int .i64 s, .int .i64 n], u.oneCell' = true := by
  intro u hu
  simp at hu
  rcases hu with rfl | rfl | rfl <;> rfl
theorem maxl {n : Nat} (h : n ≤ 5497558138880) : n + 1 ≤ maxLen := by unfold maxLen; omega
theorem byt {n : Nat} (h : n ≤ 5497558138880) : (n + 1) * 24 ≤ 140737488355328 := by omega
theorem infoRun : (Try.prog.info? 107).map (fun i => (i.zero, i.size, i.bytes)) = some (some (.agg #[.int .u8 0, .int .i64 0, .int .i64 0]), 3, 24) := by kernel_rfl
theorem NewS.drawn {b : Nat} {v : Value} {T k s : Int} {w w' : World} (h : NewS b v T k s w w') (n : Nat) : NewS b v T k s w { w' with drawn := w'.drawn + n } := ⟨⟨h.only.os, h.only.tape, h.only.output, h.only.size, h.only.block⟩, h.blk, h.ev, h.size⟩
theorem NewS.reads {b : Nat} {v : Value} {T k s n : Int} {w w' : World} (h : NewS b v T k s w w' ∨ NewS' b v T k s n w w') :
    w'.cell? ⟨b, 0, none⟩ = some v ∧ w'.cell? ⟨w.heap.size, 0, none⟩ = some (.int .u8 k) ∧ w'.cell? ⟨w.heap.size, 1, none⟩ = some (.int .i64 s) ∧ b < w'.heap.size ∧ w.heap.size < w'.heap.size := by
  rcases h with h | h
  · exact ⟨h.blk.cellAt 0 rfl, h.ev.cellAt 0 rfl, h.ev.cellAt 1 rfl, h.blk.lt, h.ev.lt⟩
  · exact ⟨h.blk.cellAt 0 rfl, h.ev.cellAt 0 rfl, h.ev.cellAt 1 rfl, h.blk.lt, h.ev.lt⟩
/-- the first run, or one of another event -/
theorem noteTimes_new (b : Nat) (v : Value) (rs : List Rn) (k s n : Int) (w : World) (h : LedP w b v rs) (hn : 1 ≤ n) (hb : tot rs + n < 9223372036854775808) (hl : rs.length ≤ 5497558138880)
    (hd : rs = [] ∨ ∃ rs0 r, rs = rs0 ++ [r] ∧ ((r.k == k) = false ∨ ((r.k == k) = true ∧ (r.s == s) = false))) :
    Calls Try.prog 55 #[.pointer (some ⟨b, 0, none⟩), .agg #[.int .u8 k, .int .i64 s], .int .i64 n] w (NotedP b v (rs ++ [⟨k, s, n⟩]) w) := by
  have ht0 : 0 ≤ tot rs := by have := tot_nonneg rs h.posi; omega
  obtain ⟨ao, cap, hv⟩ := h.row.any
  have c0 := h.blk.cellAt 0 (v := v) rfl
  have c1 := h.blk.cellAt 1 (v := .int .i64 (tot rs)) rfl
  have f1 := h.blk.unfrozen 1
  have f0 := h.blk.unfrozen 0
  have hbl := h.blk.lt
  have H := Lib.hid h
  obtain ⟨i0, hi, hz0, hz1, hz2⟩ := info_parts infoRun
  have HI := Lib.hid (And.intro hi (And.intro hz0 (And.intro hz1 hz2)))
  clear hi hz0 hz1 hz2
  rcases hd with rfl | ⟨rs0, r, rfl, hd⟩
  · clear h
    have hlz : ([] : List Rn).length = 0 := rfl
    subst hv
    have HN0 : Hid (0 = ([] : List Rn).length) := rfl
    have HL0 : Hid (0 ≤ 5497558138880) := Nat.zero_le _
    have HROW : Hid (∀ {w1 : World}, Only (fun x => x = b) w w1 → w1.ownsRow 0 107 3 (.slice ao 0 cap) 0 (flatR [])) := fun {w1} ho => H.out.row.keep ho (fun x hx he => H.out.apart (he ▸ hx))
    generalize hT : tot ([] : List Rn) = T at hb c1 ht0
    have HT := Lib.hid hT
    clear hT
    rw [hlz] at c0
    clear hlz
    go_enter Try.func55, Try.ntmps55
    go_wp2_with fail
    go_quiet (fail)
    go_wp2_with fail
    have HSt : NewS b (.slice ao 0 cap) (T + n) k s w (((w.setCell ⟨b, 1, none⟩ (.int .i64 (T + n))).alloc (.cells #[.int .u8 k, .int .i64 s] 47)).drewN nq) := NewS.start H.out HT.out nq
    generalize (((w.setCell ⟨b, 1, none⟩ (.int .i64 (T + n))).alloc (.cells #[.int .u8 k, .int .i64 s] 47)).drewN nq) = W at HSt
    refine wp_region_tame3 8 (NewS b (.slice ao 0 cap) (T + n) k s w) (NewS' b (.slice ao 0 cap) (T + n) k s n w) 1 9 (by kernel_rfl) (by kernel_rfl) (fun _ _ d _ _ h => (by cases d <;> exact h)) (HSt.drawn 1) (.inl (by decide)) ?_
    clear HSt
    simp only [List.take_succ_cons, List.take_zero, List.drop_succ_cons, List.drop_zero]
    refine wpPre_run (v := ?_) rfl (fun w' => ?_) ?_
    rotate_left
    · (go_simp; rfl)
    simp only [Act.put, List.setIfInBounds_toArray, List.set_cons_zero, List.set_cons_succ]
    refine wpPre_nil ?_
    iterate 7
      refine wpTame_run2 (v := ?_) (by decide) rfl (fun w' hS => ?_) ?_
      rotate_left
      · (obtain ⟨c0, e0, e1, _, _⟩ := NewS.reads hS; clear hS; go_simp; rfl)
      simp only [Act.put, List.setIfInBounds_toArray, List.set_cons_zero, List.set_cons_succ]
    refine wpTame_bump (v := .slice (some ⟨w.heap.size + 1, 0, none⟩) 1 1) rfl rfl (fun w' hS => ?_) ?_
    · have hz := hS.size
      have HZ := Lib.hid hS
      clear hS
      go_simp
      exact ⟨rfl, HZ.out.lit n⟩
    simp only [Act.put, List.setIfInBounds_toArray, List.set_cons_zero, List.set_cons_succ]
    refine wpTame_nil ?_
    intro w1 hS
    obtain ⟨hi, hz0, hz1, hz2⟩ := HI.out
    obtain ⟨c0, _, _, hl1, _⟩ := NewS.reads (n := n) (.inr hS)
    have hrow : w1.ownsRow 0 107 3 (.slice ao 0 cap) 0 (flatR []) := HROW.out hS.only
    refine wpList_append_lies w1 rfl _ _ 103 rfl 0 107 i0 _ 3 24 Try.underlying103 hi hz0 hz1 hz2 rfl (by decide) (.slice ao 0 cap) 0 (flatR []) rfl hrow ⟨w.heap.size + 1, 0, none⟩ 1 1 [.int .u8 k, .int .i64 s, .int .i64 n] rfl rfl (World.news_of_block hS.lit) (three_cells k s n) (by decide) (maxl HL0.out) (byt HL0.out) (Nat.zero_le _) _ rfl ?_
    intro g cap' w2 hown hgrow hat hlt
    have hne : ¬ (Value.slice ao 0 cap).ownBlock = some b := H.out.apart
    have c2 : w2.cell? ⟨b, 0, none⟩ = some (.slice ao 0 cap) := (World.grownBy.cell_far hgrow ⟨b, 0, none⟩ hl1 (fun e => hne e.symm)).trans c0
    have f2 : w2.frozen? ⟨b, 0, none⟩ = false := (World.grownBy.frozen_far hgrow ⟨b, 0, none⟩ hl1 (fun e => hne e.symm)).trans (hS.blk.unfrozen 0)
    have hat' : (Value.slice ao 0 cap).ownBlock = some g ∨ w.heap.size ≤ g := hat.imp id (fun e => by rw [e, hS.size]; omega)
    have HN : Hid (NotedP b (.slice ao 0 cap) ([] ++ [⟨k, s, n⟩]) w (.returned (.tuple #[])) (w2.setCell ⟨b, 0, none⟩ (.slice (some ⟨g, 0, none⟩) (0 + 1) cap'))) :=
      NotedP.more HN0.out H.out hn hS.only (by rw [HT.out]; exact hS.blk) hown hgrow hat'
    clear hat hat' hown hgrow hS
    go_wp2
    refine bodyPost_ret (results_none rfl _ _ _) rfl ?_
    exact HN.out
  · have hlen : (rs0 ++ [r]).length = rs0.length + 1 := by simp
    obtain ⟨g0, cap0, hv1, hgl⟩ := h.row.form (by omega)
    subst hv1
    obtain ⟨d1, d2, d3⟩ := h.row.cells rs0.length r (by simp)
    have hne : ¬ b = g0 := fun e => h.apart (by rw [e]; rfl)
    have hne' : ¬ g0 = b := fun e => hne e.symm
    have hl63 : rs0.length < 9223372036854775807 := by omega
    have HLL : Hid ((rs0 ++ [r]).length ≤ 5497558138880) := hl
    clear h hl hv
    rw [hlen] at c0
    have HN0 : Hid (rs0.length + 1 = (rs0 ++ [r]).length) := Lib.hid hlen.symm
    have HL0 : Hid (rs0.length + 1 ≤ 5497558138880) := by rw [HN0.out]; exact HLL.out
    have HROW : Hid (∀ {w1 : World}, Only (fun x => x = b) w w1 → w1.ownsRow 0 107 3 (.slice (some ⟨g0, 0, none⟩) (rs0.length + 1) cap0) (rs0.length + 1) (flatR (rs0 ++ [r]))) := fun {w1} ho => by
      have h1 := H.out.row.keep ho (fun x hx he => H.out.apart (he ▸ hx))
      unfold RunsAt at h1
      rw [hlen] at h1
      exact h1
    have H : Hid (LedP w b (.slice (some ⟨g0, 0, none⟩) (rs0.length + 1) cap0) (rs0 ++ [r])) := by
      have h1 := H.out
      rw [hlen] at h1
      exact h1
    have HNP : Hid (NotedP b (.slice (some ⟨g0, 0, none⟩) (rs0.length + 1) cap0) (rs0 ++ [r] ++ [⟨k, s, n⟩]) w = NotedP b (.slice (some ⟨g0, 0, none⟩) (rs0 ++ [r]).length cap0) (rs0 ++ [r] ++ [⟨k, s, n⟩]) w) := by rw [hlen]; rfl
    rw [← HNP.out]
    clear hlen HNP
    generalize hT : tot (rs0 ++ [r]) = T at hb c1 ht0
    have HT := Lib.hid hT
    clear hT
    generalize rs0.length = L at c0 d1 d2 d3 hl63 HN0 HL0 HROW H ⊢
    obtain ⟨rk, rs', rc⟩ := r
    dsimp only at d1 d2 d3 hd
    rcases hd with hd | ⟨hd, hd'⟩
    all_goals
      go_enter Try.func55, Try.ntmps55
      go_wp2_with fail
      have hwL : IntKind.i64.wrap (L : Int) = L := IntWalk.i64_in _ (by omega)
      go_quiet (fail)
      clear hwL
      go_wp2_with fail
      have HSt : NewS b (.slice (some ⟨g0, 0, none⟩) (L + 1) cap0) (T + n) k s w (((w.setCell ⟨b, 1, none⟩ (.int .i64 (T + n))).alloc (.cells #[.int .u8 k, .int .i64 s] 47)).drewN nq) := NewS.start H.out HT.out nq
      generalize (((w.setCell ⟨b, 1, none⟩ (.int .i64 (T + n))).alloc (.cells #[.int .u8 k, .int .i64 s] 47)).drewN nq) = W at HSt
      refine wp_region_tame3 8 (NewS b (.slice (some ⟨g0, 0, none⟩) (L + 1) cap0) (T + n) k s w) (NewS' b (.slice (some ⟨g0, 0, none⟩) (L + 1) cap0) (T + n) k s n w) 1 9 (by kernel_rfl) (by kernel_rfl) (fun _ _ d _ _ h => (by cases d <;> exact h)) (HSt.drawn 1) (.inl (by decide)) ?_
      clear HSt
      simp only [List.take_succ_cons, List.take_zero, List.drop_succ_cons, List.drop_zero]
      refine wpPre_run (v := ?_) rfl (fun w' => ?_) ?_
      rotate_left
      · (go_simp; rfl)
      simp only [Act.put, List.setIfInBounds_toArray, List.set_cons_zero, List.set_cons_succ]
      refine wpPre_nil ?_
      iterate 7
        refine wpTame_run2 (v := ?_) (by decide) rfl (fun w' hS => ?_) ?_
        rotate_left
        · (obtain ⟨c0, e0, e1, _, _⟩ := NewS.reads hS; clear hS; go_simp; rfl)
        simp only [Act.put, List.setIfInBounds_toArray, List.set_cons_zero, List.set_cons_succ]
      refine wpTame_bump (v := .slice (some ⟨w.heap.size + 1, 0, none⟩) 1 1) rfl rfl (fun w' hS => ?_) ?_
      · have hz := hS.size
        have HZ := Lib.hid hS
        clear hS
        go_simp
        exact ⟨rfl, HZ.out.lit n⟩
      simp only [Act.put, List.setIfInBounds_toArray, List.set_cons_zero, List.set_cons_succ]
      refine wpTame_nil ?_
      intro w1 hS
      obtain ⟨hi, hz0, hz1, hz2⟩ := HI.out
      obtain ⟨c0, _, _, hl1, _⟩ := NewS.reads (n := n) (.inr hS)
      have hrow : w1.ownsRow 0 107 3 (.slice (some ⟨g0, 0, none⟩) (L + 1) cap0) (L + 1) (flatR (rs0 ++ [(⟨rk, rs', rc⟩ : Rn)])) := HROW.out hS.only
      refine wpList_append_lies w1 rfl _ _ 103 rfl 0 107 i0 _ 3 24 Try.underlying103 hi hz0 hz1 hz2 rfl (by decide) (.slice (some ⟨g0, 0, none⟩) (L + 1) cap0) (L + 1) (flatR (rs0 ++ [(⟨rk, rs', rc⟩ : Rn)])) rfl hrow ⟨w.heap.size + 1, 0, none⟩ 1 1 [.int .u8 k, .int .i64 s, .int .i64 n] rfl rfl (World.news_of_block hS.lit) (three_cells k s n) (by decide) (maxl HL0.out) (byt HL0.out) (Nat.zero_le _) _ rfl ?_
      intro g cap' w2 hown hgrow hat hlt
      have hne : ¬ (Value.slice (some ⟨g0, 0, none⟩) (L + 1) cap0).ownBlock = some b := H.out.apart
      have c2 : w2.cell? ⟨b, 0, none⟩ = some (.slice (some ⟨g0, 0, none⟩) (L + 1) cap0) := (World.grownBy.cell_far hgrow ⟨b, 0, none⟩ hl1 (fun e => hne e.symm)).trans c0
      have f2 : w2.frozen? ⟨b, 0, none⟩ = false := (World.grownBy.frozen_far hgrow ⟨b, 0, none⟩ hl1 (fun e => hne e.symm)).trans (hS.blk.unfrozen 0)
      have hat' : (Value.slice (some ⟨g0, 0, none⟩) (L + 1) cap0).ownBlock = some g ∨ w.heap.size ≤ g := hat.imp id (fun e => by rw [e, hS.size]; omega)
      have HN : Hid (NotedP b (.slice (some ⟨g0, 0, none⟩) (L + 1) cap0) ((rs0 ++ [(⟨rk, rs', rc⟩ : Rn)]) ++ [⟨k, s, n⟩]) w (.returned (.tuple #[])) (w2.setCell ⟨b, 0, none⟩ (.slice (some ⟨g, 0, none⟩) ((L + 1) + 1) cap'))) :=
        NotedP.more HN0.out H.out hn hS.only (by rw [HT.out]; exact hS.blk) hown hgrow hat'
      clear hat hat' hown hgrow hS
      go_wp2
      refine bodyPost_ret (results_none rfl _ _ _) rfl ?_
      exact HN.out

/-- nothing is noted -/
theorem noteTimes_off (b : Nat) (k s n : Int) (w : World) (hn : n < 1) :
    Calls Try.prog 55 #[.pointer (some ⟨b, 0, none⟩), .agg #[.int .u8 k, .int .i64 s], .int .i64 n] w fun e w' => e = .returned (.tuple #[]) ∧ Below w.heap.size w w' := by
  go_enter Try.func55, Try.ntmps55
  go_wp2_with fail
  refine bodyPost_ret (results_none rfl _ _ _) rfl ?_
  exact ⟨rfl, (Below.refl _ _).alloc (Nat.le_refl _) _⟩
theorem noteTimes_nil (k s n : Int) (w : World) :
    Calls Try.prog 55 #[.pointer none, .agg #[.int .u8 k, .int .i64 s], .int .i64 n] w fun e w' => e = .returned (.tuple #[]) ∧ Below w.heap.size w w' := by
  go_enter Try.func55, Try.ntmps55
  go_wp2_with fail
  refine bodyPost_ret (results_none rfl _ _ _) rfl ?_
  exact ⟨rfl, (Below.refl _ _).alloc (Nat.le_refl _) _⟩
/-- a note of n events, n above 0 -/
theorem noteTimes_any (b : Nat) (v : Value) (rs : List Rn) (k s n : Int) (w : World) (h : LedP w b v rs) (hn : 1 ≤ n) (hb : tot rs + n < 9223372036854775808) (hl : rs.length ≤ 5497558138880) :
    Calls Try.prog 55 #[.pointer (some ⟨b, 0, none⟩), .agg #[.int .u8 k, .int .i64 s], .int .i64 n] w (NotedP b v (noteL rs k s n) w) := by
  rcases List.eq_nil_or_concat rs with rfl | ⟨rs0, r, rfl⟩
  · exact noteTimes_new b v [] k s n w h hn hb hl (.inl rfl)
  · rw [List.concat_eq_append] at *
    by_cases hk : r.k = k
    · by_cases hs : r.s = s
      · subst hk; subst hs
        obtain ⟨g, cap, rfl, _⟩ := h.row.form (by simp)
        rw [noteL_same]
        exact noteTimes_same b g cap rs0 r n w h hn hb
      · rw [noteL_other _ _ _ _ _ (fun e => hs e.2)]
        exact noteTimes_new b v _ k s n w h hn hb hl (.inr ⟨rs0, r, rfl, .inr ⟨by rw [hk]; exact beq_self_eq_true _, beq_eq_false_iff_ne.2 hs⟩⟩)
    · rw [noteL_other _ _ _ _ _ (fun e => hk e.1)]
      exact noteTimes_new b v _ k s n w h hn hb hl (.inr ⟨rs0, r, rfl, .inl (beq_eq_false_iff_ne.2 hk)⟩)
set_option maxHeartbeats 400000 in
theorem note_any (b : Nat) (v : Value) (rs : List Rn) (k s : Int) (w : World) (h : LedP w b v rs) (hb : tot rs + 1 < 9223372036854775808) (hl : rs.length ≤ 5497558138880) :
    Calls Try.prog 47 #[.pointer (some ⟨b, 0, none⟩), .agg #[.int .u8 k, .int .i64 s]] w (NotedP b v (noteL rs k s 1) w) := by
  have H := Lib.hid h
  have HB := Lib.hid hb
  clear h hb
  go_enter Try.func47, Try.ntmps47
  go_wp2_with fail
  have h1 : LedP (w.alloc (.cells #[.int .u8 k, .int .i64 s] 47)) b v rs := H.out.keep ((Only.refl (fun _ => False) w).alloc _) (fun _ _ h => h)
  refine (noteTimes_any b v rs k s 1 _ h1 (by omega) HB.out hl).mono ?_
  rintro e w1 ⟨rfl, v', g1, g2, g3⟩
  have G1 := Lib.hid g1
  have G2 := Lib.hid g2
  have G3 := Lib.hid g3
  clear g1 g2 g3
  go_wp2
  refine bodyPost_end (results_none rfl _ _ _) rfl ?_
  refine ⟨rfl, v', G1.out, ((Only.refl _ w).alloc _).trans G2.out (fun x hx => .inl hx), fun x hx => (G3.out x hx).imp id (fun hh => ?_)⟩
  simp at hh
  omega
theorem note_nil (k s : Int) (w : World) :
    Calls Try.prog 47 #[.pointer none, .agg #[.int .u8 k, .int .i64 s]] w fun e w' => e = .returned (.tuple #[]) ∧ Below w.heap.size w w' := by
  go_enter Try.func47, Try.ntmps47
  go_wp2_with fail
  refine (noteTimes_nil k s 1 _).mono ?_
  rintro e w1 ⟨rfl, g1⟩
  go_wp2
  refine bodyPost_end (results_none rfl _ _ _) rfl ?_
  exact ⟨rfl, ((Below.refl _ _).alloc (Nat.le_refl _) _).trans (g1.mono (by simp))⟩
end Go.Proofs.Ytideobdggdmeiaa
