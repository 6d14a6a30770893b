/- Append onto a row of one's own: if the row moves, the old one stays as it was. -/
import Derived.Maps.AppendAt
import Derived.Deep.AppendLies
import Derived.Test.YtkidijjhedjifaaRows
import Derived.Maps.RangeWalk
import Derived.Test.YtkidijjhedjifaaQB0
/- The contract of the program's NoteTimes: three ways (the last run's event; another event or the first; no event). Conditions: the sum of all counts stays below 2^63, at most 2^40 runs. -/
namespace Go.Proofs.Ytkidijjhedjifaa
open Go.RowKit
set_option maxRecDepth 100000
set_option maxHeartbeats 1000000 in
theorem noteTimes_same (b g cap : Nat) (rs : List Rn) (r : Rn) (n : Int) (w : World) (h : LedP w b (.slice (some ⟨g, 0, none⟩) (rs ++ [r]).length cap) (rs ++ [r])) (hn : 1 ≤ n) (hb : tot (rs ++ [r]) + n < 9223372036854775808) :
    Calls Try.prog 36 #[.pointer (some ⟨b, 0, none⟩), .agg #[.int .u8 r.k, .int .i64 r.s], .int .i64 n] w (NotedP b (.slice (some ⟨g, 0, none⟩) (rs ++ [r]).length cap) (rs ++ [⟨r.k, r.s, r.c + n⟩]) w) := by
  obtain ⟨d1, d2, d3⟩ := h.row.cells rs.length r (by simp)
  have hp := h.posi r (by simp)
  have ht : r.c ≤ tot (rs ++ [r]) := by
    have := tot_nonneg rs (fun x hx => h.posi x (by simp [hx]))
    rw [tot_append, tot_one]; omega
  have c0 := h.blk.cellAt 0 (v := .slice (some ⟨g, 0, none⟩) (rs ++ [r]).length cap) rfl
  have c1 := h.blk.cellAt 1 (v := .int .i64 (tot (rs ++ [r]))) rfl
  have f1 := h.blk.unfrozen 1
  have fg := World.ownsRow.frozenAt h.row (rs.length * 3 + 2)
  have hbl := h.blk.lt
  have hgl : g < w.heap.size := h.row.lt g rfl
  have hne : ¬ b = g := fun e => h.apart (by rw [e]; rfl)
  have hne' : ¬ g = b := fun e => hne e.symm
  have ht0 : 0 ≤ tot (rs ++ [r]) := by omega
  have H := Lib.hid h
  clear h
  have hlen : (rs ++ [r]).length = rs.length + 1 := by simp
  rw [hlen] at c0
  generalize hT : tot (rs ++ [r]) = T at hb c1 ht0 ht
  have HT := Lib.hid hT
  clear hT
  obtain ⟨rk, rs', rc⟩ := r
  generalize hL : rs.length = L at c0 d1 d2 d3 fg
  have HL := Lib.hid hL
  clear hL hlen
  have hl63 : L < 9223372036854775807 := by
    have h1 := tot_nonneg _ H.out.posi
    rw [List.length_append] at h1
    have h2 := HL.out
    simp only [List.length_cons, List.length_nil] at h1
    have h3 := HT.out
    omega
  go_enter Try.func36, Try.ntmps36
  go_wp2_with fail
  go_quiet (fail)
  go_wp2_with fail
  refine bodyPost_ret (results_none rfl _ _ _) rfl ?_
  have e := HL.out
  subst e
  have ho : Only (fun x => x = b) w (((w.setCell ⟨b, 1, none⟩ (.int .i64 (T + n))).alloc (.cells #[.int .u8 rk, .int .i64 rs'] 49)).drewN nq) := (((Only.refl (fun x => x = b) w).set (.inl rfl) _).alloc _).draw _
  have hb2 := (((H.out.blk.set 1 (.int .i64 (T + n))).alloc (.cells #[.int .u8 rk, .int .i64 rs'] 49)).draw nq)
  have hb3 : Blk (((w.setCell ⟨b, 1, none⟩ (.int .i64 (T + n))).alloc (.cells #[.int .u8 rk, .int .i64 rs'] 49)).drewN nq) b 92 #[.slice (some ⟨g, 0, none⟩) (rs ++ [(⟨rk, rs', rc⟩ : Rn)]).length cap, .int .i64 (tot (rs ++ [(⟨rk, rs', rc⟩ : Rn)]) + n)] := by
    rw [HT.out]
    exact hb2
  exact NotedP.same (r := ⟨rk, rs', rc⟩) H.out hn ho hb3

/-- behind the count: the ledger's block, the event's copy -/
structure NewS (b : Nat) (v : Value) (T k s : Int) (w w' : World) : Prop where
  only : Only (fun x => x = b) w w'
  blk : Blk w' b 92 #[v, .int .i64 T]
  ev : Blk w' w.heap.size 49 #[.int .u8 k, .int .i64 s]
  size : w'.heap.size = w.heap.size + 1
structure NewS' (b : Nat) (v : Value) (T k s n : Int) (w w' : World) : Prop where
  only : Only (fun x => x = b) w w'
  blk : Blk w' b 92 #[v, .int .i64 T]
  ev : Blk w' w.heap.size 49 #[.int .u8 k, .int .i64 s]
  lit : Blk w' (w.heap.size + 1) 51 #[.int .u8 k, .int .i64 s, .int .i64 n]
  size : w'.heap.size = w.heap.size + 2
theorem NewS.start {b : Nat} {v : Value} {rs : List Rn} {T k s n : Int} {w : World} (h : LedP w b v rs) (_hT : tot rs = T) (nq : Nat) :
    NewS b v (T + n) k s w (((w.setCell ⟨b, 1, none⟩ (.int .i64 (T + n))).alloc (.cells #[.int .u8 k, .int .i64 s] 49)).drewN nq) :=
  ⟨(((Only.refl (fun x => x = b) w).set (.inl rfl) _).alloc _).draw _, ((h.blk.set 1 (.int .i64 (T + n))).alloc _).draw nq, (Blk.at (by simp) rfl : Blk ((w.setCell ⟨b, 1, none⟩ (.int .i64 (T + n))).alloc (.cells #[.int .u8 k, .int .i64 s] 49)) w.heap.size 49 #[.int .u8 k, .int .i64 s]), by show ((w.setCell ⟨b, 1, none⟩ (.int .i64 (T + n))).alloc (.cells #[.int .u8 k, .int .i64 s] 49)).heap.size = _; simp⟩
theorem NewS.lit {b : Nat} {v : Value} {T k s : Int} {w w' : World} (h : NewS b v T k s w w') (n : Int) : NewS' b v T k s n w (w'.alloc (.cells #[.int .u8 k, .int .i64 s, .int .i64 n] 51)) :=
  ⟨h.only.alloc _, h.blk.alloc _, h.ev.alloc _, Blk.at h.size.symm rfl, by simp [h.size]⟩
theorem three_cells (k s n : Int) : ∀ u ∈ [Value.int .u8 k, .int .i64 s, .int .i64 n], u.oneCell' = true := by
  intro u hu
  simp at hu
  rcases hu with rfl | rfl | rfl <;> rfl
theorem maxl {n : Nat} (h : n ≤ 5497558138880) : n + 1 ≤ maxLen := by unfold maxLen; omega
theorem byt {n : Nat} (h : n ≤ 5497558138880) : (n + 1) * 24 ≤ 140737488355328 := by omega
theorem infoRun : (Try.prog.info? 51).map (fun i => (i.zero, i.size, i.bytes)) = some (some (.agg #[.int .u8 0, .int .i64 0, .int .i64 0]), 3, 24) := by kernel_rfl
theorem NewS.drawn {b : Nat} {v : Value} {T k s : Int} {w w' : World} (h : NewS b v T k s w w') (n : Nat) : NewS b v T k s w { w' with drawn := w'.drawn + n } := ⟨⟨h.only.os, h.only.tape, h.only.output, h.only.size, h.only.block⟩, h.blk, h.ev, h.size⟩
theorem NewS.reads {b : Nat} {v : Value} {T k s n : Int} {w w' : World} (h : NewS b v T k s w w' ∨ NewS' b v T k s n w w') :
    w'.cell? ⟨b, 0, none⟩ = some v ∧ w'.cell? ⟨w.heap.size, 0, none⟩ = some (.int .u8 k) ∧ w'.cell? ⟨w.heap.size, 1, none⟩ = some (.int .i64 s) ∧ b < w'.heap.size ∧ w.heap.size < w'.heap.size := by
  rcases h with h | h
  · exact ⟨h.blk.cellAt 0 rfl, h.ev.cellAt 0 rfl, h.ev.cellAt 1 rfl, h.blk.lt, h.ev.lt⟩
  · exact ⟨h.blk.cellAt 0 rfl, h.ev.cellAt 0 rfl, h.ev.cellAt 1 rfl, h.blk.lt, h.ev.lt⟩
/-- the first run, or one of another event -/
theorem noteTimes_new (b : Nat) (v : Value) (rs : List Rn) (k s n : Int) (w : World) (h : LedP w b v rs) (hn : 1 ≤ n) (hb : tot rs + n < 9223372036854775808) (hl : rs.length ≤ 5497558138880)
    (hd : rs = [] ∨ ∃ rs0 r, rs = rs0 ++ [r] ∧ ((r.k == k) = false ∨ ((r.k == k) = true ∧ (r.s == s) = false))) :
    Calls Try.prog 36 #[.pointer (some ⟨b, 0, none⟩), .agg #[.int .u8 k, .int .i64 s], .int .i64 n] w (NotedP b v (rs ++ [⟨k, s, n⟩]) w) := by
  have ht0 : 0 ≤ tot rs := by have := tot_nonneg rs h.posi; omega
  obtain ⟨ao, cap, hv⟩ := h.row.any
  have c0 := h.blk.cellAt 0 (v := v) rfl
  have c1 := h.blk.cellAt 1 (v := .int .i64 (tot rs)) rfl
  have f1 := h.blk.unfrozen 1
  have f0 := h.blk.unfrozen 0
  have hbl := h.blk.lt
  have H := Lib.hid h
  obtain ⟨i0, hi, hz0, hz1, hz2⟩ := info_parts infoRun
  have HI := Lib.hid (And.intro hi (And.intro hz0 (And.intro hz1 hz2)))
  clear hi hz0 hz1 hz2
  rcases hd with rfl | ⟨rs0, r, rfl, hd⟩
  · clear h
    have hlz : ([] : List Rn).length = 0 := rfl
    subst hv
    have HN0 : Hid (0 = ([] : List Rn).length) := rfl
    have HL0 : Hid (0 ≤ 5497558138880) := Nat.zero_le _
    have HROW : Hid (∀ {w1 : World}, Only (fun x => x = b) w w1 → w1.ownsRow 0 51 3 (.slice ao 0 cap) 0 (flatR [])) := fun {w1} ho => H.out.row.keep ho (fun x hx he => H.out.apart (he ▸ hx))
    generalize hT : tot ([] : List Rn) = T at hb c1 ht0
    have HT := Lib.hid hT
    clear hT
    rw [hlz] at c0
    clear hlz
    go_enter Try.func36, Try.ntmps36
    go_wp2_with fail
    go_quiet (fail)
    go_wp2_with fail
    have HSt : NewS b (.slice ao 0 cap) (T + n) k s w (((w.setCell ⟨b, 1, none⟩ (.int .i64 (T + n))).alloc (.cells #[.int .u8 k, .int .i64 s] 49)).drewN nq) := NewS.start H.out HT.out nq
    generalize (((w.setCell ⟨b, 1, none⟩ (.int .i64 (T + n))).alloc (.cells #[.int .u8 k, .int .i64 s] 49)).drewN nq) = W at HSt
    refine wp_region_tame3 8 (NewS b (.slice ao 0 cap) (T + n) k s w) (NewS' b (.slice ao 0 cap) (T + n) k s n w) 1 9 (by kernel_rfl) (by kernel_rfl) (fun _ _ d _ _ h => (by cases d <;> exact h)) (HSt.drawn 1) (.inl (by decide)) ?_
    clear HSt
    simp only [List.take_succ_cons, List.take_zero, List.drop_succ_cons, List.drop_zero]
    refine wpPre_run (v := ?_) rfl (fun w' => ?_) ?_
    rotate_left
    · (go_simp; rfl)
    simp only [Act.put, List.setIfInBounds_toArray, List.set_cons_zero, List.set_cons_succ]
    refine wpPre_nil ?_
    iterate 7
      refine wpTame_run2 (v := ?_) (by decide) rfl (fun w' hS => ?_) ?_
      rotate_left
      · (obtain ⟨c0, e0, e1, _, _⟩ := NewS.reads hS; clear hS; go_simp; rfl)
      simp only [Act.put, List.setIfInBounds_toArray, List.set_cons_zero, List.set_cons_succ]
    refine wpTame_bump (v := .slice (some ⟨w.heap.size + 1, 0, none⟩) 1 1) rfl rfl (fun w' hS => ?_) ?_
    · have hz := hS.size
      have HZ := Lib.hid hS
      clear hS
      go_simp
      exact ⟨rfl, HZ.out.lit n⟩
    simp only [Act.put, List.setIfInBounds_toArray, List.set_cons_zero, List.set_cons_succ]
    refine wpTame_nil ?_
    intro w1 hS
    obtain ⟨hi, hz0, hz1, hz2⟩ := HI.out
    obtain ⟨c0, _, _, hl1, _⟩ := NewS.reads (n := n) (.inr hS)
    have hrow : w1.ownsRow 0 51 3 (.slice ao 0 cap) 0 (flatR []) := HROW.out hS.only
    refine wpList_append_lies w1 rfl _ _ 31 rfl 0 51 i0 _ 3 24 Try.underlying31 hi hz0 hz1 hz2 rfl (by decide) (.slice ao 0 cap) 0 (flatR []) rfl hrow ⟨w.heap.size + 1, 0, none⟩ 1 1 [.int .u8 k, .int .i64 s, .int .i64 n] rfl rfl (World.news_of_block hS.lit) (three_cells k s n) (by decide) (maxl HL0.out) (byt HL0.out) (Nat.zero_le _) _ rfl ?_
    intro g cap' w2 hown hgrow hat hlt
    have hne : ¬ (Value.slice ao 0 cap).ownBlock = some b := H.out.apart
    have c2 : w2.cell? ⟨b, 0, none⟩ = some (.slice ao 0 cap) := (World.grownBy.cell_far hgrow ⟨b, 0, none⟩ hl1 (fun e => hne e.symm)).trans c0
    have f2 : w2.frozen? ⟨b, 0, none⟩ = false := (World.grownBy.frozen_far hgrow ⟨b, 0, none⟩ hl1 (fun e => hne e.symm)).trans (hS.blk.unfrozen 0)
    have hat' : (Value.slice ao 0 cap).ownBlock = some g ∨ w.heap.size ≤ g := hat.imp id (fun e => by rw [e, hS.size]; omega)
    have HN : Hid (NotedP b (.slice ao 0 cap) ([] ++ [⟨k, s, n⟩]) w (.returned (.tuple #[])) (w2.setCell ⟨b, 0, none⟩ (.slice (some ⟨g, 0, none⟩) (0 + 1) cap'))) :=
      NotedP.more HN0.out H.out hn hS.only (by rw [HT.out]; exact hS.blk) hown hgrow hat'
    clear hat hat' hown hgrow hS
    go_wp2
    refine bodyPost_ret (results_none rfl _ _ _) rfl ?_
    exact HN.out
  · have hlen : (rs0 ++ [r]).length = rs0.length + 1 := by simp
    obtain ⟨g0, cap0, hv1, hgl⟩ := h.row.form (by omega)
    subst hv1
    obtain ⟨d1, d2, d3⟩ := h.row.cells rs0.length r (by simp)
    have hne : ¬ b = g0 := fun e => h.apart (by rw [e]; rfl)
    have hne' : ¬ g0 = b := fun e => hne e.symm
    have hl63 : rs0.length < 9223372036854775807 := by omega
    have HLL : Hid ((rs0 ++ [r]).length ≤ 5497558138880) := hl
    clear h hl hv
    rw [hlen] at c0
    have HN0 : Hid (rs0.length + 1 = (rs0 ++ [r]).length) := Lib.hid hlen.symm
    have HL0 : Hid (rs0.length + 1 ≤ 5497558138880) := by rw [HN0.out]; exact HLL.out
    have HROW : Hid (∀ {w1 : World}, Only (fun x => x = b) w w1 → w1.ownsRow 0 51 3 (.slice (some ⟨g0, 0, none⟩) (rs0.length + 1) cap0) (rs0.length + 1) (flatR (rs0 ++ [r]))) := fun {w1} ho => by
      have h1 := H.out.row.keep ho (fun x hx he => H.out.apart (he ▸ hx))
      unfold RunsAt at h1
      rw [hlen] at h1
      exact h1
    have H : Hid (LedP w b (.slice (some ⟨g0, 0, none⟩) (rs0.length + 1) cap0) (rs0 ++ [r])) := by
      have h1 := H.out
      rw [hlen] at h1
      exact h1
    have HNP : Hid (NotedP b (.slice (some ⟨g0, 0, none⟩) (rs0.length + 1) cap0) (rs0 ++ [r] ++ [⟨k, s, n⟩]) w = NotedP b (.slice (some ⟨g0, 0, none⟩) (rs0 ++ [r]).length cap0) (rs0 ++ [r] ++ [⟨k, s, n⟩]) w) := by rw [hlen]; rfl
    rw [← HNP.out]
    clear hlen HNP
    generalize hT : tot (rs0 ++ [r]) = T at hb c1 ht0
    have HT := Lib.hid hT
    clear hT
    generalize rs0.length = L at c0 d1 d2 d3 hl63 HN0 HL0 HROW H ⊢
    obtain ⟨rk, rs', rc⟩ := r
    dsimp only at d1 d2 d3 hd
    rcases hd with hd | ⟨hd, hd'⟩
    all_goals
      go_enter Try.func36, Try.ntmps36
      go_wp2_with fail
      have hwL : IntKind.i64.wrap (L : Int) = L := IntWalk.i64_in _ (by omega)
      go_quiet (fail)
      clear hwL
      go_wp2_with fail
      have HSt : NewS b (.slice (some ⟨g0, 0, none⟩) (L + 1) cap0) (T + n) k s w (((w.setCell ⟨b, 1, none⟩ (.int .i64 (T + n))).alloc (.cells #[.int .u8 k, .int .i64 s] 49)).drewN nq) := NewS.start H.out HT.out nq
      generalize (((w.setCell ⟨b, 1, none⟩ (.int .i64 (T + n))).alloc (.cells #[.int .u8 k, .int .i64 s] 49)).drewN nq) = W at HSt
      refine wp_region_tame3 8 (NewS b (.slice (some ⟨g0, 0, none⟩) (L + 1) cap0) (T + n) k s w) (NewS' b (.slice (some ⟨g0, 0, none⟩) (L + 1) cap0) (T + n) k s n w) 1 9 (by kernel_rfl) (by kernel_rfl) (fun _ _ d _ _ h => (by cases d <;> exact h)) (HSt.drawn 1) (.inl (by decide)) ?_
      clear HSt
      simp only [List.take_succ_cons, List.take_zero, List.drop_succ_cons, List.drop_zero]
      refine wpPre_run (v := ?_) rfl (fun w' => ?_) ?_
      rotate_left
      · (go_simp; rfl)
      simp only [Act.put, List.setIfInBounds_toArray, List.set_cons_zero, List.set_cons_succ]
      refine wpPre_nil ?_
      iterate 7
        refine wpTame_run2 (v := ?_) (by decide) rfl (fun w' hS => ?_) ?_
        rotate_left
        · (obtain ⟨c0, e0, e1, _, _⟩ := NewS.reads hS; clear hS; go_simp; rfl)
        simp only [Act.put, List.setIfInBounds_toArray, List.set_cons_zero, List.set_cons_succ]
      refine wpTame_bump (v := .slice (some ⟨w.heap.size + 1, 0, none⟩) 1 1) rfl rfl (fun w' hS => ?_) ?_
      · have hz := hS.size
        have HZ := Lib.hid hS
        clear hS
        go_simp
        exact ⟨rfl, HZ.out.lit n⟩
      simp only [Act.put, List.setIfInBounds_toArray, List.set_cons_zero, List.set_cons_succ]
      refine wpTame_nil ?_
      intro w1 hS
      obtain ⟨hi, hz0, hz1, hz2⟩ := HI.out
      obtain ⟨c0, _, _, hl1, _⟩ := NewS.reads (n := n) (.inr hS)
      have hrow : w1.ownsRow 0 51 3 (.slice (some ⟨g0, 0, none⟩) (L + 1) cap0) (L + 1) (flatR (rs0 ++ [(⟨rk, rs', rc⟩ : Rn)])) := HROW.out hS.only
      refine wpList_append_lies w1 rfl _ _ 31 rfl 0 51 i0 _ 3 24 Try.underlying31 hi hz0 hz1 hz2 rfl (by decide) (.slice (some ⟨g0, 0, none⟩) (L + 1) cap0) (L + 1) (flatR (rs0 ++ [(⟨rk, rs', rc⟩ : Rn)])) rfl hrow ⟨w.heap.size + 1, 0, none⟩ 1 1 [.int .u8 k, .int .i64 s, .int .i64 n] rfl rfl (World.news_of_block hS.lit) (three_cells k s n) (by decide) (maxl HL0.out) (byt HL0.out) (Nat.zero_le _) _ rfl ?_
      intro g cap' w2 hown hgrow hat hlt
      have hne : ¬ (Value.slice (some ⟨g0, 0, none⟩) (L + 1) cap0).ownBlock = some b := H.out.apart
      have c2 : w2.cell? ⟨b, 0, none⟩ = some (.slice (some ⟨g0, 0, none⟩) (L + 1) cap0) := (World.grownBy.cell_far hgrow ⟨b, 0, none⟩ hl1 (fun e => hne e.symm)).trans c0
      have f2 : w2.frozen? ⟨b, 0, none⟩ = false := (World.grownBy.frozen_far hgrow ⟨b, 0, none⟩ hl1 (fun e => hne e.symm)).trans (hS.blk.unfrozen 0)
      have hat' : (Value.slice (some ⟨g0, 0, none⟩) (L + 1) cap0).ownBlock = some g ∨ w.heap.size ≤ g := hat.imp id (fun e => by rw [e, hS.size]; omega)
      have HN : Hid (NotedP b (.slice (some ⟨g0, 0, none⟩) (L + 1) cap0) ((rs0 ++ [(⟨rk, rs', rc⟩ : Rn)]) ++ [⟨k, s, n⟩]) w (.returned (.tuple #[])) (w2.setCell ⟨b, 0, none⟩ (.slice (some ⟨g, 0, none⟩) ((L + 1) + 1) cap'))) :=
        NotedP.more HN0.out H.out hn hS.only (by rw [HT.out]; exact hS.blk) hown hgrow hat'
      clear hat hat' hown hgrow hS
      go_wp2
      refine bodyPost_ret (results_none rfl _ _ _) rfl ?_
      exact HN.out

/-- nothing is noted -/
theorem noteTimes_off (b : Nat) (k s n : Int) (w : World) (hn : n < 1) :
    Calls Try.prog 36 #[.pointer (some ⟨b, 0, none⟩), .agg #[.int .u8 k, .int .i64 s], .int .i64 n] w fun e w' => e = .returned (.tuple #[]) ∧ Below w.heap.size w w' := by
  go_enter Try.func36, Try.ntmps36
  go_wp2_with fail
  refine bodyPost_ret (results_none rfl _ _ _) rfl ?_
  exact ⟨rfl, (Below.refl _ _).alloc (Nat.le_refl _) _⟩
theorem noteTimes_nil (k s n : Int) (w : World) :
    Calls Try.prog 36 #[.pointer none, .agg #[.int .u8 k, .int .i64 s], .int .i64 n] w fun e w' => e = .returned (.tuple #[]) ∧ Below w.heap.size w w' := by
  go_enter Try.func36, Try.ntmps36
  go_wp2_with fail
  refine bodyPost_ret (results_none rfl _ _ _) rfl ?_
  exact ⟨rfl, (Below.refl _ _).alloc (Nat.le_refl _) _⟩
/-- a note of n events, n above 0 -/
theorem noteTimes_any (b : Nat) (v : Value) (rs : List Rn) (k s n : Int) (w : World) (h : LedP w b v rs) (hn : 1 ≤ n) (hb : tot rs + n < 9223372036854775808) (hl : rs.length ≤ 5497558138880) :
    Calls Try.prog 36 #[.pointer (some ⟨b, 0, none⟩), .agg #[.int .u8 k, .int .i64 s], .int .i64 n] w (NotedP b v (noteL rs k s n) w) := by
  rcases List.eq_nil_or_concat rs with rfl | ⟨rs0, r, rfl⟩
  · exact noteTimes_new b v [] k s n w h hn hb hl (.inl rfl)
  · rw [List.concat_eq_append] at *
    by_cases hk : r.k = k
    · by_cases hs : r.s = s
      · subst hk; subst hs
        obtain ⟨g, cap, rfl, _⟩ := h.row.form (by simp)
        rw [noteL_same]
        exact noteTimes_same b g cap rs0 r n w h hn hb
      · rw [noteL_other _ _ _ _ _ (fun e => hs e.2)]
        exact noteTimes_new b v _ k s n w h hn hb hl (.inr ⟨rs0, r, rfl, .inr ⟨by rw [hk]; exact beq_self_eq_true _, beq_eq_false_iff_ne.2 hs⟩⟩)
    · rw [noteL_other _ _ _ _ _ (fun e => hk e.1)]
      exact noteTimes_new b v _ k s n w h hn hb hl (.inr ⟨rs0, r, rfl, .inl (beq_eq_false_iff_ne.2 hk)⟩)
set_option maxHeartbeats 400000 in
theorem note_any (b : Nat) (v : Value) (rs : List Rn) (k s : Int) (w : World) (h : LedP w b v rs) (hb : tot rs + 1 < 9223372036854775808) (hl : rs.length ≤ 5497558138880) :
    Calls Try.prog 47 #[.pointer (some ⟨b, 0, none⟩), .agg #[.int .u8 k, .int .i64 s]] w (NotedP b v (noteL rs k s 1) w) := by
  have H := Lib.hid h
  have HB := Lib.hid hb
  clear h hb
  go_enter Try.func47, Try.ntmps47
  go_wp2_with fail
  have h1 : LedP (w.alloc (.cells #[.int .u8 k, .int .i64 s] 49)) b v rs := H.out.keep ((Only.refl (fun _ => False) w).alloc _) (fun _ _ h => h)
  refine (noteTimes_any b v rs k s 1 _ h1 (by omega) HB.out hl).mono ?_
  rintro e w1 ⟨rfl, v', g1, g2, g3⟩
  have G1 := Lib.hid g1
  have G2 := Lib.hid g2
  have G3 := Lib.hid g3
  clear g1 g2 g3
  go_wp2
  refine bodyPost_end (results_none rfl _ _ _) rfl ?_
  refine ⟨rfl, v', G1.out, ((Only.refl _ w).alloc _).trans G2.out (fun x hx => .inl hx), fun x hx => (G3.out x hx).imp id (fun hh => ?_)⟩
  simp at hh
  omega
theorem note_nil (k s : Int) (w : World) :
    Calls Try.prog 47 #[.pointer none, .agg #[.int .u8 k, .int .i64 s]] w fun e w' => e = .returned (.tuple #[]) ∧ Below w.heap.size w w' := by
  go_enter Try.func47, Try.ntmps47
  go_wp2_with fail
  refine (noteTimes_nil k s 1 _).mono ?_
  rintro e w1 ⟨rfl, g1⟩
  go_wp2
  refine bodyPost_end (results_none rfl _ _ _) rfl ?_
  exact ⟨rfl, ((Below.refl _ _).alloc (Nat.le_refl _) _).trans (g1.mono (by simp))⟩
end Go.Proofs.Ytkidijjhedjifaa
/- The contract of the document's NoteTimes. Conditions: as of the program's. -/
namespace Go.Proofs.Ytkidijjhedjifaa
open Go.RowKit
set_option maxRecDepth 100000
end Go.Proofs.Ytkidijjhedjifaa
/- Slices that are read, whatever their elements' size, and append from any of them. No program in sight. -/
namespace Go.Proofs.Ytkidijjhedjifaa
open Go.RowKit

/-- v is a slice of n elements (size cells each) whose cells are xs -/
structure Sl (w : World) (size : Nat) (v : Value) (n : Nat) (xs : List Value) : Prop where
  len : xs.length = n * size
  one : ∀ u ∈ xs, u.oneCell' = true
  form : ∃ ao cap, v = .slice ao n cap ∧ n ≤ cap ∧ cap ≤ 9223372036854775807 ∧ (ao = none → cap = 0) ∧
    ∀ j u, xs[j]? = some u → ∃ b off, ao = some ⟨b, off, none⟩ ∧ w.cell? ⟨b, off + j, none⟩ = some u
theorem add_lit (b off j : Nat) : (⟨b, off, none⟩ : Addr).add j = ⟨b, off + j, none⟩ := by unfold Addr.add; split <;> simp_all
theorem Sl.keep {w w' : World} {size n : Nat} {v : Value} {xs : List Value} (h : Sl w size v n xs) (hk : ∀ b, v.ownBlock = some b → b < w.heap.size → w'.heap[b]? = w.heap[b]?) : Sl w' size v n xs := by
  obtain ⟨ao, cap, rfl, h1, h2, h3, h4⟩ := h.form
  refine ⟨h.len, h.one, ao, cap, rfl, h1, h2, h3, fun j u hj => ?_⟩
  obtain ⟨b, off, rfl, hc⟩ := h4 j u hj
  have hlt : b < w.heap.size := World.block_lt_of_cell? w _ hc
  exact ⟨b, off, rfl, (World.cell?_of_block (w := w) (hk b rfl hlt)).trans hc⟩
theorem Sl.only {S : Nat → Prop} {w w' : World} {size n : Nat} {v : Value} {xs : List Value} (h : Sl w size v n xs) (ho : Only S w w') (hv : ∀ b, v.ownBlock = some b → ¬ S b) : Sl w' size v n xs :=
  h.keep fun b hb hlt => ho.block b hlt (hv b hb)
theorem Sl.grow {w w' : World} {size n : Nat} {v : Value} {xs : List Value} (h : Sl w size v n xs) (hb : Below w.heap.size w w') : Sl w' size v n xs := h.keep fun b _ hlt => hb.block b hlt
theorem Sl.nil (w : World) (size : Nat) : Sl w size (.slice none 0 0) 0 [] := ⟨by simp, (fun _ h => by cases h), none, 0, rfl, Nat.le_refl _, by omega, fun _ => rfl, (fun j u h => by simp at h)⟩
theorem Sl.of_own {w : World} {base : Nat} {e : TypeId} {size n : Nat} {v : Value} {xs : List Value} (h : w.ownsRow base e size v n xs) (h1 : ∀ u ∈ xs, u.oneCell' = true) : Sl w size v n xs := by
  refine ⟨h.1, h1, ?_⟩
  rcases h.2 with ⟨rfl, rfl⟩ | ⟨g, cap, cur, rfl, _, hg, hnc, hcm, _, htake⟩
  · refine ⟨none, 0, rfl, Nat.le_refl _, by omega, fun _ => rfl, fun j u hj => ?_⟩
    have : xs = [] := List.eq_nil_of_length_eq_zero (by simpa using h.1)
    subst this
    simp at hj
  · refine ⟨some ⟨g, 0, none⟩, cap, rfl, hnc, hcm, (fun h => by cases h), fun j u hj => ⟨g, 0, rfl, ?_⟩⟩
    have := World.ownsRow.cells (w := w) (v := .slice (some ⟨g, 0, none⟩) n cap) h rfl j u hj
    rwa [add_lit] at this
theorem Sl.of_bytes {w : World} {v : Value} {l : List UInt8} (h : Bs w v l) : Sl w 1 v l.length (l.map B) := by
  obtain ⟨ao, cap, rfl, h1, h2, h3, h4⟩ := h.form
  refine ⟨by simp, fun u hu => ?_, ao, cap, rfl, h1, h2, h3, fun j u hj => ?_⟩
  · obtain ⟨x, _, rfl⟩ := List.mem_map.1 hu
    rfl
  · have hlt : j < l.length := by
      have := (List.getElem?_eq_some_iff.1 hj).1
      simpa using this
    obtain ⟨b, off, hao, hc⟩ := h4 j hlt
    refine ⟨b, off, hao, ?_⟩
    rw [hc]
    rw [List.getElem?_map, List.getElem?_eq_getElem hlt] at hj
    rw [List.getD_eq_getElem?_getD, List.getElem?_eq_getElem hlt]
    simpa [B] using hj
theorem Sl.bytes {w : World} {v : Value} {l : List UInt8} (h : Sl w 1 v l.length (l.map B)) : Bs w v l := by
  obtain ⟨ao, cap, rfl, h1, h2, h3, h4⟩ := h.form
  refine ⟨ao, cap, rfl, h1, h2, h3, fun j hj => ?_⟩
  refine h4 j _ ?_
  rw [List.getElem?_map, List.getElem?_eq_getElem hj, List.getD_eq_getElem?_getD, List.getElem?_eq_getElem hj]
  rfl

section
variable {P : Program} (w : World)
/-- append onto a row of the call's own, from whatever slice -/
theorem run_append_sl (t ty e : TypeId) (i : TypeInfo) (z : Value) (size bytes : Nat) (ht : P.underlying t = some (.slice e)) (hi : P.info? e = some i) (hz : i.zero = some z)
    (hsize : i.size = size) (hby : i.bytes = bytes) (hzs : z.cells.size = size) (hsz : 0 < size)
    (v : Value) (n : Nat) (xs : List Value) (hown : w.ownsRow 0 e size v n xs) (y : Value) (m : Nat) (news : List Value) (hy : Sl w size y m news)
    (h63 : n + m ≤ maxLen) (hbytes : (n + m) * bytes ≤ 140737488355328) :
    ∃ v' w', (Builtin.append_ #[t, t] ty #[v, y]).run P w = .ok v' w' ∧ w'.ownsRow 0 e size v' (n + m) (xs ++ news) ∧ w.grownBy w' v.ownBlock ∧ (v'.ownBlock = v.ownBlock ∨ v'.ownBlock = some w.heap.size) ∧ (v ≠ .slice none 0 0 → v' ≠ .slice none 0 0) := by
  obtain ⟨ao, cap, rfl, h1, h2, h3, h4⟩ := hy.form
  cases ao with
  | none =>
    obtain rfl : cap = 0 := h3 rfl
    obtain rfl : m = 0 := by omega
    have hn : news = [] := List.eq_nil_of_length_eq_zero (by simpa using hy.len)
    subst hn
    exact ⟨v, w, run_append_owned_none (P := P) (w := w) 0 t ty e i size ht hi v n xs hown, by simpa using hown, ⟨rfl, rfl, rfl, Nat.le_refl _, fun _ _ _ => rfl⟩, .inl rfl, id⟩
  | some ad =>
    have hnews : ∀ j u, news[j]? = some u → w.cell? (ad.add j) = some u := fun j u hj => by
      obtain ⟨b, off, hab, hc⟩ := h4 j u hj
      injection hab with hab
      subst hab
      rw [add_lit]
      exact hc
    obtain ⟨v', w', hr, g1, g2, g3, g4⟩ := run_append_own_at (P := P) w 0 t ty e i z size bytes ht hi hz hsize hby hzs hsz v n xs hown ad m cap news hy.len hnews hy.one h63 hbytes (Nat.zero_le _)
    exact ⟨v', w', hr, g1, g2, g4, fun hv hv' => hv (g3.1 hv').1⟩
theorem wp_append_sl {o : Oper} {a : Act} {K : Act → World → Prop} {Q : Exit → Act → World → Prop} (s x : Operand) (t : TypeId)
    (ho : o.op = .call { callee := .builtin .append, args := #[s, x], argTypes := #[t, t] })
    (e : TypeId) (i : TypeInfo) (z : Value) (size bytes : Nat) (ht : P.underlying t = some (.slice e)) (hi : P.info? e = some i) (hz : i.zero = some z)
    (hsize : i.size = size) (hby : i.bytes = bytes) (hzs : z.cells.size = size) (hsz : 0 < size)
    (v : Value) (n : Nat) (xs : List Value) (hs : a.eval s = v) (hown : w.ownsRow 0 e size v n xs) (y : Value) (m : Nat) (news : List Value) (hx : a.eval x = y) (hy : Sl w size y m news)
    (h63 : n + m ≤ maxLen) (hbytes : (n + m) * bytes ≤ 140737488355328)
    (h : ∀ v' w', w'.ownsRow 0 e size v' (n + m) (xs ++ news) → w.grownBy w' v.ownBlock → (v'.ownBlock = v.ownBlock ∨ v'.ownBlock = some w.heap.size) → (v ≠ .slice none 0 0 → v' ≠ .slice none 0 0) → K (a.put o.dst v') w') : o.wp P a w K Q := by
  obtain ⟨v', w', hr, g1, g2, g3, g4⟩ := run_append_sl (P := P) w t o.type e i z size bytes ht hi hz hsize hby hzs hsz v n xs hown y m news hy h63 hbytes
  unfold Oper.wp execOp
  simp only [ho, resolve, invoke, builtin, Sem.run_bind, Sem.run_pure, Result.andThen_ok, List.map_toArray, List.map_cons, List.map_nil, hs, hx, hr]
  exact h v' w' g1 g2 g3 g4
theorem wpList_append_sl {ops : Array Oper} {rest : List Oper} {o : Oper} {a : Act} {Q : Exit → Act → World → Prop} (hgd : o.guard = none) (s x : Operand) (t : TypeId)
    (ho : o.op = .call { callee := .builtin .append, args := #[s, x], argTypes := #[t, t] })
    (e : TypeId) (i : TypeInfo) (z : Value) (size bytes : Nat) (ht : P.underlying t = some (.slice e)) (hi : P.info? e = some i) (hz : i.zero = some z)
    (hsize : i.size = size) (hby : i.bytes = bytes) (hzs : z.cells.size = size) (hsz : 0 < size)
    (v : Value) (n : Nat) (xs : List Value) (hs : a.eval s = v) (hown : w.ownsRow 0 e size v n xs) (y : Value) (m : Nat) (news : List Value) (hx : a.eval x = y) (hy : Sl w size y m news)
    (h63 : n + m ≤ maxLen) (hbytes : (n + m) * bytes ≤ 140737488355328)
    (h : ∀ v' w', w'.ownsRow 0 e size v' (n + m) (xs ++ news) → w.grownBy w' v.ownBlock → (v'.ownBlock = v.ownBlock ∨ v'.ownBlock = some w.heap.size) → (v ≠ .slice none 0 0 → v' ≠ .slice none 0 0) → wpList P ops Q rest (a.put o.dst v') w') : wpList P ops Q (o :: rest) a w :=
  wpList_plain hgd fun _ hK => wp_append_sl w s x t ho e i z size bytes ht hi hz hsize hby hzs hsz v n xs hs hown y m news hx hy h63 hbytes fun v' w' g1 g2 g3 g4 => hK _ _ (h v' w' g1 g2 g3 g4)
end
end Go.Proofs.Ytkidijjhedjifaa
/- The contracts of both ledgers' New, Runs, Len, and of the kit's SameRuns. Conditions: at most 2^40 runs; counts in their kind. -/
namespace Go.Proofs.Ytkidijjhedjifaa
open Go.RowKit
set_option maxRecDepth 100000

theorem flatR_one' (rs : List Rn) : ∀ u ∈ flatR rs, u.oneCell' = true := by
  intro u hu
  obtain ⟨r, _, hr⟩ := List.mem_flatMap.1 hu
  exact three_cells r.k r.s r.c u hr
/-- a slice of runs that is read -/
def RunsRd (w : World) (v : Value) (rs : List Rn) : Prop := Sl w 3 v rs.length (flatR rs)
theorem RunsAt.rd {w : World} {v : Value} {rs : List Rn} (h : RunsAt w v rs) : RunsRd w v rs := Sl.of_own h (flatR_one' rs)
theorem RunsRd.cells {w : World} {ao : Option Addr} {cap : Nat} {rs : List Rn} (h : RunsRd w (.slice ao rs.length cap) rs) (i : Nat) (r : Rn) (hr : rs[i]? = some r) :
    ∃ b off, ao = some ⟨b, off, none⟩ ∧ w.cell? ⟨b, off + i * 3, none⟩ = some (.int .u8 r.k) ∧ w.cell? ⟨b, off + i * 3 + 1, none⟩ = some (.int .i64 r.s) ∧ w.cell? ⟨b, off + i * 3 + 2, none⟩ = some (.int .i64 r.c) := by
  obtain ⟨ao', cap', hv, _, _, _, h4⟩ := h.form
  obtain ⟨h1, h2, h3⟩ := flatR_at rs i r hr
  injection hv with e1 e2 e3
  subst e1
  obtain ⟨b, off, hao, c1⟩ := h4 _ _ h1
  obtain ⟨b2, off2, hao2, c2⟩ := h4 _ _ h2
  obtain ⟨b3, off3, hao3, c3⟩ := h4 _ _ h3
  rw [hao] at hao2 hao3
  injection hao2 with e2; injection e2 with e4 e5; subst e4; subst e5
  injection hao3 with e3; injection e3 with e6 e7; subst e6; subst e7
  exact ⟨b, off, hao, c1, by rw [Nat.add_assoc]; exact c2, by rw [Nat.add_assoc]; exact c3⟩

theorem maxl0 {n : Nat} (h : n ≤ 5497558138880) : 0 + n ≤ maxLen := by unfold maxLen; omega
theorem byt0 {n : Nat} (h : n ≤ 5497558138880) : (0 + n) * 24 ≤ 140737488355328 := by omega
theorem newP_any (w : World) : Calls Try.prog 35 #[] w fun e w' => e = .returned (.pointer (some ⟨w.heap.size, 0, none⟩)) ∧ LedP w' w.heap.size (.slice none 0 0) [] ∧ Below w.heap.size w w' := by
  go_enter Try.func35, Try.ntmps35
  go_wp2
  go_ret
  exact ⟨rfl, ⟨Blk.at rfl rfl, RunsAt.nil _, fun h => by simp [fp, Value.ownBlock] at h, Posi.nil⟩, (Below.refl _ _).alloc (Nat.le_refl _) _⟩
/-- runs told in new memory -/
def NewRuns (rs : List Rn) (w : World) (e : Ending) (w' : World) : Prop :=
  ∃ v, e = .returned v ∧ RunsAt w' v rs ∧ Below w.heap.size w w' ∧ ∀ x, fp v x → w.heap.size ≤ x
set_option maxHeartbeats 400000 in
theorem runsP_any (b : Nat) (v : Value) (rs : List Rn) (w : World) (h : LedP w b v rs) (hl : rs.length ≤ 5497558138880) : Calls Try.prog 37 #[.pointer (some ⟨b, 0, none⟩)] w (NewRuns rs w) := by
  obtain ⟨i0, hi, hz0, hz1, hz2⟩ := info_parts infoRun
  have HI := Lib.hid (And.intro hi (And.intro hz0 (And.intro hz1 hz2)))
  clear hi hz0 hz1 hz2
  have c0 := h.blk.cellAt 0 (v := v) rfl
  have hb := h.blk.lt
  have H := Lib.hid h
  clear h
  go_enter Try.func37, Try.ntmps37
  have hown0 : (w.alloc (.cells #[] 51)).ownsRow 0 51 3 (.slice (some ⟨w.heap.size, 0, none⟩) 0 0) 0 [] := World.ownsRow_lit w #[] 0 (Nat.zero_le _) (by decide) rfl
  have hy : Sl (w.alloc (.cells #[] 51)) 3 v rs.length (flatR rs) := H.out.row.rd.grow ((Below.refl _ _).alloc (Nat.le_refl _) _)
  obtain ⟨hi, hz0, hz1, hz2⟩ := HI.out
  go_wp2_with (at_builtin; refine wpList_append_sl _ rfl _ _ 31 rfl 51 i0 _ 3 24 Try.underlying31 hi hz0 hz1 hz2 rfl (by decide) (.slice (some ⟨w.heap.size, 0, none⟩) 0 0) 0 [] rfl hown0 v rs.length (flatR rs) rfl hy (maxl0 hl) (byt0 hl) ?_)
  intro v' w1 hown hgrow hat _
  have HN : Hid (NewRuns rs w (.returned v') w1) := by
    refine ⟨v', rfl, ?_, ?_, ?_⟩
    · unfold RunsAt
      simpa using hown
    · exact ((Below.refl w.heap.size w).alloc (Nat.le_refl _) _).grown hgrow (by simp) (fun k hk => by simp [Value.ownBlock] at hk; omega)
    · intro x hx
      rcases hat with hat | hat
      · have : fp v' x := hx
        rw [fp, hat] at this
        simp [Value.ownBlock] at this
        omega
      · have : fp v' x := hx
        rw [fp, hat] at this
        simp at this
        omega
  clear hown hgrow hat hown0 hy hi hz0 hz1 hz2
  go_wp2
  go_ret
  exact HN.out

theorem runsP_nil (w : World) : Calls Try.prog 37 #[.pointer none] w fun e w' => e = .returned (.slice none 0 0) ∧ w = w' := by
  go_enter Try.func37, Try.ntmps37
  go_wp2
  go_ret
  exact ⟨rfl, rfl⟩

/-- the document's Runs: one append a run -/
def RunsLoop (rs : List Rn) (w : World) (k : Nat) (v : Value) (w1 : World) : Prop :=
  RunsAt w1 v (rs.take k) ∧ Below w.heap.size w w1 ∧ ∀ x, fp v x → w.heap.size ≤ x
theorem take_succ_get (rs : List Rn) (k : Nat) (r : Rn) (h : rs[k]? = some r) : rs.take (k + 1) = rs.take k ++ [r] := by
  rw [List.take_add_one, h]; rfl
/-! ### SameRuns -/
theorem run_eq_run (r q : Rn) (h : r.k = q.k ∧ r.s = q.s ∧ r.c = q.c) : r = q := by
  obtain ⟨a, b, c⟩ := r; obtain ⟨x, y, z⟩ := q
  simp at h
  simp [h.1, h.2.1, h.2.2]
def sameTo (xs ys : List Rn) : Nat → Nat → Bool
  | 0, _ => true
  | n + 1, k => if xs[k]? = ys[k]? then sameTo xs ys n (k + 1) else false
theorem sameTo_eq (xs ys : List Rn) (hl : xs.length = ys.length) : ∀ n k, k + n = xs.length → (sameTo xs ys n k = true ↔ ∀ j, k ≤ j → xs[j]? = ys[j]?)
  | 0, k, h => by
    simp only [sameTo, true_iff]
    intro j hj
    rw [List.getElem?_eq_none (by omega), List.getElem?_eq_none (by omega)]
  | n + 1, k, h => by
    simp only [sameTo]
    by_cases e : xs[k]? = ys[k]?
    · rw [if_pos e, sameTo_eq xs ys hl n (k + 1) (by omega)]
      constructor
      · intro hh j hj
        by_cases ejk : j = k
        · subst ejk; exact e
        · exact hh j (by omega)
      · intro hh j hj
        exact hh j (by omega)
    · rw [if_neg e]
      simp only [Bool.false_eq_true, false_iff]
      intro hh
      exact e (hh k (Nat.le_refl _))
theorem sameTo_all (xs ys : List Rn) (hl : xs.length = ys.length) : sameTo xs ys xs.length 0 = decide (xs = ys) := by
  rw [Bool.eq_iff_iff, sameTo_eq xs ys hl _ 0 (by omega), decide_eq_true_eq]
  constructor
  · intro h; exact List.ext_getElem? fun j => h j (Nat.zero_le _)
  · rintro rfl _ _; rfl
theorem three_eq (a x b y c z : Int) : ((a == x) = true ∧ (b == y) = true ∧ (c == z) = true ∧ (⟨a, b, c⟩ : Rn) = ⟨x, y, z⟩) ∨ ((a == x) = false ∧ ¬ (⟨a, b, c⟩ : Rn) = ⟨x, y, z⟩) ∨
    ((a == x) = true ∧ (b == y) = false ∧ ¬ (⟨a, b, c⟩ : Rn) = ⟨x, y, z⟩) ∨ ((a == x) = true ∧ (b == y) = true ∧ (c == z) = false ∧ ¬ (⟨a, b, c⟩ : Rn) = ⟨x, y, z⟩) := by
  by_cases h1 : a = x
  · by_cases h2 : b = y
    · by_cases h3 : c = z
      · left; simp [h1, h2, h3]
      · right; right; right; simp [h1, h2, h3]
    · right; right; left; simp [h1, h2]
  · right; left; simp [h1]
set_option maxHeartbeats 1000000 in
theorem sameRuns_any (u v : Value) (xs ys : List Rn) (w : World) (hu : RunsRd w u xs) (hv : RunsRd w v ys) :
    Calls Try.prog 14 #[u, v] w fun e w' => e = .returned (.bool (decide (xs = ys))) ∧ ∃ m, w' = w.drewN m := by
  have HU := Lib.hid hu
  have HV := Lib.hid hv
  obtain ⟨ao, cap, rfl, h1, h2, _, _⟩ := hu.form
  obtain ⟨bo, dap, rfl, h3, h4, _, _⟩ := hv.form
  clear hu hv
  have hla : xs.length ≤ 9223372036854775807 := by omega
  have hlb : ys.length ≤ 9223372036854775807 := by omega
  by_cases hl : xs.length = ys.length
  · have HS := Lib.hid (sameTo_all xs ys hl)
    have hlI : ((xs.length : Int) != (ys.length : Int)) = false := by rw [hl]; simp
    have HL := Lib.hid hl
    clear hl
    go_enter Try.func14, Try.ntmps14
    go_wp2_with fail
    go_loopw [5] (fun i w1 => ∃ k : Nat, k ≤ xs.length ∧ i = .int .i64 (k : Int) ∧ Hid (sameTo xs ys (xs.length - k) k = decide (xs = ys)) ∧ ∃ m, w1 = w.drewN m) (fun i _ => xs.length - (intOf i).toNat)
    case atStart => exact ⟨0, Nat.zero_le _, rfl, HS, 0, rfl⟩
    case round =>
      obtain ⟨k, hk, rfl, HE, m, rfl⟩ := hrel
      by_cases hlt : k < xs.length
      · obtain ⟨r, hrk⟩ : ∃ r, xs[k]? = some r := ⟨_, List.getElem?_eq_getElem hlt⟩
        have hlt2 : k < ys.length := by rw [← HL.out]; exact hlt
        obtain ⟨q, hqk⟩ : ∃ q, ys[k]? = some q := ⟨_, List.getElem?_eq_getElem hlt2⟩
        obtain ⟨g, off, rfl, d1, d2, d3⟩ := RunsRd.cells HU.out k r hrk
        obtain ⟨g2, off2, rfl, e1, e2, e3⟩ := RunsRd.cells HV.out k q hqk
        have HE2 : Hid ((if r = q then sameTo xs ys (xs.length - (k + 1)) (k + 1) else false) = decide (xs = ys)) := by
          have h := HE.out
          rw [show xs.length - k = (xs.length - (k + 1)) + 1 from by omega] at h
          simp only [sameTo, hrk, hqk, Option.some.injEq] at h
          exact h
        clear HE hrk hqk
        obtain ⟨rk, rs, rc⟩ := r
        obtain ⟨qk, qs, qc⟩ := q
        dsimp only at d1 d2 d3 e1 e2 e3
        rcases three_eq rk qk rs qs rc qc with ⟨h1, h2, h3, he⟩ | ⟨h1, hn⟩ | ⟨h1, h2, hn⟩ | ⟨h1, h2, h3, hn⟩
        · have HE3 : Hid (sameTo xs ys (xs.length - (k + 1)) (k + 1) = decide (xs = ys)) := by
            have h := HE2.out
            rw [if_pos he] at h
            exact h
          clear he HE2
          go_wp2_with fail
          go_quiet (fail)
          go_wp2_with fail
          go_roundw
          case rel => exact ⟨k + 1, by omega, by go_num, HE3, m + nq, rfl⟩
          case measure => simp [intOf]; omega
        all_goals
          have HE3 : Hid (decide (xs = ys) = false) := by
            have h := HE2.out
            rw [if_neg hn] at h
            exact h.symm
          clear hn HE2
          go_wp2_with fail
          go_quiet (fail)
          go_wp2
          go_ret
          exact ⟨by rw [HE3.out]; rfl, m + nq, by simp⟩
      · obtain rfl : k = xs.length := by omega
        have HF : Hid (decide (xs = ys) = true) := by
          have h := HE.out
          rw [Nat.sub_self] at h
          exact h.symm
        go_wp2
        go_ret
        exact ⟨by rw [HF.out]; rfl, m, rfl⟩
  · have hlI : ((xs.length : Int) != (ys.length : Int)) = true := by simp; omega
    have HF : Hid (decide (xs = ys) = false) := Lib.hid (by simp; intro h; exact hl (by rw [h]))
    clear hl
    go_enter Try.func14, Try.ntmps14
    go_wp2
    go_ret
    exact ⟨by rw [HF.out]; rfl, 0, rfl⟩
end Go.Proofs.Ytkidijjhedjifaa
/- A handle of a ledger: a pointer to one, or nil; and who owns which block. -/
namespace Go.Proofs.Ytkidijjhedjifaa
open Go.RowKit
set_option maxRecDepth 100000

/-- the program's ledger at a pointer: with its runs, or nil; F: its blocks -/
def LgP (w : World) (p : Value) (F : Nat → Prop) : Option (List Rn) → Prop
  | none => p = .pointer none ∧ F = fun _ => False
  | some rs => ∃ b v, p = .pointer (some ⟨b, 0, none⟩) ∧ F = lfp b v ∧ LedP w b v rs
/-- room for n more events -/
def Room (o : Option (List Rn)) (n : Int) : Prop := ∀ rs, o = some rs → tot rs + n < 9223372036854775808 ∧ rs.length ≤ 5497558138880
theorem Room.none (n : Int) : Room none n := fun _ h => by cases h
theorem Room.some {rs : List Rn} {n : Int} (h1 : tot rs + n < 9223372036854775808) (h2 : rs.length ≤ 5497558138880) : Room (some rs) n := fun _ h => by cases h; exact ⟨h1, h2⟩
def noteO (o : Option (List Rn)) (k s n : Int) : Option (List Rn) := o.map fun rs => noteL rs k s n
theorem LgP.keep {w w' : World} {p : Value} {F : Nat → Prop} {o : Option (List Rn)} (h : LgP w p F o) {S : Nat → Prop} (ho : Only S w w') (hd : ∀ x, F x → ¬ S x) : LgP w' p F o := by
  cases o with
  | none => exact h
  | some rs =>
    obtain ⟨b, v, hp, rfl, hl⟩ := h
    exact ⟨b, v, hp, rfl, hl.keep ho hd⟩
theorem LgP.lt {w : World} {p : Value} {F : Nat → Prop} {o : Option (List Rn)} (h : LgP w p F o) : ∀ x, F x → x < w.heap.size := by
  cases o with
  | none => obtain ⟨_, rfl⟩ := h; exact fun _ h => h.elim
  | some rs => obtain ⟨b, v, _, rfl, hl⟩ := h; exact hl.lt
theorem LgP.draw {w : World} {p : Value} {F : Nat → Prop} {o : Option (List Rn)} (h : LgP w p F o) (n : Nat) : LgP (w.drewN n) p F o :=
  h.keep ((Only.refl (fun _ => False) w).draw n) (fun _ _ h => h)
theorem LgP.nil (w : World) : LgP w (.pointer none) (fun _ => False) none := ⟨rfl, rfl⟩
/-- what a call leaves of a ledger: o, in the old blocks and new ones; nothing else has turned -/
def LaidP (p : Value) (F : Nat → Prop) (o : Option (List Rn)) (w w' : World) : Prop := ∃ F', LgP w' p F' o ∧ Only F w w' ∧ ∀ x, F' x → F x ∨ w.heap.size ≤ x
theorem LaidP.draw {p : Value} {F : Nat → Prop} {o : Option (List Rn)} {w w' : World} (h : LaidP p F o w w') (n : Nat) : LaidP p F o w (w'.drewN n) := by
  obtain ⟨F', h1, h2, h3⟩ := h
  exact ⟨F', h1.draw n, h2.draw n, h3⟩
theorem LaidP.same {p : Value} {F : Nat → Prop} {o : Option (List Rn)} {w w' : World} (h : LgP w p F o) (n : Nat) (e : w' = w.drewN n) : LaidP p F o w w' := by
  subst e
  exact ⟨F, h.draw n, (Only.refl F w).draw n, fun x hx => .inl hx⟩
theorem LaidP.pre {p : Value} {F : Nat → Prop} {o : Option (List Rn)} {w w1 w' : World} (hb : Below w.heap.size w w1) (h : LaidP p F o w1 w') : LaidP p F o w w' := by
  obtain ⟨F', h1, h2, h3⟩ := h
  exact ⟨F', h1, (Only.of_below hb F).trans h2 (fun x hx => .inl hx), fun x hx => (h3 x hx).imp id (fun hh => Nat.le_trans hb.size hh)⟩
theorem gnoteP_any (p : Value) (F : Nat → Prop) (o : Option (List Rn)) (k s : Int) (w : World) (h : LgP w p F o) (hb : Room o 1) :
    Calls Try.prog 47 #[p, .agg #[.int .u8 k, .int .i64 s]] w fun e w' => e = .returned (.tuple #[]) ∧ LaidP p F (noteO o k s 1) w w' := by
  cases o with
  | none =>
    obtain ⟨rfl, rfl⟩ := h
    refine (note_nil k s w).mono ?_
    rintro e w' ⟨rfl, hb⟩
    exact ⟨rfl, fun _ => False, ⟨rfl, rfl⟩, Only.of_below hb _, fun _ h => h.elim⟩
  | some rs =>
    obtain ⟨b, v, rfl, rfl, hl⟩ := h
    obtain ⟨b1, b2⟩ := hb rs rfl
    refine (note_any b v rs k s w hl b1 b2).mono ?_
    rintro e w' ⟨rfl, v', h1, h2, h3⟩
    refine ⟨rfl, lfp b v', ⟨b, v', rfl, rfl, h1⟩, h2, fun x hx => ?_⟩
    rcases hx with hx | hx
    · exact .inl (.inl hx)
    · exact (h3 x hx).imp .inr id
theorem LaidP.only {p : Value} {F : Nat → Prop} {o' : Option (List Rn)} {w w' : World} (hl : LaidP p F o' w w') : Only F w w' := by
  obtain ⟨_, _, h, _⟩ := hl; exact h
end Go.Proofs.Ytkidijjhedjifaa
/- Ledgers as things of a law's world. -/
namespace Go.Proofs.Ytkidijjhedjifaa
open Go.RowKit
set_option maxRecDepth 100000
set_option linter.unusedVariables false

def obP (p : Value) (o : Option (List Rn)) : Ob := ⟨fun w F => LgP w p F o, fun h ho hd => h.keep ho hd, fun h => h.lt⟩
def obRuns (v : Value) (rs : List Rn) : Ob := ⟨fun w F => RunsAt w v rs ∧ F = fp v, fun h ho hd => ⟨h.1.keep ho (by rw [← h.2]; exact hd), h.2⟩, fun h => by rw [h.2]; exact h.1.lt⟩
theorem Env.lgP {w0 w : World} {obs : List Ob} (h : Env w0 w obs) (i : Nat) {p : Value} {o : Option (List Rn)} (hi : obs[i]? = some (obP p o)) :
    ∃ F, LgP w p F o ∧ (∀ x, x < w0.heap.size → ¬ F x) ∧ ∀ w' o', LaidP p F o' w w' → Env w0 w' (obs.set i (obP p o')) := by
  obtain ⟨F, h1, h2, h3, h4⟩ := h.get i hi
  refine ⟨F, h1, h2, fun w' o' hl => ?_⟩
  obtain ⟨F', g1, g2, g3⟩ := hl
  exact h4 w' F' (obP p o') g1 g2 g3
theorem Env.runs {w0 w : World} {obs : List Ob} (h : Env w0 w obs) (i : Nat) {v : Value} {l : List Rn} (hi : obs[i]? = some (obRuns v l)) : RunsAt w v l := by
  obtain ⟨F, h1, _⟩ := h.get i hi
  exact h1.1
theorem Env.pushRuns {w0 w w' : World} {obs : List Ob} (h : Env w0 w obs) {v : Value} {l : List Rn} (hb : RunsAt w' v l) (hw : Below w.heap.size w w') (hn : ∀ x, fp v x → w.heap.size ≤ x) : Env w0 w' (obs ++ [obRuns v l]) :=
  h.push (obRuns v l) ⟨hb, rfl⟩ hw hn
theorem Env.pushP {w0 w w' : World} {obs : List Ob} (h : Env w0 w obs) (hb : LedP w' w.heap.size (.slice none 0 0) []) (hw : Below w.heap.size w w') : Env w0 w' (obs ++ [obP (.pointer (some ⟨w.heap.size, 0, none⟩)) (some [])]) :=
  h.push (F' := lfp w.heap.size (.slice none 0 0)) (obP _ (some [])) ⟨_, _, rfl, rfl, hb⟩ hw (fun x hx => by
    rcases hx with rfl | hx
    · exact Nat.le_refl _
    · simp [fp, Value.ownBlock] at hx)
/-! ### the contracts over a law's world -/
/-- so many notes -/
def timesO (o : Option (List Rn)) (k s n : Int) : Option (List Rn) := if n < 1 then o else noteO o k s n
section
variable {w0 w : World} {obs : List Ob}
theorem newP_env' (h : Env w0 w obs) : Calls Try.prog 35 #[] w fun e w' => ∃ p, e = .returned p ∧ Env w0 w' (obs ++ [obP p (some [])]) :=
  (newP_any w).mono fun e w' ⟨he, h1, h2⟩ => ⟨_, he, h.pushP h1 h2⟩
theorem noteP_env (h : Env w0 w obs) (i : Nat) {p : Value} {o : Option (List Rn)} (hi : obs[i]? = some (obP p o)) (k s : Int) (hb : Room o 1) :
    Calls Try.prog 47 #[p, .agg #[.int .u8 k, .int .i64 s]] w fun e w' => e = .returned (.tuple #[]) ∧ Env w0 w' (obs.set i (obP p (noteO o k s 1))) := by
  obtain ⟨F, f1, _, f4⟩ := h.lgP i hi
  exact (gnoteP_any p F o k s w f1 hb).mono fun e w' ⟨he, h1⟩ => ⟨he, f4 w' _ h1⟩
theorem gtimesP_any (p : Value) (F : Nat → Prop) (o : Option (List Rn)) (k s n : Int) (w : World) (h : LgP w p F o) (hb : Room o n) :
    Calls Try.prog 36 #[p, .agg #[.int .u8 k, .int .i64 s], .int .i64 n] w fun e w' => e = .returned (.tuple #[]) ∧ LaidP p F (timesO o k s n) w w' := by
  unfold timesO
  cases o with
  | none =>
    obtain ⟨rfl, rfl⟩ := h
    refine (noteTimes_nil k s n w).mono ?_
    rintro e w' ⟨rfl, hb⟩
    refine ⟨rfl, fun _ => False, ?_, Only.of_below hb _, fun _ h => h.elim⟩
    split <;> exact ⟨rfl, rfl⟩
  | some rs =>
    obtain ⟨b, v, rfl, rfl, hl⟩ := h
    by_cases hn : n < 1
    · rw [if_pos hn]
      refine (noteTimes_off b k s n w hn).mono ?_
      rintro e w' ⟨rfl, hb⟩
      exact ⟨rfl, lfp b v, ⟨b, v, rfl, rfl, hl.keep (Only.nothing hb) (fun _ _ h => h)⟩, Only.of_below hb _, fun x hx => .inl hx⟩
    · rw [if_neg hn]
      obtain ⟨b1, b2⟩ := hb rs rfl
      refine (noteTimes_any b v rs k s n w hl (by omega) b1 b2).mono ?_
      rintro e w' ⟨rfl, v', h1, h2, h3⟩
      refine ⟨rfl, lfp b v', ⟨b, v', rfl, rfl, h1⟩, h2, fun x hx => ?_⟩
      rcases hx with hx | hx
      · exact .inl (.inl hx)
      · exact (h3 x hx).imp .inr id
theorem timesP_env (h : Env w0 w obs) (i : Nat) {p : Value} {o : Option (List Rn)} (hi : obs[i]? = some (obP p o)) (k s n : Int) (hb : Room o n) :
    Calls Try.prog 36 #[p, .agg #[.int .u8 k, .int .i64 s], .int .i64 n] w fun e w' => e = .returned (.tuple #[]) ∧ Env w0 w' (obs.set i (obP p (timesO o k s n))) := by
  obtain ⟨F, f1, _, f4⟩ := h.lgP i hi
  exact (gtimesP_any p F o k s n w f1 hb).mono fun e w' ⟨he, h1⟩ => ⟨he, f4 w' _ h1⟩
theorem runsP_env' (h : Env w0 w obs) (i : Nat) {p : Value} {rs : List Rn} (hi : obs[i]? = some (obP p (some rs))) (hl : rs.length ≤ 5497558138880) :
    Calls Try.prog 37 #[p] w fun e w' => ∃ v, e = .returned v ∧ Env w0 w' (obs ++ [obRuns v rs]) := by
  obtain ⟨F, f1, _⟩ := h.lgP i hi
  obtain ⟨b, v, rfl, rfl, f2⟩ := f1
  exact (runsP_any b v rs w f2 hl).mono fun e w' ⟨v, he, h1, h2, h3⟩ => ⟨v, he, h.pushRuns h1 h2 h3⟩
theorem sameRuns_env' (h : Env w0 w obs) {u v : Value} {xs ys : List Rn} (hu : RunsRd w u xs) (hv : RunsRd w v ys) :
    Calls Try.prog 14 #[u, v] w fun e w' => e = .returned (.bool (decide (xs = ys))) ∧ Env w0 w' obs :=
  (sameRuns_any u v xs ys w hu hv).mono fun e w' ⟨he, m, hm⟩ => ⟨he, by rw [hm]; exact h.draw m⟩
end
end Go.Proofs.Ytkidijjhedjifaa
/- The contracts of the kit's helpers on lists of bytes: CopyBytes, LentBytes, SameBytes, KeptBytes, OverBytes, Pick. Conditions: a list has at most 2^47 - 6 bytes. -/
namespace Go.Proofs.Ytkidijjhedjifaa
open Go.RowKit
set_option maxRecDepth 100000

theorem info8 : (Try.prog.info? 5).map (fun i => (i.zero, i.size, i.bytes)) = some (some (.int .u8 0), 1, 1) := by kernel_rfl
/-- a slice value that owns the bytes l, at a row of its own -/
def OB (w : World) (v : Value) (l : List UInt8) : Prop := w.ownsRow 0 5 1 v l.length (l.map B)
theorem bytes_one (l : List UInt8) : ∀ u ∈ l.map B, u.oneCell' = true := by
  intro u hu
  obtain ⟨x, _, rfl⟩ := List.mem_map.1 hu
  rfl
theorem OB.sl {w : World} {v : Value} {l : List UInt8} (h : OB w v l) : Sl w 1 v l.length (l.map B) := Sl.of_own h (bytes_one l)
theorem OB.rd {w : World} {v : Value} {l : List UInt8} (h : OB w v l) : Bs w v l := h.sl.bytes
theorem OB.keep {w w' : World} {v : Value} {l : List UInt8} (h : OB w v l) {S : Nat → Prop} (ho : Only S w w') (hd : ∀ x, fpv v x → ¬ S x) : OB w' v l := by
  refine ⟨h.1, ?_⟩
  rcases h.2 with h2 | ⟨g, cap, cur, rfl, hb, hg, r⟩
  · exact .inl h2
  · exact .inr ⟨g, cap, cur, rfl, hb, (ho.block g (Array.getElem?_eq_some_iff.1 hg).1 (hd g rfl)).trans hg, r⟩
theorem OB.lt {w : World} {v : Value} {l : List UInt8} (h : OB w v l) : ∀ x, fpv v x → x < w.heap.size := fun x hx => (World.ownsRow.lt h x hx).2
theorem OB.nil (w : World) : OB w (.slice none 0 0) [] := World.ownsRow_nil w 0 _ 1
theorem OB.any {w : World} {v : Value} {l : List UInt8} (h : OB w v l) : ∃ ao cap, v = .slice ao l.length cap := by
  rcases h.2 with ⟨hv, h0⟩ | ⟨g, cap, cur, hv, _⟩
  · exact ⟨none, 0, by rw [h0]; exact hv⟩
  · exact ⟨some ⟨g, 0, none⟩, cap, hv⟩
theorem OB.form {w : World} {v : Value} {l : List UInt8} (h : OB w v l) (h0 : 0 < l.length) : ∃ g cap, v = .slice (some ⟨g, 0, none⟩) l.length cap := by
  obtain ⟨g, cap, hv, _⟩ := World.ownsRow.form h h0
  exact ⟨g, cap, hv⟩
theorem OB.set {w : World} {g cap : Nat} {l : List UInt8} (h : OB w (.slice (some ⟨g, 0, none⟩) l.length cap) l) (i : Nat) (x : UInt8) :
    OB (w.setCell ⟨g, i, none⟩ (.int .u8 (x.toNat : Int))) (.slice (some ⟨g, 0, none⟩) l.length cap) (l.set i x) := by
  have h1 := (World.ownsRow.stored h i (.int .u8 (x.toNat : Int))).1
  unfold OB
  rw [List.length_set, List.map_set]
  exact h1

/-- as OB, in a row of whatever type -/
def OT (t : TypeId) (w : World) (v : Value) (l : List UInt8) : Prop := w.ownsRow 0 t 1 v l.length (l.map B)
theorem OT.set {t : TypeId} {w : World} {g cap : Nat} {l : List UInt8} (h : OT t w (.slice (some ⟨g, 0, none⟩) l.length cap) l) (i : Nat) (x : UInt8) :
    OT t (w.setCell ⟨g, i, none⟩ (.int .u8 (x.toNat : Int))) (.slice (some ⟨g, 0, none⟩) l.length cap) (l.set i x) := by
  have h1 := (World.ownsRow.stored h i (.int .u8 (x.toNat : Int))).1
  unfold OT
  rw [List.length_set, List.map_set]
  exact h1
theorem OT.rd {t : TypeId} {w : World} {v : Value} {l : List UInt8} (h : OT t w v l) : Bs w v l := (Sl.of_own h (bytes_one l)).bytes
/-- a block of bytes as a row of one's own -/
theorem Blk.owns {w : World} {g : Nat} {t : TypeId} {l : List UInt8} (h : Blk w g t (barr l)) (hl : l.length ≤ 9223372036854775807) : OT t w (.slice (some ⟨g, 0, none⟩) l.length l.length) l := by
  refine ⟨by simp, .inr ⟨g, l.length, barr l, rfl, Nat.zero_le _, h, Nat.le_refl _, by unfold maxLen; omega, by rw [barr_size]; omega, ?_⟩⟩
  rw [barr_toList, List.take_of_length_le (by simp)]
theorem Blk.of_owns {w : World} {g : Nat} {t : TypeId} {l : List UInt8} (h : OT t w (.slice (some ⟨g, 0, none⟩) l.length l.length) l) : Blk w g t (barr l) := by
  rcases h.2 with ⟨hv, _⟩ | ⟨g', cap, cur, hv, _, hg, _, _, hcs, ht⟩
  · simp at hv
  · injection hv with e1 _ e3
    injection e1 with e1
    injection e1 with e1
    subst e1; subst e3
    have e : cur.toList = l.map B := by
      rw [← ht, List.take_of_length_le (by simp [hcs])]
    have e2 : cur = barr l := by rw [← Array.toArray_toList (xs := cur), e]; rfl
    rw [← e2]
    exact hg

/-- bytes told in new memory -/
def NewBytes (l : List UInt8) (w : World) (e : Ending) (w' : World) : Prop :=
  ∃ v, e = .returned v ∧ OB w' v l ∧ Below w.heap.size w w' ∧ ∀ x, fpv v x → w.heap.size ≤ x

theorem bl0 {n : Nat} (h : n ≤ 140737488355328) : 0 + n ≤ maxLen := by unfold maxLen; omega
theorem bb0 {n : Nat} (h : n ≤ 140737488355328) : (0 + n) * 1 ≤ 140737488355328 := by omega
/-- mark i of list 7: a byte -/
def mark7 (i : Nat) : UInt8 := UInt8.ofNat (50 + i)
def marks7 : List UInt8 := [50, 51, 52, 53, 54, 55]
def lent (l : List UInt8) : List UInt8 := l ++ marks7
theorem marks7_take (i : Nat) (h : i < 6) : marks7.take (i + 1) = marks7.take i ++ [mark7 i] := by
  have : ∀ i, i < 6 → marks7.take (i + 1) = marks7.take i ++ [mark7 i] := by decide
  exact this i h
def LentLoop (l : List UInt8) (w : World) (k : Nat) (v : Value) (w1 : World) : Prop :=
  OB w1 v (l ++ marks7.take k) ∧ Below w.heap.size w w1 ∧ ∀ x, fpv v x → w.heap.size ≤ x
theorem lent_len (l : List UInt8) (k : Nat) (h : k ≤ 6) : (l ++ marks7.take k).length = l.length + k := by
  rw [List.length_append, List.length_take]; simp [marks7]; omega
theorem lent_one (x : UInt8) : ∀ u ∈ [Value.int .u8 (x.toNat : Int)], u.oneCell' = true := by
  intro u hu; simp at hu; subst hu; rfl
theorem bl1 {n : Nat} (h : n + 6 ≤ 140737488355328) {k : Nat} (hk : k < 6) : n + k + 1 ≤ maxLen := by unfold maxLen; omega
theorem bb1 {n : Nat} (h : n + 6 ≤ 140737488355328) {k : Nat} (hk : k < 6) : (n + k + 1) * 1 ≤ 140737488355328 := by omega
/-! ### SameBytes, KeptBytes -/
def sameTo8 (xs ys : List UInt8) : Nat → Nat → Bool
  | 0, _ => true
  | n + 1, k => if xs.getD k 0 = ys.getD k 0 then sameTo8 xs ys n (k + 1) else false
theorem sameTo8_eq (xs ys : List UInt8) (hl : xs.length = ys.length) : ∀ n k, k + n = xs.length → (sameTo8 xs ys n k = true ↔ ∀ j, k ≤ j → xs.getD j 0 = ys.getD j 0)
  | 0, k, h => by
    simp only [sameTo8, true_iff]
    intro j hj
    rw [List.getD_eq_getElem?_getD, List.getD_eq_getElem?_getD, List.getElem?_eq_none (by omega), List.getElem?_eq_none (by omega)]
  | n + 1, k, h => by
    simp only [sameTo8]
    by_cases e : xs.getD k 0 = ys.getD k 0
    · rw [if_pos e, sameTo8_eq xs ys hl n (k + 1) (by omega)]
      constructor
      · intro hh j hj
        by_cases ejk : j = k
        · subst ejk; exact e
        · exact hh j (by omega)
      · intro hh j hj
        exact hh j (by omega)
    · rw [if_neg e]
      simp only [Bool.false_eq_true, false_iff]
      intro hh
      exact e (hh k (Nat.le_refl _))
theorem sameTo8_all (xs ys : List UInt8) (hl : xs.length = ys.length) : sameTo8 xs ys xs.length 0 = decide (xs = ys) := by
  rw [Bool.eq_iff_iff, sameTo8_eq xs ys hl _ 0 (by omega), decide_eq_true_eq]
  constructor
  · intro h
    apply List.ext_getElem hl
    intro j h1 h2
    have := h j (Nat.zero_le _)
    rwa [List.getD_eq_getElem?_getD, List.getD_eq_getElem?_getD, List.getElem?_eq_getElem h1, List.getElem?_eq_getElem h2] at this
  · rintro rfl _ _; rfl
theorem u8_eq_iff (x y : UInt8) : ((x.toNat : Int) == (y.toNat : Int)) = decide (x = y) := by
  by_cases h : x = y
  · subst h; simp
  · have : ¬ (x.toNat : Int) = (y.toNat : Int) := fun e => h (UInt8.toNat_inj.1 (by omega))
    simp [h, this]
/-! ### OverBytes -/
def mark9 (i : Nat) : UInt8 := UInt8.ofNat ((64 + i) % 256)
def overTo (l : List UInt8) (k : Nat) : List UInt8 := (List.range k).map mark9 ++ l.drop k
def over (n : Nat) : List UInt8 := (List.range n).map mark9
theorem overTo_len (l : List UInt8) (k : Nat) (h : k ≤ l.length) : (overTo l k).length = l.length := by simp [overTo]; omega
theorem overTo_zero (l : List UInt8) : overTo l 0 = l := by simp [overTo]
theorem overTo_end (l : List UInt8) : overTo l l.length = over l.length := by simp [overTo, over]
theorem overTo_succ (l : List UInt8) (k : Nat) (h : k < l.length) : (overTo l k).set k (mark9 k) = overTo l (k + 1) := by
  unfold overTo
  rw [List.set_append_right _ _ (by simp), List.length_map, List.length_range, Nat.sub_self, List.range_succ, List.map_append, List.append_assoc]
  congr 1
  rw [List.drop_eq_getElem_cons h]
  rfl
end Go.Proofs.Ytkidijjhedjifaa
/- A law's world as a list of things, each with its own blocks: what a call does to one leaves the others. -/
namespace Go.Proofs.Ytkidijjhedjifaa
open Go.RowKit
set_option maxRecDepth 100000

def obB (v : Value) (l : List UInt8) : Ob := ⟨fun w F => OB w v l ∧ F = fpv v, fun h ho hd => ⟨h.1.keep ho (by rw [← h.2]; exact hd), h.2⟩, fun h => by rw [h.2]; exact h.1.lt⟩
/-! ### what is needed of one thing -/
theorem Env.ledP {w0 w : World} {obs : List Ob} (h : Env w0 w obs) (i : Nat) {p : Value} {o : Option (List Rn)} (hi : obs[i]? = some (obP p o)) :
    ∃ F, LgP w p F o ∧ (∀ x, x < w0.heap.size → ¬ F x) ∧ (∀ (j : Nat) (v : Value) (l : List UInt8), j ≠ i → obs[j]? = some (obB v l) → ∀ x, v.ownBlock = some x → ¬ F x) ∧ ∀ w' o', LaidP p F o' w w' → Env w0 w' (obs.set i (obP p o')) := by
  obtain ⟨F, h1, h2, h3, h4⟩ := h.get i hi
  refine ⟨F, h1, h2, fun j v l hj hj2 x hx => ?_, fun w' o' hl => ?_⟩
  · obtain ⟨F2, h5, h6⟩ := h3 j _ hj hj2
    exact h6 x (by rw [h5.2]; exact hx)
  · obtain ⟨F', g1, g2, g3⟩ := hl
    exact h4 w' F' (obP p o') g1 g2 g3
theorem Env.bytes {w0 w : World} {obs : List Ob} (h : Env w0 w obs) (i : Nat) {v : Value} {l : List UInt8} (hi : obs[i]? = some (obB v l)) : OB w v l := by
  obtain ⟨F, h1, _⟩ := h.get i hi
  exact h1.1
/-- bytes turn -/
theorem Env.turnB {w0 w w' : World} {obs : List Ob} (h : Env w0 w obs) (i : Nat) {v : Value} {l l' : List UInt8} (hi : obs[i]? = some (obB v l)) (hb : OB w' v l') (ho : Only (fpv v) w w') : Env w0 w' (obs.set i (obB v l')) := by
  obtain ⟨F, h1, _, _, h4⟩ := h.get i hi
  obtain ⟨_, rfl⟩ := h1
  exact h4 w' (fpv v) (obB v l') ⟨hb, rfl⟩ ho (fun x hx => .inl hx)
theorem Env.pushB {w0 w w' : World} {obs : List Ob} (h : Env w0 w obs) {v : Value} {l : List UInt8} (hb : OB w' v l) (hw : Below w.heap.size w w') (hn : ∀ x, fpv v x → w.heap.size ≤ x) : Env w0 w' (obs ++ [obB v l]) :=
  h.push (obB v l) ⟨hb, rfl⟩ hw hn
/-- what was there when the law began -/
theorem Env.old {w0 w : World} {obs : List Ob} (h : Env w0 w obs) {v : Value} {l : List UInt8} (hv : Bs w0 v l) : Bs w v l := hv.grow h.base
theorem Bs.inside {w : World} {v : Value} {l : List UInt8} (h : Bs w v l) (h0 : l ≠ []) : ∀ x, v.ownBlock = some x → x < w.heap.size := by
  obtain ⟨ao, cap, rfl, _, _, _, h4⟩ := h.form
  intro x hx
  obtain ⟨b, off, rfl, hc⟩ := h4 0 (List.length_pos_iff.2 h0)
  have := World.block_lt_of_cell? w _ hc
  simp [Value.ownBlock] at hx
  subst hx
  exact this
end Go.Proofs.Ytkidijjhedjifaa
/- The handles that are held, as a map in memory; the table of the kinds of operations; what is public of a vault, as one thing of a law's world. -/
namespace Go.Proofs.Ytkidijjhedjifaa
open Go.RowKit Go.Maps
set_option maxRecDepth 100000
set_option linter.unusedVariables false
set_option linter.unusedSimpArgs false
def th0 : Th := ⟨0, 0, 0, 0, 0⟩
def thV (t : Th) : Value := .agg #[.int .u8 t.alg, .int .i64 t.out, .int .i64 t.key, .int .i64 t.custom, .int .i64 t.msg]
def thD (t : Th) : DataW Unit := .agg [.lit (.int .u8 t.alg), .lit (.int .i64 t.out), .lit (.int .i64 t.key), .lit (.int .i64 t.custom), .lit (.int .i64 t.msg)]
theorem thV_inj {a b : Th} (h : thV a = thV b) : a = b := by
  obtain ⟨a1, a2, a3, a4, a5⟩ := a
  obtain ⟨b1, b2, b3, b4, b5⟩ := b
  simp [thV] at h
  simp [h]
theorem thD_inj {a b : Th} (h : thD a = thD b) : a = b := by
  obtain ⟨a1, a2, a3, a4, a5⟩ := a
  obtain ⟨b1, b2, b3, b4, b5⟩ := b
  simp [thD] at h
  simp [h]
open Classical in
noncomputable def thR (v : Value) : Option (DataW Unit × List MemPlace) := if h : ∃ t, v = thV t then some (thD (Classical.choose h), []) else none
theorem thR_mk (t : Th) : thR (thV t) = some (thD t, []) := by
  have h : ∃ t', thV t = thV t' := ⟨t, rfl⟩
  unfold thR
  rw [dif_pos h, ← thV_inj (Classical.choose_spec h)]
theorem thR_inv {v : Value} {z : DataW Unit × List MemPlace} (h : thR v = some z) : ∃ t, v = thV t ∧ z = (thD t, []) := by
  unfold thR at h
  split at h
  · rename_i hx
    injection h with h
    exact ⟨_, Classical.choose_spec hx, h.symm⟩
  · cases h
theorem thR_at {v : Value} {t : Th} {ps : List MemPlace} (h : thR v = some (thD t, ps)) : v = thV t := by
  obtain ⟨t', h1, h2⟩ := thR_inv h
  injection h2 with h2 _
  rw [h1, thD_inj h2]
theorem heldK : Keyed Try.prog 3 := int_keyed Try.underlying3
def okI (n : Int) : Prop := -9223372036854775808 ≤ n ∧ n ≤ 9223372036854775807
theorem okI.wf {n : Int} (h : okI n) : (Lit.int .i64 n).wf = true := WalkArith.wf_i64 h
theorem keyI {n : Int} (h : okI n) : keyOf Try.prog 3 (.int .i64 n) = some (.int .i64 n) := keyOf_int_mk Try.underlying3 h.wf
theorem zeroTh (w : World) : (zeroValue 130).run Try.prog w = .ok (thV th0) w := by kernel_rfl
/-- a map as read that holds what σ says -/
structure Rep (D : DataW Unit) (σ : Hs) : Prop where
  tidy : Tidy D
  has : ∀ h : Int, okI h → Maps.has D (.int .i64 h) = (σ h).isSome
  at' : ∀ (h : Int) (t : Th), okI h → σ h = some t → ∀ z, D.atKey (.int .i64 h) z = thD t
  size : Maps.size D = cntH σ
  dom : ∀ (h : Int) (t : Th), σ h = some t → 0 ≤ h ∧ h < 64
theorem Rep.start : Rep (.map []) hs0 := ⟨tidy_empty, fun h _ => rfl, fun h t _ e => (nomatch (show none = some t from e)), rfl, fun h t e => (nomatch (show none = some t from e))⟩
theorem keyLitI (n : Int) : WideAt.IsKeyLit (.int .i64 n) := trivial
theorem litNe {a b : Int} (h : a ≠ b) : Lit.int .i64 a ≠ .int .i64 b := fun e => by injection e with _ e; exact h e
theorem Rep.put {D : DataW Unit} {σ : Hs} (r : Rep D σ) (h : Int) (hh : 0 ≤ h ∧ h < 64) (t : Th) : Rep (D.put (.int .i64 h) (thD t)) (σ.put h (some t)) := by
  refine ⟨r.tidy.put (keyLitI h) _, fun x hx => ?_, fun x t' hx e z => ?_, ?_, fun x t' e => ?_⟩
  · unfold Hs.put
    by_cases e : x = h
    · rw [if_pos e, e, has_put_same r.tidy.isMap (keyLitI h)]
      rfl
    · rw [if_neg e, has_put_other (litNe e), r.has x hx]
  · unfold Hs.put at e
    by_cases e' : x = h
    · rw [if_pos e'] at e
      injection e with e
      rw [e', e, atKey_put_same r.tidy.isMap (keyLitI h)]
    · rw [if_neg e'] at e
      rw [atKey_put_other (litNe e'), r.at' x t' hx e]
  · have hx : okI h := ⟨by omega, by omega⟩
    rw [size_put r.tidy, r.has h hx, r.size]
    obtain ⟨n, rfl⟩ : ∃ n : Nat, h = (n : Int) := ⟨h.toNat, by omega⟩
    have := cntHT_put σ n (some t) 64 (by omega)
    show _ = cntHT _ 64
    simp only [Option.isSome_some, if_true] at this
    unfold cntH
    cases hs : (σ (n : Int)).isSome
    · rw [hs] at this
      simp at this ⊢
      omega
    · rw [hs] at this
      simp at this ⊢
      omega
  · unfold Hs.put at e
    split at e
    · omega
    · exact r.dom x t' e
theorem Rep.del {D : DataW Unit} {σ : Hs} (r : Rep D σ) (h : Int) (hh : 0 ≤ h ∧ h < 64) : Rep (D.del (.int .i64 h)) (σ.put h none) := by
  refine ⟨r.tidy.del _, fun x hx => ?_, fun x t' hx e z => ?_, ?_, fun x t' e => ?_⟩
  · unfold Hs.put
    by_cases e : x = h
    · rw [if_pos e, e, has_del_same]
      rfl
    · rw [if_neg e, has_del_other (litNe e), r.has x hx]
  · unfold Hs.put at e
    by_cases e' : x = h
    · rw [if_pos e'] at e
      cases e
    · rw [if_neg e'] at e
      rw [atKey_del_other (litNe e'), r.at' x t' hx e]
  · have hx : okI h := ⟨by omega, by omega⟩
    have h1 := size_del (k := .int .i64 h) r.tidy
    rw [r.has h hx, r.size] at h1
    obtain ⟨n, rfl⟩ : ∃ n : Nat, h = (n : Int) := ⟨h.toNat, by omega⟩
    have := cntHT_put σ n none 64 (by omega)
    show _ = cntHT _ 64
    simp only [Option.isSome_none, Bool.false_eq_true, if_false] at this
    unfold cntH at h1
    omega
  · unfold Hs.put at e
    split at e
    · cases e
    · exact r.dom x t' e
theorem cntH_le (σ : Hs) : cntH σ ≤ 64 := cntHT_le σ 64
def MapH (w : World) (b : Nat) (σ : Hs) : Prop := ∃ D : DataW Unit, w.ownsMap Try.prog 3 thR b 64 D ∧ Rep D σ
theorem ownsMap_norm {w : World} {P : Program} {k : TypeId} {R : Value → Option (DataW Unit × List MemPlace)} {b n : Nat} {D : DataW Unit} (h : w.ownsMap P k R b n D) {m : Nat} (hm : Maps.size D ≤ m) : w.ownsMap P k R b m D := by
  obtain ⟨es, clock, hb, F, hs, hD⟩ := h
  refine ⟨es, clock, hb, F, ?_, hD⟩
  rw [hD] at hm
  have e1 : Maps.size (DataW.map ((es.toList.map (WideElems.rg P k R)).foldr DataW.insert [])) = es.size := by simp [Maps.size, length_sorted]
  rw [e1] at hm
  exact hm
section
variable {w : World} {b : Nat} {σ : Hs}
theorem MapH.made (w : World) : MapH (w.alloc (.map #[] 0)) w.heap.size hs0 := ⟨.map [], (World.ownsMap_made w _ _ _).mono (by omega), Rep.start⟩
theorem MapH.lt (h : MapH w b σ) : b < w.heap.size := by
  obtain ⟨D, h1, _⟩ := h
  exact h1.lt
theorem MapH.look_ok (h : MapH w b σ) {x : Int} (hx : okI x) : (Instr.lookup 57 (.map (some b)) (.int .i64 x) true).run Try.prog w = .ok (.tuple #[thV ((σ x).getD th0), .bool (σ x).isSome]) w := by
  obtain ⟨D, h1, r⟩ := h
  obtain ⟨v, ps, hrun, hv⟩ := h1.look_ok heldK Try.underlying57 (zeroTh w) (thR_mk th0) (keyI hx)
  rw [hrun, r.has x hx]
  cases e : σ x with
  | none =>
    have hn : Maps.has D (.int .i64 x) = false := by rw [r.has x hx, e]; rfl
    rw [atKey_of_not_has hn] at hv
    rw [thR_at hv]
    rfl
  | some t =>
    rw [r.at' x t hx e] at hv
    rw [thR_at hv]
    rfl
theorem MapH.look (h : MapH w b σ) {x : Int} (hx : okI x) : (Instr.lookup 57 (.map (some b)) (.int .i64 x) false).run Try.prog w = .ok (thV ((σ x).getD th0)) w := by
  obtain ⟨D, h1, r⟩ := h
  obtain ⟨v, ps, hrun, hv⟩ := h1.lookup heldK Try.underlying57 (zeroTh w) (thR_mk th0) (keyI hx)
  rw [hrun]
  cases e : σ x with
  | none =>
    have hn : Maps.has D (.int .i64 x) = false := by rw [r.has x hx, e]; rfl
    rw [atKey_of_not_has hn] at hv
    rw [thR_at hv]
    rfl
  | some t =>
    rw [r.at' x t hx e] at hv
    rw [thR_at hv]
    rfl
theorem MapH.len (h : MapH w b σ) (ty : TypeId) : (Builtin.len_ #[57] ty #[.map (some b)]).run Try.prog w = .ok (.int .i64 (cntH σ)) w := by
  obtain ⟨D, h1, r⟩ := h
  rw [h1.len Try.underlying57, r.size]
theorem mapTurned.only {w' : World} (h : w.mapTurned w' b) : Only (fun x => x = b) w w' := by
  have hg := h.grown
  exact ⟨hg.os, hg.tape, hg.output, hg.size, fun x hx hn => hg.block x hx (fun e => hn (by injection e))⟩
theorem MapH.store (h : MapH w b σ) {x : Int} (hx : 0 ≤ x ∧ x < 64) (t : Th) : ∃ w', (Instr.mapUpdate 57 (.map (some b)) (.int .i64 x) (thV t)).run Try.prog w = .ok () w' ∧ MapH w' b (σ.put x (some t)) ∧ Only (fun x => x = b) w w' := by
  obtain ⟨D, h1, r⟩ := h
  obtain ⟨w', hrun, h2, h3⟩ := h1.store heldK Try.underlying57 (by unfold maxLen; omega) (keyI (n := x) ⟨by omega, by omega⟩) (thR_mk t)
  have r' := r.put x hx t
  exact ⟨w', hrun, ⟨_, ownsMap_norm h2 (by rw [r'.size]; exact cntH_le _), r'⟩, mapTurned.only h3⟩
theorem MapH.drop (h : MapH w b σ) {x : Int} (hx : 0 ≤ x ∧ x < 64) (ty : TypeId) : ∃ w', (Builtin.delete_ #[57, 3] ty #[.map (some b), .int .i64 x]).run Try.prog w = .ok (.tuple #[]) w' ∧ MapH w' b (σ.put x none) ∧ Only (fun x => x = b) w w' := by
  obtain ⟨D, h1, r⟩ := h
  obtain ⟨w', hrun, h2, h3⟩ := h1.drop heldK Try.underlying57 (keyI (n := x) ⟨by omega, by omega⟩) ty
  have r' := r.del x hx
  exact ⟨w', hrun, ⟨_, ownsMap_norm h2 (by rw [r'.size]; exact cntH_le _), r'⟩, mapTurned.only h3⟩
theorem MapH.only {w' : World} {S : Nat → Prop} (h : MapH w b σ) (ho : Only S w w') (hs : ¬ S b) : MapH w' b σ := by
  have hlt := h.lt
  obtain ⟨D, ⟨es, clock, hb, F, hn, hD⟩, r⟩ := h
  exact ⟨D, ⟨es, clock, (ho.block b hlt hs).trans hb, F, hn, hD⟩, r⟩
end
/-! ### the kinds -/
def kdC : Nat → Nat
  | 1 => 55 | 2 => 57 | 3 => 59 | 4 => 61 | 5 => 63
  | 6 => 65 | 7 => 67 | 8 => 69 | 9 => 71 | _ => 73
def kdO : Nat → Nat
  | 1 => 56 | 2 => 58 | 3 => 60 | 4 => 62 | 5 => 64
  | 6 => 66 | 7 => 68 | 8 => 70 | 9 => 72 | _ => 74
def kdV (k : Nat) : Value := if k = 0 then .agg #[.nilFunc, .nilFunc] else .agg #[.func (.func (kdC k)) #[] #[], .func (.func (kdO k)) #[] #[]]
def kdD (k : Nat) : DataW Unit := .lit (.int .i64 (k : Int))
theorem kdD_inj {a b : Nat} (h : kdD a = kdD b) : a = b := by
  simp [kdD] at h
  omega
theorem kdV_inj : ∀ a b : Nat, a ≤ 10 → b ≤ 10 → kdV a = kdV b → a = b := by
  intro a b ha hb h
  have ea : a = 0 ∨ a = 1 ∨ a = 2 ∨ a = 3 ∨ a = 4 ∨ a = 5 ∨ a = 6 ∨ a = 7 ∨ a = 8 ∨ a = 9 ∨ a = 10 := by omega
  have eb : b = 0 ∨ b = 1 ∨ b = 2 ∨ b = 3 ∨ b = 4 ∨ b = 5 ∨ b = 6 ∨ b = 7 ∨ b = 8 ∨ b = 9 ∨ b = 10 := by omega
  rcases ea with rfl | rfl | rfl | rfl | rfl | rfl | rfl | rfl | rfl | rfl | rfl <;> rcases eb with rfl | rfl | rfl | rfl | rfl | rfl | rfl | rfl | rfl | rfl | rfl <;> first | rfl | (exfalso; simp [kdV, kdC, kdO] at h)
open Classical in
noncomputable def kdR (v : Value) : Option (DataW Unit × List MemPlace) := if h : ∃ k, k ≤ 10 ∧ v = kdV k then some (kdD (Classical.choose h), []) else none
theorem kdR_mk (k : Nat) (hk : k ≤ 10) : kdR (kdV k) = some (kdD k, []) := by
  have h : ∃ k', k' ≤ 10 ∧ kdV k = kdV k' := ⟨k, hk, rfl⟩
  unfold kdR
  have hs := Classical.choose_spec h
  rw [dif_pos h, ← kdV_inj _ _ hk hs.1 hs.2]
theorem kdR_at {v : Value} {k : Nat} {ps : List MemPlace} (h : kdR v = some (kdD k, ps)) : v = kdV k := by
  unfold kdR at h
  split at h
  · rename_i hx
    injection h with h
    injection h with h _
    have hs := Classical.choose_spec hx
    rw [← kdD_inj h]
    exact hs.2
  · cases h
theorem kindK : Keyed Try.prog 40 := int_keyed Try.underlying40
def okU (n : Int) : Prop := 0 ≤ n ∧ n ≤ 255
theorem wf_u8 {n : Int} (h : okU n) : (Lit.int .u8 n).wf = true := by
  obtain ⟨h1, h2⟩ := h
  simp [Lit.wf]
  exact ⟨h1, h2⟩
theorem keyU {n : Int} (h : okU n) : keyOf Try.prog 40 (.int .u8 n) = some (.int .u8 n) := keyOf_int_mk Try.underlying40 (wf_u8 h)
theorem zeroKd (w : World) : (zeroValue 85).run Try.prog w = .ok (kdV 0) w := by kernel_rfl
/-- the table holds the kinds 1 to n -/
structure RepK (D : DataW Unit) (n : Nat) : Prop where
  tidy : Tidy D
  has : ∀ k : Nat, k ≤ 255 → Maps.has D (.int .u8 (k : Int)) = decide (1 ≤ k ∧ k ≤ n)
  at' : ∀ k : Nat, 1 ≤ k → k ≤ n → ∀ z, D.atKey (.int .u8 (k : Int)) z = kdD k
def MapK (w : World) (b n : Nat) : Prop := ∃ D : DataW Unit, w.ownsMap Try.prog 40 kdR b n D ∧ RepK D n
section
variable {w : World} {b n : Nat}
theorem MapK.made (w : World) : MapK (w.alloc (.map #[] 0)) w.heap.size 0 := ⟨.map [], World.ownsMap_made w _ _ _, tidy_empty, fun k _ => by
  have e : decide (1 ≤ k ∧ k ≤ 0) = false := by rw [decide_eq_false_iff_not]; omega
  rw [e]
  rfl, fun k h1 h2 => by omega⟩
theorem MapK.lt (h : MapK w b n) : b < w.heap.size := by
  obtain ⟨D, h1, _⟩ := h
  exact h1.lt
theorem keyLitU (n : Int) : WideAt.IsKeyLit (.int .u8 n) := trivial
theorem litNeU {a b : Nat} (h : a ≠ b) : Lit.int .u8 (a : Int) ≠ .int .u8 (b : Int) := fun e => by injection e with _ e; exact h (by omega)
theorem MapK.more (h : MapK w b n) (hn : n < 10) : ∃ w', (Instr.mapUpdate 58 (.map (some b)) (.int .u8 ((n + 1 : Nat) : Int)) (kdV (n + 1))).run Try.prog w = .ok () w' ∧ MapK w' b (n + 1) ∧ Only (fun x => x = b) w w' := by
  obtain ⟨D, h1, r⟩ := h
  obtain ⟨w', hrun, h2, h3⟩ := h1.store kindK Try.underlying58 (by unfold maxLen; omega) (keyU (n := ((n + 1 : Nat) : Int)) ⟨by omega, by omega⟩) (kdR_mk (n + 1) (by omega))
  refine ⟨w', hrun, ⟨_, h2, r.tidy.put (keyLitU _) _, fun k hk => ?_, fun k k1 k2 z => ?_⟩, mapTurned.only h3⟩
  · by_cases e : k = n + 1
    · subst e
      rw [has_put_same r.tidy.isMap (keyLitU _)]
      exact (decide_eq_true (by omega)).symm
    · rw [has_put_other (litNeU e), r.has k hk]
      exact decide_eq_decide.2 (by omega)
  · by_cases e : k = n + 1
    · subst e
      rw [atKey_put_same r.tidy.isMap (keyLitU _)]
    · rw [atKey_put_other (litNeU e), r.at' k k1 (by omega)]
theorem MapK.look (h : MapK w b 10) {k : Nat} (hk : k ≤ 255) : (Instr.lookup 58 (.map (some b)) (.int .u8 (k : Int)) true).run Try.prog w = .ok (.tuple #[kdV (if 1 ≤ k ∧ k ≤ 10 then k else 0), .bool (decide (1 ≤ k ∧ k ≤ 10))]) w := by
  obtain ⟨D, h1, r⟩ := h
  obtain ⟨v, ps, hrun, hv⟩ := h1.look_ok kindK Try.underlying58 (zeroKd w) (kdR_mk 0 (by omega)) (keyU (n := (k : Int)) ⟨by omega, by omega⟩)
  rw [hrun, r.has k hk]
  by_cases e : 1 ≤ k ∧ k ≤ 10
  · rw [r.at' k e.1 e.2] at hv
    rw [kdR_at hv, if_pos e]
  · have hn : Maps.has D (.int .u8 (k : Int)) = false := by rw [r.has k hk]; exact decide_eq_false e
    rw [atKey_of_not_has hn] at hv
    rw [kdR_at hv, if_neg e]
theorem MapK.only {w' : World} {S : Nat → Prop} (h : MapK w b n) (ho : Only S w w') (hs : ¬ S b) : MapK w' b n := by
  have hlt := h.lt
  obtain ⟨D, ⟨es, clock, hb, F, hn, hD⟩, r⟩ := h
  exact ⟨D, ⟨es, clock, (ho.block b hlt hs).trans hb, F, hn, hD⟩, r⟩
end
/-! ### what is public of a vault -/
structure PubAt (w : World) (p m k : Nat) (σ : Hs) : Prop where
  blk : Blk w p 60 #[.map (some m), .map (some k)]
  held : MapH w m σ
  kinds : MapK w k 10
  pm : p ≠ m
  pk : p ≠ k
  nk : m ≠ k
def pfp (p m k : Nat) : Nat → Prop := fun x => x = p ∨ x = m ∨ x = k
def obPub (p m k : Nat) (σ : Hs) : Ob := ⟨fun w F => PubAt w p m k σ ∧ F = pfp p m k, fun {w w' F S} h ho hd => ⟨⟨h.1.blk.only ho (hd p (by rw [h.2]; exact .inl rfl)), h.1.held.only ho (hd m (by rw [h.2]; exact .inr (.inl rfl))), h.1.kinds.only ho (hd k (by rw [h.2]; exact .inr (.inr rfl))), h.1.pm, h.1.pk, h.1.nk⟩, h.2⟩,
  fun {w F} h => by
    rw [h.2]
    rintro x (rfl | rfl | rfl)
    · exact h.1.blk.lt
    · exact h.1.held.lt
    · exact h.1.kinds.lt⟩
def pV (p : Nat) : Value := .pointer (some ⟨p, 0, none⟩)
section
variable {w0 w w' : World} {obs : List Ob} {p m k : Nat} {σ σ' : Hs}
theorem Env.pub (h : Env w0 w obs) (i : Nat) (hi : obs[i]? = some (obPub p m k σ)) : PubAt w p m k σ := by
  obtain ⟨F, h1, _⟩ := h.get i hi
  exact h1.1
theorem Env.turnPub (h : Env w0 w obs) (i : Nat) (hi : obs[i]? = some (obPub p m k σ)) (hm : MapH w' m σ') (ho : Only (fun x => x = m) w w') : Env w0 w' (obs.set i (obPub p m k σ')) := by
  obtain ⟨F, h1, _, _, h4⟩ := h.get i hi
  obtain ⟨h1, rfl⟩ := h1
  refine h4 w' (pfp p m k) (obPub p m k σ') ⟨⟨h1.blk.only ho h1.pm, hm, h1.kinds.only ho (fun e => h1.nk e.symm), h1.pm, h1.pk, h1.nk⟩, rfl⟩ ?_ (fun x hx => .inl hx)
  exact ⟨ho.os, ho.tape, ho.output, ho.size, fun x hx hn => ho.block x hx (fun e => hn (.inr (.inl e)))⟩
end
/-- what the walks read of it -/
structure SPub (p m : Nat) (x : Int) (t : Th) (is : Bool) (W : World) : Prop where
  c : W.cell? ⟨p, 0, none⟩ = some (.map (some m))
  ok : (Instr.lookup 57 (.map (some m)) (.int .i64 x) true).run Try.prog W = .ok (.tuple #[.agg #[.int .u8 t.alg, .int .i64 t.out, .int .i64 t.key, .int .i64 t.custom, .int .i64 t.msg], .bool is]) W
  at' : (Instr.lookup 57 (.map (some m)) (.int .i64 x) false).run Try.prog W = .ok (.agg #[.int .u8 t.alg, .int .i64 t.out, .int .i64 t.key, .int .i64 t.custom, .int .i64 t.msg]) W
theorem PubAt.s {w : World} {p m k : Nat} {σ : Hs} (h : PubAt w p m k σ) {x : Int} (hx : okI x) : SPub p m x ((σ x).getD th0) (σ x).isSome w := ⟨h.blk.cellAt 0 rfl, h.held.look_ok hx, h.held.look hx⟩
end Go.Proofs.Ytkidijjhedjifaa
/- Lists that were told are marked, gone on with, looked at (the kit's Apart..), whatever their elements: what lies where at each point. No program in sight. -/
namespace Go.Proofs.Ytkidijjhedjifaa
open Go.RowKit
set_option maxRecDepth 100000
set_option linter.unusedVariables false

/-- the elements of such lists: their slices' type, their type, how many cells they have, mark i of list k -/
structure Mkr where
  st : TypeId
  e : TypeId
  sz : Nat
  el : Nat → Nat → List Value
  pos : 0 < sz
  len : ∀ k i, (el k i).length = sz
  one : ∀ k i, ∀ u ∈ el k i, u.oneCell' = true

/-- cells are written from o on -/
def putAt : List Value → Nat → List Value → List Value
  | xs, _, [] => xs
  | xs, o, v :: r => putAt (xs.set o v) (o + 1) r
theorem putAt_app : ∀ (vs a b : List Value), vs.length ≤ b.length → putAt (a ++ b) a.length vs = a ++ vs ++ b.drop vs.length
  | [], a, b, _ => by simp [putAt]
  | v :: vs, a, [], h => by simp at h
  | v :: vs, a, x :: b, h => by
    have h1 : (a ++ x :: b).set a.length v = (a ++ [v]) ++ b := by rw [List.set_append_right _ _ (Nat.le_refl _), Nat.sub_self]; simp
    have h2 := putAt_app vs (a ++ [v]) b (by simpa using h)
    rw [putAt, h1, show a.length + 1 = (a ++ [v]).length from by simp, h2]
    simp
theorem ownsRow_setCells {base : Nat} {e : TypeId} {size g n cap : Nat} : ∀ (vs : List Value) (w : World) (xs : List Value) (o : Nat), w.ownsRow base e size (.slice (some ⟨g, 0, none⟩) n cap) n xs →
    (w.setCells g o vs).ownsRow base e size (.slice (some ⟨g, 0, none⟩) n cap) n (putAt xs o vs)
  | [], w, xs, o, h => h
  | v :: vs, w, xs, o, h => by
    rw [World.setCells, putAt]
    exact ownsRow_setCells vs _ _ _ (World.ownsRow.stored h o v).1
theorem Only.sets {S : Nat → Prop} {a : World} {g : Nat} (hp : S g ∨ a.heap.size ≤ g) : ∀ (vs : List Value) (o : Nat) (b : World), Only S a b → Only S a (b.setCells g o vs)
  | [], o, b, h => h
  | v :: vs, o, b, h => by
    rw [World.setCells]
    exact Only.sets hp vs _ _ (h.set hp v)

section
variable (M : Mkr)
def Mkr.marks (k n : Nat) : List Value := (List.range n).flatMap (M.el k)
theorem Mkr.marks_len (k n : Nat) : (M.marks k n).length = n * M.sz := by
  unfold Mkr.marks
  induction n with
  | zero => simp
  | succ n ih => rw [List.range_succ, List.flatMap_append, List.length_append, ih]; simp [M.len]; rw [Nat.add_mul]; omega
theorem Mkr.marks_succ (k n : Nat) : M.marks k (n + 1) = M.marks k n ++ M.el k n := by
  unfold Mkr.marks
  rw [List.range_succ, List.flatMap_append]
  simp
theorem Mkr.marks_get (k c : Nat) (hc : c < M.sz) : ∀ n i, i < n → (M.marks k n)[i * M.sz + c]? = (M.el k i)[c]?
  | 0, i, h => by omega
  | n + 1, i, h => by
    rw [M.marks_succ]
    by_cases e : i = n
    · subst e
      rw [List.getElem?_append_right (by rw [M.marks_len]; omega), M.marks_len, show i * M.sz + c - i * M.sz = c from by omega]
    · have : i * M.sz + c < n * M.sz := by
        have := Nat.mul_le_mul_right M.sz (show i + 1 ≤ n by omega)
        rw [Nat.add_mul] at this
        omega
      rw [List.getElem?_append_left (by rw [M.marks_len]; exact this)]
      exact Mkr.marks_get k c hc n i (by omega)
theorem Mkr.marks_one (k n : Nat) : ∀ u ∈ M.marks k n, u.oneCell' = true := by
  intro u hu
  unfold Mkr.marks at hu
  obtain ⟨i, _, h⟩ := List.mem_flatMap.1 hu
  exact M.one k i u h
/-- the first i elements are marked -/
def Mkr.to (k : Nat) (cs : List Value) (i : Nat) : List Value := M.marks k i ++ cs.drop (i * M.sz)
theorem Mkr.to_zero (k : Nat) (cs : List Value) : M.to k cs 0 = cs := by simp [Mkr.to, Mkr.marks]
theorem Mkr.to_end (k n : Nat) (cs : List Value) (h : cs.length = n * M.sz) : M.to k cs n = M.marks k n := by simp [Mkr.to, ← h]
theorem Mkr.to_len (k i n : Nat) (cs : List Value) (h : cs.length = n * M.sz) (hi : i ≤ n) : (M.to k cs i).length = n * M.sz := by
  have := Nat.mul_le_mul_right M.sz hi
  simp [Mkr.to, M.marks_len, h]
  omega
theorem Mkr.to_succ (k i n : Nat) (cs : List Value) (h : cs.length = n * M.sz) (hi : i < n) : putAt (M.to k cs i) (i * M.sz) (M.el k i) = M.to k cs (i + 1) := by
  have := Nat.mul_le_mul_right M.sz (show i + 1 ≤ n by omega)
  rw [Nat.add_mul] at this
  unfold Mkr.to
  have h1 := putAt_app (M.el k i) (M.marks k i) (cs.drop (i * M.sz)) (by rw [M.len, List.length_drop]; omega)
  rw [M.marks_len] at h1
  rw [h1, M.marks_succ, List.drop_drop, M.len, Nat.add_mul, Nat.one_mul]

/-- a slice's header -/
def Hd (v : Value) (n : Nat) : Prop := (v = .slice none 0 0 ∧ n = 0) ∨ ∃ b cap, v = .slice (some ⟨b, 0, none⟩) n cap
theorem Hd.of {w : World} {base : Nat} {e : TypeId} {size n : Nat} {v : Value} {xs : List Value} (h : w.ownsRow base e size v n xs) : Hd v n := by
  rcases h.2 with h2 | ⟨g, cap, cur, rfl, _⟩
  · exact .inl h2
  · exact .inr ⟨g, cap, rfl⟩
/-- a list that was told, and what it was gone on with: both hold marks; they may share a block -/
def obPair (v g : Value) (n m : Nat) (cv cg : List Value) : Ob where
  at' w F := w.ownsRow 0 M.e M.sz g m cg ∧ Sl w M.sz v n cv ∧ (∀ x, fpv v x → x < w.heap.size) ∧ F = fun x => fpv v x ∨ fpv g x
  keep := fun {w w' F S} h ho hd => by
    obtain ⟨h1, h2, h3, rfl⟩ := h
    exact ⟨ownsRow_keep h1 ho (fun x hx => hd x (.inr hx)), h2.only ho (fun x hx => hd x (.inl hx)), fun x hx => Nat.lt_of_lt_of_le (h3 x hx) ho.size, rfl⟩
  lt := fun {w F} h x hx => by
    obtain ⟨h1, h2, h3, rfl⟩ := h
    rcases hx with hx | hx
    · exact h3 x hx
    · exact (World.ownsRow.lt h1 x hx).2
theorem pair_append {w w2 : World} {v g g' : Value} {k n m : Nat} (hnm : n ≤ m) (hv : Sl w M.sz v n (M.marks k n)) (h0 : Hd v n) (hown : w2.ownsRow 0 M.e M.sz g' (m + 1) (M.marks k (m + 1))) (hgrow : w.grownBy w2 g.ownBlock)
    (hat : g'.ownBlock = g.ownBlock ∨ g'.ownBlock = some w.heap.size ∧ ∀ b, b < w.heap.size → w2.heap[b]? = w.heap[b]?) : Sl w2 M.sz v n (M.marks k n) := by
  by_cases hsame : g'.ownBlock = g.ownBlock ∧ v.ownBlock = g.ownBlock
  · obtain ⟨ao, cap, hvv, h1, h2, h3, h4⟩ := hv.form
    refine ⟨hv.len, hv.one, ao, cap, hvv, h1, h2, h3, fun j u hj => ?_⟩
    obtain ⟨b, off, hao, hc⟩ := h4 j u hj
    refine ⟨b, off, hao, ?_⟩
    have hjl : j < n * M.sz := by
      have := (List.getElem?_eq_some_iff.1 hj).1
      rwa [M.marks_len] at this
    have hjm : j < (m + 1) * M.sz := Nat.lt_of_lt_of_le hjl (Nat.mul_le_mul_right _ (by omega))
    obtain ⟨gg, gcap, hgf, _⟩ := World.ownsRow.form hown (by omega)
    have hb : gg = b := by
      have e1 : g'.ownBlock = v.ownBlock := hsame.1.trans hsame.2.symm
      rw [hgf, hvv, hao] at e1
      simpa [Value.ownBlock] using e1
    subst hb
    have hoff : off = 0 := by
      rcases h0 with ⟨h0, _⟩ | ⟨b2, cap2, h0⟩
      · rw [hvv, hao] at h0; simp at h0
      · rw [hvv, hao] at h0; simp at h0; exact h0.1.2
    subst hoff
    subst hgf
    have hsp : M.marks k (m + 1) = M.marks k n ++ (M.marks k (m + 1)).drop (n * M.sz) := by
      have e : ∀ d, (M.marks k (n + d)).take (n * M.sz) = M.marks k n := by
        intro d
        induction d with
        | zero => rw [Nat.add_zero, ← M.marks_len k n, List.take_length]
        | succ d ih =>
          rw [← Nat.add_assoc, M.marks_succ, List.take_append_of_le_length (by rw [M.marks_len]; exact Nat.mul_le_mul_right _ (by omega)), ih]
      have := e (m + 1 - n)
      rw [show n + (m + 1 - n) = m + 1 from by omega] at this
      conv => lhs; rw [← List.take_append_drop (n * M.sz) (M.marks k (m + 1)), this]
    rw [Nat.zero_add, World.ownsRow.cellAt hown j hjm, hsp, List.getElem?_append_left (by rw [M.marks_len]; exact hjl)]
    exact hj
  · refine hv.keep fun b hb hlt => ?_
    rcases hat with hat | ⟨_, hat⟩
    · refine hgrow.block b hlt fun e => hsame ⟨hat, hb.trans e⟩
    · exact hat b hlt
theorem pair_go {w0 w w2 : World} {obs : List Ob} (h : Env w0 w obs) (i : Nat) {v g g' : Value} {k n m : Nat} (hnm : n ≤ m) (hi : obs[i]? = some (obPair M v g n m (M.marks k n) (M.marks k m))) (h0 : Hd v n)
    (hown : w2.ownsRow 0 M.e M.sz g' (m + 1) (M.marks k (m + 1))) (hgrow : w.grownBy w2 g.ownBlock) (hat : g'.ownBlock = g.ownBlock ∨ g'.ownBlock = some w.heap.size ∧ ∀ b, b < w.heap.size → w2.heap[b]? = w.heap[b]?) :
    Env w0 w2 (obs.set i (obPair M v g' n (m + 1) (M.marks k n) (M.marks k (m + 1)))) := by
  obtain ⟨F, h1, _, _, h4⟩ := h.get i hi
  obtain ⟨h1, h2, h3, rfl⟩ := h1
  refine h4 w2 (fun x => fpv v x ∨ fpv g' x) (obPair M v g' n (m + 1) (M.marks k n) (M.marks k (m + 1))) ⟨hown, pair_append M hnm h2 h0 hown hgrow hat, fun x hx => Nat.lt_of_lt_of_le (h3 x hx) hgrow.size, rfl⟩
    ((Only.refl (fun x => fpv v x ∨ fpv g x) w).grown hgrow (fun k hk => .inl (.inr hk))) (fun x hx => ?_)
  rcases hx with hx | hx
  · exact .inl (.inl hx)
  · have hx' : g'.ownBlock = some x := hx
    rcases hat with hat | ⟨hat, _⟩
    · exact .inl (.inr (by show g.ownBlock = some x; rw [← hat]; exact hx'))
    · rw [hat] at hx'
      injection hx' with hx'
      exact .inr (by omega)

/-! ### the world: a slice of slices, its lists, the rest -/
def Tv (vs : List Value) (j : Nat) : Value := vs.getD j (.slice none 0 0)
theorem Tv_get {vs : List Value} {j : Nat} (h : j < vs.length) : vs[j]? = some (Tv vs j) := by
  unfold Tv
  rw [List.getD_eq_getElem?_getD, List.getElem?_eq_getElem h]
  rfl
def AEnv (w0 w : World) (u : Value) (vs : List Value) (T : Nat → Ob) (rest : List Ob) : Prop := Env w0 w (obE M.st 1 u vs.length vs :: ((List.range vs.length).map T ++ rest))
variable {M}
theorem AEnv.at {w0 w : World} {u : Value} {vs : List Value} {T : Nat → Ob} {rest : List Ob} (k : Nat) (hk : k < vs.length) : (obE M.st 1 u vs.length vs :: ((List.range vs.length).map T ++ rest))[k + 1]? = some (T k) := by
  rw [List.getElem?_cons_succ, List.getElem?_append_left (by simpa using hk), List.getElem?_map, List.getElem?_range hk]
  rfl
theorem AEnv.atRest {w0 w : World} {u : Value} {vs : List Value} {T : Nat → Ob} {rest : List Ob} (k : Nat) : (obE M.st 1 u vs.length vs :: ((List.range vs.length).map T ++ rest))[vs.length + 1 + k]? = rest[k]? := by
  rw [show vs.length + 1 + k = (vs.length + k) + 1 from by omega, List.getElem?_cons_succ, List.getElem?_append_right (by simp)]
  congr 1
  simp
theorem AEnv.row {w0 w : World} {u : Value} {vs : List Value} {T : Nat → Ob} {rest : List Ob} (h : AEnv M w0 w u vs T rest) : w.ownsRow 0 M.st 1 u vs.length vs := Env.row h 0 rfl
theorem AEnv.set {w0 w : World} {u : Value} {vs : List Value} {T T' : Nat → Ob} {rest : List Ob} (k : Nat) (hk : k < vs.length) {ob : Ob} (h : Env w0 w ((obE M.st 1 u vs.length vs :: ((List.range vs.length).map T ++ rest)).set (k + 1) ob)) (h1 : T' k = ob) (h2 : ∀ j, j < vs.length → j ≠ k → T' j = T j) : AEnv M w0 w u vs T' rest := by
  have e : (obE M.st 1 u vs.length vs :: ((List.range vs.length).map T ++ rest)).set (k + 1) ob = obE M.st 1 u vs.length vs :: ((List.range vs.length).map T' ++ rest) := by
    rw [List.set_cons_succ, List.set_append_left _ _ (by simpa using hk)]
    congr 2
    apply List.ext_getElem?
    intro j
    by_cases hj : j < vs.length
    · by_cases ejk : k = j
      · subst ejk
        rw [List.getElem?_set_self (by simpa using hj), List.getElem?_map, List.getElem?_range hj, ← h1]
        rfl
      · rw [List.getElem?_set_ne ejk, List.getElem?_map, List.getElem?_map, List.getElem?_range hj]
        simp only [Option.map_some]
        rw [h2 j hj (fun e => ejk e.symm)]
    · rw [List.getElem?_eq_none (by simp; omega), List.getElem?_eq_none (by simp; omega)]
  rw [e] at h
  exact h
theorem AEnv.same {w0 w : World} {u : Value} {vs : List Value} {T T' : Nat → Ob} {rest : List Ob} (h : AEnv M w0 w u vs T rest) (h2 : ∀ j, j < vs.length → T' j = T j) : AEnv M w0 w u vs T' rest := by
  have e : (List.range vs.length).map T' = (List.range vs.length).map T := List.map_congr_left fun j hj => h2 j (List.mem_range.1 hj)
  unfold AEnv
  rw [e]
  exact h
theorem AEnv.below {w0 w w' : World} {u : Value} {vs : List Value} {T : Nat → Ob} {rest : List Ob} (h : AEnv M w0 w u vs T rest) (hb : Below w.heap.size w w') : AEnv M w0 w' u vs T rest := Env.below h hb
theorem AEnv.drop {w0 w : World} {u : Value} {vs : List Value} {T : Nat → Ob} {rest : List Ob} (h : AEnv M w0 w u vs T rest) (r : List Ob) (n : Nat) (hr : ∀ (j : Nat) (ob : Ob), r[j]? = some ob → rest[j + n]? = some ob) : Env w0 w r :=
  Env.pick h (fun j => vs.length + 1 + (j + n)) (fun i j _ _ he => by simpa using he) (fun j ob hj => (AEnv.atRest (w0 := w0) (w := w) (j + n)).trans (hr j ob hj))
theorem AEnv.pushRest {w0 w w' : World} {u : Value} {vs : List Value} {T : Nat → Ob} {rest : List Ob} (h : AEnv M w0 w u vs T rest) {F' : Nat → Prop} (ob : Ob) (hat : ob.at' w' F') (hb : Below w.heap.size w w') (hn : ∀ x, F' x → w.heap.size ≤ x) : AEnv M w0 w' u vs T (rest ++ [ob]) := by
  have := Env.push h ob hat hb hn
  unfold AEnv
  simpa using this

/-- such a world is picked out of a law's world -/
theorem AEnv.of {w0 w : World} {obs : List Ob} (h : Env w0 w obs) {u : Value} {vs : List Value} {T : Nat → Ob} {rest : List Ob} (F : Nat → Nat) (hinj : ∀ i j, i < vs.length + 1 + rest.length → j < vs.length + 1 + rest.length → F i = F j → i = j)
    (h0 : obs[F 0]? = some (obE M.st 1 u vs.length vs)) (h1 : ∀ j, j < vs.length → obs[F (j + 1)]? = some (T j)) (h2 : ∀ (j : Nat) (ob : Ob), rest[j]? = some ob → obs[F (vs.length + 1 + j)]? = some ob) : AEnv M w0 w u vs T rest := by
  refine Env.pick h F (fun i j hi hj he => hinj i j (by simpa [Nat.add_assoc, Nat.add_comm, Nat.add_left_comm] using hi) (by simpa [Nat.add_assoc, Nat.add_comm, Nat.add_left_comm] using hj) he) (fun j ob hj => ?_)
  by_cases hj0 : j = 0
  · subst hj0
    rw [h0]
    simpa using hj
  · obtain ⟨j, rfl⟩ : ∃ i, j = i + 1 := ⟨j - 1, by omega⟩
    by_cases hlt : j < vs.length
    · rw [AEnv.at (w0 := w0) (w := w) j hlt] at hj
      rw [h1 j hlt]
      exact hj
    · obtain ⟨i, rfl⟩ : ∃ i, j = vs.length + i := ⟨j - vs.length, by omega⟩
      rw [show vs.length + i + 1 = vs.length + 1 + i from by omega, AEnv.atRest (w0 := w0) (w := w)] at hj
      rw [show vs.length + i + 1 = vs.length + 1 + i from by omega]
      exact h2 i ob hj
/-- .. behind a literal of some of the things: thing F j is list j -/
theorem AEnv.lit {w0 w : World} {obs : List Ob} (h : Env w0 w obs) {vs : List Value} {T : Nat → Ob} {rest : List Ob} (g : Nat) (hg : g = w.heap.size) (F : Nat → Nat) (hinj : ∀ i j, i < vs.length + rest.length → j < vs.length + rest.length → F i = F j → i = j) (hl : vs.length ≤ 900000)
    (h1 : ∀ j, j < vs.length → obs[F j]? = some (T j)) (h2 : ∀ (j : Nat) (ob : Ob), rest[j]? = some ob → obs[F (vs.length + j)]? = some ob) : AEnv M w0 (w.alloc (.cells vs.toArray M.st)) (.slice (some ⟨g, 0, none⟩) vs.length vs.length) vs T rest := by
  subst hg
  have hrow : (w.alloc (.cells vs.toArray M.st)).ownsRow 0 M.st 1 (.slice (some ⟨w.heap.size, 0, none⟩) vs.length vs.length) vs.length vs := by
    have := World.ownsRow_lit (base := 0) (e := M.st) (size := 1) w vs.toArray vs.length (Nat.zero_le _) (by unfold maxLen; omega) (by simp)
    simpa using this
  have hp := Env.pushE h hrow ((Below.refl w.heap.size w).alloc (Nat.le_refl _) _) (fun x hx => by
    have hx' : w.heap.size = x := by simpa [fpv, Value.ownBlock] using hx
    omega)
  have hF : ∀ i, i < vs.length + rest.length → F i < obs.length := by
    intro i hi
    by_cases hlt : i < vs.length
    · exact (List.getElem?_eq_some_iff.1 (h1 i hlt)).1
    · obtain ⟨j, rfl⟩ : ∃ j, i = vs.length + j := ⟨i - vs.length, by omega⟩
      have hj : j < rest.length := by omega
      exact (List.getElem?_eq_some_iff.1 (h2 j _ (List.getElem?_eq_getElem hj))).1
  refine AEnv.of hp (fun i => if i = 0 then obs.length else F (i - 1)) (fun i j hi hj he => ?_) (by simp) (fun j hj => ?_) (fun j ob hj => ?_)
  · by_cases hi0 : i = 0
    · by_cases hj0 : j = 0
      · omega
      · simp only [hi0, if_pos, if_neg hj0] at he
        have := hF (j - 1) (by omega)
        omega
    · by_cases hj0 : j = 0
      · simp only [hj0, if_pos, if_neg hi0] at he
        have := hF (i - 1) (by omega)
        omega
      · simp only [if_neg hi0, if_neg hj0] at he
        have := hinj (i - 1) (j - 1) (by omega) (by omega) he
        omega
  · rw [if_neg (by omega), Nat.add_sub_cancel, List.getElem?_append_left (hF j (by omega))]
    exact h1 j hj
  · have hlt : j < rest.length := (List.getElem?_eq_some_iff.1 hj).1
    rw [if_neg (by omega), show vs.length + 1 + j - 1 = vs.length + j from by omega, List.getElem?_append_left (hF _ (by omega))]
    exact h2 j ob hj

/-! ### phase one: lists before k are marked, list k's first i elements -/
variable (M)
def T1 (vs : List Value) (n : Nat → Nat) (c : Nat → List Value) (k i j : Nat) : Ob :=
  obE M.e M.sz (Tv vs j) (n j) (if j < k then M.marks j (n j) else if j = k then M.to j (c j) i else c j)
/-- phase two: lists before k are pairs, list k has been gone on with by i, if m -/
def T2 (vs gs : List Value) (n : Nat → Nat) (k : Nat) (g : Option (Value × Nat)) (j : Nat) : Ob :=
  if j < k then obPair M (Tv vs j) (Tv gs j) (n j) (n j + 6) (M.marks j (n j)) (M.marks j (n j + 6))
  else if j = k then match g with
    | some (g, i) => obPair M (Tv vs j) g (n j) (n j + i) (M.marks j (n j)) (M.marks j (n j + i))
    | none => obE M.e M.sz (Tv vs j) (n j) (M.marks j (n j))
  else obE M.e M.sz (Tv vs j) (n j) (M.marks j (n j))
variable {M}
theorem T1_zero (vs : List Value) (n : Nat → Nat) (c : Nat → List Value) (j : Nat) : T1 M vs n c 0 0 j = obE M.e M.sz (Tv vs j) (n j) (c j) := by
  unfold T1
  rw [if_neg (by omega)]
  by_cases e : j = 0
  · rw [if_pos e, M.to_zero]
  · rw [if_neg e]
theorem T1_next (vs : List Value) (n : Nat → Nat) (c : Nat → List Value) (k j : Nat) (hc : (c k).length = n k * M.sz) : T1 M vs n c (k + 1) 0 j = T1 M vs n c k (n k) j := by
  unfold T1
  by_cases h1 : j < k
  · rw [if_pos h1, if_pos (by omega)]
  · by_cases h2 : j = k
    · subst h2
      rw [if_neg h1, if_pos (by omega), if_pos rfl, M.to_end _ _ _ hc]
    · rw [if_neg h1, if_neg (by omega), if_neg h2]
      by_cases h3 : j = k + 1
      · subst h3; rw [if_pos rfl, M.to_zero]
      · rw [if_neg h3]
theorem T1_self (vs : List Value) (n : Nat → Nat) (c : Nat → List Value) (k i : Nat) : T1 M vs n c k i k = obE M.e M.sz (Tv vs k) (n k) (M.to k (c k) i) := by
  unfold T1
  rw [if_neg (Nat.lt_irrefl _), if_pos rfl]
theorem T1_other (vs : List Value) (n : Nat → Nat) (c : Nat → List Value) (k i i' j : Nat) (h : j ≠ k) : T1 M vs n c k i j = T1 M vs n c k i' j := by
  unfold T1
  rw [if_neg h, if_neg h]
theorem T1_T2 (vs : List Value) (n : Nat → Nat) (c : Nat → List Value) (j : Nat) (h : j < vs.length) : T2 M vs [] n 0 none j = T1 M vs n c vs.length 0 j := by
  unfold T1 T2
  rw [if_neg (by omega), if_pos h]
  by_cases e : j = 0
  · rw [if_pos e]
  · rw [if_neg e]
theorem T2_self (vs gs : List Value) (n : Nat → Nat) (k : Nat) : T2 M vs gs n k none k = obE M.e M.sz (Tv vs k) (n k) (M.marks k (n k)) := by
  unfold T2
  rw [if_neg (Nat.lt_irrefl _), if_pos rfl]
theorem T2_some (vs gs : List Value) (n : Nat → Nat) (k : Nat) (g : Value) (i : Nat) : T2 M vs gs n k (some (g, i)) k = obPair M (Tv vs k) g (n k) (n k + i) (M.marks k (n k)) (M.marks k (n k + i)) := by
  unfold T2
  rw [if_neg (Nat.lt_irrefl _), if_pos rfl]
theorem T2_other (vs gs : List Value) (n : Nat → Nat) (k j : Nat) (g g' : Option (Value × Nat)) (h : j ≠ k) : T2 M vs gs n k g j = T2 M vs gs n k g' j := by
  unfold T2
  rw [if_neg h, if_neg h]
theorem T2_next (vs gs : List Value) (n : Nat → Nat) (k j : Nat) (g : Value) (hg : gs.length = k) : T2 M vs (gs ++ [g]) n (k + 1) none j = T2 M vs gs n k (some (g, 6)) j := by
  unfold T2
  by_cases h1 : j < k
  · have e : Tv (gs ++ [g]) j = Tv gs j := by unfold Tv; rw [List.getD_eq_getElem?_getD, List.getD_eq_getElem?_getD, List.getElem?_append_left (by omega)]
    rw [if_pos h1, if_pos (by omega), e]
  · by_cases h2 : j = k
    · subst h2
      have e : Tv (gs ++ [g]) j = g := by unfold Tv; rw [List.getD_eq_getElem?_getD, List.getElem?_append_right (by omega), hg, Nat.sub_self]; rfl
      rw [if_neg h1, if_pos (by omega), if_pos rfl, e]
    · rw [if_neg h1, if_neg (by omega), if_neg h2]
      by_cases h3 : j = k + 1
      · rw [if_pos h3]
      · rw [if_neg h3]
theorem T2_end (vs gs : List Value) (n : Nat → Nat) (k j : Nat) (g : Option (Value × Nat)) (h : j < k) : T2 M vs gs n k g j = obPair M (Tv vs j) (Tv gs j) (n j) (n j + 6) (M.marks j (n j)) (M.marks j (n j + 6)) := by
  unfold T2
  rw [if_pos h]

/-! ### the steps -/
/-- mark i of list k is written -/
theorem AEnv.mark {w0 w : World} {u : Value} {vs : List Value} {n : Nat → Nat} {c : Nat → List Value} {rest : List Ob} {k i g cap N : Nat} (h : AEnv M w0 w u vs (T1 M vs n c k i) rest) (hk : k < vs.length) (hc : (c k).length = n k * M.sz) (hi : i < n k)
    (hv : Tv vs k = .slice (some ⟨g, 0, none⟩) N cap) (m : Nat) : AEnv M w0 ((w.drewN m).setCells g (i * M.sz) (M.el k i)) u vs (T1 M vs n c k (i + 1)) rest := by
  have h0 := Env.row h (k + 1) (by rw [AEnv.at (w0 := w0) (w := w) k hk, T1_self])
  have hN : N = n k := by
    rcases h0.2 with ⟨h1, _⟩ | ⟨g', cap', cur, h1, _⟩
    · rw [hv] at h1; simp at h1
    · rw [hv] at h1; simp at h1; exact h1.2.1
  subst hN
  have h1 : (w.drewN m).ownsRow 0 M.e M.sz (.slice (some ⟨g, 0, none⟩) (n k) cap) (n k) (M.to k (c k) i) := by
    rw [hv] at h0
    exact ownsRow_keep h0 ((Only.refl (fun _ => False) w).draw m) (fun _ _ h => h)
  have h2 := ownsRow_setCells (M.el k i) _ _ (i * M.sz) h1
  rw [M.to_succ k i (n k) (c k) hc hi] at h2
  refine AEnv.set k hk (Env.turnE h (k + 1) (by rw [AEnv.at (w0 := w0) (w := w) k hk, T1_self]) (by rw [hv]; exact h2) ?_) (by rw [T1_self]) (fun j hj hjk => T1_other _ _ _ _ _ _ _ hjk)
  rw [hv]
  exact Only.sets (S := fpv (.slice (some ⟨g, 0, none⟩) (n k) cap)) (.inl rfl) _ _ _ ((Only.refl _ w).draw m)
theorem AEnv.mark0 {w0 w : World} {u : Value} {vs : List Value} {n : Nat → Nat} {c : Nat → List Value} {rest : List Ob} {k i g cap N : Nat} (h : AEnv M w0 w u vs (T1 M vs n c k i) rest) (hk : k < vs.length) (hc : (c k).length = n k * M.sz) (hi : i < n k)
    (hv : Tv vs k = .slice (some ⟨g, 0, none⟩) N cap) : AEnv M w0 (w.setCells g (i * M.sz) (M.el k i)) u vs (T1 M vs n c k (i + 1)) rest := by
  have := AEnv.mark h hk hc hi hv 0
  rwa [World.drewN_zero] at this
theorem AEnv.next {w0 w : World} {u : Value} {vs : List Value} {n : Nat → Nat} {c : Nat → List Value} {rest : List Ob} {k : Nat} (h : AEnv M w0 w u vs (T1 M vs n c k (n k)) rest) (hc : (c k).length = n k * M.sz) : AEnv M w0 w u vs (T1 M vs n c (k + 1) 0) rest :=
  h.same fun j _ => T1_next vs n c k j hc
/-- phase two's world: the row of what the lists were gone on with stands behind the rest -/
def PEnv (M : Mkr) (w0 w : World) (u : Value) (vs : List Value) (n : Nat → Nat) (rest : List Ob) (k : Nat) (g : Option (Value × Nat)) (gsv : Value) (gs : List Value) : Prop :=
  AEnv M w0 w u vs (T2 M vs gs n k g) (rest ++ [obE M.st 1 gsv gs.length gs])
theorem PEnv.start {w0 w : World} {u : Value} {vs : List Value} {n : Nat → Nat} {c : Nat → List Value} {rest : List Ob} (h : AEnv M w0 w u vs (T1 M vs n c vs.length 0) rest) : PEnv M w0 w u vs n rest 0 none (.slice none 0 0) [] :=
  (h.same fun j hj => T1_T2 vs n c j hj).pushRest (F' := fpv (.slice none 0 0)) (obE M.st 1 (.slice none 0 0) 0 []) ⟨World.ownsRow_nil w 0 _ 1, rfl⟩ (Below.refl _ _) (fun x hx => by simp [fpv, Value.ownBlock] at hx)
theorem PEnv.row {w0 w : World} {u : Value} {vs : List Value} {n : Nat → Nat} {rest : List Ob} {k : Nat} {g : Option (Value × Nat)} {gsv : Value} {gs : List Value} (h : PEnv M w0 w u vs n rest k g gsv gs) : w.ownsRow 0 M.st 1 u vs.length vs := AEnv.row h
theorem PEnv.gs {w0 w : World} {u : Value} {vs : List Value} {n : Nat → Nat} {rest : List Ob} {k : Nat} {g : Option (Value × Nat)} {gsv : Value} {gs : List Value} (h : PEnv M w0 w u vs n rest k g gsv gs) : w.ownsRow 0 M.st 1 gsv gs.length gs :=
  Env.row h (vs.length + 1 + rest.length) (by rw [AEnv.atRest (w0 := w0) (w := w), List.getElem?_append_right (Nat.le_refl _), Nat.sub_self]; rfl)
theorem PEnv.below {w0 w w' : World} {u : Value} {vs : List Value} {n : Nat → Nat} {rest : List Ob} {k : Nat} {g : Option (Value × Nat)} {gsv : Value} {gs : List Value} (h : PEnv M w0 w u vs n rest k g gsv gs) (hb : Below w.heap.size w w') : PEnv M w0 w' u vs n rest k g gsv gs := AEnv.below h hb
/-- list k is taken -/
theorem PEnv.take {w0 w : World} {u : Value} {vs : List Value} {n : Nat → Nat} {rest : List Ob} {k : Nat} {gsv : Value} {gs : List Value} (h : PEnv M w0 w u vs n rest k none gsv gs) (hk : k < vs.length) : PEnv M w0 w u vs n rest k (some (Tv vs k, 0)) gsv gs := by
  have hi : (obE M.st 1 u vs.length vs :: ((List.range vs.length).map (T2 M vs gs n k none) ++ (rest ++ [obE M.st 1 gsv gs.length gs])))[k + 1]? = some (obE M.e M.sz (Tv vs k) (n k) (M.marks k (n k))) := by
    rw [AEnv.at (w0 := w0) (w := w) k hk, T2_self]
  obtain ⟨F, h1, _, _, h4⟩ := Env.get h (k + 1) hi
  obtain ⟨h1, rfl⟩ := h1
  refine AEnv.set k hk (h4 w (fun x => fpv (Tv vs k) x ∨ fpv (Tv vs k) x) (obPair M (Tv vs k) (Tv vs k) (n k) (n k) (M.marks k (n k)) (M.marks k (n k))) ⟨h1, Sl.of_own h1 (M.marks_one _ _), fun x hx => (World.ownsRow.lt h1 x hx).2, rfl⟩ (Only.refl _ _) (fun x hx => .inl (by rcases hx with hx | hx <;> exact hx))) ?_ (fun j hj hjk => T2_other _ _ _ _ _ _ _ hjk)
  rw [T2_some]
  rfl
theorem PEnv.hd {w0 w : World} {u : Value} {vs : List Value} {n : Nat → Nat} {rest : List Ob} {k : Nat} {gsv : Value} {gs : List Value} (h : PEnv M w0 w u vs n rest k none gsv gs) (hk : k < vs.length) : Hd (Tv vs k) (n k) :=
  Hd.of (Env.row h (k + 1) (by rw [AEnv.at (w0 := w0) (w := w) k hk, T2_self]))
/-- the row that is gone on with -/
theorem PEnv.gone {w0 w : World} {u : Value} {vs : List Value} {n : Nat → Nat} {rest : List Ob} {k : Nat} {gsv : Value} {gs : List Value} {g : Value} {i : Nat} (h : PEnv M w0 w u vs n rest k (some (g, i)) gsv gs) (hk : k < vs.length) : w.ownsRow 0 M.e M.sz g (n k + i) (M.marks k (n k + i)) := by
  obtain ⟨F, h1, _⟩ := Env.get h (k + 1) (by rw [AEnv.at (w0 := w0) (w := w) k hk, T2_some])
  exact h1.1
theorem PEnv.more {w0 w w2 : World} {u : Value} {vs : List Value} {n : Nat → Nat} {rest : List Ob} {k : Nat} {gsv : Value} {gs : List Value} {g g' : Value} {i : Nat} (h : PEnv M w0 w u vs n rest k (some (g, i)) gsv gs) (hk : k < vs.length) (h0 : Hd (Tv vs k) (n k))
    (hown : w2.ownsRow 0 M.e M.sz g' (n k + i + 1) (M.marks k (n k + i) ++ M.el k (n k + i))) (hgrow : w.grownBy w2 g.ownBlock) (hat : g'.ownBlock = g.ownBlock ∨ g'.ownBlock = some w.heap.size ∧ ∀ b, b < w.heap.size → w2.heap[b]? = w.heap[b]?) :
    PEnv M w0 w2 u vs n rest k (some (g', i + 1)) gsv gs := by
  rw [← M.marks_succ] at hown
  refine AEnv.set k hk (pair_go M h (k + 1) (by omega) (by rw [AEnv.at (w0 := w0) (w := w) k hk, T2_some]) h0 hown hgrow hat) ?_ (fun j hj hjk => T2_other _ _ _ _ _ _ _ hjk)
  rw [T2_some]
  rfl
/-- it is put behind the others -/
theorem PEnv.kept {w0 w w2 : World} {u : Value} {vs : List Value} {n : Nat → Nat} {rest : List Ob} {k : Nat} {gsv gsv' : Value} {gs : List Value} {g : Value} (h : PEnv M w0 w u vs n rest k (some (g, 6)) gsv gs) (hgs : gs.length = k)
    (hown : w2.ownsRow 0 M.st 1 gsv' (gs.length + 1) (gs ++ [g])) (hgrow : w.grownBy w2 gsv.ownBlock) (hat : gsv'.ownBlock = gsv.ownBlock ∨ gsv'.ownBlock = some w.heap.size) : PEnv M w0 w2 u vs n rest (k + 1) none gsv' (gs ++ [g]) := by
  have hi : (obE M.st 1 u vs.length vs :: ((List.range vs.length).map (T2 M vs gs n k (some (g, 6))) ++ (rest ++ [obE M.st 1 gsv gs.length gs])))[vs.length + 1 + rest.length]? = some (obE M.st 1 gsv gs.length gs) := by
    rw [AEnv.atRest (w0 := w0) (w := w), List.getElem?_append_right (Nat.le_refl _), Nat.sub_self]; rfl
  obtain ⟨F, h1, _, _, h4⟩ := Env.get h _ hi
  obtain ⟨h1, rfl⟩ := h1
  have h5 := h4 w2 (fpv gsv') (obE M.st 1 gsv' (gs.length + 1) (gs ++ [g])) ⟨hown, rfl⟩ ((Only.refl (fpv gsv) w).grown hgrow (fun k hk => .inl hk)) (fun x hx => by
    have hx' : gsv'.ownBlock = some x := hx
    rcases hat with hat | hat
    · exact .inl (by show gsv.ownBlock = some x; rw [← hat]; exact hx')
    · rw [hat] at hx'
      injection hx' with hx'
      exact .inr (by omega))
  have e : (obE M.st 1 u vs.length vs :: ((List.range vs.length).map (T2 M vs gs n k (some (g, 6))) ++ (rest ++ [obE M.st 1 gsv gs.length gs]))).set (vs.length + 1 + rest.length) (obE M.st 1 gsv' (gs.length + 1) (gs ++ [g]))
      = obE M.st 1 u vs.length vs :: ((List.range vs.length).map (T2 M vs gs n k (some (g, 6))) ++ (rest ++ [obE M.st 1 gsv' (gs.length + 1) (gs ++ [g])])) := by
    rw [show vs.length + 1 + rest.length = (vs.length + rest.length) + 1 from by omega, List.set_cons_succ, List.set_append_right _ _ (by simp), List.set_append_right _ _ (by simp)]
    simp
  rw [e] at h5
  unfold PEnv
  rw [List.length_append]
  exact AEnv.same h5 fun j hj => T2_next vs gs n k j g hgs
/-- what is read in the end: list k, and what it was gone on with -/
theorem PEnv.rows {w0 w : World} {u : Value} {vs : List Value} {n : Nat → Nat} {rest : List Ob} {gsv : Value} {gs : List Value} (h : PEnv M w0 w u vs n rest vs.length none gsv gs) (k : Nat) (hk : k < vs.length) :
    w.ownsRow 0 M.e M.sz (Tv gs k) (n k + 6) (M.marks k (n k + 6)) ∧ Sl w M.sz (Tv vs k) (n k) (M.marks k (n k)) := by
  obtain ⟨F, h1, _⟩ := Env.get h (k + 1) (by rw [AEnv.at (w0 := w0) (w := w) k hk, T2_end _ _ _ _ _ _ hk])
  exact ⟨h1.1, h1.2.1⟩
theorem PEnv.drop {w0 w : World} {u : Value} {vs : List Value} {n : Nat → Nat} {rest : List Ob} {k : Nat} {g : Option (Value × Nat)} {gsv : Value} {gs : List Value} (h : PEnv M w0 w u vs n rest k g gsv gs) : Env w0 w rest :=
  AEnv.drop h rest 0 fun j ob hj => by rw [Nat.add_zero, List.getElem?_append_left (List.getElem?_eq_some_iff.1 hj).1]; exact hj
end
end Go.Proofs.Ytkidijjhedjifaa
namespace Go.Proofs.Ytkidijjhedjifaa
open Go.RowKit
section
variable {P : Program} (w : World)
theorem run_append_keep (t ty e : TypeId) (i : TypeInfo) (z : Value) (size bytes : Nat) (ht : P.underlying t = some (.slice e)) (hi : P.info? e = some i) (hz : i.zero = some z)
    (hsize : i.size = size) (hby : i.bytes = bytes) (hzs : z.cells.size = size) (hsz : 0 < size)
    (v : Value) (n : Nat) (xs : List Value) (hown : w.ownsRow 0 e size v n xs) (a : Addr) (m c : Nat) (news : List Value) (hl : news.length = m * size) (hnews : ∀ j u, news[j]? = some u → w.cell? (a.add j) = some u) (h1 : ∀ u ∈ news, u.oneCell' = true)
    (h63 : n + m ≤ maxLen) (hbytes : (n + m) * bytes ≤ 140737488355328) (hm : 0 < m) :
    ∃ v' w', (Builtin.append_ #[t, t] ty #[v, .slice (some a) m c]).run P w = .ok v' w' ∧ w'.ownsRow 0 e size v' (n + m) (xs ++ news) ∧ w.grownBy w' v.ownBlock ∧
      (v'.ownBlock = v.ownBlock ∨ v'.ownBlock = some w.heap.size ∧ ∀ b, b < w.heap.size → w'.heap[b]? = w.heap[b]?) ∧ v' ≠ .slice none 0 0 := by
  obtain ⟨v', w', hr, g1, g2, g3, g4⟩ := run_append_own_at (P := P) w 0 t ty e i z size bytes ht hi hz hsize hby hzs hsz v n xs hown a m c news hl hnews h1 h63 hbytes (Nat.zero_le _)
  refine ⟨v', w', hr, g1, g2, ?_, fun hv => by have := (g3.1 hv).2; omega⟩
  subst hsize; subst hby
  have hsmall : n + m ≤ 9223372036854775807 := by simp only [maxLen] at h63; omega
  have hown' := hown
  rcases hown.2 with ⟨rfl, rfl⟩ | ⟨g, cap, cur, rfl, hbg, hg, hnc, hcm, hcs, htake⟩
  · have hx : xs = [] := List.eq_nil_of_length_eq_zero (by simpa using hown.1)
    subst hx
    rcases g4 with g4 | g4
    · exact .inl g4
    · refine .inr ⟨g4, fun b hb => g2.block b hb (by simp [Value.ownBlock])⟩
  · by_cases hroom : n + m ≤ cap
    · have hr2 := run_append_room (P := P) w t ty e i ht hi g n cap cur hg a m c news hl hnews h1 hroom (by rw [hl, hcs, ← Nat.add_mul]; exact Nat.mul_le_mul_right _ hroom)
      rw [hr] at hr2
      injection hr2 with e1 e2
      subst e1
      exact .inl rfl
    · have hr2 := run_append_grow (P := P) w t ty e i z ht hi hz ⟨g, 0, none⟩ n cap xs hown.1 (hown'.cells (g := g) rfl) a m c news hl hnews (by omega) (by omega) (growslice_fits (by omega) hbytes)
      rw [hr] at hr2
      injection hr2 with e1 e2
      subst e1; subst e2
      exact .inr ⟨rfl, fun b hb => heap_alloc_old w.drew _ hb⟩
theorem wp_append_keep {o : Oper} {a : Act} {K : Act → World → Prop} {Q : Exit → Act → World → Prop} (s x : Operand) (t : TypeId)
    (ho : o.op = .call { callee := .builtin .append, args := #[s, x], argTypes := #[t, t] })
    (e : TypeId) (i : TypeInfo) (z : Value) (size bytes : Nat) (ht : P.underlying t = some (.slice e)) (hi : P.info? e = some i) (hz : i.zero = some z)
    (hsize : i.size = size) (hby : i.bytes = bytes) (hzs : z.cells.size = size) (hsz : 0 < size)
    (v : Value) (n : Nat) (xs : List Value) (hs : a.eval s = v) (hown : w.ownsRow 0 e size v n xs) (ad : Addr) (m c : Nat) (news : List Value) (hx : a.eval x = .slice (some ad) m c)
    (hl : news.length = m * size) (hnews : ∀ j u, news[j]? = some u → w.cell? (ad.add j) = some u) (h1 : ∀ u ∈ news, u.oneCell' = true)
    (h63 : n + m ≤ maxLen) (hbytes : (n + m) * bytes ≤ 140737488355328) (hm : 0 < m)
    (h : ∀ v' w', w'.ownsRow 0 e size v' (n + m) (xs ++ news) → w.grownBy w' v.ownBlock → (v'.ownBlock = v.ownBlock ∨ v'.ownBlock = some w.heap.size ∧ ∀ b, b < w.heap.size → w'.heap[b]? = w.heap[b]?) → v' ≠ .slice none 0 0 → K (a.put o.dst v') w') : o.wp P a w K Q := by
  obtain ⟨v', w', hr, g1, g2, g3, g4⟩ := run_append_keep (P := P) w t o.type e i z size bytes ht hi hz hsize hby hzs hsz v n xs hown ad m c news hl hnews h1 h63 hbytes hm
  unfold Oper.wp execOp
  simp only [ho, resolve, invoke, builtin, Sem.run_bind, Sem.run_pure, Result.andThen_ok, List.map_toArray, List.map_cons, List.map_nil, hs, hx, hr]
  exact h v' w' g1 g2 g3 g4
theorem wpList_append_keep {ops : Array Oper} {rest : List Oper} {o : Oper} {a : Act} {Q : Exit → Act → World → Prop} (hgd : o.guard = none) (s x : Operand) (t : TypeId)
    (ho : o.op = .call { callee := .builtin .append, args := #[s, x], argTypes := #[t, t] })
    (e : TypeId) (i : TypeInfo) (z : Value) (size bytes : Nat) (ht : P.underlying t = some (.slice e)) (hi : P.info? e = some i) (hz : i.zero = some z)
    (hsize : i.size = size) (hby : i.bytes = bytes) (hzs : z.cells.size = size) (hsz : 0 < size)
    (v : Value) (n : Nat) (xs : List Value) (hs : a.eval s = v) (hown : w.ownsRow 0 e size v n xs) (ad : Addr) (m c : Nat) (news : List Value) (hx : a.eval x = .slice (some ad) m c)
    (hl : news.length = m * size) (hnews : ∀ j u, news[j]? = some u → w.cell? (ad.add j) = some u) (h1 : ∀ u ∈ news, u.oneCell' = true)
    (h63 : n + m ≤ maxLen) (hbytes : (n + m) * bytes ≤ 140737488355328) (hm : 0 < m)
    (h : ∀ v' w', w'.ownsRow 0 e size v' (n + m) (xs ++ news) → w.grownBy w' v.ownBlock → (v'.ownBlock = v.ownBlock ∨ v'.ownBlock = some w.heap.size ∧ ∀ b, b < w.heap.size → w'.heap[b]? = w.heap[b]?) → v' ≠ .slice none 0 0 → wpList P ops Q rest (a.put o.dst v') w') : wpList P ops Q (o :: rest) a w :=
  wpList_plain hgd fun _ hK => wp_append_keep w s x t ho e i z size bytes ht hi hz hsize hby hzs hsz v n xs hs hown ad m c news hx hl hnews h1 h63 hbytes hm fun v' w' g1 g2 g3 g4 => hK _ _ (h v' w' g1 g2 g3 g4)
end
end Go.Proofs.Ytkidijjhedjifaa
