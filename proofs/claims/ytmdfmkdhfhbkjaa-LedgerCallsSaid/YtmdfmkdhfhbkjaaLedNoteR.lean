/- The contract of the document's NoteTimes. Conditions: as of the program's. -/
import Derived.Test.YtmdfmkdhfhbkjaaLedNote
namespace Go.Proofs.Ytmdfmkdhfhbkjaa
open Go.RowKit
set_option maxRecDepth 100000
/-- ahead of the append: the ledger's block, the event's copy -/
structure RewS (b : Nat) (v : Value) (k s : Int) (w w' : World) : Prop where
  only : Only (fun x => x = b) w w'
  blk : Blk w' b 72 #[v]
  ev : Blk w' w.heap.size 39 #[.int .u8 k, .int .i64 s]
  size : w'.heap.size = w.heap.size + 1
structure RewS' (b : Nat) (v : Value) (k s n : Int) (w w' : World) : Prop where
  only : Only (fun x => x = b) w w'
  blk : Blk w' b 72 #[v]
  ev : Blk w' w.heap.size 39 #[.int .u8 k, .int .i64 s]
  lit : Blk w' (w.heap.size + 1) 61 #[.int .u8 k, .int .i64 s, .int .i64 n]
  size : w'.heap.size = w.heap.size + 2
theorem RewS.start {b : Nat} {v : Value} {rs : List Rn} {k s : Int} {w : World} (h : LedR w b v rs) (nq : Nat) :
    RewS b v k s w ((w.alloc (.cells #[.int .u8 k, .int .i64 s] 39)).drewN nq) :=
  ⟨((Only.refl (fun x => x = b) w).alloc _).draw _, (h.blk.alloc _).draw nq, (Blk.at rfl rfl : Blk (w.alloc (.cells #[.int .u8 k, .int .i64 s] 39)) w.heap.size 39 #[.int .u8 k, .int .i64 s]), by show (w.alloc (.cells #[.int .u8 k, .int .i64 s] 39)).heap.size = _; simp⟩
theorem RewS.lit {b : Nat} {v : Value} {k s : Int} {w w' : World} (h : RewS b v k s w w') (n : Int) : RewS' b v k s n w (w'.alloc (.cells #[.int .u8 k, .int .i64 s, .int .i64 n] 61)) :=
  ⟨h.only.alloc _, h.blk.alloc _, h.ev.alloc _, Blk.at h.size.symm rfl, by simp [h.size]⟩
theorem RewS.drawn {b : Nat} {v : Value} {k s : Int} {w w' : World} (h : RewS b v k s w w') (n : Nat) : RewS b v k s w { w' with drawn := w'.drawn + n } := ⟨⟨h.only.os, h.only.tape, h.only.output, h.only.size, h.only.block⟩, h.blk, h.ev, h.size⟩
theorem RewS.reads {b : Nat} {v : Value} {k s n : Int} {w w' : World} (h : RewS b v k s w w' ∨ RewS' b v k s n w w') :
    w'.cell? ⟨b, 0, none⟩ = some v ∧ w'.cell? ⟨w.heap.size, 0, none⟩ = some (.int .u8 k) ∧ w'.cell? ⟨w.heap.size, 1, none⟩ = some (.int .i64 s) ∧ b < w'.heap.size ∧ w.heap.size < w'.heap.size := by
  rcases h with h | h
  · exact ⟨h.blk.cellAt 0 rfl, h.ev.cellAt 0 rfl, h.ev.cellAt 1 rfl, h.blk.lt, h.ev.lt⟩
  · exact ⟨h.blk.cellAt 0 rfl, h.ev.cellAt 0 rfl, h.ev.cellAt 1 rfl, h.blk.lt, h.ev.lt⟩

set_option maxHeartbeats 1000000 in
theorem rnoteTimes_same (b g cap : Nat) (rs : List Rn) (r : Rn) (n : Int) (w : World) (h : LedR w b (.slice (some ⟨g, 0, none⟩) (rs ++ [r]).length cap) (rs ++ [r])) (hn : 1 ≤ n) (hb : tot (rs ++ [r]) + n < 9223372036854775808) :
    Calls Try.prog 37 #[.pointer (some ⟨b, 0, none⟩), .agg #[.int .u8 r.k, .int .i64 r.s], .int .i64 n] w (NotedR b (.slice (some ⟨g, 0, none⟩) (rs ++ [r]).length cap) (rs ++ [⟨r.k, r.s, r.c + n⟩]) w) := by
  obtain ⟨d1, d2, d3⟩ := h.row.cells rs.length r (by simp)
  have hp := h.posi r (by simp)
  have ht : r.c ≤ tot (rs ++ [r]) := by
    have := tot_nonneg rs (fun x hx => h.posi x (by simp [hx]))
    rw [tot_append, tot_one]; omega
  have c0 := h.blk.cellAt 0 (v := .slice (some ⟨g, 0, none⟩) (rs ++ [r]).length cap) rfl
  have fg := World.ownsRow.frozenAt h.row (rs.length * 3 + 2)
  have hbl := h.blk.lt
  have hgl : g < w.heap.size := h.row.lt g rfl
  have hne : ¬ b = g := fun e => h.apart (by rw [e]; rfl)
  have hne' : ¬ g = b := fun e => hne e.symm
  have ht0 : 0 ≤ tot (rs ++ [r]) := by omega
  have H := Lib.hid h
  clear h
  have hlen : (rs ++ [r]).length = rs.length + 1 := by simp
  rw [hlen] at c0
  have H2 : Hid (LedR w b (.slice (some ⟨g, 0, none⟩) (rs.length + 1) cap) (rs ++ [r])) := by
    have h1 := H.out
    rw [hlen] at h1
    exact h1
  generalize hT : tot (rs ++ [r]) = T at hb ht0 ht
  have HT := Lib.hid hT
  clear hT
  obtain ⟨rk, rs', rc⟩ := r
  generalize hL : rs.length = L at c0 d1 d2 d3 fg
  have HL := Lib.hid hL
  clear hL hlen
  have hl63 : L < 9223372036854775807 := by
    have h1 := tot_nonneg _ H.out.posi
    rw [List.length_append] at h1
    have h2 := HL.out
    simp only [List.length_cons, List.length_nil] at h1
    have h3 := HT.out
    omega
  go_enter Try.func37, Try.ntmps37
  go_wp2_with fail
  go_quiet (fail)
  go_wp2_with fail
  have hwL : IntKind.i64.wrap (L : Int) = L := IntWalk.i64_in _ (by omega)
  clear hwL
  have e := HL.out
  subst e
  have hlen2 : (rs ++ [(⟨rk, rs', rc⟩ : Rn)]).length = rs.length + 1 := by simp
  have HLEN := Lib.hid hlen2
  clear hlen2
  have HSt : RewS b (.slice (some ⟨g, 0, none⟩) (rs.length + 1) cap) rk rs' w ((w.alloc (.cells #[.int .u8 rk, .int .i64 rs'] 39)).drewN nq) := RewS.start H2.out nq
  generalize ((w.alloc (.cells #[.int .u8 rk, .int .i64 rs'] 39)).drewN nq) = W at HSt
  refine wp_region_tame (RewS b (.slice (some ⟨g, 0, none⟩) (rs.length + 1) cap) rk rs' w) 0 17 (by kernel_rfl) (by kernel_rfl) (fun _ _ d _ _ h => (by cases d <;> exact h)) (HSt.drawn 1) (by decide) ?_
  clear HSt
  simp only [List.take_succ_cons, List.take_zero, List.drop_succ_cons, List.drop_zero]
  refine wpPre_nil ?_
  have hx : (rs.length : Int) < (rs.length : Int) + 1 := by omega
  iterate 17
    refine wpTame_run (v := ?_) (by decide) rfl (fun w' hS => ?_) ?_
    rotate_left
    · (obtain ⟨c0, _, _, hl1, _⟩ := RewS.reads (n := n) (.inl hS); have c3 : w'.cell? ⟨g, rs.length * 3 + 2, none⟩ = some (.int .i64 rc) := (hS.only.cell hgl hne').trans d3; clear hS; go_simp; rfl)
    simp only [Act.put, List.setIfInBounds_toArray, List.set_cons_zero, List.set_cons_succ]
  refine wpTame_nil ?_
  intro w1 hS
  have c3 : w1.cell? ⟨g, rs.length * 3 + 2, none⟩ = some (.int .i64 rc) := (hS.only.cell hgl hne').trans d3
  have f3 : w1.frozen? ⟨g, rs.length * 3 + 2, none⟩ = false := (hS.only.frozen hgl hne').trans fg
  have HN : Hid (NotedR b (.slice (some ⟨g, 0, none⟩) (rs ++ [(⟨rk, rs', rc⟩ : Rn)]).length cap) (rs ++ [⟨rk, rs', rc + n⟩]) w (.returned (.tuple #[])) (w1.setCell ⟨g, rs.length * 3 + 2, none⟩ (.int .i64 (rc + n)))) :=
    NotedR.same (r := ⟨rk, rs', rc⟩) H.out hn hS.only (by rw [HLEN.out]; exact hS.blk)
  clear hS
  go_wp2
  refine bodyPost_ret (results_none rfl _ _ _) rfl ?_
  exact HN.out

/-- the first run, or one of another event -/
theorem rnoteTimes_new (b : Nat) (v : Value) (rs : List Rn) (k s n : Int) (w : World) (h : LedR w b v rs) (hn : 1 ≤ n) (hb : tot rs + n < 9223372036854775808) (hl : rs.length ≤ 5497558138880)
    (hd : rs = [] ∨ ∃ rs0 r, rs = rs0 ++ [r] ∧ ((r.k == k) = false ∨ ((r.k == k) = true ∧ (r.s == s) = false))) :
    Calls Try.prog 37 #[.pointer (some ⟨b, 0, none⟩), .agg #[.int .u8 k, .int .i64 s], .int .i64 n] w (NotedR b v (rs ++ [⟨k, s, n⟩]) w) := by
  have ht0 : 0 ≤ tot rs := by have := tot_nonneg rs h.posi; omega
  obtain ⟨ao, cap, hv⟩ := h.row.any
  have c0 := h.blk.cellAt 0 (v := v) rfl
  have f0 := h.blk.unfrozen 0
  have hbl := h.blk.lt
  have H := Lib.hid h
  obtain ⟨i0, hi, hz0, hz1, hz2⟩ := info_parts infoRun
  have HI := Lib.hid (And.intro hi (And.intro hz0 (And.intro hz1 hz2)))
  clear hi hz0 hz1 hz2
  rcases hd with rfl | ⟨rs0, r, rfl, hd⟩
  · clear h
    have hlz : ([] : List Rn).length = 0 := rfl
    subst hv
    have HN0 : Hid (0 = ([] : List Rn).length) := rfl
    have HL0 : Hid (0 ≤ 5497558138880) := Nat.zero_le _
    have HROW : Hid (∀ {w1 : World}, Only (fun x => x = b) w w1 → w1.ownsRow 0 61 3 (.slice ao 0 cap) 0 (flatR [])) := fun {w1} ho => H.out.row.keep ho (fun x hx he => H.out.apart (he ▸ hx))
    generalize hT : tot ([] : List Rn) = T at hb ht0
    have HT := Lib.hid hT
    clear hT
    rw [hlz] at c0
    clear hlz
    go_enter Try.func37, Try.ntmps37
    go_wp2_with fail
    go_quiet (fail)
    go_wp2_with fail
    have HSt : RewS b (.slice ao 0 cap) k s w ((w.alloc (.cells #[.int .u8 k, .int .i64 s] 39)).drewN nq) := RewS.start H.out nq
    generalize ((w.alloc (.cells #[.int .u8 k, .int .i64 s] 39)).drewN nq) = W at HSt
    refine wp_region_tame3 8 (RewS b (.slice ao 0 cap) k s w) (RewS' b (.slice ao 0 cap) k s n w) 1 9 (by kernel_rfl) (by kernel_rfl) (fun _ _ d _ _ h => (by cases d <;> exact h)) (HSt.drawn 1) (.inl (by decide)) ?_
    clear HSt
    simp only [List.take_succ_cons, List.take_zero, List.drop_succ_cons, List.drop_zero]
    refine wpPre_run (v := ?_) rfl (fun w' => ?_) ?_
    rotate_left
    · (go_simp; rfl)
    simp only [Act.put, List.setIfInBounds_toArray, List.set_cons_zero, List.set_cons_succ]
    refine wpPre_nil ?_
    iterate 7
      refine wpTame_run2 (v := ?_) (by decide) rfl (fun w' hS => ?_) ?_
      rotate_left
      · (obtain ⟨c0, e0, e1, _, _⟩ := RewS.reads hS; clear hS; go_simp; rfl)
      simp only [Act.put, List.setIfInBounds_toArray, List.set_cons_zero, List.set_cons_succ]
    refine wpTame_bump (v := .slice (some ⟨w.heap.size + 1, 0, none⟩) 1 1) rfl rfl (fun w' hS => ?_) ?_
    · have hz := hS.size
      have HZ := Lib.hid hS
      clear hS
      go_simp
      exact ⟨rfl, HZ.out.lit n⟩
    simp only [Act.put, List.setIfInBounds_toArray, List.set_cons_zero, List.set_cons_succ]
    refine wpTame_nil ?_
    intro w1 hS
    obtain ⟨hi, hz0, hz1, hz2⟩ := HI.out
    obtain ⟨c0, _, _, hl1, _⟩ := RewS.reads (n := n) (.inr hS)
    have hrow : w1.ownsRow 0 61 3 (.slice ao 0 cap) 0 (flatR []) := HROW.out hS.only
    refine wpList_append_lies w1 rfl _ _ 32 rfl 0 61 i0 _ 3 24 Try.underlying32 hi hz0 hz1 hz2 rfl (by decide) (.slice ao 0 cap) 0 (flatR []) rfl hrow ⟨w.heap.size + 1, 0, none⟩ 1 1 [.int .u8 k, .int .i64 s, .int .i64 n] rfl rfl (World.news_of_block hS.lit) (three_cells k s n) (by decide) (maxl HL0.out) (byt HL0.out) (Nat.zero_le _) _ rfl ?_
    intro g cap' w2 hown hgrow hat hlt
    have hne : ¬ (Value.slice ao 0 cap).ownBlock = some b := H.out.apart
    have c2 : w2.cell? ⟨b, 0, none⟩ = some (.slice ao 0 cap) := (World.grownBy.cell_far hgrow ⟨b, 0, none⟩ hl1 (fun e => hne e.symm)).trans c0
    have f2 : w2.frozen? ⟨b, 0, none⟩ = false := (World.grownBy.frozen_far hgrow ⟨b, 0, none⟩ hl1 (fun e => hne e.symm)).trans (hS.blk.unfrozen 0)
    have hat' : (Value.slice ao 0 cap).ownBlock = some g ∨ w.heap.size ≤ g := hat.imp id (fun e => by rw [e, hS.size]; omega)
    have HN : Hid (NotedR b (.slice ao 0 cap) ([] ++ [⟨k, s, n⟩]) w (.returned (.tuple #[])) (w2.setCell ⟨b, 0, none⟩ (.slice (some ⟨g, 0, none⟩) (0 + 1) cap'))) :=
      NotedR.more HN0.out H.out hn hS.only hS.blk hown hgrow hat'
    clear hat hat' hown hgrow hS
    go_wp2
    refine bodyPost_ret (results_none rfl _ _ _) rfl ?_
    exact HN.out
  · have hlen : (rs0 ++ [r]).length = rs0.length + 1 := by simp
    obtain ⟨g0, cap0, hv1, hgl⟩ := h.row.form (by omega)
    subst hv1
    obtain ⟨d1, d2, d3⟩ := h.row.cells rs0.length r (by simp)
    have hne : ¬ b = g0 := fun e => h.apart (by rw [e]; rfl)
    have hne' : ¬ g0 = b := fun e => hne e.symm
    have hl63 : rs0.length < 9223372036854775807 := by omega
    have HLL : Hid ((rs0 ++ [r]).length ≤ 5497558138880) := hl
    clear h hl hv
    rw [hlen] at c0
    have HN0 : Hid (rs0.length + 1 = (rs0 ++ [r]).length) := Lib.hid hlen.symm
    have HL0 : Hid (rs0.length + 1 ≤ 5497558138880) := by rw [HN0.out]; exact HLL.out
    have HROW : Hid (∀ {w1 : World}, Only (fun x => x = b) w w1 → w1.ownsRow 0 61 3 (.slice (some ⟨g0, 0, none⟩) (rs0.length + 1) cap0) (rs0.length + 1) (flatR (rs0 ++ [r]))) := fun {w1} ho => by
      have h1 := H.out.row.keep ho (fun x hx he => H.out.apart (he ▸ hx))
      unfold RunsAt at h1
      rw [hlen] at h1
      exact h1
    have H : Hid (LedR w b (.slice (some ⟨g0, 0, none⟩) (rs0.length + 1) cap0) (rs0 ++ [r])) := by
      have h1 := H.out
      rw [hlen] at h1
      exact h1
    have HNP : Hid (NotedR b (.slice (some ⟨g0, 0, none⟩) (rs0.length + 1) cap0) (rs0 ++ [r] ++ [⟨k, s, n⟩]) w = NotedR b (.slice (some ⟨g0, 0, none⟩) (rs0 ++ [r]).length cap0) (rs0 ++ [r] ++ [⟨k, s, n⟩]) w) := by rw [hlen]; rfl
    rw [← HNP.out]
    clear hlen HNP
    generalize hT : tot (rs0 ++ [r]) = T at hb ht0
    have HT := Lib.hid hT
    clear hT
    generalize rs0.length = L at c0 d1 d2 d3 hl63 HN0 HL0 HROW H ⊢
    obtain ⟨rk, rs', rc⟩ := r
    dsimp only at d1 d2 d3 hd
    rcases hd with hd | ⟨hd, hd'⟩
    all_goals
      go_enter Try.func37, Try.ntmps37
      go_wp2_with fail
      have hwL : IntKind.i64.wrap (L : Int) = L := IntWalk.i64_in _ (by omega)
      go_quiet (fail)
      clear hwL
      go_wp2_with fail
      have HSt : RewS b (.slice (some ⟨g0, 0, none⟩) (L + 1) cap0) k s w ((w.alloc (.cells #[.int .u8 k, .int .i64 s] 39)).drewN nq) := RewS.start H.out nq
      generalize ((w.alloc (.cells #[.int .u8 k, .int .i64 s] 39)).drewN nq) = W at HSt
      refine wp_region_tame3 8 (RewS b (.slice (some ⟨g0, 0, none⟩) (L + 1) cap0) k s w) (RewS' b (.slice (some ⟨g0, 0, none⟩) (L + 1) cap0) k s n w) 1 9 (by kernel_rfl) (by kernel_rfl) (fun _ _ d _ _ h => (by cases d <;> exact h)) (HSt.drawn 1) (.inl (by decide)) ?_
      clear HSt
      simp only [List.take_succ_cons, List.take_zero, List.drop_succ_cons, List.drop_zero]
      refine wpPre_run (v := ?_) rfl (fun w' => ?_) ?_
      rotate_left
      · (go_simp; rfl)
      simp only [Act.put, List.setIfInBounds_toArray, List.set_cons_zero, List.set_cons_succ]
      refine wpPre_nil ?_
      iterate 7
        refine wpTame_run2 (v := ?_) (by decide) rfl (fun w' hS => ?_) ?_
        rotate_left
        · (obtain ⟨c0, e0, e1, _, _⟩ := RewS.reads hS; clear hS; go_simp; rfl)
        simp only [Act.put, List.setIfInBounds_toArray, List.set_cons_zero, List.set_cons_succ]
      refine wpTame_bump (v := .slice (some ⟨w.heap.size + 1, 0, none⟩) 1 1) rfl rfl (fun w' hS => ?_) ?_
      · have hz := hS.size
        have HZ := Lib.hid hS
        clear hS
        go_simp
        exact ⟨rfl, HZ.out.lit n⟩
      simp only [Act.put, List.setIfInBounds_toArray, List.set_cons_zero, List.set_cons_succ]
      refine wpTame_nil ?_
      intro w1 hS
      obtain ⟨hi, hz0, hz1, hz2⟩ := HI.out
      obtain ⟨c0, _, _, hl1, _⟩ := RewS.reads (n := n) (.inr hS)
      have hrow : w1.ownsRow 0 61 3 (.slice (some ⟨g0, 0, none⟩) (L + 1) cap0) (L + 1) (flatR (rs0 ++ [(⟨rk, rs', rc⟩ : Rn)])) := HROW.out hS.only
      refine wpList_append_lies w1 rfl _ _ 32 rfl 0 61 i0 _ 3 24 Try.underlying32 hi hz0 hz1 hz2 rfl (by decide) (.slice (some ⟨g0, 0, none⟩) (L + 1) cap0) (L + 1) (flatR (rs0 ++ [(⟨rk, rs', rc⟩ : Rn)])) rfl hrow ⟨w.heap.size + 1, 0, none⟩ 1 1 [.int .u8 k, .int .i64 s, .int .i64 n] rfl rfl (World.news_of_block hS.lit) (three_cells k s n) (by decide) (maxl HL0.out) (byt HL0.out) (Nat.zero_le _) _ rfl ?_
      intro g cap' w2 hown hgrow hat hlt
      have hne : ¬ (Value.slice (some ⟨g0, 0, none⟩) (L + 1) cap0).ownBlock = some b := H.out.apart
      have c2 : w2.cell? ⟨b, 0, none⟩ = some (.slice (some ⟨g0, 0, none⟩) (L + 1) cap0) := (World.grownBy.cell_far hgrow ⟨b, 0, none⟩ hl1 (fun e => hne e.symm)).trans c0
      have f2 : w2.frozen? ⟨b, 0, none⟩ = false := (World.grownBy.frozen_far hgrow ⟨b, 0, none⟩ hl1 (fun e => hne e.symm)).trans (hS.blk.unfrozen 0)
      have hat' : (Value.slice (some ⟨g0, 0, none⟩) (L + 1) cap0).ownBlock = some g ∨ w.heap.size ≤ g := hat.imp id (fun e => by rw [e, hS.size]; omega)
      have HN : Hid (NotedR b (.slice (some ⟨g0, 0, none⟩) (L + 1) cap0) ((rs0 ++ [(⟨rk, rs', rc⟩ : Rn)]) ++ [⟨k, s, n⟩]) w (.returned (.tuple #[])) (w2.setCell ⟨b, 0, none⟩ (.slice (some ⟨g, 0, none⟩) ((L + 1) + 1) cap'))) :=
        NotedR.more HN0.out H.out hn hS.only hS.blk hown hgrow hat'
      clear hat hat' hown hgrow hS
      go_wp2
      refine bodyPost_ret (results_none rfl _ _ _) rfl ?_
      exact HN.out

/-- nothing is noted -/
theorem rnoteTimes_off (b : Nat) (k s n : Int) (w : World) (hn : n < 1) :
    Calls Try.prog 37 #[.pointer (some ⟨b, 0, none⟩), .agg #[.int .u8 k, .int .i64 s], .int .i64 n] w fun e w' => e = .returned (.tuple #[]) ∧ Below w.heap.size w w' := by
  go_enter Try.func37, Try.ntmps37
  go_wp2_with fail
  refine bodyPost_ret (results_none rfl _ _ _) rfl ?_
  exact ⟨rfl, (Below.refl _ _).alloc (Nat.le_refl _) _⟩
theorem rnoteTimes_nil (k s n : Int) (w : World) :
    Calls Try.prog 37 #[.pointer none, .agg #[.int .u8 k, .int .i64 s], .int .i64 n] w fun e w' => e = .returned (.tuple #[]) ∧ Below w.heap.size w w' := by
  go_enter Try.func37, Try.ntmps37
  go_wp2_with fail
  refine bodyPost_ret (results_none rfl _ _ _) rfl ?_
  exact ⟨rfl, (Below.refl _ _).alloc (Nat.le_refl _) _⟩
/-- a note of n events, n above 0 -/
theorem rnoteTimes_any (b : Nat) (v : Value) (rs : List Rn) (k s n : Int) (w : World) (h : LedR w b v rs) (hn : 1 ≤ n) (hb : tot rs + n < 9223372036854775808) (hl : rs.length ≤ 5497558138880) :
    Calls Try.prog 37 #[.pointer (some ⟨b, 0, none⟩), .agg #[.int .u8 k, .int .i64 s], .int .i64 n] w (NotedR b v (noteL rs k s n) w) := by
  rcases List.eq_nil_or_concat rs with rfl | ⟨rs0, r, rfl⟩
  · exact rnoteTimes_new b v [] k s n w h hn hb hl (.inl rfl)
  · rw [List.concat_eq_append] at *
    by_cases hk : r.k = k
    · by_cases hs : r.s = s
      · subst hk; subst hs
        obtain ⟨g, cap, rfl, _⟩ := h.row.form (by simp)
        rw [noteL_same]
        exact rnoteTimes_same b g cap rs0 r n w h hn hb
      · rw [noteL_other _ _ _ _ _ (fun e => hs e.2)]
        exact rnoteTimes_new b v _ k s n w h hn hb hl (.inr ⟨rs0, r, rfl, .inr ⟨by rw [hk]; exact beq_self_eq_true _, beq_eq_false_iff_ne.2 hs⟩⟩)
    · rw [noteL_other _ _ _ _ _ (fun e => hk e.1)]
      exact rnoteTimes_new b v _ k s n w h hn hb hl (.inr ⟨rs0, r, rfl, .inl (beq_eq_false_iff_ne.2 hk)⟩)
set_option maxHeartbeats 400000 in
theorem rnote_any (b : Nat) (v : Value) (rs : List Rn) (k s : Int) (w : World) (h : LedR w b v rs) (hb : tot rs + 1 < 9223372036854775808) (hl : rs.length ≤ 5497558138880) :
    Calls Try.prog 36 #[.pointer (some ⟨b, 0, none⟩), .agg #[.int .u8 k, .int .i64 s]] w (NotedR b v (noteL rs k s 1) w) := by
  have H := Lib.hid h
  have HB := Lib.hid hb
  clear h hb
  go_enter Try.func36, Try.ntmps36
  go_wp2_with fail
  have h1 : LedR (w.alloc (.cells #[.int .u8 k, .int .i64 s] 39)) b v rs := H.out.keep ((Only.refl (fun _ => False) w).alloc _) (fun _ _ h => h)
  refine (rnoteTimes_any b v rs k s 1 _ h1 (by omega) HB.out hl).mono ?_
  rintro e w1 ⟨rfl, v', g1, g2, g3⟩
  have G1 := Lib.hid g1
  have G2 := Lib.hid g2
  have G3 := Lib.hid g3
  clear g1 g2 g3
  go_wp2
  refine bodyPost_end (results_none rfl _ _ _) rfl ?_
  refine ⟨rfl, v', G1.out, ((Only.refl _ w).alloc _).trans G2.out (fun x hx => .inl hx), fun x hx => (G3.out x hx).imp id (fun hh => ?_)⟩
  simp at hh
  omega
theorem rnote_nil (k s : Int) (w : World) :
    Calls Try.prog 36 #[.pointer none, .agg #[.int .u8 k, .int .i64 s]] w fun e w' => e = .returned (.tuple #[]) ∧ Below w.heap.size w w' := by
  go_enter Try.func36, Try.ntmps36
  go_wp2_with fail
  refine (rnoteTimes_nil k s 1 _).mono ?_
  rintro e w1 ⟨rfl, g1⟩
  go_wp2
  refine bodyPost_end (results_none rfl _ _ _) rfl ?_
  exact ⟨rfl, ((Below.refl _ _).alloc (Nat.le_refl _) _).trans (g1.mono (by simp))⟩
end Go.Proofs.Ytmdfmkdhfhbkjaa
