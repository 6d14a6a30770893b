/- The law's helper 'gone': All goes over the events of these runs. -/
import Derived.Test.YtmdfmkdhfhbkjaaRows
import Derived.Test.YtmdfmkdhfhbkjaaAll
import Derived.Test.YtmdfmkdhfhbkjaaRound
import Derived.Deep.DeepCutAuto
import Derived.Deep.CutBlock
namespace Go.Proofs.Ytmdfmkdhfhbkjaa
open Go.RowKit
set_option maxRecDepth 100000
set_option linter.unusedVariables false
set_option linter.unusedSimpArgs false
attribute [local go_sem] Oper.semAt_some

/-- where one stands behind some events: at run a, b of its events are left -/
def Pos (rs : List Rn) (a : Nat) (b : Int) (pre : List (Int × Int)) : Prop := (rs = [] ∧ pre = []) ∨ ∃ r, rs[a]? = some r ∧ 0 ≤ b ∧ b ≤ r.c ∧ pre = evs (rs.take a) ++ List.replicate (r.c - b).toNat (r.k, r.s)
structure GI (rs : List Rn) (S : Nat → Prop) (w W : World) (B4 B6 B7 B8 : Nat) (pre : List (Int × Int)) (a : Nat) (b : Int) : Prop where
  len : pre.length ≤ 5000
  pos : Pos rs a b pre
  only : Only S w W
  b4 : Bx W B4 (.bool false)
  b6 : Bx W B6 (.int .i64 (pre.length : Int))
  b7 : Bx W B7 (.int .i64 (a : Int))
  b8 : Bx W B8 (.int .i64 b)
theorem GI.kept {rs : List Rn} {S : Nat → Prop} {w W W' : World} {B4 B6 B7 B8 : Nat} {pre : List (Int × Int)} {a : Nat} {b : Int} (h : GI rs S w W B4 B6 B7 B8 pre a b) {row : Option Nat} (hg : W.grownBy W' row) (hr : ∀ r, row = some r → w.heap.size ≤ r ∧ ∃ o : Obj, W.heap[r]? = some o ∧ o.isCells = false) : GI rs S w W' B4 B6 B7 B8 pre a b :=
  ⟨h.len, h.pos, h.only.grown hg (fun k e => .inr (hr k e).1), h.b4.kept hg (fun r e => (hr r e).2), h.b6.kept hg (fun r e => (hr r e).2), h.b7.kept hg (fun r e => (hr r e).2), h.b8.kept hg (fun r e => (hr r e).2)⟩
theorem GI.draw {rs : List Rn} {S : Nat → Prop} {w W : World} {B4 B6 B7 B8 : Nat} {pre : List (Int × Int)} {a : Nat} {b : Int} (h : GI rs S w W B4 B6 B7 B8 pre a b) : GI rs S w (W.drewN 1) B4 B6 B7 B8 pre a b := ⟨h.len, h.pos, h.only.draw 1, h.b4, h.b6, h.b7, h.b8⟩
theorem evs_at (rs : List Rn) (a : Nat) (r : Rn) (hr : rs[a]? = some r) (n : Nat) (hn : n < r.c.toNat) : (evs rs)[(evs (rs.take a)).length + n]? = some (r.k, r.s) := by
  rw [evs_split rs a, evs_drop rs a r hr, List.getElem?_append_right (by omega), Nat.add_sub_cancel_left, List.getElem?_append_left (by simpa using hn)]
  simp [hn]
/-- what comes next -/
theorem next_ev {rs : List Rn} {a : Nat} {b : Int} {pre : List (Int × Int)} (h : Pos rs a b pre) {r : Rn} (hr : rs[a]? = some r) (hb : 0 < b) (x : Int × Int) (hx : (pre ++ [x]) <+: evs rs) : x = (r.k, r.s) := by
  rcases h with ⟨rfl, _⟩ | ⟨r', hr', h0, h1, h2⟩
  · simp at hr
  · rw [hr] at hr'
    injection hr' with hr'
    subst hr'
    obtain ⟨t, ht⟩ := hx
    have h3 : (pre ++ [x] ++ t)[pre.length]? = some x := by simp
    rw [ht, h2, List.length_append, List.length_replicate, evs_at rs a r hr _ (by omega)] at h3
    injection h3 with h3
    exact h3.symm
theorem pos_more {rs : List Rn} {a : Nat} {b : Int} {pre : List (Int × Int)} (h : Pos rs a b pre) {r : Rn} (hr : rs[a]? = some r) (hb : 0 < b) : Pos rs a (b - 1) (pre ++ [(r.k, r.s)]) := by
  rcases h with ⟨rfl, _⟩ | ⟨r', hr', h0, h1, h2⟩
  · simp at hr
  · rw [hr] at hr'
    injection hr' with hr'
    subst hr'
    refine .inr ⟨r, hr, by omega, by omega, ?_⟩
    rw [h2, show (r.c - (b - 1)).toNat = (r.c - b).toNat + 1 by omega, List.replicate_succ', List.append_assoc]
theorem evs_tot : ∀ (rs : List Rn), (∀ r ∈ rs, 1 ≤ r.c) → ((evs rs).length : Int) = tot rs
  | [], _ => by simp [evs, tot]
  | r :: rs, h => by
    have h1 := evs_tot rs (fun x hx => h x (List.mem_cons_of_mem _ hx))
    have h2 := h r (by simp)
    have e : (evs (r :: rs)).length = r.c.toNat + (evs rs).length := by simp [evs]
    have e2 : tot (r :: rs) = r.c + tot rs := by simp [tot]
    rw [e, e2]
    omega
def GIe (rs : List Rn) (S : Nat → Prop) (w : World) (B4 B6 B7 B8 : Nat) (pre : List (Int × Int)) (W : World) : Prop := ∃ a b, GI rs S w W B4 B6 B7 B8 pre a b
def GX (rs : List Rn) (S : Nat → Prop) (w : World) (B4 : Nat) (c : Code) (pre : List (Int × Int)) (W : World) : Prop := c = .ret ∧ Only S w W ∧ ∃ b : Bool, Bx W B4 (.bool b) ∧ (b = true ∨ ¬ pre <+: evs rs)
theorem atE (obs L : List Ob) (j : Nat) : (obs ++ L)[obs.length + j]? = L[j]? := by rw [List.getElem?_append_right (by omega), Nat.add_sub_cancel_left]
theorem setE (obs L : List Ob) (j : Nat) (x : Ob) : (obs ++ L).set (obs.length + j) x = obs ++ L.set j x := by rw [List.set_append_right _ _ (by omega), Nat.add_sub_cancel_left]
set_option maxHeartbeats 8000000 in
theorem gone_env {w0 w : World} {obs : List Ob} (h : Env w0 w obs) (i k : Nat) {p v : Value} {rs : List Rn} (hi : obs[i]? = some (obP p (some rs))) (hk : obs[k]? = some (obRuns v rs)) (hl : rs.length ≤ 5497558138880) (hpos : ∀ r ∈ rs, 1 ≤ r.c ∧ r.c ≤ 9223372036854775807) :
    Calls Try.prog 34 #[p, v] w fun e w' => e = .returned (.bool true) ∧ Env w0 w' obs := by
  obtain ⟨ao, cap, rfl, hc1, hc2, hao⟩ := header (h.runs k hk)
  have hrow : RunsRd w (.slice ao rs.length cap) rs := (h.runs k hk).rd
  have h1 := (h.newK 32 #[.slice ao rs.length cap]).newK 4 #[.bool false]
  have H2 : Hid (Env w0 ((w.alloc (.cells #[.slice ao rs.length cap] 32)).alloc (.cells #[.bool false] 4)) (obs ++ [obK w.heap.size 32 #[.slice ao rs.length cap], obK (w.heap.size + 1) 4 #[.bool false]])) := by
    rw [List.append_assoc, show (w.alloc (.cells #[.slice ao rs.length cap] 32)).heap.size = w.heap.size + 1 by simp] at h1
    exact Lib.hid h1
  have HI := Lib.hid (And.intro hi hk)
  have HPOS := Lib.hid hpos
  clear hrow h1 hi hk hpos h
  refine callsIn_wide.1 (callsIn_of_wp_marks (n := 3) Try.func34 rfl trivial (wpIn_wide.2 ?_) rfl)
  simp only [Try.ntmps34, List.size_toArray, List.length_cons, List.length_nil, Nat.reduceAdd, Nat.reduceSub, Array.replicate_succ, Array.replicate_zero, List.push_toArray, List.append_toArray, List.nil_append, List.cons_append]
  go_wp2_with fail
  refine (all_env H2.out i (by rw [List.getElem?_append_left (List.getElem?_eq_some_iff.1 HI.out.1).1]; exact HI.out.1) hl).mono ?_
  rintro e w3 ⟨a2, c2, bq, rfl, h5⟩
  rw [List.append_assoc] at h5
  have H3 : Hid (Env w0 w3 (obs ++ [obK w.heap.size 32 #[.slice ao rs.length cap], obK (w.heap.size + 1) 4 #[.bool false], obRuns (.slice a2 rs.length c2) rs, obK bq 32 #[.slice a2 rs.length c2]])) := Lib.hid h5
  have hlt : w.heap.size + 1 < w3.heap.size := by
    have := (h5.blk (b := w.heap.size + 1) (obs.length + 1) (by rw [List.getElem?_append_right (by omega), Nat.add_sub_cancel_left]; rfl)).lt
    exact this
  clear h5 H2
  have hnn := fun W => all_not_nil (.func 46) #[] #[.pointer (some ⟨bq, 0, none⟩)] W
  go_upto_region 7 with fail
  clear hnn
  have h6 := ((H3.out.newK 3 #[.int .i64 0]).newK 3 #[.int .i64 0]).newK 3 #[.int .i64 0]
  rw [List.append_assoc, List.append_assoc, List.append_assoc, show ((w3.alloc (.cells #[.int .i64 0] 3)).alloc (.cells #[.int .i64 0] 3)).heap.size = w3.heap.size + 1 + 1 by simp, show (w3.alloc (.cells #[.int .i64 0] 3)).heap.size = w3.heap.size + 1 by simp] at h6
  have H6 : Hid (Env w0 (((w3.alloc (.cells #[.int .i64 0] 3)).alloc (.cells #[.int .i64 0] 3)).alloc (.cells #[.int .i64 0] 3)) (obs ++ [obK w.heap.size 32 #[.slice ao rs.length cap], obK (w.heap.size + 1) 4 #[.bool false], obRuns (.slice a2 rs.length c2) rs, obK bq 32 #[.slice a2 rs.length c2], obK w3.heap.size 3 #[.int .i64 0], obK (w3.heap.size + 1) 3 #[.int .i64 0], obK (w3.heap.size + 1 + 1) 3 #[.int .i64 0]])) := Lib.hid h6
  clear h6 H3
  generalize ((w3.alloc (.cells #[.int .i64 0] 3)).alloc (.cells #[.int .i64 0] 3)).alloc (.cells #[.int .i64 0] 3) = w4 at H6 ⊢
  obtain ⟨B3, hB3⟩ : ∃ x, w.heap.size = x := ⟨_, rfl⟩
  obtain ⟨B6, hB6⟩ : ∃ x, w3.heap.size = x := ⟨_, rfl⟩
  obtain ⟨B4, hB4⟩ : ∃ x, B3 + 1 = x := ⟨_, rfl⟩
  obtain ⟨B7, hB7⟩ : ∃ x, B6 + 1 = x := ⟨_, rfl⟩
  obtain ⟨B8, hB8⟩ : ∃ x, B7 + 1 = x := ⟨_, rfl⟩
  rw [hB3, hB6] at hlt
  rw [hB3, hB4, hB6, hB7, hB8] at H6 ⊢
  have HNE : Hid (B3 < B4 ∧ B4 < B6 ∧ B6 < B7 ∧ B7 < B8) := Lib.hid (by omega)
  clear hB3 hB4 hB6 hB7 hB8 hlt
  have hrow : RunsRd w4 (.slice ao rs.length cap) rs := (H6.out.runs k (by rw [List.getElem?_append_left (List.getElem?_eq_some_iff.1 HI.out.2).1]; exact HI.out.2)).rd
  have c3 := (H6.out.blk (obs.length + 0) ((atE _ _ 0).trans rfl)).cellAt 0 rfl
  have HROW := Lib.hid hrow
  clear hrow
  go_upto_if 16 with fail
  go_cut [] from 17 to 20 (fun wx => ∃ b0 : Int, Hid (Env w0 wx (obs ++ [obK B3 32 #[.slice ao rs.length cap], obK B4 4 #[.bool false], obRuns (.slice a2 rs.length c2) rs, obK bq 32 #[.slice a2 rs.length c2], obK B6 3 #[.int .i64 0], obK B7 3 #[.int .i64 0], obK B8 3 #[.int .i64 b0]])) ∧ Pos rs 0 b0 [])
  case first =>
    rcases hrs : rs with _ | ⟨r, rest⟩
    · subst hrs
      go_wp2_with fail
      go_meet
      exact ⟨0, H6, .inl ⟨rfl, rfl⟩⟩
    · have hr0 : rs[0]? = some r := by rw [hrs]; rfl
      obtain ⟨b, off, hb, e0, e1, e2⟩ := HROW.out.cells 0 r hr0
      rw [← hrs]
      have hl0 : 0 < (rs.length : Int) := by rw [hrs]; simp
      have e2' : w4.cell? ⟨b, off + 2, none⟩ = some (.int .i64 r.c) := e2
      have hpc := HPOS.out r (by rw [hrs]; simp)
      have b8 := H6.out.blk (obs.length + 6) ((atE _ _ 6).trans rfl)
      have e8 := b8.cellAt 0 rfl
      have f8 := b8.unfrozen 0
      have h7 := H6.out.turnBlk (obs.length + 6) ((atE _ _ 6).trans rfl) (b8.set 0 (.int .i64 r.c)) ((Only.refl (fun x => x = B8) w4).set (p := ⟨B8, 0, none⟩) (Or.inl rfl) _)
      rw [setE] at h7
      have H7 := Lib.hid h7
      have HP : Hid (Pos rs 0 r.c []) := Lib.hid (.inr ⟨r, hr0, by omega, by omega, by simp [evs]⟩)
      clear hrs e0 e1 e2 b8 h7 hr0 hpc
      subst hb
      go_wp2_with fail
      go_meet
      exact ⟨r.c, H7, HP.out⟩
  case rest =>
    obtain ⟨b0, H7, hp⟩ := hcut
    have HP := Lib.hid hp
    clear hp H6 HROW c3
    have b3 := H7.out.blk (obs.length + 0) ((atE _ _ 0).trans rfl)
    have b4 := H7.out.blk (obs.length + 1) ((atE _ _ 1).trans rfl)
    have bq' := H7.out.blk (obs.length + 3) ((atE _ _ 3).trans rfl)
    have b6 := H7.out.blk (obs.length + 4) ((atE _ _ 4).trans rfl)
    have b7 := H7.out.blk (obs.length + 5) ((atE _ _ 5).trans rfl)
    have b8 := H7.out.blk (obs.length + 6) ((atE _ _ 6).trans rfl)
    obtain ⟨S, hSd⟩ : ∃ S : Nat → Prop, S = fun x => x = B4 ∨ x = B6 ∨ x = B7 ∨ x = B8 := ⟨_, rfl⟩
    have hSS : ∀ x, S x → x = B4 ∨ x = B6 ∨ x = B7 ∨ x = B8 := fun x hx => by rw [hSd] at hx; exact hx
    have hS4 : S B4 := by rw [hSd]; exact .inl rfl
    have hS6 : S B6 := by rw [hSd]; exact .inr (.inl rfl)
    have hS7 : S B7 := by rw [hSd]; exact .inr (.inr (.inl rfl))
    have hS8 : S B8 := by rw [hSd]; exact .inr (.inr (.inr rfl))
    clear hSd
    have hSl : ∀ x, S x → x < wc.heap.size := fun x hx => by
      rcases hSS x hx with rfl | rfl | rfl | rfl
      · exact b4.lt
      · exact b6.lt
      · exact b7.lt
      · exact b8.lt
    have hnq : ¬ S bq := fun hx => by
      rcases hSS _ hx with e | e | e | e
      · exact H7.out.apartKK (obs.length + 3) (obs.length + 1) (by omega) ((atE _ _ 3).trans rfl) ((atE _ _ 1).trans rfl) e
      · exact H7.out.apartKK (obs.length + 3) (obs.length + 4) (by omega) ((atE _ _ 3).trans rfl) ((atE _ _ 4).trans rfl) e
      · exact H7.out.apartKK (obs.length + 3) (obs.length + 5) (by omega) ((atE _ _ 3).trans rfl) ((atE _ _ 5).trans rfl) e
      · exact H7.out.apartKK (obs.length + 3) (obs.length + 6) (by omega) ((atE _ _ 3).trans rfl) ((atE _ _ 6).trans rfl) e
    have hn3 : ¬ S B3 := fun hx => by
      have := HNE.out
      rcases hSS _ hx with e | e | e | e <;> omega
    have hil : k < obs.length := (List.getElem?_eq_some_iff.1 HI.out.2).1
    have hkk : (obs ++ [obK B3 32 #[.slice ao rs.length cap], obK B4 4 #[.bool false], obRuns (.slice a2 rs.length c2) rs, obK bq 32 #[.slice a2 rs.length c2], obK B6 3 #[.int .i64 0], obK B7 3 #[.int .i64 0], obK B8 3 #[.int .i64 b0]])[k]? = some (obRuns (.slice ao rs.length cap) rs) := by
      rw [List.getElem?_append_left hil]; exact HI.out.2
    have hnv : ∀ x, S x → (Value.slice ao rs.length cap).ownBlock ≠ some x := fun x hx => by
      rcases hSS _ hx with rfl | rfl | rfl | rfl
      · exact H7.out.apartKR (obs.length + 1) k (by omega) ((atE _ _ 1).trans rfl) hkk
      · exact H7.out.apartKR (obs.length + 4) k (by omega) ((atE _ _ 4).trans rfl) hkk
      · exact H7.out.apartKR (obs.length + 5) k (by omega) ((atE _ _ 5).trans rfl) hkk
      · exact H7.out.apartKR (obs.length + 6) k (by omega) ((atE _ _ 6).trans rfl) hkk
    have hnr : ∀ x, S x → (Value.slice a2 rs.length c2).ownBlock ≠ some x := fun x hx => by
      rcases hSS _ hx with rfl | rfl | rfl | rfl
      · exact H7.out.apartKR (obs.length + 1) (obs.length + 2) (by omega) ((atE _ _ 1).trans rfl) ((atE _ _ 2).trans rfl)
      · exact H7.out.apartKR (obs.length + 4) (obs.length + 2) (by omega) ((atE _ _ 4).trans rfl) ((atE _ _ 2).trans rfl)
      · exact H7.out.apartKR (obs.length + 5) (obs.length + 2) (by omega) ((atE _ _ 5).trans rfl) ((atE _ _ 2).trans rfl)
      · exact H7.out.apartKR (obs.length + 6) (obs.length + 2) (by omega) ((atE _ _ 6).trans rfl) ((atE _ _ 2).trans rfl)
    -- the two rows
    have row2 := (H7.out.runs (obs.length + 2) ((atE _ _ 2).trans rfl)).rd
    have rowv := (H7.out.runs k hkk).rd
    obtain ⟨g2, o2, hao2, hr2, hn2⟩ : ∃ g o, (rs ≠ [] → a2 = some ⟨g, o, none⟩) ∧ RowC wc g o rs ∧ ¬ S g := by
      rcases hrs : rs with _ | ⟨r, rest⟩
      · exact ⟨bq, 0, fun h => absurd rfl h, fun i r hr => by simp at hr, hnq⟩
      · rw [← hrs]
        obtain ⟨b, off, hb, _⟩ := row2.cells 0 r (by rw [hrs]; rfl)
        refine ⟨b, off, fun _ => hb, fun i r hr => ?_, fun hs => hnr b hs (by rw [hb]; rfl)⟩
        obtain ⟨b', off', hb', e0, e1, e2⟩ := row2.cells i r hr
        rw [hb] at hb'
        injection hb' with hb'
        injection hb' with q1 q2 _
        subst q1; subst q2
        exact ⟨e0, e1, e2⟩
    obtain ⟨g1, o1, hao1, hr1, hn1⟩ : ∃ g o, (rs ≠ [] → ao = some ⟨g, o, none⟩) ∧ RowC wc g o rs ∧ ¬ S g := by
      rcases hrs : rs with _ | ⟨r, rest⟩
      · exact ⟨bq, 0, fun h => absurd rfl h, fun i r hr => by simp at hr, hnq⟩
      · rw [← hrs]
        obtain ⟨b, off, hb, _⟩ := rowv.cells 0 r (by rw [hrs]; rfl)
        refine ⟨b, off, fun _ => hb, fun i r hr => ?_, fun hs => hnv b hs (by rw [hb]; rfl)⟩
        obtain ⟨b', off', hb', e0, e1, e2⟩ := rowv.cells i r hr
        rw [hb] at hb'
        injection hb' with hb'
        injection hb' with q1 q2 _
        subst q1; subst q2
        exact ⟨e0, e1, e2⟩
    have hseq := all1_seq 2 (by omega) bq g2 o2 c2 a2 rs wc S hSl hnq (by omega) (fun r hr => (HPOS.out r hr).2) (bq'.cellAt 0 rfl) hao2 hn2 hr2
    have x4 : Bx wc B4 (.bool false) := ⟨b4.cellAt 0 rfl, b4.unfrozen 0⟩
    have x6 : Bx wc B6 (.int .i64 0) := ⟨b6.cellAt 0 rfl, b6.unfrozen 0⟩
    have x7 : Bx wc B7 (.int .i64 0) := ⟨b7.cellAt 0 rfl, b7.unfrozen 0⟩
    have x8 : Bx wc B8 (.int .i64 b0) := ⟨b8.cellAt 0 rfl, b8.unfrozen 0⟩
    have c3 := b3.cellAt 0 rfl
    have HROW := Lib.hid (And.intro hao1 (And.intro hr1 (And.intro hn1 (And.intro c3 hn3))))
    have HSET := Lib.hid (And.intro hSS (And.intro hSl (And.intro hS4 (And.intro hS6 (And.intro hS7 hS8)))))
    have HX := Lib.hid (And.intro x4 (And.intro x6 (And.intro x7 x8)))
    have HSEQ := Lib.hid hseq
    clear row2 rowv hao2 hr2 hn2 hao1 hr1 hn1 hseq x4 x6 x7 x8 c3 hnv hnr hkk hn3 hnq hSS hSl hS4 hS6 hS7 hS8 b3 b4 bq' b6 b7 b8
    go_upto_region 10 with fail
    refine wp_range_ev 9 (gf := 46) (lb := #[.pointer (some ⟨bq, 0, none⟩)]) rfl (enters_of Try.func46 (by kernel_rfl) rfl) HSEQ.out
      (GIe rs S wc B4 B6 B7 B8) (GX rs S wc B4)
      (fun pre W W' row hs hg hr => by
        obtain ⟨a, b, h⟩ := hs
        exact ⟨a, b, h.kept hg hr⟩)
      (fun c pre W W' row hs hg hr => by
        obtain ⟨h1, h2, b, h3, h4⟩ := hs
        exact ⟨h1, h2.grown hg (fun k e => .inr (hr k e).1), b, h3.kept hg (fun r e => (hr r e).2), h4⟩)
      ⟨0, b0, by simp, HP.out, Only.refl _ _, HX.out.1, HX.out.2.1, HX.out.2.2.1, HX.out.2.2.2⟩ ?assign ?body ?done ?stop
    case assign =>
      intro l pre x W K hi hK
      have HK := Lib.hid hK
      obtain ⟨a, b, hg⟩ := hi
      have HG := Lib.hid hg
      clear hK hg
      simp only [List.setIfInBounds_toArray, List.set_cons_succ, List.set_cons_zero]
      gi_wp2
      exact HK.out W.heap.size _ (KeepsFrom.of_only ((Only.refl S W).alloc _) HSET.out.2.1) (Kpt.of_only ((Only.refl S W).alloc _)) ⟨a, b, HG.out.kept (World.grownBy_alloc W _ none) (fun r e => by cases e)⟩ HG.out.only.size (by rw [World.cell?_alloc_new]; rfl) (by rw [World.cell?_alloc_new]; rfl)
    case body =>
      intro l pre x b W hi hb cx cy hlen
      obtain ⟨a, c, hg⟩ := hi
      obtain ⟨xk, xs⟩ := x
      have HG := Lib.hid hg
      have e4 := hg.b4.1
      have e6 := hg.b6.1
      have e7 := hg.b7.1
      have e8 := hg.b8.1
      have f4 := hg.b4.2
      have f6 := hg.b6.2
      have f7 := hg.b7.2
      have f8 := hg.b8.2
      have e3 : W.cell? ⟨B3, 0, none⟩ = some (.slice ao rs.length cap) := (hg.only.cell (World.block_lt_of_cell? wc _ HROW.out.2.2.2.1) HROW.out.2.2.2.2).trans HROW.out.2.2.2.1
      have HB := Lib.hid hb
      clear hg hb
      unfold evA
      simp only [List.setIfInBounds_toArray, List.set_cons_succ, List.set_cons_zero]
      by_cases h5 : pre.length = 5000
      · have t1 : ((pre.length : Int) == 5000) = true := by rw [h5]; rfl
        clear h5
        gi_wp2
        have h1 : Only S W (W.setCell ⟨B4, 0, none⟩ (.bool true)) := (Only.refl S W).set (.inl HSET.out.2.2.1) _
        exact ⟨KeepsFrom.of_only h1 HSET.out.2.1, rfl, HG.out.only.set (.inl HSET.out.2.2.1) _, true, HG.out.b4.set _, .inl rfl⟩
      · have HL5 : Hid (¬ pre.length = 5000) := Lib.hid h5
        have t1 : ((pre.length : Int) == 5000) = false := by
          rw [beq_eq_false_iff_ne]; omega
        rcases HG.out.pos with ⟨hn, _⟩ | ⟨r, hr, hc0, hc1, hpre⟩
        · subst hn; simp [evs] at hlen
        · by_cases hc : c = 0
          · subst hc
            have hp2 : pre = evs (rs.take (a + 1)) := by rw [evs_succ rs a r hr, hpre]; simp
            have hal : a + 1 < rs.length := by
              rcases Nat.lt_or_ge (a + 1) rs.length with h | h
              · exact h
              · rw [hp2, List.take_of_length_le h] at hlen
                omega
            obtain ⟨r2, hr2⟩ : ∃ r2, rs[a + 1]? = some r2 := ⟨_, List.getElem?_eq_getElem hal⟩
            obtain ⟨q0, q1, q2⟩ := (HROW.out.2.1.kept (Kpt.of_only HG.out.only) HROW.out.2.2.1) (a + 1) r2 hr2
            obtain rfl := HROW.out.1 (by intro e; subst e; simp at hal)
            have HP2 := Lib.hid (And.intro hp2 (And.intro hr2 hal))
            have t2 : decide ((rs.length : Int) ≤ ((a + 1 : Nat) : Int)) = false := by rw [decide_eq_false_iff_not]; omega
            have t3 : decide ((rs.length : Int) ≤ (a : Int) + 1) = false := by rw [decide_eq_false_iff_not]; omega
            have bk : 0 ≤ (a : Int) + 1 ∧ (a : Int) + 1 < (rs.length : Int) := by omega
            clear hr hpre hc0 hc1 hp2 hr2 hal
            have hne := HNE.out
            have n3 : B7 ≠ B3 := by omega
            have n8 : B7 ≠ B8 := by omega
            have n6 : B7 ≠ B6 := by omega
            have n4 : B7 ≠ B4 := by omega
            have ng : B7 ≠ g1 := fun e => HROW.out.2.2.1 (e ▸ HSET.out.2.2.2.2.1)
            have nb : B7 ≠ b := fun e => by have := HSET.out.2.1 B7 HSET.out.2.2.2.2.1; have := HB.out; omega
            have m3 : B8 ≠ B3 := by omega
            have m7 : B8 ≠ B7 := by omega
            have m6 : B8 ≠ B6 := by omega
            have m4 : B8 ≠ B4 := by omega
            have mg : B8 ≠ g1 := fun e => HROW.out.2.2.1 (e ▸ HSET.out.2.2.2.2.2)
            have mb : B8 ≠ b := fun e => by have := HSET.out.2.1 B8 HSET.out.2.2.2.2.2; have := HB.out; omega
            have k3 : (W.setCell ⟨B7, 0, none⟩ (.int .i64 ((a : Int) + 1))).cell? ⟨B3, 0, none⟩ = some (.slice (some ⟨g1, o1, none⟩) rs.length cap) := by rw [World.cell?_setCell_far _ _ _ _ n3]; exact e3
            have k7 : (W.setCell ⟨B7, 0, none⟩ (.int .i64 ((a : Int) + 1))).cell? ⟨B7, 0, none⟩ = some (.int .i64 ((a : Int) + 1)) := (HG.out.b7.set _).1
            have k8 : (W.setCell ⟨B7, 0, none⟩ (.int .i64 ((a : Int) + 1))).cell? ⟨B8, 0, none⟩ = some (.int .i64 0) := by rw [World.cell?_setCell_far _ _ _ _ n8]; exact e8
            have k2 : (W.setCell ⟨B7, 0, none⟩ (.int .i64 ((a : Int) + 1))).cell? ⟨g1, o1 + (a + 1) * 3 + 2, none⟩ = some (.int .i64 r2.c) := by rw [World.cell?_setCell_far _ _ _ _ ng]; exact q2
            clear hne
            gi_wp2
            have hG2 : GI rs S wc ((W.setCell ⟨B7, 0, none⟩ (.int .i64 ((a : Int) + 1))).setCell ⟨B8, 0, none⟩ (.int .i64 r2.c)) B4 B6 B7 B8 pre (a + 1) r2.c := by
              refine ⟨HG.out.len, .inr ⟨r2, HP2.out.2.1, by have := (HPOS.out r2 (List.mem_of_getElem? HP2.out.2.1)).1; omega, by omega, by rw [HP2.out.1]; simp⟩, (HG.out.only.set (.inl HSET.out.2.2.2.2.1) _).set (.inl HSET.out.2.2.2.2.2) _, (HG.out.b4.other (fun e => n4 e.symm) _).other (fun e => m4 e.symm) _, (HG.out.b6.other (fun e => n6 e.symm) _).other (fun e => m6 e.symm) _, ?_, (HG.out.b8.other (fun e => n8 e.symm) _).set _⟩
              have := (HG.out.b7.set (.int .i64 ((a : Int) + 1))).other (fun e => m7 e.symm) (.int .i64 r2.c)
              exact this
            have hO2 : Only S W ((W.setCell ⟨B7, 0, none⟩ (.int .i64 ((a : Int) + 1))).setCell ⟨B8, 0, none⟩ (.int .i64 r2.c)) := ((Only.refl S W).set (.inl HSET.out.2.2.2.2.1) _).set (.inl HSET.out.2.2.2.2.2) _
            have hb2 : ((W.setCell ⟨B7, 0, none⟩ (.int .i64 ((a : Int) + 1))).setCell ⟨B8, 0, none⟩ (.int .i64 r2.c)).cell? ⟨b, 0, none⟩ = some (.int .u8 xk) := by rw [World.cell?_setCell_far _ _ _ _ mb, World.cell?_setCell_far _ _ _ _ nb]; exact cx
            have hb3 : ((W.setCell ⟨B7, 0, none⟩ (.int .i64 ((a : Int) + 1))).setCell ⟨B8, 0, none⟩ (.int .i64 r2.c)).cell? ⟨b, 1, none⟩ = some (.int .i64 xs) := by rw [World.cell?_setCell_far _ _ _ _ mb, World.cell?_setCell_far _ _ _ _ nb]; exact cy
            clear k3 k7 k8 k2 e3 e4 e6 e7 e8 f4 f6 f7 f8 cx cy q0 q1 q2
            generalize (W.setCell ⟨B7, 0, none⟩ (.int .i64 ((a : Int) + 1))).setCell ⟨B8, 0, none⟩ (.int .i64 r2.c) = W2 at hG2 hO2 hb2 hb3 ⊢
            --<<A
            have HG2 := Lib.hid hG2
            have HO2 := Lib.hid hO2
            obtain ⟨q0, q1, q2⟩ := (HROW.out.2.1.kept (Kpt.of_only hG2.only) HROW.out.2.2.1) (a + 1) r2 HP2.out.2.1
            have e3 : W2.cell? ⟨B3, 0, none⟩ = some (.slice (some ⟨g1, o1, none⟩) rs.length cap) := (hG2.only.cell (World.block_lt_of_cell? wc _ HROW.out.2.2.2.1) HROW.out.2.2.2.2).trans HROW.out.2.2.2.1
            have e7 : W2.cell? ⟨B7, 0, none⟩ = some (.int .i64 ((a : Int) + 1)) := hG2.b7.1
            have HC0 : Hid (0 < r2.c ∧ r2.c ≤ r2.c) := Lib.hid (by have := (HPOS.out r2 (List.mem_of_getElem? HP2.out.2.1)).1; omega)
            have HNX : Hid (∀ x, (pre ++ [x]) <+: evs rs → x = (r2.k, r2.s)) := Lib.hid (next_ev hG2.pos HP2.out.2.1 HC0.out.1)
            obtain ⟨T1, hT1⟩ : ∃ T1 : World → Prop, T1 = fun wx => wx.cell? ⟨B7, 0, none⟩ = some (.int .i64 ((a : Int) + 1)) ∧ wx.cell? ⟨B3, 0, none⟩ = some (.slice (some ⟨g1, o1, none⟩) rs.length cap) ∧ wx.cell? ⟨g1, o1 + (a + 1) * 3, none⟩ = some (.int .u8 r2.k) ∧ wx.cell? ⟨g1, o1 + (a + 1) * 3 + 1, none⟩ = some (.int .i64 r2.s) ∧ wx.cell? ⟨b, 0, none⟩ = some (.int .u8 xk) ∧ wx.cell? ⟨b, 1, none⟩ = some (.int .i64 xs) := ⟨_, rfl⟩
            have F1 := fun wx (h : T1 wx) => (show _ from (by rw [hT1] at h; exact h) : wx.cell? ⟨B7, 0, none⟩ = some (.int .i64 ((a : Int) + 1)) ∧ wx.cell? ⟨B3, 0, none⟩ = some (.slice (some ⟨g1, o1, none⟩) rs.length cap) ∧ wx.cell? ⟨g1, o1 + (a + 1) * 3, none⟩ = some (.int .u8 r2.k) ∧ wx.cell? ⟨g1, o1 + (a + 1) * 3 + 1, none⟩ = some (.int .i64 r2.s) ∧ wx.cell? ⟨b, 0, none⟩ = some (.int .u8 xk) ∧ wx.cell? ⟨b, 1, none⟩ = some (.int .i64 xs))
            have T2 : T1 (W2.drewN 1) := by rw [hT1]; exact ⟨e7, e3, q0, q1, hb2, hb3⟩
            have HF1 := Lib.hid F1
            clear hG2 hO2 F1 hT1 q0 q1 q2 e3 e7 hb2 hb3
            refine hd_startIn T1 (by kernel_rfl) (by kernel_rfl) (fun h => by obtain ⟨_, _, h⟩ := h; exact h) ?_
            intro w3 hw3
            rw [← hw3] at T2
            have HG3 : Hid (GI rs S wc w3 B4 B6 B7 B8 pre (a + 1) r2.c) := by rw [hw3]; exact Lib.hid HG2.out.draw
            have HO3 : Hid (Only S W w3) := by rw [hw3]; exact Lib.hid (HO2.out.draw 1)
            clear hw3 HG2 HO2
            refine hd_take (v := ?_) 0 rfl (by kernel_rfl) (fun _ _ d _ _ h => (by cases d <;> exact h)) (by kernel_rfl) T2 (fun w' hS => ?_) ?_
            rotate_left
            focus (have q0 := HF1.out w' hS; clear hS; go_simp; try rfl; done)
            simp only [List.getElem_toArray, List.getElem_cons_succ, List.getElem_cons_zero, Act.put, List.setIfInBounds_toArray, List.set_cons_zero, List.set_cons_succ]
            refine hd_take (v := ?_) 1 rfl (by kernel_rfl) (fun _ _ d _ _ h => (by cases d <;> exact h)) (by kernel_rfl) T2 (fun w' hS => ?_) ?_
            rotate_left
            focus (have q0 := HF1.out w' hS; clear hS; go_simp; try rfl; done)
            simp only [List.getElem_toArray, List.getElem_cons_succ, List.getElem_cons_zero, Act.put, List.setIfInBounds_toArray, List.set_cons_zero, List.set_cons_succ]
            refine hd_take (v := ?_) 2 rfl (by kernel_rfl) (fun _ _ d _ _ h => (by cases d <;> exact h)) (by kernel_rfl) T2 (fun w' hS => ?_) ?_
            rotate_left
            focus (have q0 := HF1.out w' hS; clear hS; go_simp; try rfl; done)
            simp only [List.getElem_toArray, List.getElem_cons_succ, List.getElem_cons_zero, Act.put, List.setIfInBounds_toArray, List.set_cons_zero, List.set_cons_succ]
            refine hd_take (v := ?_) 3 rfl (by kernel_rfl) (fun _ _ d _ _ h => (by cases d <;> exact h)) (by kernel_rfl) T2 (fun w' hS => ?_) ?_
            rotate_left
            focus (have q0 := HF1.out w' hS; clear hS; go_simp; try rfl; done)
            simp only [List.getElem_toArray, List.getElem_cons_succ, List.getElem_cons_zero, Act.put, List.setIfInBounds_toArray, List.set_cons_zero, List.set_cons_succ]
            refine hd_take (v := ?_) 4 rfl (by kernel_rfl) (fun _ _ d _ _ h => (by cases d <;> exact h)) (by kernel_rfl) T2 (fun w' hS => ?_) ?_
            rotate_left
            focus (have q0 := HF1.out w' hS; clear hS; go_simp; try rfl; done)
            simp only [List.getElem_toArray, List.getElem_cons_succ, List.getElem_cons_zero, Act.put, List.setIfInBounds_toArray, List.set_cons_zero, List.set_cons_succ]
            refine hd_take (v := ?_) 5 rfl (by kernel_rfl) (fun _ _ d _ _ h => (by cases d <;> exact h)) (by kernel_rfl) T2 (fun w' hS => ?_) ?_
            rotate_left
            focus (have q0 := HF1.out w' hS; clear hS; go_simp; try rfl; done)
            simp only [List.getElem_toArray, List.getElem_cons_succ, List.getElem_cons_zero, Act.put, List.setIfInBounds_toArray, List.set_cons_zero, List.set_cons_succ]
            refine hd_take (v := ?_) 6 rfl (by kernel_rfl) (fun _ _ d _ _ h => (by cases d <;> exact h)) (by kernel_rfl) T2 (fun w' hS => ?_) ?_
            rotate_left
            focus (have q0 := HF1.out w' hS; clear hS; go_simp; try rfl; done)
            simp only [List.getElem_toArray, List.getElem_cons_succ, List.getElem_cons_zero, Act.put, List.setIfInBounds_toArray, List.set_cons_zero, List.set_cons_succ]
            refine hd_take (v := ?_) 7 rfl (by kernel_rfl) (fun _ _ d _ _ h => (by cases d <;> exact h)) (by kernel_rfl) T2 (fun w' hS => ?_) ?_
            rotate_left
            focus (have q0 := HF1.out w' hS; clear hS; go_simp; try rfl; done)
            simp only [List.getElem_toArray, List.getElem_cons_succ, List.getElem_cons_zero, Act.put, List.setIfInBounds_toArray, List.set_cons_zero, List.set_cons_succ]
            refine hd_take (v := ?_) 8 rfl (by kernel_rfl) (fun _ _ d _ _ h => (by cases d <;> exact h)) (by kernel_rfl) T2 (fun w' hS => ?_) ?_
            rotate_left
            focus (have q0 := HF1.out w' hS; clear hS; go_simp; try rfl; done)
            simp only [List.getElem_toArray, List.getElem_cons_succ, List.getElem_cons_zero, Act.put, List.setIfInBounds_toArray, List.set_cons_zero, List.set_cons_succ]
            refine hd_take (v := ?_) 9 rfl (by kernel_rfl) (fun _ _ d _ _ h => (by cases d <;> exact h)) (by kernel_rfl) T2 (fun w' hS => ?_) ?_
            rotate_left
            focus (have q0 := HF1.out w' hS; clear hS; go_simp; try rfl; done)
            simp only [List.getElem_toArray, List.getElem_cons_succ, List.getElem_cons_zero, Act.put, List.setIfInBounds_toArray, List.set_cons_zero, List.set_cons_succ]
            refine hd_take (v := ?_) 10 rfl (by kernel_rfl) (fun _ _ d _ _ h => (by cases d <;> exact h)) (by kernel_rfl) T2 (fun w' hS => ?_) ?_
            rotate_left
            focus (have q0 := HF1.out w' hS; clear hS; go_simp; try rfl; done)
            simp only [List.getElem_toArray, List.getElem_cons_succ, List.getElem_cons_zero, Act.put, List.setIfInBounds_toArray, List.set_cons_zero, List.set_cons_succ]
            have HCC : IntKind.i64.wrap (r2.c - 1) = r2.c - 1 := IntWalk.i64_in _ (by have := HC0.out; have := (HPOS.out r2 (List.mem_of_getElem? HP2.out.2.1)).2; omega)
            have HPP : IntKind.i64.wrap ((pre.length : Int) + 1) = (pre.length : Int) + 1 := IntWalk.i64_in _ (by have := HG3.out.len; omega)
            have e4 := HG3.out.b4.1
            have e6 := HG3.out.b6.1
            have e8 := HG3.out.b8.1
            have f4 := HG3.out.b4.2
            have f6 := HG3.out.b6.2
            have f8 := HG3.out.b8.2
            by_cases hk : r2.k = xk
            · by_cases hs : r2.s = xs
              · subst hk
                subst hs
                refine hd_take (v := ?_) 11 rfl (by kernel_rfl) (fun _ _ d _ _ h => (by cases d <;> exact h)) (by kernel_rfl) T2 (fun w' hS => ?_) ?_
                rotate_left
                focus (clear hS; go_simp; try rfl; done)
                simp only [List.getElem_toArray, List.getElem_cons_succ, List.getElem_cons_zero, Act.put, List.setIfInBounds_toArray, List.set_cons_zero, List.set_cons_succ]
                refine hd_take (v := ?_) 12 rfl (by kernel_rfl) (fun _ _ d _ _ h => (by cases d <;> exact h)) (by kernel_rfl) T2 (fun w' hS => ?_) ?_
                rotate_left
                focus (clear hS; go_simp; try rfl; done)
                simp only [List.getElem_toArray, List.getElem_cons_succ, List.getElem_cons_zero, Act.put, List.setIfInBounds_toArray, List.set_cons_zero, List.set_cons_succ]
                refine hd_done (by kernel_rfl) ?_
                unfold wpList
                have n6 : B6 ≠ B8 := by have := HNE.out; omega
                have k6 : (w3.setCell ⟨B8, 0, none⟩ (.int .i64 (r2.c - 1))).cell? ⟨B6, 0, none⟩ = some (.int .i64 (pre.length : Int)) := by rw [World.cell?_setCell_far _ _ _ _ (fun e => n6 e.symm)]; exact e6
                gi_wp2
                have hO : Only S W ((w3.setCell ⟨B8, 0, none⟩ (.int .i64 (r2.c - 1))).setCell ⟨B6, 0, none⟩ (.int .i64 ((pre.length : Int) + 1))) := (HO3.out.set (.inl HSET.out.2.2.2.2.2) _).set (.inl HSET.out.2.2.2.1) _
                have hne := HNE.out
                refine ⟨KeepsFrom.of_only hO HSET.out.2.1, Kpt.of_only hO, (a + 1), r2.c - 1, ?_⟩
                refine ⟨by have := HG3.out.len; have := HL5.out; simp; omega, pos_more HG3.out.pos HP2.out.2.1 HC0.out.1, (HG3.out.only.set (.inl HSET.out.2.2.2.2.2) _).set (.inl HSET.out.2.2.2.1) _, (HG3.out.b4.other (by omega) _).other (by omega) _, ?_, (HG3.out.b7.other (by omega) _).other (by omega) _, (HG3.out.b8.set _).other (by omega) _⟩
                have := (HG3.out.b6.other (by omega : B6 ≠ B8) (.int .i64 (r2.c - 1))).set (.int .i64 ((pre.length : Int) + 1))
                rw [List.length_append, List.length_singleton]
                exact this
              · have HNE2 : Hid ((xk, xs) ≠ (r2.k, r2.s)) := Lib.hid (fun e => hs (by injection e with _ e; exact e.symm))
                subst hk
                have tk : (r2.s == xs) = false := by rw [beq_eq_false_iff_ne]; exact hs
                clear hs
                refine hd_take (v := ?_) 11 rfl (by kernel_rfl) (fun _ _ d _ _ h => (by cases d <;> exact h)) (by kernel_rfl) T2 (fun w' hS => ?_) ?_
                rotate_left
                focus (clear hS; go_simp; try rfl; done)
                simp only [List.getElem_toArray, List.getElem_cons_succ, List.getElem_cons_zero, Act.put, List.setIfInBounds_toArray, List.set_cons_zero, List.set_cons_succ]
                refine hd_take (v := ?_) 12 rfl (by kernel_rfl) (fun _ _ d _ _ h => (by cases d <;> exact h)) (by kernel_rfl) T2 (fun w' hS => ?_) ?_
                rotate_left
                focus (clear hS; go_simp; try rfl; done)
                simp only [List.getElem_toArray, List.getElem_cons_succ, List.getElem_cons_zero, Act.put, List.setIfInBounds_toArray, List.set_cons_zero, List.set_cons_succ]
                refine hd_done (by kernel_rfl) ?_
                unfold wpList
                gi_wp2
                have hO : Only S W (w3.setCell ⟨B4, 0, none⟩ (.bool false)) := HO3.out.set (.inl HSET.out.2.2.1) _
                exact ⟨KeepsFrom.of_only hO HSET.out.2.1, rfl, HG3.out.only.set (.inl HSET.out.2.2.1) _, false, HG3.out.b4.set _, .inr (fun hp => HNE2.out (HNX.out _ hp))⟩
            · have HNE2 : Hid ((xk, xs) ≠ (r2.k, r2.s)) := Lib.hid (fun e => hk (by injection e with e _; exact e.symm))
              have tk : (r2.k == xk) = false := by rw [beq_eq_false_iff_ne]; exact hk
              clear hk
              refine hd_take (v := ?_) 11 rfl (by kernel_rfl) (fun _ _ d _ _ h => (by cases d <;> exact h)) (by kernel_rfl) T2 (fun w' hS => ?_) ?_
              rotate_left
              focus (clear hS; go_simp; try rfl; done)
              simp only [List.getElem_toArray, List.getElem_cons_succ, List.getElem_cons_zero, Act.put, List.setIfInBounds_toArray, List.set_cons_zero, List.set_cons_succ]
              refine hd_take (v := ?_) 12 rfl (by kernel_rfl) (fun _ _ d _ _ h => (by cases d <;> exact h)) (by kernel_rfl) T2 (fun w' hS => ?_) ?_
              rotate_left
              focus (clear hS; go_simp; try rfl; done)
              simp only [List.getElem_toArray, List.getElem_cons_succ, List.getElem_cons_zero, Act.put, List.setIfInBounds_toArray, List.set_cons_zero, List.set_cons_succ]
              refine hd_done (by kernel_rfl) ?_
              unfold wpList
              gi_wp2
              have hO : Only S W (w3.setCell ⟨B4, 0, none⟩ (.bool false)) := HO3.out.set (.inl HSET.out.2.2.1) _
              exact ⟨KeepsFrom.of_only hO HSET.out.2.1, rfl, HG3.out.only.set (.inl HSET.out.2.2.1) _, false, HG3.out.b4.set _, .inr (fun hp => HNE2.out (HNX.out _ hp))⟩
          · obtain rfl := HROW.out.1 (by intro e; subst e; simp at hr)
            have HR := Lib.hid hr
            have HC := Lib.hid (And.intro hc0 hc1)
            have hal : a < rs.length := (List.getElem?_eq_some_iff.1 hr).1
            have t2 : (c == 0) = false := by rw [beq_eq_false_iff_ne]; exact hc
            have t4 : decide (rs.length ≤ a) = false := by rw [decide_eq_false_iff_not]; omega
            have bk : 0 ≤ (a : Int) ∧ (a : Int) < (rs.length : Int) := by omega
            have HCN := Lib.hid hc
            clear hr hpre hc0 hc1 hal hc
            gi_wp2
            have hG2 := HG.out
            have hO2 := Only.refl S W
            have hb2 := cx
            have hb3 := cy
            clear e3 e4 e6 e7 e8 f4 f6 f7 f8 cx cy
            obtain ⟨W2, hW2⟩ : ∃ W2, W = W2 := ⟨_, rfl⟩
            rw [hW2] at hG2 hb2 hb3
            have hO2 : Only S W W2 := by rw [← hW2]; exact hO2
            conv => arg 7; rw [hW2]
            clear hW2
            have HG2 := Lib.hid hG2
            have HO2 := Lib.hid hO2
            obtain ⟨q0, q1, q2⟩ := (HROW.out.2.1.kept (Kpt.of_only hG2.only) HROW.out.2.2.1) a r HR.out
            have e3 : W2.cell? ⟨B3, 0, none⟩ = some (.slice (some ⟨g1, o1, none⟩) rs.length cap) := (hG2.only.cell (World.block_lt_of_cell? wc _ HROW.out.2.2.2.1) HROW.out.2.2.2.2).trans HROW.out.2.2.2.1
            have e7 : W2.cell? ⟨B7, 0, none⟩ = some (.int .i64 (a : Int)) := hG2.b7.1
            have HC0 : Hid (0 < c ∧ c ≤ r.c) := Lib.hid (by have := HC.out; have := HCN.out; omega)
            have HNX : Hid (∀ x, (pre ++ [x]) <+: evs rs → x = (r.k, r.s)) := Lib.hid (next_ev hG2.pos HR.out HC0.out.1)
            obtain ⟨T1, hT1⟩ : ∃ T1 : World → Prop, T1 = fun wx => wx.cell? ⟨B7, 0, none⟩ = some (.int .i64 (a : Int)) ∧ wx.cell? ⟨B3, 0, none⟩ = some (.slice (some ⟨g1, o1, none⟩) rs.length cap) ∧ wx.cell? ⟨g1, o1 + a * 3, none⟩ = some (.int .u8 r.k) ∧ wx.cell? ⟨g1, o1 + a * 3 + 1, none⟩ = some (.int .i64 r.s) ∧ wx.cell? ⟨b, 0, none⟩ = some (.int .u8 xk) ∧ wx.cell? ⟨b, 1, none⟩ = some (.int .i64 xs) := ⟨_, rfl⟩
            have F1 := fun wx (h : T1 wx) => (show _ from (by rw [hT1] at h; exact h) : wx.cell? ⟨B7, 0, none⟩ = some (.int .i64 (a : Int)) ∧ wx.cell? ⟨B3, 0, none⟩ = some (.slice (some ⟨g1, o1, none⟩) rs.length cap) ∧ wx.cell? ⟨g1, o1 + a * 3, none⟩ = some (.int .u8 r.k) ∧ wx.cell? ⟨g1, o1 + a * 3 + 1, none⟩ = some (.int .i64 r.s) ∧ wx.cell? ⟨b, 0, none⟩ = some (.int .u8 xk) ∧ wx.cell? ⟨b, 1, none⟩ = some (.int .i64 xs))
            have T2 : T1 (W2.drewN 1) := by rw [hT1]; exact ⟨e7, e3, q0, q1, hb2, hb3⟩
            have HF1 := Lib.hid F1
            clear hG2 hO2 F1 hT1 q0 q1 q2 e3 e7 hb2 hb3
            refine hd_startIn T1 (by kernel_rfl) (by kernel_rfl) (fun h => by obtain ⟨_, _, h⟩ := h; exact h) ?_
            intro w3 hw3
            rw [← hw3] at T2
            have HG3 : Hid (GI rs S wc w3 B4 B6 B7 B8 pre a c) := by rw [hw3]; exact Lib.hid HG2.out.draw
            have HO3 : Hid (Only S W w3) := by rw [hw3]; exact Lib.hid (HO2.out.draw 1)
            clear hw3 HG2 HO2
            refine hd_take (v := ?_) 0 rfl (by kernel_rfl) (fun _ _ d _ _ h => (by cases d <;> exact h)) (by kernel_rfl) T2 (fun w' hS => ?_) ?_
            rotate_left
            focus (have q0 := HF1.out w' hS; clear hS; go_simp; try rfl; done)
            simp only [List.getElem_toArray, List.getElem_cons_succ, List.getElem_cons_zero, Act.put, List.setIfInBounds_toArray, List.set_cons_zero, List.set_cons_succ]
            refine hd_take (v := ?_) 1 rfl (by kernel_rfl) (fun _ _ d _ _ h => (by cases d <;> exact h)) (by kernel_rfl) T2 (fun w' hS => ?_) ?_
            rotate_left
            focus (have q0 := HF1.out w' hS; clear hS; go_simp; try rfl; done)
            simp only [List.getElem_toArray, List.getElem_cons_succ, List.getElem_cons_zero, Act.put, List.setIfInBounds_toArray, List.set_cons_zero, List.set_cons_succ]
            refine hd_take (v := ?_) 2 rfl (by kernel_rfl) (fun _ _ d _ _ h => (by cases d <;> exact h)) (by kernel_rfl) T2 (fun w' hS => ?_) ?_
            rotate_left
            focus (have q0 := HF1.out w' hS; clear hS; go_simp; try rfl; done)
            simp only [List.getElem_toArray, List.getElem_cons_succ, List.getElem_cons_zero, Act.put, List.setIfInBounds_toArray, List.set_cons_zero, List.set_cons_succ]
            refine hd_take (v := ?_) 3 rfl (by kernel_rfl) (fun _ _ d _ _ h => (by cases d <;> exact h)) (by kernel_rfl) T2 (fun w' hS => ?_) ?_
            rotate_left
            focus (have q0 := HF1.out w' hS; clear hS; go_simp; try rfl; done)
            simp only [List.getElem_toArray, List.getElem_cons_succ, List.getElem_cons_zero, Act.put, List.setIfInBounds_toArray, List.set_cons_zero, List.set_cons_succ]
            refine hd_take (v := ?_) 4 rfl (by kernel_rfl) (fun _ _ d _ _ h => (by cases d <;> exact h)) (by kernel_rfl) T2 (fun w' hS => ?_) ?_
            rotate_left
            focus (have q0 := HF1.out w' hS; clear hS; go_simp; try rfl; done)
            simp only [List.getElem_toArray, List.getElem_cons_succ, List.getElem_cons_zero, Act.put, List.setIfInBounds_toArray, List.set_cons_zero, List.set_cons_succ]
            refine hd_take (v := ?_) 5 rfl (by kernel_rfl) (fun _ _ d _ _ h => (by cases d <;> exact h)) (by kernel_rfl) T2 (fun w' hS => ?_) ?_
            rotate_left
            focus (have q0 := HF1.out w' hS; clear hS; go_simp; try rfl; done)
            simp only [List.getElem_toArray, List.getElem_cons_succ, List.getElem_cons_zero, Act.put, List.setIfInBounds_toArray, List.set_cons_zero, List.set_cons_succ]
            refine hd_take (v := ?_) 6 rfl (by kernel_rfl) (fun _ _ d _ _ h => (by cases d <;> exact h)) (by kernel_rfl) T2 (fun w' hS => ?_) ?_
            rotate_left
            focus (have q0 := HF1.out w' hS; clear hS; go_simp; try rfl; done)
            simp only [List.getElem_toArray, List.getElem_cons_succ, List.getElem_cons_zero, Act.put, List.setIfInBounds_toArray, List.set_cons_zero, List.set_cons_succ]
            refine hd_take (v := ?_) 7 rfl (by kernel_rfl) (fun _ _ d _ _ h => (by cases d <;> exact h)) (by kernel_rfl) T2 (fun w' hS => ?_) ?_
            rotate_left
            focus (have q0 := HF1.out w' hS; clear hS; go_simp; try rfl; done)
            simp only [List.getElem_toArray, List.getElem_cons_succ, List.getElem_cons_zero, Act.put, List.setIfInBounds_toArray, List.set_cons_zero, List.set_cons_succ]
            refine hd_take (v := ?_) 8 rfl (by kernel_rfl) (fun _ _ d _ _ h => (by cases d <;> exact h)) (by kernel_rfl) T2 (fun w' hS => ?_) ?_
            rotate_left
            focus (have q0 := HF1.out w' hS; clear hS; go_simp; try rfl; done)
            simp only [List.getElem_toArray, List.getElem_cons_succ, List.getElem_cons_zero, Act.put, List.setIfInBounds_toArray, List.set_cons_zero, List.set_cons_succ]
            refine hd_take (v := ?_) 9 rfl (by kernel_rfl) (fun _ _ d _ _ h => (by cases d <;> exact h)) (by kernel_rfl) T2 (fun w' hS => ?_) ?_
            rotate_left
            focus (have q0 := HF1.out w' hS; clear hS; go_simp; try rfl; done)
            simp only [List.getElem_toArray, List.getElem_cons_succ, List.getElem_cons_zero, Act.put, List.setIfInBounds_toArray, List.set_cons_zero, List.set_cons_succ]
            refine hd_take (v := ?_) 10 rfl (by kernel_rfl) (fun _ _ d _ _ h => (by cases d <;> exact h)) (by kernel_rfl) T2 (fun w' hS => ?_) ?_
            rotate_left
            focus (have q0 := HF1.out w' hS; clear hS; go_simp; try rfl; done)
            simp only [List.getElem_toArray, List.getElem_cons_succ, List.getElem_cons_zero, Act.put, List.setIfInBounds_toArray, List.set_cons_zero, List.set_cons_succ]
            have HCC : IntKind.i64.wrap (c - 1) = c - 1 := IntWalk.i64_in _ (by have := HC0.out; have := (HPOS.out r (List.mem_of_getElem? HR.out)).2; omega)
            have HPP : IntKind.i64.wrap ((pre.length : Int) + 1) = (pre.length : Int) + 1 := IntWalk.i64_in _ (by have := HG3.out.len; omega)
            have e4 := HG3.out.b4.1
            have e6 := HG3.out.b6.1
            have e8 := HG3.out.b8.1
            have f4 := HG3.out.b4.2
            have f6 := HG3.out.b6.2
            have f8 := HG3.out.b8.2
            by_cases hk : r.k = xk
            · by_cases hs : r.s = xs
              · subst hk
                subst hs
                refine hd_take (v := ?_) 11 rfl (by kernel_rfl) (fun _ _ d _ _ h => (by cases d <;> exact h)) (by kernel_rfl) T2 (fun w' hS => ?_) ?_
                rotate_left
                focus (clear hS; go_simp; try rfl; done)
                simp only [List.getElem_toArray, List.getElem_cons_succ, List.getElem_cons_zero, Act.put, List.setIfInBounds_toArray, List.set_cons_zero, List.set_cons_succ]
                refine hd_take (v := ?_) 12 rfl (by kernel_rfl) (fun _ _ d _ _ h => (by cases d <;> exact h)) (by kernel_rfl) T2 (fun w' hS => ?_) ?_
                rotate_left
                focus (clear hS; go_simp; try rfl; done)
                simp only [List.getElem_toArray, List.getElem_cons_succ, List.getElem_cons_zero, Act.put, List.setIfInBounds_toArray, List.set_cons_zero, List.set_cons_succ]
                refine hd_done (by kernel_rfl) ?_
                unfold wpList
                have n6 : B6 ≠ B8 := by have := HNE.out; omega
                have k6 : (w3.setCell ⟨B8, 0, none⟩ (.int .i64 (c - 1))).cell? ⟨B6, 0, none⟩ = some (.int .i64 (pre.length : Int)) := by rw [World.cell?_setCell_far _ _ _ _ (fun e => n6 e.symm)]; exact e6
                gi_wp2
                have hO : Only S W ((w3.setCell ⟨B8, 0, none⟩ (.int .i64 (c - 1))).setCell ⟨B6, 0, none⟩ (.int .i64 ((pre.length : Int) + 1))) := (HO3.out.set (.inl HSET.out.2.2.2.2.2) _).set (.inl HSET.out.2.2.2.1) _
                have hne := HNE.out
                refine ⟨KeepsFrom.of_only hO HSET.out.2.1, Kpt.of_only hO, a, c - 1, ?_⟩
                refine ⟨by have := HG3.out.len; have := HL5.out; simp; omega, pos_more HG3.out.pos HR.out HC0.out.1, (HG3.out.only.set (.inl HSET.out.2.2.2.2.2) _).set (.inl HSET.out.2.2.2.1) _, (HG3.out.b4.other (by omega) _).other (by omega) _, ?_, (HG3.out.b7.other (by omega) _).other (by omega) _, (HG3.out.b8.set _).other (by omega) _⟩
                have := (HG3.out.b6.other (by omega : B6 ≠ B8) (.int .i64 (c - 1))).set (.int .i64 ((pre.length : Int) + 1))
                rw [List.length_append, List.length_singleton]
                exact this
              · have HNE2 : Hid ((xk, xs) ≠ (r.k, r.s)) := Lib.hid (fun e => hs (by injection e with _ e; exact e.symm))
                subst hk
                have tk : (r.s == xs) = false := by rw [beq_eq_false_iff_ne]; exact hs
                clear hs
                refine hd_take (v := ?_) 11 rfl (by kernel_rfl) (fun _ _ d _ _ h => (by cases d <;> exact h)) (by kernel_rfl) T2 (fun w' hS => ?_) ?_
                rotate_left
                focus (clear hS; go_simp; try rfl; done)
                simp only [List.getElem_toArray, List.getElem_cons_succ, List.getElem_cons_zero, Act.put, List.setIfInBounds_toArray, List.set_cons_zero, List.set_cons_succ]
                refine hd_take (v := ?_) 12 rfl (by kernel_rfl) (fun _ _ d _ _ h => (by cases d <;> exact h)) (by kernel_rfl) T2 (fun w' hS => ?_) ?_
                rotate_left
                focus (clear hS; go_simp; try rfl; done)
                simp only [List.getElem_toArray, List.getElem_cons_succ, List.getElem_cons_zero, Act.put, List.setIfInBounds_toArray, List.set_cons_zero, List.set_cons_succ]
                refine hd_done (by kernel_rfl) ?_
                unfold wpList
                gi_wp2
                have hO : Only S W (w3.setCell ⟨B4, 0, none⟩ (.bool false)) := HO3.out.set (.inl HSET.out.2.2.1) _
                exact ⟨KeepsFrom.of_only hO HSET.out.2.1, rfl, HG3.out.only.set (.inl HSET.out.2.2.1) _, false, HG3.out.b4.set _, .inr (fun hp => HNE2.out (HNX.out _ hp))⟩
            · have HNE2 : Hid ((xk, xs) ≠ (r.k, r.s)) := Lib.hid (fun e => hk (by injection e with e _; exact e.symm))
              have tk : (r.k == xk) = false := by rw [beq_eq_false_iff_ne]; exact hk
              clear hk
              refine hd_take (v := ?_) 11 rfl (by kernel_rfl) (fun _ _ d _ _ h => (by cases d <;> exact h)) (by kernel_rfl) T2 (fun w' hS => ?_) ?_
              rotate_left
              focus (clear hS; go_simp; try rfl; done)
              simp only [List.getElem_toArray, List.getElem_cons_succ, List.getElem_cons_zero, Act.put, List.setIfInBounds_toArray, List.set_cons_zero, List.set_cons_succ]
              refine hd_take (v := ?_) 12 rfl (by kernel_rfl) (fun _ _ d _ _ h => (by cases d <;> exact h)) (by kernel_rfl) T2 (fun w' hS => ?_) ?_
              rotate_left
              focus (clear hS; go_simp; try rfl; done)
              simp only [List.getElem_toArray, List.getElem_cons_succ, List.getElem_cons_zero, Act.put, List.setIfInBounds_toArray, List.set_cons_zero, List.set_cons_succ]
              refine hd_done (by kernel_rfl) ?_
              unfold wpList
              gi_wp2
              have hO : Only S W (w3.setCell ⟨B4, 0, none⟩ (.bool false)) := HO3.out.set (.inl HSET.out.2.2.1) _
              exact ⟨KeepsFrom.of_only hO HSET.out.2.1, rfl, HG3.out.only.set (.inl HSET.out.2.2.1) _, false, HG3.out.b4.set _, .inr (fun hp => HNE2.out (HNX.out _ hp))⟩
    case done =>
      intro D xs W hD hx hi hK
      subst hx
      obtain ⟨a, b, hg⟩ := hi
      have hsB : ∀ x, S x → ∃ (j : Nat) (t : TypeId) (cs : Array Value), [obK B3 32 #[.slice ao rs.length cap], obK B4 4 #[.bool false], obRuns (.slice a2 rs.length c2) rs, obK bq 32 #[.slice a2 rs.length c2], obK B6 3 #[.int .i64 0], obK B7 3 #[.int .i64 0], obK B8 3 #[.int .i64 b0]][j]? = some (obK x t cs) := fun x hx => by
        rcases HSET.out.1 x hx with rfl | rfl | rfl | rfl
        · exact ⟨1, _, _, rfl⟩
        · exact ⟨4, _, _, rfl⟩
        · exact ⟨5, _, _, rfl⟩
        · exact ⟨6, _, _, rfl⟩
      have HE : ∀ W', Only S wc W' → Env w0 W' obs := fun W' ho => Env.except H7.out ho hsB
      have HE2 := Lib.hid HE
      have HG := Lib.hid hg
      have HK := Lib.hid hK
      have ht := evs_tot rs (fun r hr => (HPOS.out r hr).1)
      have e6 : W.cell? ⟨B6, 0, none⟩ = some (.int .i64 (tot rs)) := by have := hg.b6.1; rw [ht] at this; exact this
      have E6 := Lib.hid e6
      clear hg hK hsB HE ht e6 HX HSEQ HP HROW
      go_upto_region 22 with fail
      have h4 := HG.out.b4
      refine hd_start (fun _ => True) (by kernel_rfl) ?_
      intro w8 hw8
      have HG8 : Hid (GI rs S wc w8 B4 B6 B7 B8 (evs rs) a b) := by rw [hw8]; exact Lib.hid HG.out.draw
      have HK8 : Hid (w8.heap[D]? = some (.deferred (some []))) := by rw [hw8]; exact HK
      have e6 : w8.cell? ⟨B6, 0, none⟩ = some (.int .i64 (tot rs)) := by rw [hw8]; exact E6.out
      have e4 := HG8.out.b4.1
      have f4 := HG8.out.b4.2
      have HO8 := Lib.hid HG8.out.only
      clear hw8 HG HK E6 h4
      refine hd_two 0 1 (by kernel_rfl) ?_ ?_
      · skip
        refine op_run rfl (by kernel_rfl) (by go_simp; first | done | exact ⟨rfl, rfl⟩ | rfl) ?_
        refine ⟨trivial, ?_⟩
        simp only [List.getElem_toArray, List.getElem_cons_succ, List.getElem_cons_zero, Act.put, List.setIfInBounds_toArray, List.set_cons_zero, List.set_cons_succ]
        refine hd_one 1 (by kernel_rfl) ?_
        refine op_run rfl (by kernel_rfl) (by go_simp; first | done | exact ⟨rfl, rfl⟩ | rfl) ?_
        refine ⟨trivial, ?_⟩
        simp only [List.getElem_toArray, List.getElem_cons_succ, List.getElem_cons_zero, Act.put, List.setIfInBounds_toArray, List.set_cons_zero, List.set_cons_succ]
        refine hd_one 2 (by kernel_rfl) ?_
        refine op_call rfl (by kernel_rfl) (by go_simp; first | exact ⟨rfl, rfl⟩ | rfl) ?_
        refine (lenP_env' (HE2.out _ HO8.out) i HI.out.1).mono ?_
        rintro e w9 ⟨he, hw⟩
        subst he
        subst hw
        have hS2 := trivial
        refine ⟨_, rfl, hS2, ?_⟩
        simp only [List.getElem_toArray, List.getElem_cons_succ, List.getElem_cons_zero, Act.put, List.setIfInBounds_toArray, List.set_cons_zero, List.set_cons_succ]
        refine hd_one 3 (by kernel_rfl) ?_
        refine op_run rfl (by kernel_rfl) (by go_simp; first | done | exact ⟨rfl, rfl⟩ | rfl) ?_
        refine ⟨trivial, ?_⟩
        simp only [List.getElem_toArray, List.getElem_cons_succ, List.getElem_cons_zero, Act.put, List.setIfInBounds_toArray, List.set_cons_zero, List.set_cons_succ]
        refine hd_one 4 (by kernel_rfl) ?_
        refine op_skip rfl (by kernel_rfl) (by go_simp; first | done | rfl) ?_
        refine ⟨trivial, ?_⟩
        simp only [List.getElem_toArray, List.getElem_cons_succ, List.getElem_cons_zero, Act.put, List.setIfInBounds_toArray, List.set_cons_zero, List.set_cons_succ]
        refine hd_done (by kernel_rfl) ?_
        go_wp2_with fail
        have hK' := (KeepsOthers.setCell w8 ⟨B4, 0, none⟩ (.bool true)).same D _ HK8.out rfl
        have hc5 := cell_kept (Bx.set (W := w8) (b := B4) (v := .bool false) ⟨e4, f4⟩ (.bool true)).1 (grownBy_putObj' _ D (.deferred none)) (fun r e => by cases e; exact ⟨_, hK', rfl⟩)
        have hfin : Env w0 ((w8.setCell ⟨B4, 0, none⟩ (.bool true)).putObj D (.deferred none)) obs := HE2.out _ ((HO8.out.set (.inl HSET.out.2.2.1) _).grown (grownBy_putObj' _ D (.deferred none)) (fun k e => by cases e; exact .inr hD))
        refine ⟨by simp, .inl ⟨_, _, rfl, run_takeDeferred hK', ?_⟩⟩
        refine ⟨.bool true, ?_, rfl, hfin⟩
        simp [results, Try.f34, go_sem, hc5]
      · skip
        refine op_run rfl (by kernel_rfl) (by go_simp; first | done | exact ⟨rfl, rfl⟩ | rfl) ?_
        refine ⟨trivial, ?_⟩
        simp only [List.getElem_toArray, List.getElem_cons_succ, List.getElem_cons_zero, Act.put, List.setIfInBounds_toArray, List.set_cons_zero, List.set_cons_succ]
        refine hd_two 0 2 (by kernel_rfl) ?_ ?_
        · skip
          refine op_run rfl (by kernel_rfl) (by go_simp; first | done | exact ⟨rfl, rfl⟩ | rfl) ?_
          refine ⟨trivial, ?_⟩
          simp only [List.getElem_toArray, List.getElem_cons_succ, List.getElem_cons_zero, Act.put, List.setIfInBounds_toArray, List.set_cons_zero, List.set_cons_succ]
          refine hd_one 2 (by kernel_rfl) ?_
          refine op_call rfl (by kernel_rfl) (by go_simp; first | exact ⟨rfl, rfl⟩ | rfl) ?_
          refine (lenP_env' (HE2.out _ HO8.out) i HI.out.1).mono ?_
          rintro e w9 ⟨he, hw⟩
          subst he
          subst hw
          have hS2 := trivial
          refine ⟨_, rfl, hS2, ?_⟩
          simp only [List.getElem_toArray, List.getElem_cons_succ, List.getElem_cons_zero, Act.put, List.setIfInBounds_toArray, List.set_cons_zero, List.set_cons_succ]
          refine hd_one 3 (by kernel_rfl) ?_
          refine op_run rfl (by kernel_rfl) (by go_simp; first | done | exact ⟨rfl, rfl⟩ | rfl) ?_
          refine ⟨trivial, ?_⟩
          simp only [List.getElem_toArray, List.getElem_cons_succ, List.getElem_cons_zero, Act.put, List.setIfInBounds_toArray, List.set_cons_zero, List.set_cons_succ]
          refine hd_one 4 (by kernel_rfl) ?_
          refine op_skip rfl (by kernel_rfl) (by go_simp; first | done | rfl) ?_
          refine ⟨trivial, ?_⟩
          simp only [List.getElem_toArray, List.getElem_cons_succ, List.getElem_cons_zero, Act.put, List.setIfInBounds_toArray, List.set_cons_zero, List.set_cons_succ]
          refine hd_done (by kernel_rfl) ?_
          go_wp2_with fail
          have hK' := (KeepsOthers.setCell w8 ⟨B4, 0, none⟩ (.bool true)).same D _ HK8.out rfl
          have hc5 := cell_kept (Bx.set (W := w8) (b := B4) (v := .bool false) ⟨e4, f4⟩ (.bool true)).1 (grownBy_putObj' _ D (.deferred none)) (fun r e => by cases e; exact ⟨_, hK', rfl⟩)
          have hfin : Env w0 ((w8.setCell ⟨B4, 0, none⟩ (.bool true)).putObj D (.deferred none)) obs := HE2.out _ ((HO8.out.set (.inl HSET.out.2.2.1) _).grown (grownBy_putObj' _ D (.deferred none)) (fun k e => by cases e; exact .inr hD))
          refine ⟨by simp, .inl ⟨_, _, rfl, run_takeDeferred hK', ?_⟩⟩
          refine ⟨.bool true, ?_, rfl, hfin⟩
          simp [results, Try.f34, go_sem, hc5]
        · skip
          refine op_call rfl (by kernel_rfl) (by go_simp; first | exact ⟨rfl, rfl⟩ | rfl) ?_
          refine (lenP_env' (HE2.out _ HO8.out) i HI.out.1).mono ?_
          rintro e w9 ⟨he, hw⟩
          subst he
          subst hw
          have hS2 := trivial
          refine ⟨_, rfl, hS2, ?_⟩
          simp only [List.getElem_toArray, List.getElem_cons_succ, List.getElem_cons_zero, Act.put, List.setIfInBounds_toArray, List.set_cons_zero, List.set_cons_succ]
          refine hd_one 0 (by kernel_rfl) ?_
          refine op_run rfl (by kernel_rfl) (by go_simp; first | done | exact ⟨rfl, rfl⟩ | rfl) ?_
          refine ⟨trivial, ?_⟩
          simp only [List.getElem_toArray, List.getElem_cons_succ, List.getElem_cons_zero, Act.put, List.setIfInBounds_toArray, List.set_cons_zero, List.set_cons_succ]
          refine hd_one 3 (by kernel_rfl) ?_
          refine op_run rfl (by kernel_rfl) (by go_simp; first | done | exact ⟨rfl, rfl⟩ | rfl) ?_
          refine ⟨trivial, ?_⟩
          simp only [List.getElem_toArray, List.getElem_cons_succ, List.getElem_cons_zero, Act.put, List.setIfInBounds_toArray, List.set_cons_zero, List.set_cons_succ]
          refine hd_one 4 (by kernel_rfl) ?_
          refine op_skip rfl (by kernel_rfl) (by go_simp; first | done | rfl) ?_
          refine ⟨trivial, ?_⟩
          simp only [List.getElem_toArray, List.getElem_cons_succ, List.getElem_cons_zero, Act.put, List.setIfInBounds_toArray, List.set_cons_zero, List.set_cons_succ]
          refine hd_done (by kernel_rfl) ?_
          go_wp2_with fail
          have hK' := (KeepsOthers.setCell w8 ⟨B4, 0, none⟩ (.bool true)).same D _ HK8.out rfl
          have hc5 := cell_kept (Bx.set (W := w8) (b := B4) (v := .bool false) ⟨e4, f4⟩ (.bool true)).1 (grownBy_putObj' _ D (.deferred none)) (fun r e => by cases e; exact ⟨_, hK', rfl⟩)
          have hfin : Env w0 ((w8.setCell ⟨B4, 0, none⟩ (.bool true)).putObj D (.deferred none)) obs := HE2.out _ ((HO8.out.set (.inl HSET.out.2.2.1) _).grown (grownBy_putObj' _ D (.deferred none)) (fun k e => by cases e; exact .inr hD))
          refine ⟨by simp, .inl ⟨_, _, rfl, run_takeDeferred hK', ?_⟩⟩
          refine ⟨.bool true, ?_, rfl, hfin⟩
          simp [results, Try.f34, go_sem, hc5]
    case stop =>
      intro D c pre W hD hpre hx hK
      obtain ⟨rfl, ho, b, hb4, hbb⟩ := hx
      obtain rfl : b = true := by
        rcases hbb with h | h
        · exact h
        · exact absurd hpre h
      have hsB : ∀ x, S x → ∃ (j : Nat) (t : TypeId) (cs : Array Value), [obK B3 32 #[.slice ao rs.length cap], obK B4 4 #[.bool false], obRuns (.slice a2 rs.length c2) rs, obK bq 32 #[.slice a2 rs.length c2], obK B6 3 #[.int .i64 0], obK B7 3 #[.int .i64 0], obK B8 3 #[.int .i64 b0]][j]? = some (obK x t cs) := fun x hx => by
        rcases HSET.out.1 x hx with rfl | rfl | rfl | rfl
        · exact ⟨1, _, _, rfl⟩
        · exact ⟨4, _, _, rfl⟩
        · exact ⟨5, _, _, rfl⟩
        · exact ⟨6, _, _, rfl⟩
      have hfin : Env w0 (W.putObj D (.deferred none)) obs := Env.except H7.out (ho.grown (grownBy_putObj' _ D (.deferred none)) (fun k e => by cases e; exact .inr hD)) hsB
      have hc5 := cell_kept hb4.1 (grownBy_putObj' _ D (.deferred none)) (fun r e => by cases e; exact ⟨_, hK, rfl⟩)
      have HF := Lib.hid hfin
      have HK := Lib.hid hK
      clear hfin hK hsB ho hb4 hbb hpre
      go_wp2
      refine ⟨by simp, .inl ⟨_, _, rfl, run_takeDeferred HK.out, ?_⟩⟩
      refine ⟨.bool true, ?_, rfl, HF.out⟩
      simp [results, Try.f34, go_sem, hc5]
end Go.Proofs.Ytmdfmkdhfhbkjaa
