/- The law's helper 'walk': All, gone over and stopped, then again, an event being put in meanwhile. -/
import Derived.Test.YtmdfmkdhfhbkjaaRows
import Derived.Test.YtmdfmkdhfhbkjaaTurns
import Derived.Test.YtmdfmkdhfhbkjaaGone
import Derived.Test.YtmdfmkdhfhbkjaaRef02Env
import Derived.Deep.DeepCutAuto
import Derived.Deep.CutBlock
namespace Go.Proofs.Ytmdfmkdhfhbkjaa
open Go.RowKit
set_option maxRecDepth 100000
set_option linter.unusedVariables false
set_option linter.unusedSimpArgs false
attribute [local go_sem] Oper.semAt_some

theorem Blk.keptRow {W W' : World} {b : Nat} {t : TypeId} {cs : Array Value} (h : Blk W b t cs) {row : Option Nat} (hg : W.grownBy W' row) (hr : ∀ r, row = some r → ∃ o : Obj, W.heap[r]? = some o ∧ o.isCells = false) : Blk W' b t cs := by
  refine (hg.block b h.lt (fun e => ?_)).trans h
  obtain ⟨o, h1, h2⟩ := hr b e.symm
  have h3 : W.heap[b]? = some (.cells cs t (0, 0)) := h
  rw [h3] at h1
  injection h1 with h1
  subst h1
  cases h2
structure TI (rs : List Rn) (S : Nat → Prop) (w W : World) (B T K : Nat) (pre : List (Int × Int)) : Prop where
  len : pre.length ≤ K
  pfx : pre <+: evs rs
  only : Only S w W
  box : Blk W B T #[.int .i64 (pre.length : Int)]
theorem TI.kept {rs : List Rn} {S : Nat → Prop} {w W W' : World} {B T K : Nat} {pre : List (Int × Int)} (h : TI rs S w W B T K pre) {row : Option Nat} (hg : W.grownBy W' row) (hr : ∀ r, row = some r → w.heap.size ≤ r ∧ ∃ o : Obj, W.heap[r]? = some o ∧ o.isCells = false) : TI rs S w W' B T K pre :=
  ⟨h.len, h.pfx, h.only.grown hg (fun k e => .inr (hr k e).1), h.box.keptRow hg (fun r e => (hr r e).2)⟩
/-- what holds where the body left the range: not at all by a failure, if the events so far are the runs' -/
def TX (rs : List Rn) (S : Nat → Prop) (w : World) (B T n : Nat) (id : Nat) (c : Code) (pre : List (Int × Int)) (W : World) : Prop := pre <+: evs rs → c = .exit id ∧ n ≤ pre.length ∧ Only S w W ∧ Blk W B T #[.int .i64 (n : Int)]
theorem TX.kept {rs : List Rn} {S : Nat → Prop} {w W W' : World} {B T n id : Nat} {c : Code} {pre : List (Int × Int)} (h : TX rs S w B T n id c pre W) {row : Option Nat} (hg : W.grownBy W' row) (hr : ∀ r, row = some r → w.heap.size ≤ r ∧ ∃ o : Obj, W.heap[r]? = some o ∧ o.isCells = false) : TX rs S w B T n id c pre W' := fun hp => by
  obtain ⟨h1, h2, h3, h4⟩ := h hp
  exact ⟨h1, h2, h3.grown hg (fun k e => .inr (hr k e).1), h4.keptRow hg (fun r e => (hr r e).2)⟩
theorem tot_ge : ∀ (rs : List Rn), Posi rs → ∀ r ∈ rs, r.c ≤ tot rs
  | [], _, r, hr => by simp at hr
  | x :: rs, hp, r, hr => by
    have h1 := fun y hy => hp y (List.mem_cons_of_mem x hy)
    have e : tot (x :: rs) = x.c + tot rs := by simp [tot]
    rcases List.mem_cons.1 hr with rfl | h
    · have := evs_len rs h1
      omega
    · have := tot_ge rs h1 r h
      have := hp x (by simp)
      omega
theorem pre_next {rs : List Rn} {pre : List (Int × Int)} {x : Int × Int} (h : (pre ++ [x]) <+: evs rs) : (evs rs)[pre.length]? = some x := by
  obtain ⟨t, ht⟩ := h
  rw [← ht]
  simp
theorem pre_more {rs : List Rn} {pre : List (Int × Int)} {x : Int × Int} (h : pre <+: evs rs) (hx : (evs rs)[pre.length]? = some x) : (pre ++ [x]) <+: evs rs := by
  obtain ⟨t, ht⟩ := h
  rw [← ht] at hx ⊢
  rw [List.getElem?_append_right (by omega), Nat.sub_self] at hx
  rcases t with _ | ⟨y, t⟩
  · simp at hx
  · simp at hx
    subst hx
    exact ⟨t, by simp⟩
set_option maxHeartbeats 8000000 in
theorem walk_env {w0 w : World} {obs : List Ob} (h : Env w0 w obs) (i j : Nat) (hij : i ≠ j) {p q : Value} {rs : List Rn} (hi : obs[i]? = some (obP p (some rs))) (hj : obs[j]? = some (obR q (some rs))) (hl : rs.length ≤ 1000000) (hp : Posi rs) (ht : tot rs + 1 < 9223372036854775808) (st : Nat) (hst : st < 50) :
    Calls Try.prog 42 #[p, q, .int .i64 (st : Int)] w fun e w' => e = .returned (.bool true) ∧ Env w0 w' ((obs.set i (obP p (noteO (some rs) 77 st 1))).set j (obR q (noteO (some rs) 77 st 1))) := by
  have h1 := (h.newK 3 #[.int .i64 (st : Int)]).newK 4 #[.bool false]
  have H2 : Hid (Env w0 ((w.alloc (.cells #[.int .i64 (st : Int)] 3)).alloc (.cells #[.bool false] 4)) (obs ++ [obK w.heap.size 3 #[.int .i64 (st : Int)], obK (w.heap.size + 1) 4 #[.bool false]])) := by
    rw [List.append_assoc, show (w.alloc (.cells #[.int .i64 (st : Int)] 3)).heap.size = w.heap.size + 1 by simp] at h1
    exact Lib.hid h1
  have hil : i < obs.length := (List.getElem?_eq_some_iff.1 hi).1
  have hjl : j < obs.length := (List.getElem?_eq_some_iff.1 hj).1
  have HI := Lib.hid (And.intro hi (And.intro hj (And.intro hil (And.intro hjl hij))))
  have HP := Lib.hid hp
  clear h1 hi hj hp h hil hjl hij
  have hI : ∀ L : List Ob, (obs ++ L)[i]? = some (obP p (some rs)) := fun L => by rw [List.getElem?_append_left HI.out.2.2.1]; exact HI.out.1
  have hJ : ∀ L : List Ob, (obs ++ L)[j]? = some (obR q (some rs)) := fun L => by rw [List.getElem?_append_left HI.out.2.2.2.1]; exact HI.out.2.1
  have HIL := Lib.hid hI
  have HJL := Lib.hid hJ
  clear hI hJ
  refine callsIn_wide.1 (callsIn_of_wp_marks (n := 3) Try.func42 rfl trivial (wpIn_wide.2 ?_) rfl)
  simp only [Try.ntmps42, List.size_toArray, List.length_cons, List.length_nil, Nat.reduceAdd, Nat.reduceSub, Array.replicate_succ, Array.replicate_zero, List.push_toArray, List.append_toArray, List.nil_append, List.cons_append]
  obtain ⟨w2, hw2⟩ : ∃ w2, (w.alloc (.cells #[.int .i64 (st : Int)] 3)).alloc (.cells #[.bool false] 4) = w2 := ⟨_, rfl⟩
  go_upto_region 1 with fail
  rw [hw2] at H2
  have hs2 : w2.heap.size = w.heap.size + 2 := by rw [← hw2]; simp
  clear hw2
  obtain ⟨B5, hB5⟩ : ∃ x, w.heap.size = x := ⟨_, rfl⟩
  obtain ⟨B6, hB6⟩ : ∃ x, B5 + 1 = x := ⟨_, rfl⟩
  rw [hB5] at hs2
  rw [hB5, hB6] at H2 ⊢
  clear hB5
  go_wp2_with fail
  refine (runsR_env' H2.out j (HJL.out _) (by omega)).mono ?_
  rintro e w3 ⟨wv, rfl, h5⟩
  rw [List.append_assoc] at h5
  obtain ⟨ao, cap, rfl, hc1, hc2, _⟩ := header (h5.runs (v := wv) (l := rs) (obs.length + 2) ((atE _ _ 2).trans rfl))
  have hs3 := h5.base.size
  have hs3 : B6 < w3.heap.size := (h5.blk (b := B6) (obs.length + 1) ((atE _ _ 1).trans rfl)).lt
  have H3 := Lib.hid h5
  clear h5 H2 hs2
  go_upto_region 2 with fail
  have h6 := H3.out.newK 32 #[.slice ao rs.length cap]
  rw [List.append_assoc] at h6
  have H4 : Hid (Env w0 (w3.alloc (.cells #[.slice ao rs.length cap] 32)) (obs ++ [obK B5 3 #[.int .i64 (st : Int)], obK B6 4 #[.bool false], obRuns (.slice ao rs.length cap) rs, obK w3.heap.size 32 #[.slice ao rs.length cap]])) := Lib.hid h6
  clear h6 H3
  obtain ⟨w4, hw4⟩ : ∃ w4, w3.alloc (.cells #[.slice ao rs.length cap] 32) = w4 := ⟨_, rfl⟩
  obtain ⟨B7, hB7⟩ : ∃ x, w3.heap.size = x := ⟨_, rfl⟩
  rw [hw4, hB7] at H4 ⊢
  rw [hB7] at hs3
  clear hw4 hB7
  go_cut [8] from 20 to 22 (fun c wx => wx = w4 ∧ c = .int .i64 (min (tot rs) 60))
  case first =>
    go_wp2_with fail
    refine (lenR_env H4.out j (HJL.out _) (by omega) (by omega)).mono ?_
    rintro e w5 ⟨rfl, rfl⟩
    go_wp2_with fail
    all_goals go_meet
    all_goals refine ⟨rfl, ?_⟩
    all_goals congr 1
    all_goals omega
  case rest =>
    obtain ⟨rfl, rfl⟩ := hcut
    obtain ⟨many, hmany⟩ : ∃ m : Int, m = min (tot rs) 60 := ⟨_, rfl⟩
    rw [← hmany]
    have HM := Lib.hid hmany
    clear hmany
    go_wp2_with fail
    refine (all_env H4.out i (HIL.out _) (by omega)).mono ?_
    rintro e w5 ⟨a2, c2, bq, rfl, h5⟩
    rw [List.append_assoc] at h5
    have hs5 : B7 < w5.heap.size := (h5.blk (b := B7) (obs.length + 3) ((atE _ _ 3).trans rfl)).lt
    have H5 := Lib.hid h5
    clear h5 H4
    have hnn := fun W => all_not_nil (.func 46) #[] #[.pointer (some ⟨bq, 0, none⟩)] W
    go_upto_region 7 with fail
    clear hnn
    have h6 := H5.out.newK 3 #[.int .i64 0]
    rw [List.append_assoc] at h6
    have H6 : Hid (Env w0 (w5.alloc (.cells #[.int .i64 0] 3)) (obs ++ [obK B5 3 #[.int .i64 (st : Int)], obK B6 4 #[.bool false], obRuns (.slice ao rs.length cap) rs, obK B7 32 #[.slice ao rs.length cap], obRuns (.slice a2 rs.length c2) rs, obK bq 32 #[.slice a2 rs.length c2], obK w5.heap.size 3 #[.int .i64 0]])) := Lib.hid h6
    clear h6 H5
    obtain ⟨w6, hw6⟩ : ∃ w6, w5.alloc (.cells #[.int .i64 0] 3) = w6 := ⟨_, rfl⟩
    obtain ⟨B10, hB10⟩ : ∃ x, w5.heap.size = x := ⟨_, rfl⟩
    rw [hw6, hB10] at H6 ⊢
    rw [hB10] at hs5
    clear hw6 hB10
    have hne : Hid (B5 < B6 ∧ B6 < B7 ∧ B7 < B10) := Lib.hid (by omega)
    have b10 := H6.out.blk (obs.length + 6) ((atE _ _ 6).trans rfl)
    have bq' := H6.out.blk (obs.length + 5) ((atE _ _ 5).trans rfl)
    have row2 := (H6.out.runs (obs.length + 4) ((atE _ _ 4).trans rfl)).rd
    obtain ⟨S, hSd⟩ : ∃ S : Nat → Prop, S = fun x => x = B10 := ⟨_, rfl⟩
    have hSS : ∀ x, S x → x = B10 := fun x hx => by rw [hSd] at hx; exact hx
    have hSB : S B10 := by rw [hSd]
    clear hSd
    have hSl : ∀ x, S x → x < w6.heap.size := fun x hx => by rw [hSS x hx]; exact b10.lt
    have hnq : ¬ S bq := fun hx => H6.out.apartKK (obs.length + 5) (obs.length + 6) (by omega) ((atE _ _ 5).trans rfl) ((atE _ _ 6).trans rfl) (hSS _ hx)
    have hnr : ∀ x, S x → (Value.slice a2 rs.length c2).ownBlock ≠ some x := fun x hx => by
      rw [hSS _ hx]
      exact H6.out.apartKR (obs.length + 6) (obs.length + 4) (by omega) ((atE _ _ 6).trans rfl) ((atE _ _ 4).trans rfl)
    obtain ⟨g2, o2, hao2, hr2, hn2⟩ : ∃ g o, (rs ≠ [] → a2 = some ⟨g, o, none⟩) ∧ RowC w6 g o rs ∧ ¬ S g := by
      rcases hrs : rs with _ | ⟨r, rest⟩
      · exact ⟨bq, 0, fun h => absurd rfl h, fun i r hr => by simp at hr, hnq⟩
      · rw [← hrs]
        obtain ⟨b, off, hb, _⟩ := row2.cells 0 r (by rw [hrs]; rfl)
        refine ⟨b, off, fun _ => hb, fun i r hr => ?_, fun hs => hnr b hs (by rw [hb]; rfl)⟩
        obtain ⟨b', off', hb', e0, e1, e2⟩ := row2.cells i r hr
        rw [hb] at hb'
        injection hb' with hb'
        injection hb' with q1 q2 _
        subst q1; subst q2
        exact ⟨e0, e1, e2⟩
    have htl := evs_len rs HP.out
    have hseq := all1_seq 2 (by omega) bq g2 o2 c2 a2 rs w6 S hSl hnq (by omega) (fun r hr => by have h1 := HP.out r hr; have h2 := tot_ge rs HP.out r hr; omega) (bq'.cellAt 0 rfl) hao2 hn2 hr2
    have HSET := Lib.hid (And.intro hSS (And.intro hSB hSl))
    have HSEQ := Lib.hid hseq
    have HB10 := Lib.hid b10
    have HTL := Lib.hid htl
    clear row2 hao2 hr2 hn2 hseq hnr hnq hSS hSl hSB b10 bq' htl
    go_wp2_with fail
    refine wp_range_ev2 11 (gf := 46) (lb := #[.pointer (some ⟨bq, 0, none⟩)]) rfl (enters_of Try.func46 (by kernel_rfl) rfl) HSEQ.out
      (fun pre W => TI rs S w6 W B10 3 st pre) (TX rs S w6 B10 3 st 0) (fun W => ∃ n : Int, Only S w6 W ∧ Blk W B10 3 #[.int .i64 n])
      (fun pre W W' row hs hg hr => hs.kept hg hr)
      (fun c pre W W' row hs hg hr => hs.kept hg hr)
      ⟨by simp, by simp, Only.refl _ _, HB10.out⟩ ?assign ?body ?done ?stop ?meet
    case assign =>
      intro l pre x W K hi hK
      have HK := Lib.hid hK
      have HG := Lib.hid hi
      clear hK hi
      simp only [List.setIfInBounds_toArray, List.set_cons_succ, List.set_cons_zero]
      gi_wp2
      exact HK.out W.heap.size _ (KeepsFrom.of_only ((Only.refl S W).alloc _) HSET.out.2.2) (Kpt.of_only ((Only.refl S W).alloc _)) (HG.out.kept (World.grownBy_alloc W _ none) (fun r e => by cases e)) HG.out.only.size (by rw [World.cell?_alloc_new]; rfl) (by rw [World.cell?_alloc_new]; rfl)
    case done =>
      intro xs W hx hi
      exact ⟨_, hi.only, hi.box⟩
    case stop =>
      intro c pre W hp hx
      obtain ⟨h1, h2, h3, h4⟩ := hx hp
      exact ⟨h1, _, h3, h4⟩
    case meet =>
      rintro D W hD ⟨n, ho, hb⟩ hK
      have h8 := H6.out.mark (obs.length + 6) ((atE _ _ 6).trans rfl) hb (ho.mono (fun x hx => HSET.out.1 x hx)) hD hK
      rw [setE, List.append_assoc] at h8
      have h9 := h8.newK 39 #[.int .u8 77, .int .i64 (st : Int)]
      rw [List.append_assoc] at h9
      have H9 : Hid (Env w0 (W.alloc (.cells #[.int .u8 77, .int .i64 (st : Int)] 39)) (obs ++ [obK B5 3 #[.int .i64 (st : Int)], obK B6 4 #[.bool false], obRuns (.slice ao rs.length cap) rs, obK B7 32 #[.slice ao rs.length cap], obRuns (.slice a2 rs.length c2) rs, obK bq 32 #[.slice a2 rs.length c2], obK B10 3 #[.int .i64 n], obD D, obK W.heap.size 39 #[.int .u8 77, .int .i64 (st : Int)]])) := Lib.hid h9
      have e5 := (h8.blk (obs.length + 0) ((atE _ _ 0).trans rfl)).cellAt 0 rfl
      have hss : B10 < W.heap.size := hb.lt
      clear h8 h9 HSEQ HB10 hb ho hK hD
      go_upto_region 15 with fail
      obtain ⟨w9, hw9⟩ : ∃ x, W.alloc (.cells #[.int .u8 77, .int .i64 (st : Int)] 39) = x := ⟨_, rfl⟩
      obtain ⟨B14, hB14⟩ : ∃ x, W.heap.size = x := ⟨_, rfl⟩
      rw [hw9, hB14] at H9 ⊢
      rw [hB14] at hss
      clear hw9 hB14 e5
      have ee := fun (W : World) (b : Blk W B14 39 #[.int .u8 77, .int .i64 (st : Int)]) => (⟨b.cellAt 0 rfl, b.cellAt 1 rfl⟩ : W.cell? ⟨B14, 0, none⟩ = some (.int .u8 77) ∧ W.cell? ⟨B14, 1, none⟩ = some (.int .i64 (st : Int)))
      have HEE := Lib.hid ee
      clear ee
      obtain ⟨x0, x1⟩ := HEE.out _ (H9.out.blk (obs.length + 8) ((atE _ _ 8).trans rfl))
      go_wp2_with fail
      have hroom : Room (some rs) 1 := Room.some ht (by omega)
      refine (noteP_env H9.out i (HIL.out _) 77 (st : Int) hroom).mono ?_
      rintro e w10 ⟨rfl, h10⟩
      rw [List.set_append_left _ _ HI.out.2.2.1] at h10
      have H10 := Lib.hid h10
      have hI2 : ∀ L : List Ob, ((obs.set i (obP p (noteO (some rs) 77 (st : Int) 1))) ++ L)[j]? = some (obR q (some rs)) := fun L => by
        rw [List.getElem?_append_left (by simpa using HI.out.2.2.2.1), List.getElem?_set_ne HI.out.2.2.2.2]; exact HI.out.2.1
      have HJL2 := Lib.hid hI2
      have hl2 : (obs.set i (obP p (noteO (some rs) 77 (st : Int) 1))).length = obs.length := by simp
      clear H9 h10 hI2 x0 x1
      obtain ⟨obs2, hobs2⟩ : ∃ x, obs.set i (obP p (noteO (some rs) 77 (st : Int) 1)) = x := ⟨_, rfl⟩
      rw [hobs2] at H10 HJL2 hl2
      go_upto_region 16 with fail
      obtain ⟨x0, x1⟩ := HEE.out _ (H10.out.blk (obs2.length + 8) ((atE _ _ 8).trans rfl))
      go_wp2_with fail
      refine (noteR_env' H10.out j (HJL2.out _) 77 (st : Int) hroom).mono ?_
      rintro e w11 ⟨rfl, h11⟩
      rw [List.set_append_left _ _ (by rw [hl2]; exact HI.out.2.2.2.1)] at h11
      have H11 := Lib.hid h11
      have hl3 : (obs2.set j (obR q (noteO (some rs) 77 (st : Int) 1))).length = obs.length := by simpa using hl2
      clear H10 h11 x0 x1
      obtain ⟨obs3, hobs3⟩ : ∃ x, obs2.set j (obR q (noteO (some rs) 77 (st : Int) 1)) = x := ⟨_, rfl⟩
      rw [hobs3] at H11 hl3
      have HO3 : Hid (obs3 = ((obs.set i (obP p (noteO (some rs) 77 st 1))).set j (obR q (noteO (some rs) 77 st 1)))) := Lib.hid (by rw [← hobs3, ← hobs2])
      clear hobs3 hobs2 hl2 HJL2 HJL HIL
      go_upto_region 17 with fail
      have k10 := H11.out.blk (obs3.length + 6) ((atE _ _ 6).trans rfl)
      have e10 := k10.cellAt 0 rfl
      have f10 := k10.unfrozen 0
      have h12 := H11.out.turnBlk (obs3.length + 6) ((atE _ _ 6).trans rfl) (k10.set 0 (.int .i64 0)) ((Only.refl (fun x => x = B10) w11).set (p := ⟨B10, 0, none⟩) (.inl rfl) _)
      rw [setE] at h12
      have H12 : Hid (Env w0 (w11.setCell ⟨B10, 0, none⟩ (.int .i64 0)) (obs3 ++ [obK B5 3 #[.int .i64 (st : Int)], obK B6 4 #[.bool false], obRuns (.slice ao rs.length cap) rs, obK B7 32 #[.slice ao rs.length cap], obRuns (.slice a2 rs.length c2) rs, obK bq 32 #[.slice a2 rs.length c2], obK B10 3 #[.int .i64 0], obD D, obK B14 39 #[.int .u8 77, .int .i64 (st : Int)]])) := Lib.hid h12
      clear k10 h12 H11
      go_upto_region 18 with fail
      clear e10 f10
      obtain ⟨w12, hw12⟩ : ∃ x, w11.setCell ⟨B10, 0, none⟩ (.int .i64 0) = x := ⟨_, rfl⟩
      rw [hw12] at H12 ⊢
      clear hw12
      clear HSET
      have b10 := H12.out.blk (obs3.length + 6) ((atE _ _ 6).trans rfl)
      have bq' := H12.out.blk (obs3.length + 5) ((atE _ _ 5).trans rfl)
      have row2 := (H12.out.runs (obs3.length + 4) ((atE _ _ 4).trans rfl)).rd
      obtain ⟨S, hSd⟩ : ∃ S : Nat → Prop, S = fun x => x = B10 := ⟨_, rfl⟩
      have hSS : ∀ x, S x → x = B10 := fun x hx => by rw [hSd] at hx; exact hx
      have hSB : S B10 := by rw [hSd]
      clear hSd
      have hSl : ∀ x, S x → x < w12.heap.size := fun x hx => by rw [hSS x hx]; exact b10.lt
      have hnq : ¬ S bq := fun hx => H12.out.apartKK (obs3.length + 5) (obs3.length + 6) (by omega) ((atE _ _ 5).trans rfl) ((atE _ _ 6).trans rfl) (hSS _ hx)
      have hnr : ∀ x, S x → (Value.slice a2 rs.length c2).ownBlock ≠ some x := fun x hx => by
        rw [hSS _ hx]
        exact H12.out.apartKR (obs3.length + 6) (obs3.length + 4) (by omega) ((atE _ _ 6).trans rfl) ((atE _ _ 4).trans rfl)
      obtain ⟨g2, o2, hao2, hr2, hn2⟩ : ∃ g o, (rs ≠ [] → a2 = some ⟨g, o, none⟩) ∧ RowC w12 g o rs ∧ ¬ S g := by
        rcases hrs : rs with _ | ⟨r, rest⟩
        · exact ⟨bq, 0, fun h => absurd rfl h, fun i r hr => by simp at hr, hnq⟩
        · rw [← hrs]
          obtain ⟨b, off, hb, _⟩ := row2.cells 0 r (by rw [hrs]; rfl)
          refine ⟨b, off, fun _ => hb, fun i r hr => ?_, fun hs => hnr b hs (by rw [hb]; rfl)⟩
          obtain ⟨b', off', hb', e0, e1, e2⟩ := row2.cells i r hr
          rw [hb] at hb'
          injection hb' with hb'
          injection hb' with q1 q2 _
          subst q1; subst q2
          exact ⟨e0, e1, e2⟩
      have hseq := all1_seq 2 (by omega) bq g2 o2 c2 a2 rs w12 S hSl hnq (by omega) (fun r hr => by have h1 := HP.out r hr; have h2 := tot_ge rs HP.out r hr; omega) (bq'.cellAt 0 rfl) hao2 hn2 hr2
      have HSET := Lib.hid (And.intro hSS (And.intro hSB hSl))
      have HSEQ := Lib.hid hseq
      have HB10 := Lib.hid b10
      have HTL2 := HTL
      clear row2 hao2 hr2 hn2 hseq hnr hnq hSS hSl hSB b10 bq'
      go_wp2_with fail
      go_wp2_with fail
      refine wp_range_ev2 15 (gf := 46) (lb := #[.pointer (some ⟨bq, 0, none⟩)]) rfl (enters_of Try.func46 (by kernel_rfl) rfl) HSEQ.out
        (fun pre W => TI rs S w12 W B10 3 59 pre) (TX rs S w12 B10 3 60 2) (fun W => Only S w12 W ∧ Blk W B10 3 #[.int .i64 many])
        (fun pre W W' row hs hg hr => hs.kept hg hr)
        (fun c pre W W' row hs hg hr => hs.kept hg hr)
        ⟨by simp, by simp, Only.refl _ _, HB10.out⟩ ?assign2 ?body2 ?done2 ?stop2 ?meet2
      case assign2 =>
        intro l pre x W K hi hK
        have HK := Lib.hid hK
        have HG := Lib.hid hi
        clear hK hi
        simp only [List.setIfInBounds_toArray, List.set_cons_succ, List.set_cons_zero]
        gi_wp2
        exact HK.out W.heap.size _ (KeepsFrom.of_only ((Only.refl S W).alloc _) HSET.out.2.2) (Kpt.of_only ((Only.refl S W).alloc _)) (HG.out.kept (World.grownBy_alloc W _ none) (fun r e => by cases e)) HG.out.only.size (by rw [World.cell?_alloc_new]; rfl) (by rw [World.cell?_alloc_new]; rfl)
      case done2 =>
        intro xs W hx hi
        subst hx
        have e : ((evs rs).length : Int) = many := by
          have h1 := hi.len
          have h2 := HTL.out
          have h3 := HM.out
          omega
        have hb := hi.box
        rw [e] at hb
        exact ⟨hi.only, hb⟩
      case stop2 =>
        intro c pre W hp hx
        obtain ⟨h1, h2, h3, h4⟩ := hx hp
        have e : ((60 : Nat) : Int) = many := by
          have h1 := hp.length_le
          have h2 := HTL.out
          have h3 := HM.out
          omega
        rw [e] at h4
        exact ⟨h1, h3, h4⟩
      case meet2 =>
        rintro D2 W2 hD2 ⟨ho2, hb2⟩ hK2
        have h13 := H12.out.mark (obs3.length + 6) ((atE _ _ 6).trans rfl) hb2 (ho2.mono (fun x hx => HSET.out.1 x hx)) hD2 hK2
        rw [setE, List.append_assoc] at h13
        have H13 : Hid (Env w0 W2 (obs3 ++ [obK B5 3 #[.int .i64 (st : Int)], obK B6 4 #[.bool false], obRuns (.slice ao rs.length cap) rs, obK B7 32 #[.slice ao rs.length cap], obRuns (.slice a2 rs.length c2) rs, obK bq 32 #[.slice a2 rs.length c2], obK B10 3 #[.int .i64 many], obD D, obK B14 39 #[.int .u8 77, .int .i64 (st : Int)], obD D2])) := Lib.hid h13
        clear h13 HSEQ HB10 hb2 ho2 hK2 hD2
        have k6 := H13.out.blk (obs3.length + 1) ((atE _ _ 1).trans rfl)
        have e6 := k6.cellAt 0 rfl
        have f6 := k6.unfrozen 0
        have e10 := (H13.out.blk (obs3.length + 6) ((atE _ _ 6).trans rfl)).cellAt 0 rfl
        have tm : (many == many) = true := beq_self_eq_true _
        clear k6
        go_wp2_with fail
        have h14 := H13.out.turnBlk (obs3.length + 1) ((atE _ _ 1).trans rfl) ((H13.out.blk (obs3.length + 1) ((atE _ _ 1).trans rfl)).set 0 (.bool true)) ((Only.refl (fun x => x = B6) W2).set (p := ⟨B6, 0, none⟩) (.inl rfl) _)
        rw [setE] at h14
        have c6 := (h14.blk (b := B6) (obs3.length + 1) ((atE _ _ 1).trans rfl)).cellAt 0 rfl
        have hK2 := h14.markAt (D := D2) (obs3.length + 9) ((atE _ _ 9).trans rfl)
        have hK1 := h14.markAt (D := D) (obs3.length + 7) ((atE _ _ 7).trans rfl)
        have hDD := h14.apartDD (D := D) (E := D2) (obs3.length + 7) (obs3.length + 9) (by omega) ((atE _ _ 7).trans rfl) ((atE _ _ 9).trans rfl)
        have hg1 := grownBy_putObj' (W2.setCell ⟨B6, 0, none⟩ (.bool true)) D2 (.deferred none)
        have hK3 : ((W2.setCell ⟨B6, 0, none⟩ (.bool true)).putObj D2 (.deferred none)).heap[D]? = some (.deferred (some [])) := (hg1.block D (Array.getElem?_eq_some_iff.1 hK1).1 (fun e => by injection e with e; exact hDD e)).trans hK1
        have hg2 := grownBy_putObj' ((W2.setCell ⟨B6, 0, none⟩ (.bool true)).putObj D2 (.deferred none)) D (.deferred none)
        have c7 := cell_kept (cell_kept c6 hg1 (fun r e => by cases e; exact ⟨_, hK2, rfl⟩)) hg2 (fun r e => by cases e; exact ⟨_, hK3, rfl⟩)
        have hfin : Env w0 (((W2.setCell ⟨B6, 0, none⟩ (.bool true)).putObj D2 (.deferred none)).putObj D (.deferred none)) obs3 := by
          refine Env.exceptB h14 (S := fun x => x = D ∨ x = D2) (((Only.refl _ _).grown hg1 (fun k e => ?_)).grown hg2 (fun k e => ?_)) (fun x hx => ?_)
          · cases e; exact .inl (.inr rfl)
          · cases e; exact .inl (.inl rfl)
          · rcases hx with rfl | rfl
            · exact ⟨7, _, rfl, fun W F hF => by obtain ⟨_, rfl⟩ := hF; rfl⟩
            · exact ⟨9, _, rfl, fun W F hF => by obtain ⟨_, rfl⟩ := hF; rfl⟩
        rw [HO3.out] at hfin
        refine ⟨by simp, .inl ⟨_, _, rfl, run_takeDeferred hK2, ⟨by simp, .inl ⟨_, _, rfl, run_takeDeferred hK3, ?_⟩⟩⟩⟩
        refine ⟨.bool true, ?_, rfl, hfin⟩
        simp [results, Try.f42, go_sem, c7]
      case body2 =>
        intro l pre x b W hi hb cx cy hlen
        obtain ⟨xk, xs⟩ := x
        have HG := Lib.hid hi
        have HB := Lib.hid hb
        have henv : Env w0 W (obs3 ++ [obK B5 3 #[.int .i64 (st : Int)], obK B6 4 #[.bool false], obRuns (.slice ao rs.length cap) rs, obK B7 32 #[.slice ao rs.length cap], obRuns (.slice a2 rs.length c2) rs, obK bq 32 #[.slice a2 rs.length c2], obK B10 3 #[.int .i64 (pre.length : Int)], obD D, obK B14 39 #[.int .u8 77, .int .i64 (st : Int)]]) := by
          have := H12.out.turnBlk (obs3.length + 6) ((atE _ _ 6).trans rfl) hi.box (hi.only.mono (fun x hx => HSET.out.1 x hx))
          rw [setE] at this
          exact this
        have e5 := (henv.blk (obs3.length + 0) ((atE _ _ 0).trans rfl)).cellAt 0 rfl
        have e6 := (henv.blk (obs3.length + 1) ((atE _ _ 1).trans rfl)).cellAt 0 rfl
        have e7 := (henv.blk (obs3.length + 3) ((atE _ _ 3).trans rfl)).cellAt 0 rfl
        have e10 := hi.box.cellAt 0 rfl
        have f6 := (henv.blk (obs3.length + 1) ((atE _ _ 1).trans rfl)).unfrozen 0
        have f10 := hi.box.unfrozen 0
        have HRD := Lib.hid (henv.runs (obs3.length + 2) ((atE _ _ 2).trans rfl)).rd
        have HL := Lib.hid hlen
        clear hi hb henv hlen
        unfold evA
        simp only [List.setIfInBounds_toArray, List.set_cons_succ, List.set_cons_zero]
        gi_wp2
        obtain ⟨y, hy⟩ : ∃ y, (evs rs)[pre.length]? = some y := ⟨_, List.getElem?_eq_getElem HL.out⟩
        have hcall := at_any (.slice ao rs.length cap) rs pre.length W HRD.out HP.out (by omega) (by omega) (by have := HG.out.len; omega)
        have hv : atE2 rs pre.length = .tuple #[.agg #[.int .u8 y.1, .int .i64 y.2], .bool true] := by unfold atE2; rw [hy]
        rw [hv] at hcall
        have HY := Lib.hid hy
        clear hv hy e5 e6 e7 e10 f6 f10
        have hbl := World.block_lt_of_cell? W _ cx
        refine ⟨trivial, CallsIn.inRound l (callsIn_wide.2 (hcall.mono ?_))⟩
        clear hcall
        rintro e w7 ⟨rfl, hb7⟩
        have HB7 := Lib.hid hb7
        obtain ⟨o8, ho8⟩ : ∃ o, o = Obj.cells #[.int .u8 y.1, .int .i64 y.2] 39 := ⟨_, rfl⟩
        have only8 : Only S W (w7.alloc o8) := (Only.of_below hb7 S).alloc _
        have cx8 : (w7.alloc o8).cell? ⟨b, 0, none⟩ = some (.int .u8 xk) := ((hb7.alloc hb7.size o8).cell hbl).trans cx
        have cy8 : (w7.alloc o8).cell? ⟨b, 1, none⟩ = some (.int .i64 xs) := ((hb7.alloc hb7.size o8).cell (p := ⟨b, 1, none⟩) hbl).trans cy
        have cx9 : (w7.alloc o8).cell? ⟨w7.heap.size, 0, none⟩ = some (.int .u8 y.1) := by rw [ho8, World.cell?_alloc_new]; rfl
        have cy9 : (w7.alloc o8).cell? ⟨w7.heap.size, 1, none⟩ = some (.int .i64 y.2) := by rw [ho8, World.cell?_alloc_new]; rfl
        have box8 := HG.out.box.below (hb7.alloc hb7.size o8) HG.out.box.lt
        have e10 := box8.cellAt 0 rfl
        have f10 := box8.unfrozen 0
        have b6' := H12.out.blk (obs3.length + 1) ((atE _ _ 1).trans rfl)
        have b6 := (b6'.only HG.out.only (fun hx => by have := HSET.out.1 _ hx; have := hne.out; omega)).below (hb7.alloc hb7.size o8) (Nat.lt_of_lt_of_le b6'.lt HG.out.only.size)
        have e6 := b6.cellAt 0 rfl
        have f6 := b6.unfrozen 0
        have L6 : Hid (B6 < w12.heap.size) := Lib.hid b6'.lt
        have HPP : IntKind.i64.wrap ((pre.length : Int) + 1) = (pre.length : Int) + 1 := IntWalk.i64_in _ (by have := HG.out.len; omega)
        have HO8 := Lib.hid only8
        have HB8 := Lib.hid box8
        rw [ho8] at cx8 cy8 cx9 cy9 e10 f10 e6 f6
        clear hb7 cx cy only8 b6 b6' box8
        by_cases hxy : y = (xk, xs)
        · subst hxy
          have hO : Only S W ((w7.alloc o8).setCell ⟨B10, 0, none⟩ (.int .i64 ((pre.length : Int) + 1))) := HO8.out.set (.inl HSET.out.2.1) _
          have hB := HB8.out.set 0 (.int .i64 ((pre.length : Int) + 1))
          have g10 := hB.cellAt 0 rfl
          have HO9 := Lib.hid hO
          have HB9 := Lib.hid hB
          rw [ho8] at g10
          clear hO hB
          by_cases h60 : pre.length + 1 = 60
          · have H60 := Lib.hid h60
            have t60 : (((pre.length : Int) + 1) == 60) = true := by rw [beq_iff_eq]; omega
            clear h60
            gi_wp2
            clear cx8 cy8 cx9 cy9 e10 f10 e6 f6 g10
            rw [← ho8]
            refine ⟨KeepsFrom.of_only HO9.out HSET.out.2.2, fun _ => ⟨rfl, by have := H60.out; simp; omega, HG.out.only.trans HO9.out (fun x hx => .inl hx), ?_⟩⟩
            have := HB9.out
            rw [show ((pre.length : Int) + 1) = ((60 : Nat) : Int) by have := H60.out; omega] at this ⊢
            exact this
          · have H60 := Lib.hid h60
            have t60 : (((pre.length : Int) + 1) == 60) = false := by rw [beq_eq_false_iff_ne]; omega
            clear h60
            gi_wp2
            clear cx8 cy8 cx9 cy9 e10 f10 e6 f6 g10
            rw [← ho8]
            refine ⟨KeepsFrom.of_only HO9.out HSET.out.2.2, Kpt.of_only HO9.out, by have := HG.out.len; have := H60.out; simp; omega, pre_more HG.out.pfx HY.out, HG.out.only.trans HO9.out (fun x hx => .inl hx), ?_⟩
            rw [List.length_append, List.length_singleton]
            exact HB9.out
        · have HNE := Lib.hid hxy
          clear hxy
          gi_wp2
          all_goals clear cx8 cy8 cx9 cy9 e10 f10 e6 f6
          all_goals rw [← ho8]
          all_goals first | exact (HNE.out (Prod.ext (by dsimp only; omega) (by dsimp only; omega))).elim | skip
          all_goals have hO : Only (fun x => S x ∨ x = B6) W ((w7.alloc o8).setCell ⟨B6, 0, none⟩ (.bool false)) := Only.set (S := fun x => S x ∨ x = B6) (HO8.out.mono (fun x hx => Or.inl hx)) (.inl (Or.inr rfl)) _
          all_goals refine ⟨KeepsFrom.of_only hO (fun x hx => ?_), fun hp => absurd (pre_next hp) (by rw [HY.out]; intro e; injection e with e; exact HNE.out e)⟩
          all_goals rcases hx with hx | rfl
          all_goals first | exact HSET.out.2.2 _ hx | exact L6.out
    case body =>
      intro l pre x b W hi hb cx cy hlen
      obtain ⟨xk, xs⟩ := x
      have HG := Lib.hid hi
      have HB := Lib.hid hb
      have henv : Env w0 W (obs ++ [obK B5 3 #[.int .i64 (st : Int)], obK B6 4 #[.bool false], obRuns (.slice ao rs.length cap) rs, obK B7 32 #[.slice ao rs.length cap], obRuns (.slice a2 rs.length c2) rs, obK bq 32 #[.slice a2 rs.length c2], obK B10 3 #[.int .i64 (pre.length : Int)]]) := by
        have := H6.out.turnBlk (obs.length + 6) ((atE _ _ 6).trans rfl) hi.box (hi.only.mono (fun x hx => HSET.out.1 x hx))
        rw [setE] at this
        exact this
      have e5 := (henv.blk (obs.length + 0) ((atE _ _ 0).trans rfl)).cellAt 0 rfl
      have e6 := (henv.blk (obs.length + 1) ((atE _ _ 1).trans rfl)).cellAt 0 rfl
      have e7 := (henv.blk (obs.length + 3) ((atE _ _ 3).trans rfl)).cellAt 0 rfl
      have e10 := hi.box.cellAt 0 rfl
      have f6 := (henv.blk (obs.length + 1) ((atE _ _ 1).trans rfl)).unfrozen 0
      have f10 := hi.box.unfrozen 0
      have HRD := Lib.hid (henv.runs (obs.length + 2) ((atE _ _ 2).trans rfl)).rd
      have HL := Lib.hid hlen
      clear hi hb henv hlen
      unfold evA
      simp only [List.setIfInBounds_toArray, List.set_cons_succ, List.set_cons_zero]
      by_cases h5 : pre.length = st
      · have t1 : ((pre.length : Int) == (st : Int)) = true := by rw [h5]; exact beq_self_eq_true _
        have H5 := Lib.hid h5
        clear h5
        gi_wp2
        exact ⟨KeepsFrom.of_only (Only.refl S W) HSET.out.2.2, fun _ => ⟨rfl, by rw [List.length_append, H5.out]; omega, HG.out.only, by have := HG.out.box; rw [H5.out] at this; exact this⟩⟩
      · have t1 : ((pre.length : Int) == (st : Int)) = false := by rw [beq_eq_false_iff_ne]; omega
        have H5 := Lib.hid h5
        clear h5
        gi_wp2
        obtain ⟨y, hy⟩ : ∃ y, (evs rs)[pre.length]? = some y := ⟨_, List.getElem?_eq_getElem HL.out⟩
        have hcall := at_any (.slice ao rs.length cap) rs pre.length W HRD.out HP.out (by omega) (by omega) (by have := HG.out.len; omega)
        have hv : atE2 rs pre.length = .tuple #[.agg #[.int .u8 y.1, .int .i64 y.2], .bool true] := by unfold atE2; rw [hy]
        rw [hv] at hcall
        have HY := Lib.hid hy
        clear hv hy e5 e6 e7 e10 f6 f10
        have hbl := World.block_lt_of_cell? W _ cx
        refine ⟨trivial, CallsIn.inRound l (callsIn_wide.2 (hcall.mono ?_))⟩
        clear hcall
        rintro e w7 ⟨rfl, hb7⟩
        have HB7 := Lib.hid hb7
        obtain ⟨o8, ho8⟩ : ∃ o, o = Obj.cells #[.int .u8 y.1, .int .i64 y.2] 39 := ⟨_, rfl⟩
        have only8 : Only S W (w7.alloc o8) := (Only.of_below hb7 S).alloc _
        have cx8 : (w7.alloc o8).cell? ⟨b, 0, none⟩ = some (.int .u8 xk) := ((hb7.alloc hb7.size o8).cell hbl).trans cx
        have cy8 : (w7.alloc o8).cell? ⟨b, 1, none⟩ = some (.int .i64 xs) := ((hb7.alloc hb7.size o8).cell (p := ⟨b, 1, none⟩) hbl).trans cy
        have cx9 : (w7.alloc o8).cell? ⟨w7.heap.size, 0, none⟩ = some (.int .u8 y.1) := by rw [ho8, World.cell?_alloc_new]; rfl
        have cy9 : (w7.alloc o8).cell? ⟨w7.heap.size, 1, none⟩ = some (.int .i64 y.2) := by rw [ho8, World.cell?_alloc_new]; rfl
        have box8 := HG.out.box.below (hb7.alloc hb7.size o8) HG.out.box.lt
        have e10 := box8.cellAt 0 rfl
        have f10 := box8.unfrozen 0
        have b6' := H6.out.blk (obs.length + 1) ((atE _ _ 1).trans rfl)
        have b6 := (b6'.only HG.out.only (fun hx => by have := HSET.out.1 _ hx; have := hne.out; omega)).below (hb7.alloc hb7.size o8) (Nat.lt_of_lt_of_le b6'.lt HG.out.only.size)
        have e6 := b6.cellAt 0 rfl
        have f6 := b6.unfrozen 0
        have L6 : Hid (B6 < w6.heap.size) := Lib.hid b6'.lt
        have HPP : IntKind.i64.wrap ((pre.length : Int) + 1) = (pre.length : Int) + 1 := IntWalk.i64_in _ (by have := HG.out.len; omega)
        have HO8 := Lib.hid only8
        have HB8 := Lib.hid box8
        rw [ho8] at cx8 cy8 cx9 cy9 e10 f10 e6 f6
        clear hb7 cx cy only8 b6 b6' box8
        by_cases hxy : y = (xk, xs)
        · subst hxy
          gi_wp2
          clear cx8 cy8 cx9 cy9 e10 f10 e6 f6
          rw [← ho8]
          have hO : Only S W ((w7.alloc o8).setCell ⟨B10, 0, none⟩ (.int .i64 ((pre.length : Int) + 1))) := HO8.out.set (.inl HSET.out.2.1) _
          have hB := HB8.out.set 0 (.int .i64 ((pre.length : Int) + 1))
          refine ⟨KeepsFrom.of_only hO HSET.out.2.2, Kpt.of_only hO, by have := HG.out.len; have := H5.out; simp; omega, pre_more HG.out.pfx HY.out, HG.out.only.trans hO (fun x hx => .inl hx), ?_⟩
          rw [List.length_append, List.length_singleton]
          exact hB
        · have HNE := Lib.hid hxy
          clear hxy
          gi_wp2
          all_goals clear cx8 cy8 cx9 cy9 e10 f10 e6 f6
          all_goals rw [← ho8]
          all_goals first | exact (HNE.out (Prod.ext (by dsimp only; omega) (by dsimp only; omega))).elim | skip
          all_goals have hO : Only (fun x => S x ∨ x = B6) W ((w7.alloc o8).setCell ⟨B6, 0, none⟩ (.bool false)) := Only.set (S := fun x => S x ∨ x = B6) (HO8.out.mono (fun x hx => Or.inl hx)) (.inl (Or.inr rfl)) _
          all_goals refine ⟨KeepsFrom.of_only hO (fun x hx => ?_), fun hp => absurd (pre_next hp) (by rw [HY.out]; intro e; injection e with e; exact HNE.out e)⟩
          all_goals rcases hx with hx | rfl
          all_goals first | exact HSET.out.2.2 _ hx | exact L6.out
end Go.Proofs.Ytmdfmkdhfhbkjaa
