/- A list of lists as ONE thing of a law's world: its row, and each list's own row, all apart. It takes in a list that was a thing of its own; in the end it falls into its parts. No program in sight. -/
import Derived.Test.YtihmgkjmebdioaaRows
import Derived.Deep.DeepCutAuto
import Derived.Deep.CutBlock
import Derived.Test.YtihmgkjmebdioaaQAesScript2
import Derived.Test.YtihmgkjmebdioaaQAesScript3
import Derived.Test.YtihmgkjmebdioaaQAesScript4
import Derived.Test.YtihmgkjmebdioaaQAesScript5
/- The document's ledger: Len, Mark, Count, Reset, Since; At. -/
namespace Go.Proofs.Ytihmgkjmebdioaa
open Go.RowKit
set_option maxRecDepth 100000
set_option linter.unusedVariables false
set_option linter.unusedSimpArgs false

theorem tot_take_succ (rs : List Rn) (k : Nat) (r : Rn) (h : rs[k]? = some r) : tot (rs.take (k + 1)) = tot (rs.take k) + r.c := by
  rw [take_succ_get rs k r h, tot_append, tot_one]
theorem tot_take_rng (rs : List Rn) (hp : Posi rs) (k : Nat) : 0 ≤ tot (rs.take k) ∧ tot (rs.take k) ≤ tot rs :=
  ⟨by have := tot_nonneg (rs.take k) (fun x hx => hp x (List.mem_of_mem_take hx)); omega, tot_take rs hp k⟩
/-- what At tells -/
def atE2 (rs : List Rn) (n : Nat) : Value := match (evs rs)[n]? with | some x => .tuple #[.agg #[.int .u8 x.1, .int .i64 x.2], .bool true] | none => .tuple #[.agg #[.int .u8 0, .int .i64 0], .bool false]
theorem evs_len (rs : List Rn) (hp : Posi rs) : ((evs rs).length : Int) = tot rs := by
  induction rs with
  | nil => simp [evs, tot]
  | cons r rs ih =>
    have h1 := ih (fun x hx => hp x (List.mem_cons_of_mem _ hx))
    have h2 := hp r (by simp)
    have e : (evs (r :: rs)).length = r.c.toNat + (evs rs).length := by simp [evs]
    rw [e, tot_cons]
    omega
theorem atE2_in (rs : List Rn) (hp : Posi rs) (k : Nat) (r : Rn) (hr : rs[k]? = some r) (n : Nat) (h1 : tot (rs.take k) ≤ n) (h2 : (n : Int) - tot (rs.take k) < r.c) : atE2 rs n = .tuple #[.agg #[.int .u8 r.k, .int .i64 r.s], .bool true] := by
  have hl := evs_len (rs.take k) (fun x hx => hp x (List.mem_of_mem_take hx))
  have e : (evs rs)[n]? = some (r.k, r.s) := by
    rw [evs_split rs k, evs_drop rs k r hr, List.getElem?_append_right (by omega), List.getElem?_append_left (by simp; omega)]
    rw [List.getElem?_replicate, if_pos (by omega)]
  unfold atE2
  rw [e]
theorem atE2_out (rs : List Rn) (hp : Posi rs) (n : Nat) (h : tot rs ≤ n) : atE2 rs n = .tuple #[.agg #[.int .u8 0, .int .i64 0], .bool false] := by
  have hl := evs_len rs hp
  unfold atE2
  rw [List.getElem?_eq_none (by omega)]
/-- one run more behind -/
theorem sinceS : ∀ (l : List Rn) (r : Rn) (m : Int), Posi (l ++ [r]) → 0 ≤ m → sinceL (l ++ [r]) m = if tot l + r.c ≤ m then [] else (if tot l < m then [⟨r.k, r.s, tot l + r.c - m⟩] else sinceL l m ++ [r])
  | [], r, m, hp, hm => by
    have h1 := hp r (by simp)
    simp only [List.nil_append, sinceL, show tot [] = 0 from rfl, Int.zero_add]
    by_cases h : m ≤ 0
    · rw [if_pos h, if_neg (by omega), if_neg (by omega)]
    · rw [if_neg h]
      by_cases h2 : m < r.c
      · rw [if_pos h2, if_neg (by omega), if_pos (by omega)]
      · rw [if_neg h2, if_pos (by omega)]
  | x :: l, r, m, hp, hm => by
    have h1 := hp x (by simp)
    have h2 := hp r (by simp)
    have hpl : Posi (l ++ [r]) := fun y hy => hp y (by simp at hy ⊢; rcases hy with hy | hy <;> simp [hy])
    have h3 := tot_nonneg l (fun y hy => hp y (by simp [hy]))
    rw [List.cons_append, sinceL, sinceL, tot_cons]
    by_cases h : m ≤ 0
    · rw [if_pos h, if_pos h, if_neg (by omega), if_neg (by omega)]
      rfl
    · rw [if_neg h, if_neg h]
      by_cases h4 : m < x.c
      · rw [if_pos h4, if_pos h4, if_neg (by omega), if_neg (by omega)]
        rfl
      · rw [if_neg h4, if_neg h4, sinceS l r (m - x.c) hpl (by omega)]
        by_cases h5 : tot l + r.c ≤ m - x.c
        · rw [if_pos h5, if_pos (show x.c + tot l + r.c ≤ m by omega)]
        · rw [if_neg h5, if_neg (show ¬ x.c + tot l + r.c ≤ m by omega)]
          by_cases h6 : tot l < m - x.c
          · rw [if_pos h6, if_pos (show x.c + tot l < m by omega), show tot l + r.c - (m - x.c) = x.c + tot l + r.c - m by omega]
          · rw [if_neg h6, if_neg (show ¬ x.c + tot l < m by omega)]
theorem since_max (rs : List Rn) (m : Int) : sinceL rs m = sinceL rs (if m < 0 then 0 else m) := by
  by_cases h : m < 0
  · rw [if_pos h, since_low rs m (by omega), since_low rs 0 (Int.le_refl _)]
  · rw [if_neg h]
theorem sinceL_len : ∀ (rs : List Rn) (m : Int), (sinceL rs m).length ≤ rs.length
  | [], _ => Nat.le_refl _
  | r :: rs, m => by
    rw [sinceL]
    split
    · exact Nat.le_refl _
    · split
      · exact Nat.le_refl _
      · have := sinceL_len rs (m - r.c); simp; omega
end Go.Proofs.Ytihmgkjmebdioaa
/- Contracts in a world that is a list of things: Reset, Mark, Since, Runs. -/
namespace Go.Proofs.Ytihmgkjmebdioaa
open Go.RowKit
set_option maxRecDepth 100000
set_option linter.unusedVariables false
set_option linter.unusedSimpArgs false
/-- one of three -/
theorem hd_three {P : Program} {ops : Array Oper} {md : Region.Mode} {Q : Exit → Act → World → Prop} {S : World → Prop} {fuel : Nat} {listed : Array Bool} {a : Act} {w : World} (i j k : Nat) (hr : decide (Region.ready md ops listed = [i, j, k]) = true) (h1 : wpOp P ops Q i (fun a' w' => S w' ∧ wpAnyH P md ops Q S fuel (listed.setIfInBounds i true) a' w') a w)
    (h2 : wpOp P ops Q j (fun a' w' => S w' ∧ wpAnyH P md ops Q S fuel (listed.setIfInBounds j true) a' w') a w)
    (h3 : wpOp P ops Q k (fun a' w' => S w' ∧ wpAnyH P md ops Q S fuel (listed.setIfInBounds k true) a' w') a w) : wpAnyH P md ops Q S (fuel + 1) listed a w := by
  rw [decide_eq_true_eq] at hr
  refine wpAnyH_all hr (by simp) fun m hm => ?_
  have hk2 : m = i ∨ m = j ∨ m = k := by simpa using hm
  rcases hk2 with rfl | rfl | rfl
  · exact h1
  · exact h2
  · exact h3
section
variable {w0 w : World} {obs : List Ob}
theorem runsN_env (h : Env w0 w obs) (i : Nat) {p : Value} {rs : List Rn} (hi : obs[i]? = some (obP p (some rs))) (hl : rs.length ≤ 5497558138880) :
    Calls Try.prog 17 #[p] w fun e w' => ∃ v, e = .returned v ∧ Env w0 w' obs ∧ RunsRd w' v rs ∧ Below w.heap.size w w' := by
  obtain ⟨F, f1, _⟩ := h.lgP i hi
  obtain ⟨b, v, rfl, rfl, f2⟩ := f1
  exact (runsP_any b v rs w f2 hl).mono fun e w' ⟨v, he, h1, h2, _⟩ => ⟨v, he, h.below h2, RunsAt.rd h1, h2⟩
end
/-- a list that is written in the text -/
theorem lit_rd (rs : List Rn) (w : World) (h : rs.length ≤ 1000) : RunsRd (w.alloc (.cells (KN.fl rs).toArray KN.e)) (.slice (some ⟨w.heap.size, 0, none⟩) rs.length rs.length) rs := by
  obtain ⟨v, hv, h1, _⟩ := Knd.New.lit KN rs w h
  injection hv with hv
  subst hv
  exact Knd.O.rd h1
end Go.Proofs.Ytihmgkjmebdioaa
/- The document's ledger over a law's world. -/
namespace Go.Proofs.Ytihmgkjmebdioaa
open Go.RowKit
set_option maxRecDepth 100000
set_option linter.unusedVariables false
set_option linter.unusedSimpArgs false
theorem gtimesR_any (p : Value) (F : Nat → Prop) (o : Option (List Rn)) (k s n : Int) (w : World) (h : LgR w p F o) (hb : Room o n) :
    Calls Try.prog 62 #[p, .agg #[.int .u8 k, .int .i64 s], .int .i64 n] w fun e w' => e = .returned (.tuple #[]) ∧ LaidR p F (timesO o k s n) w w' := by
  unfold timesO
  cases o with
  | none =>
    obtain ⟨rfl, rfl⟩ := h
    refine (rnoteTimes_nil k s n w).mono ?_
    rintro e w' ⟨rfl, hb⟩
    refine ⟨rfl, fun _ => False, ?_, Only.of_below hb _, fun _ h => h.elim⟩
    split <;> exact ⟨rfl, rfl⟩
  | some rs =>
    obtain ⟨b, v, rfl, rfl, hl⟩ := h
    by_cases hn : n < 1
    · rw [if_pos hn]
      refine (rnoteTimes_off b k s n w hn).mono ?_
      rintro e w' ⟨rfl, hb⟩
      exact ⟨rfl, lfp b v, ⟨b, v, rfl, rfl, hl.keep (Only.nothing hb) (fun _ _ h => h)⟩, Only.of_below hb _, fun x hx => .inl hx⟩
    · rw [if_neg hn]
      obtain ⟨b1, b2⟩ := hb rs rfl
      refine (rnoteTimes_any b v rs k s n w hl (by omega) b1 b2).mono ?_
      rintro e w' ⟨rfl, v', h1, h2, h3⟩
      refine ⟨rfl, lfp b v', ⟨b, v', rfl, rfl, h1⟩, h2, fun x hx => ?_⟩
      rcases hx with hx | hx
      · exact .inl (.inl hx)
      · exact (h3 x hx).imp .inr id
section
variable {w0 w : World} {obs : List Ob}
theorem newR_env' (h : Env w0 w obs) : Calls Try.prog 23 #[] w fun e w' => ∃ b : Nat, e = .returned (.pointer (some ⟨b, 0, none⟩)) ∧ Env w0 w' (obs ++ [obR (.pointer (some ⟨b, 0, none⟩)) (some [])]) :=
  (newR_any w).mono fun e w' ⟨he, h1, h2⟩ => ⟨_, he, h.pushR h1 h2⟩
theorem newP_envB (h : Env w0 w obs) : Calls Try.prog 14 #[] w fun e w' => ∃ b : Nat, e = .returned (.pointer (some ⟨b, 0, none⟩)) ∧ Env w0 w' (obs ++ [obP (.pointer (some ⟨b, 0, none⟩)) (some [])]) :=
  (newP_any w).mono fun e w' ⟨he, h1, h2⟩ => ⟨_, he, h.pushP h1 h2⟩
theorem noteR_env' (h : Env w0 w obs) (i : Nat) {p : Value} {o : Option (List Rn)} (hi : obs[i]? = some (obR p o)) (k s : Int) (hb : Room o 1) :
    Calls Try.prog 57 #[p, .agg #[.int .u8 k, .int .i64 s]] w fun e w' => e = .returned (.tuple #[]) ∧ Env w0 w' (obs.set i (obR p (noteO o k s 1))) := by
  obtain ⟨F, f1, _, f4⟩ := h.lgR i hi
  exact (gnoteR_any p F o k s w f1 hb).mono fun e w' ⟨he, h1⟩ => ⟨he, f4 w' _ h1⟩
theorem timesR_env (h : Env w0 w obs) (i : Nat) {p : Value} {o : Option (List Rn)} (hi : obs[i]? = some (obR p o)) (k s n : Int) (hb : Room o n) :
    Calls Try.prog 62 #[p, .agg #[.int .u8 k, .int .i64 s], .int .i64 n] w fun e w' => e = .returned (.tuple #[]) ∧ Env w0 w' (obs.set i (obR p (timesO o k s n))) := by
  obtain ⟨F, f1, _, f4⟩ := h.lgR i hi
  exact (gtimesR_any p F o k s n w f1 hb).mono fun e w' ⟨he, h1⟩ => ⟨he, f4 w' _ h1⟩
theorem runsR_env' (h : Env w0 w obs) (i : Nat) {p : Value} {rs : List Rn} (hi : obs[i]? = some (obR p (some rs))) (hl : rs.length ≤ 5497558138880) :
    Calls Try.prog 27 #[p] w fun e w' => ∃ v, e = .returned v ∧ Env w0 w' (obs ++ [obRuns v rs]) := by
  obtain ⟨F, f1, _⟩ := h.lgR i hi
  obtain ⟨b, v, rfl, rfl, f2⟩ := f1
  exact (runsR_any b v rs w f2 hl).mono fun e w' ⟨v, he, h1, h2, h3⟩ => ⟨v, he, h.pushRuns h1 h2 h3⟩
end
end Go.Proofs.Ytihmgkjmebdioaa
/- The contracts of package aes: KeyLen, Form, Clone, Wipe. -/
namespace Go.Proofs.Ytihmgkjmebdioaa
open Go.RowKit
set_option maxRecDepth 100000
set_option linter.unusedVariables false
set_option linter.unusedSimpArgs false
set_option linter.unusedSimpArgs false

theorem keyLen_any (b k : Nat) (K : List UInt8) (w : World) (h : CipAt w b k K) : Calls Try.prog 20 #[.pointer (some ⟨b, 0, none⟩)] w fun e w' => e = .returned (.int .i64 (k : Int)) ∧ w = w' := by
  have H := Lib.hid h
  have c0 := h.key
  have hb := h.lt
  clear h
  go_enter Try.func20, Try.ntmps20
  go_wp2_with fail
  refine (cmade_any b k K w H.out).mono ?_
  rintro e w' ⟨he, rfl⟩
  by_cases hk : 0 < k
  · rw [show decide (0 < k) = true from by simpa using hk] at he
    subst he
    go_wp2
    go_ret
    exact ⟨rfl, rfl⟩
  · obtain rfl : k = 0 := by omega
    rw [show decide (0 < 0) = false from rfl] at he
    subst he
    go_wp2
    go_ret
    exact ⟨rfl, rfl⟩
theorem keyLen_nil (w : World) : Calls Try.prog 20 #[.pointer none] w fun e w' => e = .returned (.int .i64 0) ∧ w = w' := by
  go_enter Try.func20, Try.ntmps20
  go_wp2_with fail
  refine (cmade_nil w).mono ?_
  rintro e w' ⟨rfl, rfl⟩
  go_wp2
  go_ret
  exact ⟨rfl, rfl⟩
theorem size241 : (Try.prog.info? 68).map (·.size) = some 241 := by kernel_rfl
theorem zero241 (w : World) : (zeroValue 68).run Try.prog w = .ok (.agg (cipC 0 (List.replicate 240 0))) w := by kernel_rfl
theorem cipC241 (k : Nat) (K : List UInt8) (h : K.length = 240) : (cipC k K).size = 241 := by rw [cipC_size, h]
theorem clone_no (p : Value) (w : World) (hm : Calls Try.prog 32 #[p] w fun e w' => e = .returned (.bool false) ∧ w = w') :
    Calls Try.prog 11 #[p] w fun e w' => e = .returned (.tuple #[.pointer none, .int .i64 1]) ∧ w = w' := by
  have HM := Lib.hid hm
  clear hm
  go_enter Try.func11, Try.ntmps11
  go_wp2_with fail
  refine HM.out.mono ?_
  rintro e w' ⟨rfl, rfl⟩
  go_wp2
  go_ret2
  exact ⟨rfl, rfl⟩
set_option maxHeartbeats 1000000 in
theorem clone_any (b k : Nat) (K : List UInt8) (w : World) (h : CipAt w b k K) (hk : 0 < k) :
    Calls Try.prog 11 #[.pointer (some ⟨b, 0, none⟩)] w fun e w' => e = .returned (.tuple #[.pointer (some ⟨w.heap.size, 0, none⟩), .int .i64 0]) ∧ CipAt w' w.heap.size k K ∧ Below w.heap.size w w' := by
  have H := Lib.hid h
  have hb := h.lt
  have hs := cipC241 k K h.2
  have hone := cipC_one k K
  have hz := zero241
  have hzs := cipC241 0 (List.replicate 240 0) (by simp)
  obtain ⟨C, hC⟩ : ∃ C, C = cipC k K := ⟨_, rfl⟩
  rw [← hC] at hs hone
  have HC := Lib.hid hC
  have G : Hid (Blk w b 68 C) := by rw [hC]; exact Lib.hid h.1
  clear hC
  generalize hZ : cipC 0 (List.replicate 240 0) = Z at hz hzs
  clear hZ h
  go_enter Try.func11, Try.ntmps11
  go_wp2_with fail
  refine (cmade_any b k K w H.out).mono ?_
  rintro e w' ⟨he, rfl⟩
  rw [show decide (0 < k) = true from by simpa using hk] at he
  subst he
  have b1 : Blk (w.alloc (.cells Z 68)) w.heap.size 68 Z := Blk.new _ _ _
  go_wp2_with (first | ((with_reducible change wpList _ _ _ (Oper.mk _ (Op.load 68 _) _ _ _ _ :: _) _ _); refine wpList_load_blk (ty := 68) b rfl G.out Try.underlying68 rfl size241 hs ?_) | ((with_reducible change wpList _ _ _ (Oper.mk _ (Op.store 68 _ _) _ _ _ _ :: _) _ _); refine wpList_store_blk (ty := 68) w.heap.size C rfl rfl b1 size241 hs hzs hone ?_))
  go_ret2
  refine ⟨rfl, ⟨?_, H.out.2⟩, below_row ((Below.refl _ _).alloc (Nat.le_refl _) _) (Nat.le_refl _) _⟩
  rw [← HC.out]
  exact b1.row _
set_option maxHeartbeats 1000000 in
theorem wipe_no (p q : Value) (w : World) (hm : Calls Try.prog 32 #[p] w fun e w' => e = .returned (.bool false) ∧ w = w') :
    Calls Try.prog 15 #[p, q] w fun e w' => e = .returned (.int .i64 1) ∧ w = w' := by
  have HM := Lib.hid hm
  clear hm
  go_enter Try.func15, Try.ntmps15
  go_wp2_with fail
  refine HM.out.mono ?_
  rintro e w' ⟨rfl, rfl⟩
  go_wp2
  go_ret
  exact ⟨rfl, rfl⟩
def zeroK : List UInt8 := List.replicate 240 0
theorem zeroK_len : zeroK.length = 240 := by simp [zeroK]
set_option maxHeartbeats 1000000 in
theorem cwipe_any (b k : Nat) (K : List UInt8) (q : Value) (G : Nat → Prop) (o : Option (List Rn)) (w : World) (h : CipAt w b k K) (hk0 : 0 < k) (hk : k ≤ 32) (hq : LgP w q G o) (hr : Room o 1) (hG : ¬ G b) :
    Calls Try.prog 15 #[.pointer (some ⟨b, 0, none⟩), q] w fun e w' => e = .returned (.int .i64 0) ∧ ∃ w1, LaidP q G (noteO o 8 ((16 * (k / 4 + 6 + 1) : Nat) : Int) 1) w w1 ∧ CipAt w' b 0 zeroK ∧ Only (fun x => x = b) w1 w' := by
  have H := Lib.hid h
  have HQ := Lib.hid hq
  obtain ⟨R, hR⟩ : ∃ R, k / 4 + 6 = R := ⟨_, rfl⟩
  have hR14 : R ≤ 14 := by omega
  have hz := zero241
  have hzs := cipC241 0 (List.replicate 240 0) (by simp)
  have hzo := cipC_one 0 (List.replicate 240 0)
  obtain ⟨Z, hZ⟩ : ∃ Z, Z = cipC 0 (List.replicate 240 0) := ⟨_, rfl⟩
  rw [← hZ] at hz hzs hzo
  have HZ := Lib.hid hZ
  have hs := cipC241 k K h.2
  have hmul : 16 * ((R : Int) + 1) = ((16 * (R + 1) : Nat) : Int) := by omega
  have HMUL := Lib.hid hmul
  have HR := Lib.hid hR
  have hne : ¬ Z = #[] := by intro hh; rw [hh] at hzs; simp at hzs
  clear h hq hZ hR hmul
  go_enter Try.func15, Try.ntmps15
  go_wp2_with fail
  refine (cmade_any b k K w H.out).mono ?_
  rintro e w' ⟨he, rfl⟩
  rw [show decide (0 < k) = true from by simpa using hk0] at he
  subst he
  go_wp2_with fail
  refine (rounds_any b k K w H.out hk).mono ?_
  rintro e w' ⟨he, rfl⟩
  rw [HR.out] at he
  subst he
  go_wp2_with fail
  refine (gnoteP_any q G o 8 (16 * ((R : Int) + 1)) w HQ.out hr).mono ?_
  rintro e w2 ⟨rfl, hl⟩
  have HL := Lib.hid hl
  have H2 := Lib.hid (H.out.only hl.only hG)
  have hb2 := H2.out.lt
  clear hl
  go_wp2_with ((with_reducible change wpList _ _ _ (Oper.mk _ (Op.store 68 _ _) _ _ _ _ :: _) _ _); refine wpList_store_blk (ty := 68) b Z rfl rfl H2.out.1 size241 hzs hs hzo ?_)
  go_ret
  refine ⟨rfl, w2, ?_, ⟨?_, zeroK_len⟩, Only.row (S := fun x => x = b) (Only.refl _ _) (.inl rfl) _⟩
  · rw [HR.out, ← HMUL.out]
    exact HL.out
  · have := H2.out.1.row Z
    rw [HZ.out] at this ⊢
    exact this
theorem form_no (p : Value) (w : World) (hm : Calls Try.prog 32 #[p] w fun e w' => e = .returned (.bool false) ∧ w = w') :
    Calls Try.prog 12 #[p] w fun e w' => e = .returned (.slice none 0 0) ∧ w = w' := by
  have HM := Lib.hid hm
  clear hm
  go_enter Try.func12, Try.ntmps12
  go_wp2_with fail
  refine HM.out.mono ?_
  rintro e w' ⟨rfl, rfl⟩
  go_wp2
  go_ret
  exact ⟨rfl, rfl⟩
set_option maxHeartbeats 2000000 in
theorem form_any (b k : Nat) (K : List UInt8) (w : World) (h : CipAt w b k K) (hk0 : 0 < k) (hk : k ≤ 32) :
    Calls Try.prog 12 #[.pointer (some ⟨b, 0, none⟩)] w (NewBytes (K.take (16 * (k / 4 + 6 + 1))) w) := by
  have H := Lib.hid h
  obtain ⟨R, hR⟩ : ∃ R, k / 4 + 6 = R := ⟨_, rfl⟩
  have hR14 : R ≤ 14 := by omega
  rw [hR]
  have HR := Lib.hid hR
  have hKl := h.2
  have hb := h.lt
  clear h hR
  go_enter Try.func12, Try.ntmps12
  go_wp2_with fail
  refine (cmade_any b k K w H.out).mono ?_
  rintro e w' ⟨he, rfl⟩
  rw [show decide (0 < k) = true from by simpa using hk0] at he
  subst he
  have hsl : ∀ w', (Instr.sliceAt 66 (.pointer (some ⟨b, 1, none⟩)) none (some (.int .i64 ((R : Int) + 1))) none).run Try.prog w' = .ok (.slice (some ⟨b, 1, none⟩) (R + 1) 15) w' := fun w' => by
    have hal : Try.prog.arrayLen 66 = 15 := by kernel_rfl
    rw [run_sliceAt_array_h w' 66 ⟨b, 1, none⟩ (by simp [Program.arrayLen, Program.elem, Try.underlying66]) .i64 ((R : Int) + 1) (by omega) (by rw [hal]; omega)]
    have hsz : (sizeOf (Try.prog.elem 66)).run Try.prog w' = .ok 16 w' := by kernel_rfl
    rw [hsz, Result.andThen_ok, hal]
    unfold slicedAt
    rw [if_neg (by omega), add_lit, show ((R : Int) + 1).toNat = R + 1 from by omega]
    simp
  have hW1 : IntKind.i64.wrap ((R : Int) + 1) = (R : Int) + 1 := IntWalk.i64_in _ (by omega)
  go_wp2_with fail
  refine wp_region_script [(0, true), (1, true), (2, true), (3, true), (8, true), (4, false), (5, true), (6, true), (7, true)] (by kernel_rfl) (by kernel_rfl) (fun _ _ d _ _ h => (by cases d <;> exact h)) ?_
  intro w5 hw'
  refine scr_pure (v := ?_) rfl rfl (fun w' => ?_) ?_
  rotate_left
  focus (go_simp; try rfl; done)
  simp only [List.getElem_toArray, List.getElem_cons_succ, List.getElem_cons_zero, Act.put, List.setIfInBounds_toArray, List.set_cons_zero, List.set_cons_succ]
  refine scr_pure (v := ?_) rfl rfl (fun w' => ?_) ?_
  rotate_left
  focus (go_simp; try rfl; done)
  simp only [List.getElem_toArray, List.getElem_cons_succ, List.getElem_cons_zero, Act.put, List.setIfInBounds_toArray, List.set_cons_zero, List.set_cons_succ]
  refine scr_pure (v := ?_) rfl rfl (fun w' => ?_) ?_
  rotate_left
  focus (go_simp; try rfl; done)
  simp only [List.getElem_toArray, List.getElem_cons_succ, List.getElem_cons_zero, Act.put, List.setIfInBounds_toArray, List.set_cons_zero, List.set_cons_succ]
  refine scr_pure (v := ?_) rfl rfl (fun w' => ?_) ?_
  rotate_left
  focus (go_simp; try rfl; done)
  simp only [List.getElem_toArray, List.getElem_cons_succ, List.getElem_cons_zero, Act.put, List.setIfInBounds_toArray, List.set_cons_zero, List.set_cons_succ]
  refine scr_pure (v := ?_) rfl rfl (fun w' => ?_) ?_
  rotate_left
  focus (go_simp; try rfl; done)
  simp only [List.getElem_toArray, List.getElem_cons_succ, List.getElem_cons_zero, Act.put, List.setIfInBounds_toArray, List.set_cons_zero, List.set_cons_succ]
  have H5 : Hid (CipAt w5 b k K) := by rw [hw']; exact Lib.hid (H.out.below (drew_below w 1))
  have hb5 : Hid (Below w.heap.size w w5) := by rw [hw']; exact Lib.hid (drew_below w 1)
  clear hw'
  refine scr_call rfl rfl (by go_simp; first | exact ⟨rfl, rfl⟩ | rfl) ?_
  refine (rounds_any b k K w5 H5.out hk).mono ?_
  rintro e w6 ⟨he, hww⟩
  rw [HR.out] at he
  subst he
  subst hww
  refine ⟨_, rfl, ?_⟩
  simp only [List.getElem_toArray, List.getElem_cons_succ, List.getElem_cons_zero, Act.put, List.setIfInBounds_toArray, List.set_cons_zero, List.set_cons_succ]
  refine scr_pure (v := ?_) rfl rfl (fun w' => ?_) ?_
  rotate_left
  focus (go_simp; try rfl; done)
  simp only [List.getElem_toArray, List.getElem_cons_succ, List.getElem_cons_zero, Act.put, List.setIfInBounds_toArray, List.set_cons_zero, List.set_cons_succ]
  refine scr_pure (v := ?_) rfl rfl (fun w' => ?_) ?_
  rotate_left
  focus (go_simp; try rfl; done)
  simp only [List.getElem_toArray, List.getElem_cons_succ, List.getElem_cons_zero, Act.put, List.setIfInBounds_toArray, List.set_cons_zero, List.set_cons_succ]
  refine scr_pure (v := ?_) rfl rfl (fun w' => ?_) ?_
  rotate_left
  focus (go_simp; try rfl; done)
  simp only [List.getElem_toArray, List.getElem_cons_succ, List.getElem_cons_zero, Act.put, List.setIfInBounds_toArray, List.set_cons_zero, List.set_cons_succ]
  unfold wpScript
  go_wp2_with fail
  go_loopw [3, 17] (fun v i w1 => ∃ j : Nat, j ≤ R + 1 ∧ i = .int .i64 (j : Int) ∧ Hid (OB w1 v (K.take (16 * j)) ∧ Below w.heap.size w w1 ∧ (∀ x, fpv v x → w.heap.size ≤ x))) (fun _ i _ => R + 1 - (intOf i).toNat)
  case atStart => exact ⟨0, by omega, rfl, Lib.hid ⟨by rw [show 16 * 0 = 0 from rfl, List.take_zero]; exact OB.nil w5, hb5.out, fun x hx => by simp [fpv, Value.ownBlock] at hx⟩⟩
  case round =>
    obtain ⟨j, hj, rfl, HV⟩ := hrel
    by_cases hlt : j < R + 1
    · have HC := Lib.hid (H.out.below HV.out.2.1)
      obtain ⟨X, hX⟩ : ∃ X, X = (K.drop (16 * j)).take 16 := ⟨_, rfl⟩
      have hXl : X.length = 16 := by rw [hX]; simp; omega
      have rng := HC.out.round j (by omega)
      rw [← hX] at rng
      have RNG := Lib.hid rng
      have hXm : (X.map B).length = 16 := by rw [List.length_map]; exact hXl
      have hXs : (barr X).size = 16 := by rw [barr_size]; exact hXl
      have hz16 : (barr (List.replicate 16 (0 : UInt8))).size = 16 := by rw [barr_size]; rfl
      have b0 : Blk (wr.alloc (.cells (barr (List.replicate 16 0)) 31)) wr.heap.size 31 (barr (List.replicate 16 0)) := Blk.new _ _ _
      have hKt : (K.take (16 * j)).length = 16 * j := by rw [List.length_take]; omega
      have HX := Lib.hid hX
      clear rng hX
      obtain ⟨i0, hi, hz0, hz1, hz2⟩ := info_parts info8
      have hsl2 : ∀ w', (Instr.sliceAt 31 (.pointer (some ⟨wr.heap.size, 0, none⟩)) none none none).run Try.prog w' = .ok (.slice (some ⟨wr.heap.size, 0, none⟩) 16 16) w' := fun w' => by
        have hal : Try.prog.arrayLen 31 = 16 := by kernel_rfl
        rw [run_sliceAt_array_all w' 31 ⟨wr.heap.size, 0, none⟩ (by simp [Program.arrayLen, Program.elem, Try.underlying31])]
        have hsz : (sizeOf (Try.prog.elem 31)).run Try.prog w' = .ok 1 w' := by kernel_rfl
        rw [hsz, Result.andThen_ok, hal]
        unfold slicedAt
        rw [if_neg (by omega), add_lit]
      obtain ⟨v, hv⟩ : ∃ v, v = u3 := ⟨_, rfl⟩
      go_wp2_with (first | ((with_reducible change wpList _ _ _ (Oper.mk _ (Op.load 31 _) _ _ _ _ :: _) _ _); refine wpList_load_mid rfl 31 _ rfl b (1 + j * 16) rfl (X.map B) _ RNG.out Try.underlying31 rfl (size16.trans (by rw [hXm])) ?_) | ((with_reducible change wpList _ _ _ (Oper.mk _ (Op.store 31 _ _) _ _ _ _ :: _) _ _); refine wpList_store_var wr.heap.size (barr X) rfl rfl b0 size16 hXs hz16 (barr_one _) ?_; intro w3 B3 O3; have HB3 := Lib.hid B3; have O4 := Lib.hid O3; clear B3 O3; have hown3 : w3.ownsRow 0 5 1 u3 (16 * j) ((K.take (16 * j)).map B) := (by have h := (HV.out.1.keep ((Only.refl (fun _ => False) wr).alloc (.cells (barr (List.replicate 16 0)) 31)) (fun _ _ h => h)).keep O4.out (fun x hx hh => by have := HV.out.1.lt x hx; omega); unfold OB at h; rw [hKt] at h; exact h); have hy3 : Sl w3 1 (.slice (some ⟨wr.heap.size, 0, none⟩) 16 16) 16 (X.map B) := (by have h := (HB3.out.owns (by omega)).rd; rw [hXl] at h; have h2 := Sl.of_bytes h; rw [hXl] at h2; exact h2)) | (at_builtin; refine wpList_append_sl w3 rfl _ _ 22 rfl 5 i0 _ 1 1 Try.underlying22 hi hz0 hz1 hz2 rfl (by decide) u3 (16 * j) ((K.take (16 * j)).map B) rfl hown3 (.slice (some ⟨wr.heap.size, 0, none⟩) 16 16) 16 (X.map B) rfl hy3 (by unfold maxLen; omega) (by omega) ?_))
      intro v' w4 hown hgrow hat _
      have hb3 : Below w.heap.size w w3 := (HV.out.2.1.alloc HV.out.2.1.size _).trans (O4.out.below0 (fun x hx hh => by have := HV.out.2.1.size; omega) (by have := HV.out.2.1.size; simp; omega))
      have HN : Hid (OB w4 v' (K.take (16 * (j + 1))) ∧ Below w.heap.size w w4 ∧ (∀ x, fpv v' x → w.heap.size ≤ x)) := by
        refine Lib.hid ⟨?_, hb3.grown hgrow hb3.size (fun x hx => HV.out.2.2 x hx), fun x hx => ?_⟩
        · unfold OB
          rw [show 16 * (j + 1) = 16 * j + 16 from by omega, List.take_add, ← HX.out, List.length_append, hKt, hXl, List.map_append]
          rw [← List.map_take] at hown
          exact hown
        · have hx' : v'.ownBlock = some x := hx
          rcases hat with hat | hat
          · exact HV.out.2.2 x (show u3.ownBlock = some x by rw [← hat]; exact hx')
          · rw [hat] at hx'
            have := hb3.size
            simp at hx'
            omega
      clear hown hgrow hat hb3 hown3 hy3 hi hz0 hz1 hz2
      go_wp2
      go_roundw
      case rel => exact ⟨j + 1, by omega, by go_num, HN⟩
      case measure => simp [intOf]; omega
    · obtain rfl : j = R + 1 := by omega
      go_wp2
      go_ret
      exact ⟨_, rfl, HV.out.1, HV.out.2.1, HV.out.2.2⟩
end Go.Proofs.Ytihmgkjmebdioaa
/- The contract of Ledger.Reset; runs that are written in the text. -/
namespace Go.Proofs.Ytihmgkjmebdioaa
open Go.RowKit
set_option maxRecDepth 100000
set_option linter.unusedVariables false

theorem Env.litRuns {w0 w : World} {obs : List Ob} (h : Env w0 w obs) (g : Nat) (hg : g = w.heap.size) (rs : List Rn) (hl : rs.length ≤ 1000) :
    Env w0 (w.alloc (.cells (flatR rs).toArray 44)) (obs ++ [obRuns (.slice (some ⟨g, 0, none⟩) rs.length rs.length) rs]) := by
  subst hg
  refine h.pushRuns ?_ ((Below.refl _ _).alloc (Nat.le_refl _) _) (fun x hx => ?_)
  · have := World.ownsRow_lit (base := 0) (e := 44) (size := 3) w (flatR rs).toArray rs.length (Nat.zero_le _) (by unfold maxLen; omega) (by simp [flatR_length])
    simpa [RunsAt] using this
  · have e : w.heap.size = x := by simpa [fp, Value.ownBlock] using hx
    omega
end Go.Proofs.Ytihmgkjmebdioaa
/- Ciphers as things of a law's world; the contracts of package aes over it. -/
namespace Go.Proofs.Ytihmgkjmebdioaa
open Go.RowKit
set_option maxRecDepth 100000
set_option linter.unusedVariables false
set_option linter.unusedSimpArgs false

abbrev Cst := Option (Nat × List UInt8)
def CipP (w : World) (p : Value) (F : Nat → Prop) : Cst → Prop
  | none => p = .pointer none ∧ F = fun _ => False
  | some (k, K) => ∃ b, p = .pointer (some ⟨b, 0, none⟩) ∧ F = (fun x => x = b) ∧ CipAt w b k K ∧ k ≤ 32
theorem CipP.keep {w w' : World} {p : Value} {F S : Nat → Prop} {c : Cst} (h : CipP w p F c) (ho : Only S w w') (hd : ∀ x, F x → ¬ S x) : CipP w' p F c := by
  match c, h with
  | none, h => exact h
  | some (k, K), ⟨b, h1, h2, h3, h4⟩ => exact ⟨b, h1, h2, h3.only ho (hd b (by rw [h2])), h4⟩
theorem CipP.lt {w : World} {p : Value} {F : Nat → Prop} {c : Cst} (h : CipP w p F c) : ∀ x, F x → x < w.heap.size := by
  match c, h with
  | none, ⟨_, h2⟩ => rw [h2]; exact fun _ h => h.elim
  | some (k, K), ⟨b, h1, h2, h3, h4⟩ => rw [h2]; rintro x rfl; exact h3.lt
def obC (p : Value) (c : Cst) : Ob := ⟨fun w F => CipP w p F c, fun h ho hd => h.keep ho hd, fun h => h.lt⟩
def madeC : Cst → Bool
  | some (k, _) => decide (0 < k)
  | none => false
theorem CipP.made {w : World} {p : Value} {F : Nat → Prop} {c : Cst} (h : CipP w p F c) : Calls Try.prog 32 #[p] w fun e w' => e = .returned (.bool (madeC c)) ∧ w = w' := by
  match c, h with
  | none, ⟨h1, _⟩ => subst h1; exact cmade_nil w
  | some (k, K), ⟨b, h1, _, h3, _⟩ => subst h1; exact cmade_any b k K w h3
section
variable {w0 w : World} {obs : List Ob}
theorem Env.cip (h : Env w0 w obs) (i : Nat) {p : Value} {c : Cst} (hi : obs[i]? = some (obC p c)) : ∃ F, CipP w p F c := by
  obtain ⟨F, h1, _⟩ := h.get i hi
  exact ⟨F, h1⟩
/-! ### what is none -/
theorem encC_no (h : Env w0 w obs) (i : Nat) {p q : Value} {c : Cst} (hi : obs[i]? = some (obC p c)) (hc : madeC c = false) (l : List UInt8) :
    Calls Try.prog 13 #[p, q, .agg (barr l)] w fun e w' => e = .returned (.tuple #[.agg (barr (List.replicate 16 0)), .int .i64 1]) ∧ Env w0 w' obs := by
  obtain ⟨F, f1⟩ := h.cip i hi
  refine (encrypt_no p q l w (fun w' hb => ?_)).mono fun e w' ⟨he, hb⟩ => ⟨he, h.below hb⟩
  have := (f1.keep (Only.nothing hb) (fun _ _ h => h)).made
  rwa [hc] at this
theorem decC_no (h : Env w0 w obs) (i : Nat) {p q : Value} {c : Cst} (hi : obs[i]? = some (obC p c)) (hc : madeC c = false) (l : List UInt8) :
    Calls Try.prog 18 #[p, q, .agg (barr l)] w fun e w' => e = .returned (.tuple #[.agg (barr (List.replicate 16 0)), .int .i64 1]) ∧ Env w0 w' obs := by
  obtain ⟨F, f1⟩ := h.cip i hi
  refine (decrypt_no p q l w (fun w' hb => ?_)).mono fun e w' ⟨he, hb⟩ => ⟨he, h.below hb⟩
  have := (f1.keep (Only.nothing hb) (fun _ _ h => h)).made
  rwa [hc] at this
theorem cloneC_no (h : Env w0 w obs) (i : Nat) {p : Value} {c : Cst} (hi : obs[i]? = some (obC p c)) (hc : madeC c = false) :
    Calls Try.prog 11 #[p] w fun e w' => e = .returned (.tuple #[.pointer none, .int .i64 1]) ∧ w = w' := by
  obtain ⟨F, f1⟩ := h.cip i hi
  have := f1.made
  rw [hc] at this
  exact clone_no p w this
theorem wipeC_no (h : Env w0 w obs) (i : Nat) {p q : Value} {c : Cst} (hi : obs[i]? = some (obC p c)) (hc : madeC c = false) :
    Calls Try.prog 15 #[p, q] w fun e w' => e = .returned (.int .i64 1) ∧ w = w' := by
  obtain ⟨F, f1⟩ := h.cip i hi
  have := f1.made
  rw [hc] at this
  exact wipe_no p q w this
theorem formC_no (h : Env w0 w obs) (i : Nat) {p : Value} {c : Cst} (hi : obs[i]? = some (obC p c)) (hc : madeC c = false) :
    Calls Try.prog 12 #[p] w fun e w' => e = .returned (.slice none 0 0) ∧ w = w' := by
  obtain ⟨F, f1⟩ := h.cip i hi
  have := f1.made
  rw [hc] at this
  exact form_no p w this
def lenC : Cst → Nat
  | some (k, _) => k
  | none => 0
theorem lenC_env (h : Env w0 w obs) (i : Nat) {p : Value} {c : Cst} (hi : obs[i]? = some (obC p c)) :
    Calls Try.prog 20 #[p] w fun e w' => e = .returned (.int .i64 (lenC c : Int)) ∧ w = w' := by
  obtain ⟨F, f1⟩ := h.cip i hi
  match c, f1 with
  | none, ⟨h1, _⟩ => subst h1; exact keyLen_nil w
  | some (k, K), ⟨b, h1, _, h3, _⟩ => subst h1; exact keyLen_any b k K w h3
/-! ### what is made -/
theorem encC_env (h : Env w0 w obs) (i j : Nat) (hij : i ≠ j) {p q : Value} {k : Nat} {K : List UInt8} {o : Option (List Rn)} (hi : obs[i]? = some (obC p (some (k, K)))) (hj : obs[j]? = some (obP q o)) (hb : Room o 1) (hk : 0 < k) (l : List UInt8) (hl : l.length = 16) :
    Calls Try.prog 13 #[p, q, .agg (barr l)] w fun e w' => e = .returned (.tuple #[.agg (barr (enc K (k / 4 + 6) l)), .int .i64 0]) ∧ Env w0 w' (obs.set j (obP q (noteO o 5 k 1))) := by
  obtain ⟨G, g1, g2, g3, g4⟩ := h.get j hj
  obtain ⟨F, ⟨b, rfl, rfl, f3, f4⟩, f5⟩ := g3 i _ hij hi
  exact (encrypt_any b k K l q G o w f3 hl hk f4 g1 hb (f5 b rfl)).mono fun e w' ⟨he, F', h1, h2, h3⟩ => ⟨he, g4 w' F' (obP q _) h1 h2 h3⟩
theorem decC_env (h : Env w0 w obs) (i j : Nat) (hij : i ≠ j) {p q : Value} {k : Nat} {K : List UInt8} {o : Option (List Rn)} (hi : obs[i]? = some (obC p (some (k, K)))) (hj : obs[j]? = some (obP q o)) (hb : Room o 1) (hk : 0 < k) (l : List UInt8) (hl : l.length = 16) :
    Calls Try.prog 18 #[p, q, .agg (barr l)] w fun e w' => e = .returned (.tuple #[.agg (barr (dec K (k / 4 + 6) l)), .int .i64 0]) ∧ Env w0 w' (obs.set j (obP q (noteO o 5 k 1))) := by
  obtain ⟨G, g1, g2, g3, g4⟩ := h.get j hj
  obtain ⟨F, ⟨b, rfl, rfl, f3, f4⟩, f5⟩ := g3 i _ hij hi
  exact (decrypt_any b k K l q G o w f3 hl hk f4 g1 hb (f5 b rfl)).mono fun e w' ⟨he, F', h1, h2, h3⟩ => ⟨he, g4 w' F' (obP q _) h1 h2 h3⟩
theorem encC_nil (h : Env w0 w obs) (i : Nat) {p : Value} {k : Nat} {K : List UInt8} (hi : obs[i]? = some (obC p (some (k, K)))) (hk : 0 < k) (l : List UInt8) (hl : l.length = 16) :
    Calls Try.prog 13 #[p, .pointer none, .agg (barr l)] w fun e w' => e = .returned (.tuple #[.agg (barr (enc K (k / 4 + 6) l)), .int .i64 0]) ∧ Env w0 w' obs := by
  obtain ⟨F, b, rfl, rfl, f3, f4⟩ := h.cip i hi
  exact (encrypt_any b k K l _ (fun _ => False) none w f3 hl hk f4 (LgP.nil w) (Room.none 1) (fun h => h)).mono fun e w' ⟨he, h1⟩ => ⟨he, h.below h1.nothing⟩
theorem formC_env (h : Env w0 w obs) (i : Nat) {p : Value} {k : Nat} {K : List UInt8} (hi : obs[i]? = some (obC p (some (k, K)))) (hk : 0 < k) :
    Calls Try.prog 12 #[p] w fun e w' => ∃ v, e = .returned v ∧ Env w0 w' (obs ++ [obB v (K.take (16 * (k / 4 + 6 + 1)))]) := by
  obtain ⟨F, b, rfl, rfl, f3, f4⟩ := h.cip i hi
  exact (form_any b k K w f3 hk f4).mono fun e w' ⟨v, he, h1, h2, h3⟩ => ⟨v, he, h.pushB h1 h2 h3⟩
theorem cloneC_env (h : Env w0 w obs) (i : Nat) {p : Value} {k : Nat} {K : List UInt8} (hi : obs[i]? = some (obC p (some (k, K)))) (hk : 0 < k) :
    Calls Try.prog 11 #[p] w fun e w' => ∃ b : Nat, e = .returned (.tuple #[.pointer (some ⟨b, 0, none⟩), .int .i64 0]) ∧ Env w0 w' (obs ++ [obC (.pointer (some ⟨b, 0, none⟩)) (some (k, K))]) := by
  obtain ⟨F, b, rfl, rfl, f3, f4⟩ := h.cip i hi
  exact (clone_any b k K w f3 hk).mono fun e w' ⟨he, h1, h2⟩ => ⟨_, he, h.push (F' := fun x => x = w.heap.size) (obC _ (some (k, K))) ⟨_, rfl, rfl, h1, f4⟩ h2 (fun x hx => by rw [hx]; exact Nat.le_refl _)⟩
theorem wipeC_env (h : Env w0 w obs) (i j : Nat) (hij : i ≠ j) {p q : Value} {k : Nat} {K : List UInt8} {o : Option (List Rn)} (hi : obs[i]? = some (obC p (some (k, K)))) (hj : obs[j]? = some (obP q o)) (hb : Room o 1) (hk : 0 < k) :
    Calls Try.prog 15 #[p, q] w fun e w' => e = .returned (.int .i64 0) ∧ Env w0 w' ((obs.set i (obC p (some (0, zeroK)))).set j (obP q (noteO o 8 ((16 * (k / 4 + 6 + 1) : Nat) : Int) 1))) := by
  obtain ⟨F, G, ⟨b, rfl, rfl, f3, f4⟩, g1, f6, g6, fg, hup⟩ := h.get2 i j hij hi hj
  have hbw := f3.lt
  refine (cwipe_any b k K q G o w f3 hk f4 g1 hb (fg b rfl)).mono fun e w' ⟨he, w1, ⟨F', h1, h2, h3⟩, h4, h5⟩ => ⟨he, hup w' (fun x => x = b) F' _ _ ⟨b, rfl, rfl, h4, by omega⟩ (h1.keep h5 (fun x hx hh => ?_)) ?_ (fun x hx => .inl hx) h3 (fun x hx hx2 => ?_)⟩
  · subst hh
    rcases h3 x hx with hh | hh
    · exact fg x rfl hh
    · omega
  · exact (h2.mono (S' := fun x => x = b ∨ G x) (fun x hx => .inr hx)).trans h5 (fun x hx => .inl (.inl hx))
  · subst hx
    rcases h3 x hx2 with hh | hh
    · exact fg x rfl hh
    · omega
theorem wipeC_nil (h : Env w0 w obs) (i : Nat) {p : Value} {k : Nat} {K : List UInt8} (hi : obs[i]? = some (obC p (some (k, K)))) (hk : 0 < k) :
    Calls Try.prog 15 #[p, .pointer none] w fun e w' => e = .returned (.int .i64 0) ∧ Env w0 w' (obs.set i (obC p (some (0, zeroK)))) := by
  obtain ⟨F, ⟨b, rfl, rfl, f3, f4⟩, _, _, g4⟩ := h.get i hi
  refine (cwipe_any b k K _ (fun _ => False) none w f3 hk f4 (LgP.nil w) (Room.none 1) (fun h => h)).mono fun e w' ⟨he, w1, h1, h4, h5⟩ => ⟨he, g4 w' (fun x => x = b) (obC _ (some (0, zeroK))) ⟨b, rfl, rfl, h4, by omega⟩ ?_ (fun x hx => .inl hx)⟩
  exact (Only.of_below h1.nothing (fun x => x = b)).trans h5 (fun x hx => .inl hx)
theorem newC_env (h : Env w0 w obs) (i : Nat) {q : Value} {o : Option (List Rn)} (hi : obs[i]? = some (obP q o)) (hb : Room o 1) {u : Value} {key : List UInt8} (hu : Src w0 w obs i u key) (hk : RightLen key.length) :
    Calls Try.prog 9 #[q, u] w fun e w' => ∃ b : Nat, e = .returned (.tuple #[.pointer (some ⟨b, 0, none⟩), .int .i64 0]) ∧ Env w0 w' (obs.set i (obP q (noteO o 4 key.length 1)) ++ [obC (.pointer (some ⟨b, 0, none⟩)) (some (key.length, sched key))]) := by
  obtain ⟨F, f1, f2, f3, f4⟩ := h.ledP i hi
  refine (newC_any q u F o key w f1 hb hu.1 (hu.apart f2 f3) hk).mono fun e w' ⟨w1, n, h1, he, h2, h3, h4⟩ => ⟨n, he, ?_⟩
  exact (f4 w1 _ h1).push (F' := fun x => x = n) (obC _ (some (key.length, sched key))) ⟨n, rfl, rfl, h2, by rcases hk with h | h | h <;> omega⟩ h3 (fun x hx => by rw [hx]; exact h4)
theorem newC_nil (h : Env w0 w obs) {u : Value} {key : List UInt8} (hu : Bs w u key) (hk : RightLen key.length) :
    Calls Try.prog 9 #[.pointer none, u] w fun e w' => ∃ b : Nat, e = .returned (.tuple #[.pointer (some ⟨b, 0, none⟩), .int .i64 0]) ∧ Env w0 w' (obs ++ [obC (.pointer (some ⟨b, 0, none⟩)) (some (key.length, sched key))]) := by
  refine (newC_any _ u (fun _ => False) none key w (LgP.nil w) (Room.none 1) hu (fun _ _ _ h => h) hk).mono fun e w' ⟨w1, n, h1, he, h2, h3, h4⟩ => ⟨n, he, ?_⟩
  exact (h.below h1.nothing).push (F' := fun x => x = n) (obC _ (some (key.length, sched key))) ⟨n, rfl, rfl, h2, by rcases hk with h | h | h <;> omega⟩ h3 (fun x hx => by rw [hx]; exact h4)
end
end Go.Proofs.Ytihmgkjmebdioaa
/- A store of a whole block within a region that draws its order. No program in sight. -/
namespace Go.Proofs.Ytihmgkjmebdioaa
open Go.RowKit
set_option maxRecDepth 100000
set_option linter.unusedVariables false
set_option linter.unusedSimpArgs false
theorem atApp (obs L : List Ob) (j : Nat) : (obs ++ L)[obs.length + j]? = L[j]? := by rw [List.getElem?_append_right (by omega), Nat.add_sub_cancel_left]
theorem Blk.setPart2 {b : Nat} {t : TypeId} : ∀ (vs mid pre post : List Value) (w : World), vs.length = mid.length → Blk w b t (pre ++ (mid ++ post)).toArray → Blk (w.setCells b pre.length vs) b t (pre ++ (vs ++ post)).toArray
  | [], [], _, _, _, _, h => h
  | [], _ :: _, _, _, _, hl, _ => by simp at hl
  | _ :: _, [], _, _, _, hl, _ => by simp at hl
  | x :: r, y :: mid, pre, post, w, hl, h => by
    rw [World.setCells]
    have h1 := h.set pre.length x
    have e : (pre ++ (y :: mid ++ post)).toArray.setIfInBounds pre.length x = ((pre ++ [x]) ++ (mid ++ post)).toArray := by
      rw [List.setIfInBounds_toArray, List.set_append_right _ _ (Nat.le_refl _), Nat.sub_self]
      simp
    rw [e] at h1
    have h2 := Blk.setPart2 r mid (pre ++ [x]) post _ (by simpa using hl) h1
    rw [show (pre ++ [x]).length = pre.length + 1 from by simp] at h2
    simpa using h2
section
variable {P : Program} {ops : Array Oper} {md : Region.Mode} {Q : Exit → Act → World → Prop} {S : World → Prop} {fuel : Nat} {listed : Array Bool} {a : Act} {w : World} {o : Oper} {i j : Nat} {v : Value}
/-- a store into a block, in a region that draws -/
theorem exec_store_part2 {ty : TypeId} {x y : Operand} {d : Option Tmp} {ot : TypeId} {pos : String} {aft : Array Edge} {gd : Option (Nat × Bool)} (g o : Nat) (cells : Array Value) (hx : a.eval x = .pointer (some ⟨g, o, none⟩)) (hy : a.eval y = .agg cells)
    (ht : w.there g o cells.size) (hi : (P.info? ty).map (·.size) = some cells.size) (h1 : cells.all (·.oneCell') = true) :
    (execOp a.eval ⟨d, .store ty x y, ot, pos, aft, gd⟩).run P w = .ok .skip (w.setCells g o cells.toList) := by
  unfold execOp
  simp only [hx, hy, Instr.storeAt, Instr.sureAddr, Sem.run_bind, Sem.run_pure, Result.andThen_ok, run_storeVar_mid w g o ty cells ht hi h1]
theorem op_store_blk2 {K : Act → World → Prop} {ty : TypeId} {x y : Operand} {d : Option Tmp} {ot : TypeId} {pos : String} {aft : Array Edge} (g : Nat) (cells : Array Value) {bt : TypeId} {old : Array Value} {n : Nat} (ho : ops[i]? = some ⟨d, .store ty x y, ot, pos, aft, none⟩) (hw : Region.wanted ⟨d, .store ty x y, ot, pos, aft, none⟩ (yielded ops a.tmps) = true)
    (hx : a.eval x = .pointer (some ⟨g, 0, none⟩)) (hy : a.eval y = .agg cells) (hg : Blk w g bt old) (hi : (P.info? ty).map (·.size) = some n) (hn : cells.size = n) (hos : old.size = n) (h1 : ∀ v ∈ cells.toList, v.oneCell' = true)
    (kk : ∀ w', Blk w' g bt cells → Only (fun x => x = g) w w' → K (a.put d undef) w') : wpOp P ops Q i K a w := by
  refine op_skip ho hw (exec_store_part2 g 0 cells hx hy (hg.there _ _ (by omega)) (by rw [hi, hn]) (by rw [Array.all_eq_true_iff_forall_mem]; intro v hv; exact h1 v (by simpa using hv))) ?_
  have h := Blk.setPart2 cells.toList old.toList [] [] w (by simp [hn, hos]) (by simpa using hg)
  exact kk _ (by simpa using h) (Only.sets (S := fun x => x = g) (.inl rfl) _ _ _ (Only.refl _ _))
end
end Go.Proofs.Ytihmgkjmebdioaa
/- The document's cipher: two of them, which may share what New made, as ONE thing of a law's world; what its methods answer. -/
namespace Go.Proofs.Ytihmgkjmebdioaa
open Go.RowKit
set_option maxRecDepth 100000
set_option linter.unusedVariables false
set_option linter.unusedSimpArgs false
/-- one of the document's ciphers -/
structure Rc where
  b : Nat
  a : Nat
  g : Nat
  cap : Nat
  ko : Option Addr
  kc : Nat
  made : Bool
  k : Nat
  K : List UInt8
def Rc.v (r : Rc) : Value := .pointer (some ⟨r.b, 0, none⟩)
structure RcP (w : World) (r : Rc) : Prop where
  blk : Blk w r.b 102 #[.slice r.ko r.k r.kc, .bool r.made, .pointer (some ⟨r.a, 0, none⟩)]
  ra : RA w r.a r.g (4 * (r.k / 4 + 7)) r.cap r.K
  n1 : r.b ≠ r.a
  n2 : r.b ≠ r.g
  kl : r.k ≤ 32
  kK : r.K.length = 240
theorem RcP.only {w w' : World} {r : Rc} (h : RcP w r) {S : Nat → Prop} (ho : Only S w w') (hb : ¬ S r.b) (ha : ¬ S r.a) (hg : ¬ S r.g) : RcP w' r :=
  ⟨h.blk.only ho hb, h.ra.only ho ha hg, h.n1, h.n2, h.kl, h.kK⟩
theorem RcP.below {w w' : World} {r : Rc} (h : RcP w r) (hb : Below w.heap.size w w') : RcP w' r := h.only (Only.nothing hb) (fun h => h) (fun h => h) (fun h => h)
/-- a side: none, or a cipher within F -/
def RcO (w : World) (F : Nat → Prop) : Option Rc → Prop
  | none => True
  | some r => RcP w r ∧ F r.b ∧ F r.a ∧ F r.g
def rcV : Option Rc → Value
  | none => .pointer none
  | some r => r.v
def rcMade : Option Rc → Bool
  | none => false
  | some r => r.made
theorem RcO.only {w w' : World} {F S : Nat → Prop} {r : Option Rc} (h : RcO w F r) (ho : Only S w w') (hd : ∀ x, F x → ¬ S x) : RcO w' F r := by
  cases r with
  | none => exact h
  | some r => exact ⟨h.1.only ho (hd _ h.2.1) (hd _ h.2.2.1) (hd _ h.2.2.2), h.2⟩
def rcApart (r s : Option Rc) : Prop := ∀ x y, r = some x → s = some y → x.b ≠ y.b ∧ x.b ≠ y.a ∧ x.b ≠ y.g ∧ y.b ≠ x.a ∧ y.b ≠ x.g
/-- the two of them -/
def obR2 (r s : Option Rc) : Ob where
  at' w F := RcO w F r ∧ RcO w F s ∧ rcApart r s ∧ ∀ x, F x → x < w.heap.size
  keep h ho hd := ⟨h.1.only ho hd, h.2.1.only ho hd, h.2.2.1, fun x hx => Nat.lt_of_lt_of_le (h.2.2.2 x hx) ho.size⟩
  lt h := h.2.2.2
def side (k : Nat) (r s : Option Rc) : Option Rc := if k = 0 then r else s
section
variable {w0 w : World} {obs : List Ob}
theorem Env.r2 (h : Env w0 w obs) (i : Nat) {r s : Option Rc} (hi : obs[i]? = some (obR2 r s)) (k : Nat) : ∀ c, side k r s = some c → RcP w c := by
  obtain ⟨F, h1, _⟩ := h.get i hi
  intro c hc
  unfold side at hc
  split at hc
  · have := h1.1
    rw [hc] at this
    exact this.1
  · have := h1.2.1
    rw [hc] at this
    exact this.1
/-! ### what is none -/
theorem rcEnc_no (h : Env w0 w obs) (i : Nat) {r s : Option Rc} (hi : obs[i]? = some (obR2 r s)) (k : Nat) (hm : rcMade (side k r s) = false) (q : Value) (l : List UInt8) :
    Calls Try.prog 43 #[rcV (side k r s), q, .agg (barr l)] w fun e w' => e = .returned (.tuple #[.agg (barr (List.replicate 16 0)), .int .i64 1]) ∧ Env w0 w' obs := by
  have hp := h.r2 i hi k
  have HE := Lib.hid h
  generalize side k r s = x at hm hp
  have hz := zero16
  generalize hZ : barr (List.replicate 16 0) = Z at hz
  have HZ := Lib.hid hZ
  have hZs : Z.size = 16 := by rw [← hZ, barr_size]; rfl
  have hZo : ∀ v ∈ Z.toList, v.oneCell' = true := by rw [← hZ]; exact barr_one _
  clear hZ h
  have b1 : Blk ((w.alloc (.cells (barr l) 31)).alloc (.cells Z 31)) (w.heap.size + 1) 31 Z := Blk.at (by simp) rfl
  have hb : Below w.heap.size w ((w.alloc (.cells (barr l) 31)).alloc (.cells Z 31)) := ((Below.refl _ _).alloc (Nat.le_refl _) _).alloc (by simp) _
  have HB := Lib.hid hb
  cases x with
  | none =>
    simp only [rcV]
    clear hp
    go_enter Try.func43, Try.ntmps43
    go_wp2_with (first | ((with_reducible change wpList _ _ _ (Oper.mk _ (Op.store 31 _ _) _ _ _ _ :: _) _ _); refine wpList_store_blk (ty := 31) (w.heap.size + 1) Z rfl rfl b1 size16 hZs hZs hZo ?_))
    refine bodyPost_ret (results_cell2_blk rfl _ _ (w.heap.size + 1) rfl (b1.row _) Try.underlying31 rfl size16 hZs) rfl ⟨rfl, HE.out.below (below_row HB.out (by omega) _)⟩
  | some r =>
    have c1 := (hp r rfl).blk.cellAt 1 rfl
    have hbl := (hp r rfl).blk.lt
    have hm' : r.made = false := hm
    rw [hm'] at c1
    simp only [rcV, Rc.v]
    clear hp
    go_enter Try.func43, Try.ntmps43
    go_wp2_with (first | ((with_reducible change wpList _ _ _ (Oper.mk _ (Op.store 31 _ _) _ _ _ _ :: _) _ _); refine wpList_store_blk (ty := 31) (w.heap.size + 1) Z rfl rfl b1 size16 hZs hZs hZo ?_))
    refine bodyPost_ret (results_cell2_blk rfl _ _ (w.heap.size + 1) rfl (b1.row _) Try.underlying31 rfl size16 hZs) rfl ⟨rfl, HE.out.below (below_row HB.out (by omega) _)⟩
theorem rcDec_no (h : Env w0 w obs) (i : Nat) {r s : Option Rc} (hi : obs[i]? = some (obR2 r s)) (k : Nat) (hm : rcMade (side k r s) = false) (q : Value) (l : List UInt8) :
    Calls Try.prog 44 #[rcV (side k r s), q, .agg (barr l)] w fun e w' => e = .returned (.tuple #[.agg (barr (List.replicate 16 0)), .int .i64 1]) ∧ Env w0 w' obs := by
  have hp := h.r2 i hi k
  have HE := Lib.hid h
  generalize side k r s = x at hm hp
  have hz := zero16
  generalize hZ : barr (List.replicate 16 0) = Z at hz
  have HZ := Lib.hid hZ
  have hZs : Z.size = 16 := by rw [← hZ, barr_size]; rfl
  have hZo : ∀ v ∈ Z.toList, v.oneCell' = true := by rw [← hZ]; exact barr_one _
  clear hZ h
  have b1 : Blk ((w.alloc (.cells (barr l) 31)).alloc (.cells Z 31)) (w.heap.size + 1) 31 Z := Blk.at (by simp) rfl
  have hb : Below w.heap.size w ((w.alloc (.cells (barr l) 31)).alloc (.cells Z 31)) := ((Below.refl _ _).alloc (Nat.le_refl _) _).alloc (by simp) _
  have HB := Lib.hid hb
  cases x with
  | none =>
    simp only [rcV]
    clear hp
    go_enter Try.func44, Try.ntmps44
    go_wp2_with (first | ((with_reducible change wpList _ _ _ (Oper.mk _ (Op.store 31 _ _) _ _ _ _ :: _) _ _); refine wpList_store_blk (ty := 31) (w.heap.size + 1) Z rfl rfl b1 size16 hZs hZs hZo ?_))
    refine bodyPost_ret (results_cell2_blk rfl _ _ (w.heap.size + 1) rfl (b1.row _) Try.underlying31 rfl size16 hZs) rfl ⟨rfl, HE.out.below (below_row HB.out (by omega) _)⟩
  | some r =>
    have c1 := (hp r rfl).blk.cellAt 1 rfl
    have hbl := (hp r rfl).blk.lt
    have hm' : r.made = false := hm
    rw [hm'] at c1
    simp only [rcV, Rc.v]
    clear hp
    go_enter Try.func44, Try.ntmps44
    go_wp2_with (first | ((with_reducible change wpList _ _ _ (Oper.mk _ (Op.store 31 _ _) _ _ _ _ :: _) _ _); refine wpList_store_blk (ty := 31) (w.heap.size + 1) Z rfl rfl b1 size16 hZs hZs hZo ?_))
    refine bodyPost_ret (results_cell2_blk rfl _ _ (w.heap.size + 1) rfl (b1.row _) Try.underlying31 rfl size16 hZs) rfl ⟨rfl, HE.out.below (below_row HB.out (by omega) _)⟩
/-! ### what is made -/
theorem Env.leftA {A B : List Ob} (h : Env w0 w (A ++ B)) : Env w0 w A :=
  h.pick id (fun _ _ _ _ e => e) (fun j ob hj => by
    rw [id, List.getElem?_append_left (List.getElem?_eq_some_iff.1 hj).1]
    exact hj)
theorem rangeAt_blk {b : Nat} {t : TypeId} {l : List UInt8} (h : Blk w b t (barr l)) : w.rangeAt b 0 (l.map B) := fun j u hu => by
  rw [Nat.zero_add]
  exact h.cellAt j (by simpa [barr] using hu)
def RcS (w : World) (c : Rc) (n : Nat) (l : List UInt8) (W : World) : Prop := W.rangeAt n 0 (l.map B) ∧ W.cell? ⟨c.b, 2, none⟩ = some (.pointer (some ⟨c.a, 0, none⟩))
theorem RcS.r {w : World} {c : Rc} {n : Nat} {l : List UInt8} (W : World) (h : RcS w c n l W) : W.rangeAt n 0 (l.map B) := h.1
theorem RcS.p {w : World} {c : Rc} {n : Nat} {l : List UInt8} (W : World) (h : RcS w c n l W) : W.cell? ⟨c.b, 2, none⟩ = some (.pointer (some ⟨c.a, 0, none⟩)) := h.2
set_option maxHeartbeats 2000000 in
theorem rcEnc_env (h : Env w0 w obs) (i j : Nat) (hij : i ≠ j) {r s : Option Rc} {q : Value} {o : Option (List Rn)} (hi : obs[i]? = some (obR2 r s)) (hj : obs[j]? = some (obR q o)) (hb : Room o 1) (k : Nat) (c : Rc) (hc : side k r s = some c) (hm : c.made = true) (l : List UInt8) (hl : l.length = 16) :
    Calls Try.prog 43 #[c.v, q, .agg (barr l)] w fun e w' => e = .returned (.tuple #[.agg (barr (enc c.K (c.k / 4 + 6) l)), .int .i64 0]) ∧ Env w0 w' (obs.set j (obR q (noteO o 5 c.k 1))) := by
  have hRC : ∀ (W : World) (L : List Ob), Env w0 W (obs.set j (obR q (noteO o 5 c.k 1)) ++ L) → RcP W c := fun W L hW => hW.r2 i (by rw [List.getElem?_append_left (by rw [List.length_set]; exact (List.getElem?_eq_some_iff.1 hi).1), List.getElem?_set_ne (by omega)]; exact hi) k c hc
  have hRC0 : RcP w c := h.r2 i hi k c hc
  have hlo := (List.getElem?_eq_some_iff.1 hj).1
  have h1 := (h.newK 31 (barr l)).newK 31 (barr (List.replicate 16 0))
  have hk := hRC0.kl
  have HRC := Lib.hid hRC
  obtain ⟨n0, hn0⟩ : ∃ x, w.heap.size = x := ⟨_, rfl⟩
  have hsz : (w.alloc (.cells (barr l) 31)).heap.size = w.heap.size + 1 := by simp
  obtain ⟨w1, hw1⟩ : ∃ x, (w.alloc (.cells (barr l) 31)).alloc (.cells (barr (List.replicate 16 0)) 31) = x := ⟨_, rfl⟩
  rw [hsz, hw1, hn0] at h1
  have H1 : Hid (Env w0 w1 (obs ++ [obK n0 31 (barr l), obK (n0 + 1) 31 (barr (List.replicate 16 0))])) := Lib.hid (by simpa using h1)
  have hll : (barr l).size = 16 := by rw [barr_size, hl]
  have hlm : (l.map B).length = 16 := by rw [List.length_map, hl]
  have HJ := Lib.hid hj
  have hR1 : RcP w1 c := H1.out.r2 i (by rw [List.getElem?_append_left (List.getElem?_eq_some_iff.1 hi).1]; exact hi) k c hc
  have HN0 := Lib.hid hn0
  clear h1 hsz hRC0 hRC hn0
  unfold Rc.v
  go_enter Try.func43, Try.ntmps43
  go_upto_region 1 with fail
  change Code.wp _ _ _ _ ((w.alloc (.cells (barr l) 31)).alloc (.cells (barr (List.replicate 16 0)) 31))
  rw [hw1, HN0.out]
  have c0 := hR1.blk.cellAt 0 rfl
  have c1 := hR1.blk.cellAt 1 rfl
  rw [hm] at c1
  clear hw1 hR1
  go_wp2_with fail
  clear c0 c1
  refine (noteR_env' H1.out j (by rw [List.getElem?_append_left hlo]; exact HJ.out) 5 c.k hb).mono ?_
  rintro e w2 ⟨rfl, h5⟩
  rw [List.set_append_left _ _ hlo] at h5
  have H2 := Lib.hid h5
  clear h5 H1
  obtain ⟨O, hO⟩ : ∃ x, obs.set j (obR q (noteO o 5 c.k 1)) = x := ⟨_, rfl⟩
  have HOL : Hid (O.length = obs.length) := by rw [← hO]; exact Lib.hid (List.length_set ..)
  rw [hO] at H2 HRC
  have HO := Lib.hid hO
  clear hO
  go_upto_region 4 with fail
  refine hd_start (RcS w c n0 l) (by kernel_rfl) ?_
  intro w3 hw'
  have H3 := Lib.hid (H2.out.draw 1)
  rw [← hw'] at H3
  clear hw' H2
  have hX : ∀ {W : World}, Env w0 W (O ++ [obK n0 31 (barr l), obK (n0 + 1) 31 (barr (List.replicate 16 0))]) → RcS w c n0 l W := fun hW => ⟨rangeAt_blk (hW.blk O.length ((atApp O [_, _] 0).trans rfl)), (HRC.out _ _ hW).blk.cellAt 2 rfl⟩
  have hX' : ∀ {W : World} {m : List UInt8}, Env w0 W (O ++ [obK n0 31 (barr l), obK (n0 + 1) 31 (barr m)]) → RcS w c n0 l W := fun hW => ⟨rangeAt_blk (hW.blk O.length ((atApp O [_, _] 0).trans rfl)), (HRC.out _ _ hW).blk.cellAt 2 rfl⟩
  have S3 := hX H3.out
  refine hd_take (v := ?_) 0 rfl (by kernel_rfl) (fun _ _ d _ _ h => (by cases d <;> exact h)) (by kernel_rfl) S3 (fun w' hS => ?_) ?_
  rotate_left
  focus (have q0 := RcS.p w' hS; clear hS; go_simp; try rfl; done)
  simp only [List.getElem_toArray, List.getElem_cons_succ, List.getElem_cons_zero, Act.put, List.setIfInBounds_toArray, List.set_cons_zero, List.set_cons_succ]
  refine hd_take (v := ?_) 1 rfl (by kernel_rfl) (fun _ _ d _ _ h => (by cases d <;> exact h)) (by kernel_rfl) S3 (fun w' hS => ?_) ?_
  rotate_left
  focus (have q0 := RcS.p w' hS; clear hS; go_simp; try rfl; done)
  simp only [List.getElem_toArray, List.getElem_cons_succ, List.getElem_cons_zero, Act.put, List.setIfInBounds_toArray, List.set_cons_zero, List.set_cons_succ]
  refine hd_take (v := ?_) 2 rfl (by kernel_rfl) (fun _ _ d _ _ h => (by cases d <;> exact h)) (by kernel_rfl) S3 (fun w' hS => ?_) ?_
  rotate_left
  focus (have q0 := RcS.p w' hS; clear hS; go_simp; try rfl; done)
  simp only [List.getElem_toArray, List.getElem_cons_succ, List.getElem_cons_zero, Act.put, List.setIfInBounds_toArray, List.set_cons_zero, List.set_cons_succ]
  refine hd_take (v := ?_) 3 rfl (by kernel_rfl) (fun _ _ d _ _ h => (by cases d <;> exact h)) (by kernel_rfl) S3 (fun w' hS => ?_) ?_
  rotate_left
  focus (have q0 := RcS.p w' hS; clear hS; go_simp; try rfl; done)
  simp only [List.getElem_toArray, List.getElem_cons_succ, List.getElem_cons_zero, Act.put, List.setIfInBounds_toArray, List.set_cons_zero, List.set_cons_succ]
  refine hd_part2 4 rfl (by kernel_rfl) (fun _ _ d _ _ h => (by cases d <;> exact h)) (yieldsIf_load_mid (by kernel_rfl) 31 _ rfl n0 0 rfl (l.map B) _ RcS.r Try.underlying31 rfl (size16.trans (by rw [hlm]))) S3 ?_
  simp only [List.getElem_toArray, List.getElem_cons_succ, List.getElem_cons_zero, Act.put, List.setIfInBounds_toArray, List.set_cons_zero, List.set_cons_succ]
  refine hd_one 5 (by kernel_rfl) ?_
  refine op_call rfl (by kernel_rfl) (by go_simp; first | exact ⟨rfl, rfl⟩ | rfl) ?_
  refine (rencrypt_any c.a c.g (4 * (c.k / 4 + 7)) c.cap c.K l w3 (HRC.out _ _ H3.out).ra hl (c.k / 4 + 6) (by omega) (by omega)).mono ?_
  rintro e w4 ⟨he, h5⟩
  subst he
  have H4 := Lib.hid (H3.out.below h5)
  have hS2 := hX H4.out
  have S4 := hS2
  clear h5
  refine ⟨_, rfl, hS2, ?_⟩
  simp only [List.getElem_toArray, List.getElem_cons_succ, List.getElem_cons_zero, Act.put, List.setIfInBounds_toArray, List.set_cons_zero, List.set_cons_succ]
  refine hd_one 6 (by kernel_rfl) ?_
  have hb1 := H4.out.blk (O.length + 1) (b := n0 + 1) ((atApp O [_, _] 1).trans rfl)
  have hes : (barr (enc c.K (c.k / 4 + 6) l)).size = 16 := by rw [barr_size, enc_len]
  refine op_store_blk2 (n0 + 1) (barr (enc c.K (c.k / 4 + 6) l)) rfl (by kernel_rfl) rfl rfl hb1 size16 hes (by rw [barr_size]; rfl) (barr_one _) ?_
  intro w5 B5 O5
  have H5 : Hid (Env w0 w5 (O ++ [obK n0 31 (barr l), obK (n0 + 1) 31 (barr (enc c.K (c.k / 4 + 6) l))])) := by
    have h6 := H4.out.turnBlk (O.length + 1) ((atApp O [_, _] 1).trans rfl) B5 O5
    rw [List.set_append_right _ _ (by omega), show O.length + 1 - O.length = 1 from by omega] at h6
    exact Lib.hid h6
  simp only [List.getElem_toArray, List.getElem_cons_succ, List.getElem_cons_zero, Act.put, List.setIfInBounds_toArray, List.set_cons_zero, List.set_cons_succ]
  have S5 := hX' H5.out
  refine ⟨S5, ?_⟩
  refine hd_take (v := ?_) 7 rfl (by kernel_rfl) (fun _ _ d _ _ h => (by cases d <;> exact h)) (by kernel_rfl) S5 (fun w' hS => ?_) ?_
  rotate_left
  focus (clear hS; go_simp; try rfl; done)
  simp only [List.getElem_toArray, List.getElem_cons_succ, List.getElem_cons_zero, Act.put, List.setIfInBounds_toArray, List.set_cons_zero, List.set_cons_succ]
  refine hd_done (by kernel_rfl) ?_
  clear S3 S4 S5
  go_wp2
  refine bodyPost_ret (results_cell2_blk rfl _ _ (n0 + 1) rfl B5 Try.underlying31 rfl size16 hes) rfl ⟨rfl, ?_⟩
  rw [HO.out]
  exact H5.out.leftA
set_option maxHeartbeats 2000000 in
theorem rcDec_env (h : Env w0 w obs) (i j : Nat) (hij : i ≠ j) {r s : Option Rc} {q : Value} {o : Option (List Rn)} (hi : obs[i]? = some (obR2 r s)) (hj : obs[j]? = some (obR q o)) (hb : Room o 1) (k : Nat) (c : Rc) (hc : side k r s = some c) (hm : c.made = true) (l : List UInt8) (hl : l.length = 16) :
    Calls Try.prog 44 #[c.v, q, .agg (barr l)] w fun e w' => e = .returned (.tuple #[.agg (barr (dec c.K (c.k / 4 + 6) l)), .int .i64 0]) ∧ Env w0 w' (obs.set j (obR q (noteO o 5 c.k 1))) := by
  have hRC : ∀ (W : World) (L : List Ob), Env w0 W (obs.set j (obR q (noteO o 5 c.k 1)) ++ L) → RcP W c := fun W L hW => hW.r2 i (by rw [List.getElem?_append_left (by rw [List.length_set]; exact (List.getElem?_eq_some_iff.1 hi).1), List.getElem?_set_ne (by omega)]; exact hi) k c hc
  have hRC0 : RcP w c := h.r2 i hi k c hc
  have hlo := (List.getElem?_eq_some_iff.1 hj).1
  have h1 := (h.newK 31 (barr l)).newK 31 (barr (List.replicate 16 0))
  have hk := hRC0.kl
  have HRC := Lib.hid hRC
  obtain ⟨n0, hn0⟩ : ∃ x, w.heap.size = x := ⟨_, rfl⟩
  have hsz : (w.alloc (.cells (barr l) 31)).heap.size = w.heap.size + 1 := by simp
  obtain ⟨w1, hw1⟩ : ∃ x, (w.alloc (.cells (barr l) 31)).alloc (.cells (barr (List.replicate 16 0)) 31) = x := ⟨_, rfl⟩
  rw [hsz, hw1, hn0] at h1
  have H1 : Hid (Env w0 w1 (obs ++ [obK n0 31 (barr l), obK (n0 + 1) 31 (barr (List.replicate 16 0))])) := Lib.hid (by simpa using h1)
  have hll : (barr l).size = 16 := by rw [barr_size, hl]
  have hlm : (l.map B).length = 16 := by rw [List.length_map, hl]
  have HJ := Lib.hid hj
  have hR1 : RcP w1 c := H1.out.r2 i (by rw [List.getElem?_append_left (List.getElem?_eq_some_iff.1 hi).1]; exact hi) k c hc
  have HN0 := Lib.hid hn0
  clear h1 hsz hRC0 hRC hn0
  unfold Rc.v
  go_enter Try.func44, Try.ntmps44
  go_upto_region 1 with fail
  change Code.wp _ _ _ _ ((w.alloc (.cells (barr l) 31)).alloc (.cells (barr (List.replicate 16 0)) 31))
  rw [hw1, HN0.out]
  have c0 := hR1.blk.cellAt 0 rfl
  have c1 := hR1.blk.cellAt 1 rfl
  rw [hm] at c1
  clear hw1 hR1
  go_wp2_with fail
  clear c0 c1
  refine (noteR_env' H1.out j (by rw [List.getElem?_append_left hlo]; exact HJ.out) 5 c.k hb).mono ?_
  rintro e w2 ⟨rfl, h5⟩
  rw [List.set_append_left _ _ hlo] at h5
  have H2 := Lib.hid h5
  clear h5 H1
  obtain ⟨O, hO⟩ : ∃ x, obs.set j (obR q (noteO o 5 c.k 1)) = x := ⟨_, rfl⟩
  have HOL : Hid (O.length = obs.length) := by rw [← hO]; exact Lib.hid (List.length_set ..)
  rw [hO] at H2 HRC
  have HO := Lib.hid hO
  clear hO
  go_upto_region 4 with fail
  refine hd_start (RcS w c n0 l) (by kernel_rfl) ?_
  intro w3 hw'
  have H3 := Lib.hid (H2.out.draw 1)
  rw [← hw'] at H3
  clear hw' H2
  have hX : ∀ {W : World}, Env w0 W (O ++ [obK n0 31 (barr l), obK (n0 + 1) 31 (barr (List.replicate 16 0))]) → RcS w c n0 l W := fun hW => ⟨rangeAt_blk (hW.blk O.length ((atApp O [_, _] 0).trans rfl)), (HRC.out _ _ hW).blk.cellAt 2 rfl⟩
  have hX' : ∀ {W : World} {m : List UInt8}, Env w0 W (O ++ [obK n0 31 (barr l), obK (n0 + 1) 31 (barr m)]) → RcS w c n0 l W := fun hW => ⟨rangeAt_blk (hW.blk O.length ((atApp O [_, _] 0).trans rfl)), (HRC.out _ _ hW).blk.cellAt 2 rfl⟩
  have S3 := hX H3.out
  refine hd_take (v := ?_) 0 rfl (by kernel_rfl) (fun _ _ d _ _ h => (by cases d <;> exact h)) (by kernel_rfl) S3 (fun w' hS => ?_) ?_
  rotate_left
  focus (have q0 := RcS.p w' hS; clear hS; go_simp; try rfl; done)
  simp only [List.getElem_toArray, List.getElem_cons_succ, List.getElem_cons_zero, Act.put, List.setIfInBounds_toArray, List.set_cons_zero, List.set_cons_succ]
  refine hd_take (v := ?_) 1 rfl (by kernel_rfl) (fun _ _ d _ _ h => (by cases d <;> exact h)) (by kernel_rfl) S3 (fun w' hS => ?_) ?_
  rotate_left
  focus (have q0 := RcS.p w' hS; clear hS; go_simp; try rfl; done)
  simp only [List.getElem_toArray, List.getElem_cons_succ, List.getElem_cons_zero, Act.put, List.setIfInBounds_toArray, List.set_cons_zero, List.set_cons_succ]
  refine hd_take (v := ?_) 2 rfl (by kernel_rfl) (fun _ _ d _ _ h => (by cases d <;> exact h)) (by kernel_rfl) S3 (fun w' hS => ?_) ?_
  rotate_left
  focus (have q0 := RcS.p w' hS; clear hS; go_simp; try rfl; done)
  simp only [List.getElem_toArray, List.getElem_cons_succ, List.getElem_cons_zero, Act.put, List.setIfInBounds_toArray, List.set_cons_zero, List.set_cons_succ]
  refine hd_take (v := ?_) 3 rfl (by kernel_rfl) (fun _ _ d _ _ h => (by cases d <;> exact h)) (by kernel_rfl) S3 (fun w' hS => ?_) ?_
  rotate_left
  focus (have q0 := RcS.p w' hS; clear hS; go_simp; try rfl; done)
  simp only [List.getElem_toArray, List.getElem_cons_succ, List.getElem_cons_zero, Act.put, List.setIfInBounds_toArray, List.set_cons_zero, List.set_cons_succ]
  refine hd_part2 4 rfl (by kernel_rfl) (fun _ _ d _ _ h => (by cases d <;> exact h)) (yieldsIf_load_mid (by kernel_rfl) 31 _ rfl n0 0 rfl (l.map B) _ RcS.r Try.underlying31 rfl (size16.trans (by rw [hlm]))) S3 ?_
  simp only [List.getElem_toArray, List.getElem_cons_succ, List.getElem_cons_zero, Act.put, List.setIfInBounds_toArray, List.set_cons_zero, List.set_cons_succ]
  refine hd_one 5 (by kernel_rfl) ?_
  refine op_call rfl (by kernel_rfl) (by go_simp; first | exact ⟨rfl, rfl⟩ | rfl) ?_
  refine (rdecrypt_any c.a c.g (4 * (c.k / 4 + 7)) c.cap c.K l w3 (HRC.out _ _ H3.out).ra hl (c.k / 4 + 6) (by omega) (by omega)).mono ?_
  rintro e w4 ⟨he, h5⟩
  subst he
  have H4 := Lib.hid (H3.out.below h5)
  have hS2 := hX H4.out
  have S4 := hS2
  clear h5
  refine ⟨_, rfl, hS2, ?_⟩
  simp only [List.getElem_toArray, List.getElem_cons_succ, List.getElem_cons_zero, Act.put, List.setIfInBounds_toArray, List.set_cons_zero, List.set_cons_succ]
  refine hd_one 6 (by kernel_rfl) ?_
  have hb1 := H4.out.blk (O.length + 1) (b := n0 + 1) ((atApp O [_, _] 1).trans rfl)
  have hes : (barr (dec c.K (c.k / 4 + 6) l)).size = 16 := by rw [barr_size, dec_len]
  refine op_store_blk2 (n0 + 1) (barr (dec c.K (c.k / 4 + 6) l)) rfl (by kernel_rfl) rfl rfl hb1 size16 hes (by rw [barr_size]; rfl) (barr_one _) ?_
  intro w5 B5 O5
  have H5 : Hid (Env w0 w5 (O ++ [obK n0 31 (barr l), obK (n0 + 1) 31 (barr (dec c.K (c.k / 4 + 6) l))])) := by
    have h6 := H4.out.turnBlk (O.length + 1) ((atApp O [_, _] 1).trans rfl) B5 O5
    rw [List.set_append_right _ _ (by omega), show O.length + 1 - O.length = 1 from by omega] at h6
    exact Lib.hid h6
  simp only [List.getElem_toArray, List.getElem_cons_succ, List.getElem_cons_zero, Act.put, List.setIfInBounds_toArray, List.set_cons_zero, List.set_cons_succ]
  have S5 := hX' H5.out
  refine ⟨S5, ?_⟩
  refine hd_take (v := ?_) 7 rfl (by kernel_rfl) (fun _ _ d _ _ h => (by cases d <;> exact h)) (by kernel_rfl) S5 (fun w' hS => ?_) ?_
  rotate_left
  focus (clear hS; go_simp; try rfl; done)
  simp only [List.getElem_toArray, List.getElem_cons_succ, List.getElem_cons_zero, Act.put, List.setIfInBounds_toArray, List.set_cons_zero, List.set_cons_succ]
  refine hd_done (by kernel_rfl) ?_
  clear S3 S4 S5
  go_wp2
  refine bodyPost_ret (results_cell2_blk rfl _ _ (n0 + 1) rfl B5 Try.underlying31 rfl size16 hes) rfl ⟨rfl, ?_⟩
  rw [HO.out]
  exact H5.out.leftA
end
end Go.Proofs.Ytihmgkjmebdioaa
/- The document's cipher: KeyLen, Form, Clone, Wipe, New over a law's world. -/
namespace Go.Proofs.Ytihmgkjmebdioaa
open Go.RowKit
set_option maxRecDepth 100000
set_option linter.unusedVariables false
set_option linter.unusedSimpArgs false
def rcLen : Option Rc → Nat
  | none => 0
  | some r => if r.made then r.k else 0
section
variable {w0 w : World} {obs : List Ob}
theorem rcLen_env (h : Env w0 w obs) (i : Nat) {r s : Option Rc} (hi : obs[i]? = some (obR2 r s)) (k : Nat) :
    Calls Try.prog 46 #[rcV (side k r s)] w fun e w' => e = .returned (.int .i64 (rcLen (side k r s) : Int)) ∧ w = w' := by
  have hp := h.r2 i hi k
  clear h
  generalize side k r s = x at hp
  cases x with
  | none =>
    clear hp
    simp only [rcV, rcLen]
    go_enter Try.func46, Try.ntmps46
    go_wp2
    go_ret
    exact ⟨rfl, rfl⟩
  | some c =>
    have c0 := (hp c rfl).blk.cellAt 0 rfl
    have c1 := (hp c rfl).blk.cellAt 1 rfl
    have hbl := (hp c rfl).blk.lt
    simp only [rcV, Rc.v, rcLen]
    clear hp
    cases hm : c.made
    · rw [hm] at c1
      go_enter Try.func46, Try.ntmps46
      go_wp2
      go_ret
      exact ⟨rfl, rfl⟩
    · rw [hm] at c1
      go_enter Try.func46, Try.ntmps46
      go_wp2
      go_ret
      exact ⟨rfl, rfl⟩
theorem rcForm_no (h : Env w0 w obs) (i : Nat) {r s : Option Rc} (hi : obs[i]? = some (obR2 r s)) (k : Nat) (hm : rcMade (side k r s) = false) :
    Calls Try.prog 45 #[rcV (side k r s)] w fun e w' => e = .returned (.slice none 0 0) ∧ w = w' := by
  have hp := h.r2 i hi k
  clear h
  generalize side k r s = x at hp hm
  cases x with
  | none =>
    clear hp
    simp only [rcV]
    go_enter Try.func45, Try.ntmps45
    go_wp2
    go_ret
    exact ⟨rfl, rfl⟩
  | some c =>
    have c1 := (hp c rfl).blk.cellAt 1 rfl
    have hbl := (hp c rfl).blk.lt
    have hm' : c.made = false := hm
    simp only [rcV, Rc.v]
    clear hp
    rw [hm'] at c1
    go_enter Try.func45, Try.ntmps45
    go_wp2
    go_ret
    exact ⟨rfl, rfl⟩
theorem rcForm_env (h : Env w0 w obs) (i : Nat) {r s : Option Rc} (hi : obs[i]? = some (obR2 r s)) (k : Nat) (c : Rc) (hc : side k r s = some c) (hm : c.made = true) :
    Calls Try.prog 45 #[c.v] w fun e w' => ∃ v, e = .returned v ∧ Env w0 w' (obs ++ [obB v (c.K.take (4 * (4 * (c.k / 4 + 7))))]) := by
  have hp := h.r2 i hi k c hc
  have c1 := hp.blk.cellAt 1 rfl
  have c2 := hp.blk.cellAt 2 rfl
  have hbl := hp.blk.lt
  have hk := hp.kl
  have HP := Lib.hid hp
  have HE := Lib.hid h
  rw [hm] at c1
  clear h hp
  unfold Rc.v
  go_enter Try.func45, Try.ntmps45
  go_wp2_with fail
  refine (rform_any c.a c.g (4 * (c.k / 4 + 7)) c.cap c.K w HP.out.ra (by omega)).mono ?_
  rintro e w1 ⟨v, rfl, h1, h2, h3⟩
  have H1 := Lib.hid (HE.out.pushB h1 h2 h3)
  clear h1 h2 h3
  go_wp2
  go_ret
  exact ⟨_, rfl, H1.out⟩
theorem rcClone_no (h : Env w0 w obs) (i : Nat) {r s : Option Rc} (hi : obs[i]? = some (obR2 r s)) (k : Nat) (hm : rcMade (side k r s) = false) :
    Calls Try.prog 47 #[rcV (side k r s)] w fun e w' => e = .returned (.tuple #[.pointer none, .int .i64 1]) ∧ w = w' := by
  have hp := h.r2 i hi k
  clear h
  generalize side k r s = x at hp hm
  cases x with
  | none =>
    clear hp
    simp only [rcV]
    go_enter Try.func47, Try.ntmps47
    go_wp2
    go_ret2
    exact ⟨rfl, rfl⟩
  | some c =>
    have c1 := (hp c rfl).blk.cellAt 1 rfl
    have hbl := (hp c rfl).blk.lt
    have hm' : c.made = false := hm
    simp only [rcV, Rc.v]
    clear hp
    rw [hm'] at c1
    go_enter Try.func47, Try.ntmps47
    go_wp2
    go_ret2
    exact ⟨rfl, rfl⟩
theorem rcWipe_no (h : Env w0 w obs) (i : Nat) {r s : Option Rc} (hi : obs[i]? = some (obR2 r s)) (k : Nat) (hm : rcMade (side k r s) = false) (q : Value) :
    Calls Try.prog 48 #[rcV (side k r s), q] w fun e w' => e = .returned (.int .i64 1) ∧ w = w' := by
  have hp := h.r2 i hi k
  clear h
  generalize side k r s = x at hp hm
  cases x with
  | none =>
    clear hp
    simp only [rcV]
    go_enter Try.func48, Try.ntmps48
    go_wp2
    go_ret
    exact ⟨rfl, rfl⟩
  | some c =>
    have c1 := (hp c rfl).blk.cellAt 1 rfl
    have hbl := (hp c rfl).blk.lt
    have hm' : c.made = false := hm
    simp only [rcV, Rc.v]
    clear hp
    rw [hm'] at c1
    go_enter Try.func48, Try.ntmps48
    go_wp2
    go_ret
    exact ⟨rfl, rfl⟩
/-- the other side is x then -/
def oth1 (k : Nat) (r x : Option Rc) : Option Rc := if k = 0 then r else x
def oth2 (k : Nat) (s x : Option Rc) : Option Rc := if k = 0 then x else s
theorem Rc.fresh {F : Nat → Prop} {c : Rc} (hc : RcO w F (some c)) (hF : ∀ x, F x → x < w.heap.size) {w' : World} (hb : Below w.heap.size w w') (b' : Nat) (hb' : w.heap.size ≤ b') (hk : Blk w' b' 102 #[.slice c.ko c.k c.kc, .bool true, .pointer (some ⟨c.a, 0, none⟩)]) :
    RcO w' (fun x => F x ∨ x = b') (some { c with b := b', made := true }) ∧ rcApart (some c) (some { c with b := b', made := true }) ∧ rcApart (some { c with b := b', made := true }) (some c) := by
  obtain ⟨h1, h2, h3, h4⟩ := hc
  have l2 := hF _ h2
  have l3 := hF _ h3
  have l4 := hF _ h4
  have n1 := h1.n1
  have n2 := h1.n2
  refine ⟨⟨⟨hk, h1.ra.below hb, ?_, ?_, h1.kl, h1.kK⟩, .inr rfl, .inl h3, .inl h4⟩, ?_, ?_⟩
  · show b' ≠ c.a; omega
  · show b' ≠ c.g; omega
  · intro x y hx hy
    injection hx with hx; injection hy with hy
    subst hx; subst hy
    exact ⟨by show c.b ≠ b'; omega, n1, n2, by show b' ≠ c.a; omega, by show b' ≠ c.g; omega⟩
  · intro x y hx hy
    injection hx with hx; injection hy with hy
    subst hx; subst hy
    exact ⟨by show b' ≠ c.b; omega, by show b' ≠ c.a; omega, by show b' ≠ c.g; omega, n1, n2⟩
theorem rcClone_env (h : Env w0 w obs) (i : Nat) {r s : Option Rc} (hi : obs[i]? = some (obR2 r s)) (k : Nat) (hk : k < 2) (c : Rc) (hc : side k r s = some c) (hm : c.made = true) :
    Calls Try.prog 47 #[c.v] w fun e w' => ∃ b' : Nat, e = .returned (.tuple #[.pointer (some ⟨b', 0, none⟩), .int .i64 0]) ∧ Env w0 w' (obs.set i (obR2 (oth1 k r (some { c with b := b', made := true })) (oth2 k s (some { c with b := b', made := true })))) := by
  obtain ⟨F, hat, _, _, hup⟩ := h.get i hi
  have hp := h.r2 i hi k c hc
  have c0 := hp.blk.cellAt 0 rfl
  have c1 := hp.blk.cellAt 1 rfl
  have c2 := hp.blk.cellAt 2 rfl
  have hbl := hp.blk.lt
  rw [hm] at c1
  have hup2 : ∀ w' b', Below w.heap.size w w' → w.heap.size ≤ b' → Blk w' b' 102 #[.slice c.ko c.k c.kc, .bool true, .pointer (some ⟨c.a, 0, none⟩)] → Env w0 w' (obs.set i (obR2 (oth1 k r (some { c with b := b', made := true })) (oth2 k s (some { c with b := b', made := true })))) := by
    intro w' b' hb hb' hbk
    obtain ⟨a1, a2, a3, a4⟩ := hat
    refine hup w' (fun x => F x ∨ x = b') _ ?_ (Only.of_below hb _) (fun x hx => hx.imp id (fun e => by omega))
    have hlt : ∀ x, (F x ∨ x = b') → x < w'.heap.size := fun x hx => by
      rcases hx with hx | hx
      · exact Nat.lt_of_lt_of_le (a4 x hx) hb.size
      · rw [hx]; exact hbk.lt
    have up : ∀ {x : Option Rc}, RcO w F x → RcO w' (fun x => F x ∨ x = b') x := fun {x} hx => by
      cases x with
      | none => trivial
      | some y => exact ⟨hx.1.below hb, .inl hx.2.1, .inl hx.2.2.1, .inl hx.2.2.2⟩
    rcases (by omega : k = 0 ∨ k = 1) with rfl | rfl
    · have hr : r = some c := hc
      subst hr
      obtain ⟨f1, f2, f3⟩ := Rc.fresh a1 a4 hb b' hb' hbk
      exact ⟨up a1, f1, f2, hlt⟩
    · have hs : s = some c := hc
      subst hs
      obtain ⟨f1, f2, f3⟩ := Rc.fresh a2 a4 hb b' hb' hbk
      exact ⟨f1, up a2, f3, hlt⟩
  have HUP := Lib.hid hup2
  clear hup2 hup hat h hp
  unfold Rc.v
  go_enter Try.func47, Try.ntmps47
  go_wp2_with fail
  go_region
  all_goals go_wp2_with fail
  all_goals go_ret2
  exact ⟨_, rfl, HUP.out _ _ ((drew_below w 1).alloc (Nat.le_refl _) _) (Nat.le_refl _) (Blk.at rfl rfl)⟩
end
end Go.Proofs.Ytihmgkjmebdioaa
/- The document's cipher: Wipe and New over a law's world. -/
namespace Go.Proofs.Ytihmgkjmebdioaa
open Go.RowKit
set_option maxRecDepth 100000
set_option linter.unusedVariables false
set_option linter.unusedSimpArgs false
def offC (c : Rc) : Rc := { c with made := false }
def off1 (k : Nat) (r : Option Rc) : Option Rc := if k = 0 then r.map offC else r
def off2 (k : Nat) (s : Option Rc) : Option Rc := if k = 0 then s else s.map offC
/-- side k is x -/
def put1 (k : Nat) (r x : Option Rc) : Option Rc := if k = 0 then x else r
def put2 (k : Nat) (s x : Option Rc) : Option Rc := if k = 0 then s else x
theorem rcApart.symm {r s : Option Rc} (h : rcApart r s) : rcApart s r := fun x y hx hy => by
  obtain ⟨a, b, c, d, e⟩ := h y x hy hx
  exact ⟨fun e => a e.symm, d, e, b, c⟩
section
variable {w0 w : World} {obs : List Ob}
theorem RcO.off {F : Nat → Prop} {c : Rc} (h : RcO w F (some c)) : RcO (w.setCell ⟨c.b, 1, none⟩ (.bool false)) F (some (offC c)) := by
  obtain ⟨h1, h2, h3, h4⟩ := h
  have ho : Only (fun x => x = c.b) w (w.setCell ⟨c.b, 1, none⟩ (.bool false)) := (Only.refl (fun x => x = c.b) w).set (p := ⟨c.b, 1, none⟩) (.inl rfl) _
  exact ⟨⟨h1.blk.set 1 _, h1.ra.only ho (fun e => h1.n1 e.symm) (fun e => h1.n2 e.symm), h1.n1, h1.n2, h1.kl, h1.kK⟩, h2, h3, h4⟩
theorem RcO.beside {F : Nat → Prop} {c : Rc} {x : Option Rc} (h : RcO w F x) (ha : rcApart (some c) x) : RcO (w.setCell ⟨c.b, 1, none⟩ (.bool false)) F x := by
  have ho : Only (fun x => x = c.b) w (w.setCell ⟨c.b, 1, none⟩ (.bool false)) := (Only.refl (fun x => x = c.b) w).set (p := ⟨c.b, 1, none⟩) (.inl rfl) _
  cases x with
  | none => trivial
  | some y =>
    obtain ⟨a1, a2, a3, a4, a5⟩ := ha c y rfl rfl
    exact ⟨h.1.only ho (fun e => a1 e.symm) (fun e => a2 e.symm) (fun e => a3 e.symm), h.2⟩
theorem rcWipe_env (h : Env w0 w obs) (i j : Nat) (hij : i ≠ j) {r s : Option Rc} {q : Value} {o : Option (List Rn)} (hi : obs[i]? = some (obR2 r s)) (hj : obs[j]? = some (obR q o)) (hb : Room o 1) (k : Nat) (hk : k < 2) (c : Rc) (hc : side k r s = some c) (hm : c.made = true) :
    Calls Try.prog 48 #[c.v, q] w fun e w' => e = .returned (.int .i64 0) ∧ Env w0 w' ((obs.set j (obR q (noteO o 8 ((16 * (c.k / 4 + 6 + 1) : Nat) : Int) 1))).set i (obR2 (off1 k r) (off2 k s))) := by
  have hp := h.r2 i hi k c hc
  have c1 := hp.blk.cellAt 1 rfl
  have hbl := hp.blk.lt
  have hkl := hp.kl
  have hkK := hp.kK
  rw [hm] at c1
  have HE := Lib.hid h
  have hlo := (List.getElem?_eq_some_iff.1 hj).1
  have HC := Lib.hid hc
  clear h hp
  unfold Rc.v
  go_enter Try.func48, Try.ntmps48
  go_wp2_with fail
  refine (rcForm_env HE.out i hi k c HC.out hm).mono ?_
  rintro e w1 ⟨v, rfl, h1⟩
  obtain ⟨oa, oc, hv, _⟩ := (h1.bytes obs.length (v := v) (l := c.K.take (4 * (4 * (c.k / 4 + 7)))) ((atApp obs [_] 0).trans rfl)).rd.form
  have hlen : (c.K.take (4 * (4 * (c.k / 4 + 7)))).length = 16 * (c.k / 4 + 6 + 1) := by rw [List.length_take]; omega
  rw [hlen] at hv
  obtain ⟨z, hz⟩ : ∃ z, 16 * (c.k / 4 + 6 + 1) = z := ⟨_, rfl⟩
  rw [hz] at hv
  subst hv
  have H1 := Lib.hid h1
  have HZ := Lib.hid hz
  clear h1 hlen hz c1
  go_wp2_with fail
  refine (noteR_env' H1.out j (by rw [List.getElem?_append_left hlo]; exact hj) 8 (z : Int) hb).mono ?_
  rintro e w2 ⟨rfl, h5⟩
  rw [List.set_append_left _ _ hlo] at h5
  have h6 := h5.drop
  obtain ⟨O, hO⟩ : ∃ x, obs.set j (obR q (noteO o 8 (z : Int) 1)) = x := ⟨_, rfl⟩
  have hi2 : O[i]? = some (obR2 r s) := by rw [← hO, List.getElem?_set_ne (by omega)]; exact hi
  rw [hO] at h6
  have hp2 := h6.r2 i hi2 k c HC.out
  have d1 := hp2.blk.cellAt 1 rfl
  have df := hp2.blk.unfrozen 1
  have dl := hp2.blk.lt
  have HO := Lib.hid hO
  obtain ⟨F, ⟨a1, a2, a3, a4⟩, _, _, hup⟩ := h6.get i hi2
  have h7 : Env w0 (w2.setCell ⟨c.b, 1, none⟩ (.bool false)) (O.set i (obR2 (off1 k r) (off2 k s))) := by
    have hFc : F c.b := by
      have hc2 := HC.out
      unfold side at hc2
      split at hc2
      · rw [hc2] at a1; exact a1.2.1
      · rw [hc2] at a2; exact a2.2.1
    refine hup _ F _ ?_ (((Only.refl (fun x => x = c.b) w2).set (p := ⟨c.b, 1, none⟩) (.inl rfl) _).mono (fun x hx => by rw [hx]; exact hFc)) (fun x hx => .inl hx)
    have hlt : ∀ x, F x → x < (w2.setCell ⟨c.b, 1, none⟩ (.bool false)).heap.size := fun x hx => Nat.lt_of_lt_of_le (a4 x hx) ((Only.refl (fun x => x = c.b) w2).set (p := ⟨c.b, 1, none⟩) (.inl rfl) (.bool false)).size
    rcases (by omega : k = 0 ∨ k = 1) with rfl | rfl
    · have hr : r = some c := HC.out
      subst hr
      exact ⟨a1.off, a2.beside a3, fun x y hx hy => by
        injection hx with hx
        subst hx
        exact a3 c y rfl hy, hlt⟩
    · have hs : s = some c := HC.out
      subst hs
      exact ⟨a1.beside a3.symm, a2.off, fun x y hx hy => by
        injection hy with hy
        subst hy
        exact a3 x c hx rfl, hlt⟩
  have H7 := Lib.hid h7
  clear h5 h6 h7 hup a1 a2 a3 a4 hO H1 HE hp2
  go_wp2
  go_ret
  refine ⟨rfl, ?_⟩
  rw [HZ.out, HO.out]
  exact H7.out
theorem right_any (n : Nat) (w : World) (b : Bool) (hb : b = decide (n = 16 ∨ n = 24 ∨ n = 32)) : Calls Try.prog 56 #[.int .i64 (n : Int)] w fun e w' => e = .returned (.bool b) ∧ w = w' := by
  have hcase : (n = 16) ∨ (n ≠ 16 ∧ n = 24) ∨ (n ≠ 16 ∧ n ≠ 24 ∧ n = 32) ∨ (n ≠ 16 ∧ n ≠ 24 ∧ n ≠ 32) := by omega
  rcases hcase with h | ⟨h1, h⟩ | ⟨h1, h2, h⟩ | ⟨h1, h2, h3⟩
  · have t1 : ((n : Int) == 16) = true := by rw [h]; rfl
    obtain rfl : b = true := by rw [hb, decide_eq_true_eq]; omega
    clear hb h
    go_enter Try.func56, Try.ntmps56
    go_wp2
    go_ret
    exact ⟨rfl, rfl⟩
  · have t1 : ((n : Int) == 16) = false := by rw [beq_eq_false_iff_ne]; omega
    have t2 : ((n : Int) == 24) = true := by rw [h]; rfl
    obtain rfl : b = true := by rw [hb, decide_eq_true_eq]; omega
    clear hb h h1
    go_enter Try.func56, Try.ntmps56
    go_wp2
    go_ret
    exact ⟨rfl, rfl⟩
  · have t1 : ((n : Int) == 16) = false := by rw [beq_eq_false_iff_ne]; omega
    have t2 : ((n : Int) == 24) = false := by rw [beq_eq_false_iff_ne]; omega
    have t3 : ((n : Int) == 32) = true := by rw [h]; rfl
    obtain rfl : b = true := by rw [hb, decide_eq_true_eq]; omega
    clear hb h h1 h2
    go_enter Try.func56, Try.ntmps56
    go_wp2
    go_ret
    exact ⟨rfl, rfl⟩
  · have t1 : ((n : Int) == 16) = false := by rw [beq_eq_false_iff_ne]; omega
    have t2 : ((n : Int) == 24) = false := by rw [beq_eq_false_iff_ne]; omega
    have t3 : ((n : Int) == 32) = false := by rw [beq_eq_false_iff_ne]; omega
    obtain rfl : b = false := by rw [hb, decide_eq_false_iff_not]; omega
    clear hb h1 h2 h3
    go_enter Try.func56, Try.ntmps56
    go_wp2
    go_ret
    exact ⟨rfl, rfl⟩
theorem rcNew_no {u q : Value} {key : List UInt8} (hu : Bs w u key) (hk : ¬ RightLen key.length) :
    Calls Try.prog 39 #[q, u] w fun e w' => e = .returned (.tuple #[.pointer none, .int .i64 7]) ∧ w = w' := by
  obtain ⟨ao, cap, rfl, h1, h2, _, _⟩ := hu.form
  have hb : false = decide (key.length = 16 ∨ key.length = 24 ∨ key.length = 32) := by
    symm
    rw [decide_eq_false_iff_not]
    exact hk
  have HB := Lib.hid hb
  clear hu hb
  go_enter Try.func39, Try.ntmps39
  go_wp2_with fail
  refine (right_any key.length w false HB.out).mono ?_
  rintro e w1 ⟨rfl, rfl⟩
  go_wp2
  go_ret2
  exact ⟨rfl, rfl⟩
set_option maxHeartbeats 1000000 in
theorem rcNew_env (h : Env w0 w obs) (i j : Nat) (hij : i ≠ j) {r s : Option Rc} {q : Value} {o : Option (List Rn)} (hi : obs[i]? = some (obR2 r s)) (hj : obs[j]? = some (obR q o)) (hb : Room o 1) (k : Nat) (hk : k < 2) {u : Value} {key : List UInt8} (hu : Bs w0 u key) (hr : RightLen key.length) :
    Calls Try.prog 39 #[q, u] w fun e w' => ∃ c : Rc, e = .returned (.tuple #[c.v, .int .i64 0]) ∧ c.made = true ∧ c.k = key.length ∧ c.K = sched key ∧ Env w0 w' ((obs.set j (obR q (noteO o 4 key.length 1))).set i (obR2 (put1 k r (some c)) (put2 k s (some c)))) := by
  obtain ⟨ao, cap, rfl, h1, h2, _, _⟩ := hu.form
  have hb1 : true = decide (key.length = 16 ∨ key.length = 24 ∨ key.length = 32) := by
    symm
    rw [decide_eq_true_eq]
    exact hr
  have HU := Lib.hid hu
  have HB1 := Lib.hid hb1
  clear hb1
  have HE := Lib.hid h
  have hk32 : key.length ≤ 32 := by rcases hr with h | h | h <;> omega
  have HR := Lib.hid hr
  have hlo := (List.getElem?_eq_some_iff.1 hj).1
  obtain ⟨i0, hi0, hz0, hz1, hz2⟩ := info_parts info8
  have HI := Lib.hid (And.intro hi0 (And.intro hz0 (And.intro hz1 hz2)))
  clear hi0 hz0 hz1 hz2 hu h hr
  go_enter Try.func39, Try.ntmps39
  go_wp2_with fail
  refine (right_any key.length w true HB1.out).mono ?_
  rintro e w1 ⟨rfl, rfl⟩
  go_wp2_with fail
  refine (noteR_env' HE.out j hj 4 key.length hb).mono ?_
  rintro e w2 ⟨rfl, h5⟩
  have hi2 : (obs.set j (obR q (noteO o 4 key.length 1)))[i]? = some (obR2 r s) := by rw [List.getElem?_set_ne (by omega)]; exact hi
  obtain ⟨F, ⟨a1, a2, a3, a4⟩, _, _, hup⟩ := h5.get i hi2
  have hu2 : Bs w2 (.slice ao key.length cap) key := h5.old HU.out
  have HUP := Lib.hid hup
  have HA := Lib.hid (And.intro a1 (And.intro a2 (And.intro a3 a4)))
  have hown0 : w2.ownsRow 0 5 1 (.slice none 0 0) 0 [] := World.ownsRow_nil w2 0 _ 1
  have hy := Sl.of_bytes hu2
  obtain ⟨hi0, hz0, hz1, hz2⟩ := HI.out
  clear h5 hup a1 a2 a3 a4 HE hu2
  go_wp2_with (at_builtin; refine wpList_append_sl _ rfl _ _ 22 rfl 5 i0 _ 1 1 Try.underlying22 hi0 hz0 hz1 hz2 rfl (by decide) (.slice none 0 0) 0 [] rfl hown0 (.slice ao key.length cap) key.length (key.map B) rfl hy (by unfold maxLen; omega) (by omega) ?_)
  intro v' w3 hown hgrow hat
  have hob : OB w3 v' key := by unfold OB; simpa using hown
  have hbel : Below w2.heap.size w2 w3 := (Below.refl w2.heap.size w2).grown hgrow (Nat.le_refl _) (fun k hk => by simp [Value.ownBlock] at hk)
  obtain ⟨oa, oc, hv, _⟩ := hob.rd.form
  have HB3 := Lib.hid hbel
  have HO3 := Lib.hid hob
  subst hv
  clear hown hgrow hat hown0 hy hi0 hz0 hz1 hz2 hob hbel
  go_wp2_with fail
  refine (rof_any _ key (key.length / 4) w3 HO3.out.rd (by have := HR.out; unfold RightLen at this; omega) (by have := HR.out; unfold RightLen at this; omega)).mono ?_
  rintro e w4 ⟨a, g, acap, rfl, ra, hb4, ha, hg⟩
  have HRA := Lib.hid (And.intro ra (And.intro hb4 (And.intro ha hg)))
  clear ra hb4 ha hg
  go_wp2
  go_ret2
  refine ⟨⟨w4.heap.size, a, g, acap, oa, oc, true, key.length, sched key⟩, rfl, rfl, rfl, rfl, ?_⟩
  obtain ⟨ra, hb4, ha, hg⟩ := HRA.out
  obtain ⟨a1, a2, a3, a4⟩ := HA.out
  have hs3 := HB3.out.size
  have hs4 := hb4.size
  have hb24 : Below w2.heap.size w2 (w4.alloc (.cells #[.slice oa key.length oc, .bool true, .pointer (some ⟨a, 0, none⟩)] 102)) := (HB3.out.trans (hb4.mono hs3)).alloc (by omega) _
  have rala := ra.lt
  have ralg := ra.glt
  have hrc : RcP (w4.alloc (.cells #[.slice oa key.length oc, .bool true, .pointer (some ⟨a, 0, none⟩)] 102)) ⟨w4.heap.size, a, g, acap, oa, oc, true, key.length, sched key⟩ :=
    ⟨Blk.at rfl rfl, ra.below ((Below.refl _ _).alloc (Nat.le_refl _) _), by show w4.heap.size ≠ a; omega, by show w4.heap.size ≠ g; omega, hk32, sched_len key (by omega)⟩
  refine HUP.out _ (fun x => F x ∨ x = w4.heap.size ∨ x = a ∨ x = g) _ ?_ (Only.of_below hb24 _) (fun x hx => hx.imp id (fun e => by omega))
  have hsz : (w4.alloc (.cells #[.slice oa key.length oc, .bool true, .pointer (some ⟨a, 0, none⟩)] 102)).heap.size = w4.heap.size + 1 := by simp
  have hlt : ∀ x, (F x ∨ x = w4.heap.size ∨ x = a ∨ x = g) → x < (w4.alloc (.cells #[.slice oa key.length oc, .bool true, .pointer (some ⟨a, 0, none⟩)] 102)).heap.size := fun x hx => by
    rw [hsz]
    rcases hx with hx | hx
    · have := a4 x hx; omega
    · omega
  have up : ∀ {x : Option Rc}, RcO w2 F x → RcO (w4.alloc (.cells #[.slice oa key.length oc, .bool true, .pointer (some ⟨a, 0, none⟩)] 102)) (fun x => F x ∨ x = w4.heap.size ∨ x = a ∨ x = g) x := fun {x} hx => by
    cases x with
    | none => trivial
    | some y => exact ⟨hx.1.below hb24, .inl hx.2.1, .inl hx.2.2.1, .inl hx.2.2.2⟩
  have me : RcO (w4.alloc (.cells #[.slice oa key.length oc, .bool true, .pointer (some ⟨a, 0, none⟩)] 102)) (fun x => F x ∨ x = w4.heap.size ∨ x = a ∨ x = g) (some ⟨w4.heap.size, a, g, acap, oa, oc, true, key.length, sched key⟩) :=
    ⟨hrc, .inr (.inl rfl), .inr (.inr (.inl rfl)), .inr (.inr (.inr rfl))⟩
  have ap : ∀ {x : Option Rc}, RcO w2 F x → rcApart (some ⟨w4.heap.size, a, g, acap, oa, oc, true, key.length, sched key⟩) x := fun {x} hx y z hy hz => by
    injection hy with hy
    subst hy
    subst hz
    have e1 := a4 _ hx.2.1
    have e2 := a4 _ hx.2.2.1
    have e3 := a4 _ hx.2.2.2
    exact ⟨by show w4.heap.size ≠ z.b; omega, by show w4.heap.size ≠ z.a; omega, by show w4.heap.size ≠ z.g; omega, by show z.b ≠ a; omega, by show z.b ≠ g; omega⟩
  rcases (by omega : k = 0 ∨ k = 1) with rfl | rfl
  · exact ⟨me, up a2, ap a2, hlt⟩
  · exact ⟨up a1, me, (ap a1).symm, hlt⟩
end
end Go.Proofs.Ytihmgkjmebdioaa
/- The contract of a law's block: sixteen bytes that begin with a list's. -/
namespace Go.Proofs.Ytihmgkjmebdioaa
open Go.RowKit
set_option maxRecDepth 100000
set_option linter.unusedVariables false
def blkTo (l : List UInt8) (k : Nat) : List UInt8 := tab 16 fun j => if j < k then l.getD j 0 else 0
def blk (l : List UInt8) : List UInt8 := tab 16 fun j => l.getD j 0
theorem blkTo_length (l : List UInt8) (k : Nat) : (blkTo l k).length = 16 := tab_length _ _
theorem blk_length (l : List UInt8) : (blk l).length = 16 := tab_length _ _
theorem blk_cells (l : List UInt8) : (barr (blk l)).size = 16 := by rw [barr_size, blk_length]
theorem blk_map (l : List UInt8) : ((blk l).map B).length = 16 := by rw [List.length_map, blk_length]
theorem blkTo_zero (l : List UInt8) : blkTo l 0 = List.replicate 16 0 := by
  rw [← tab_zero]
  exact tab_ext _ _ _ fun j _ => by simp
theorem blkTo_succ (l : List UInt8) (k : Nat) : (blkTo l k).set k (l.getD k 0) = blkTo l (k + 1) := by
  unfold blkTo
  rw [tab_set]
  refine tab_ext _ _ _ fun j _ => ?_
  by_cases e : j = k
  · subst e; simp
  · rw [if_neg e]
    by_cases h : j < k
    · rw [if_pos h, if_pos (by omega)]
    · rw [if_neg h, if_neg (by omega)]
theorem blkTo_end (l : List UInt8) (k : Nat) (h : l.length ≤ k ∨ 16 ≤ k) : blkTo l k = blk l := by
  unfold blkTo blk
  refine tab_ext _ _ _ fun j hj => ?_
  by_cases hk : j < k
  · rw [if_pos hk]
  · rw [if_neg hk]
    have hle : l.length ≤ j := by omega
    rw [List.getD_eq_getElem?_getD, List.getElem?_eq_none hle]
    rfl

set_option maxHeartbeats 1000000 in
theorem block_any (v : Value) (l : List UInt8) (w : World) (hv : Bs w v l) :
    Calls Try.prog 22 #[v] w fun e w' => e = .returned (.agg (barr (blk l))) ∧ Below w.heap.size w w' := by
  have hlen := hv.len
  have HV := Lib.hid hv
  obtain ⟨ao, cap, rfl, h1, h2, h3, h4⟩ := hv.form
  clear hv h3
  go_enter Try.func22, Try.ntmps22
  go_wp2_with fail
  go_loopw [4] (fun i w1 => ∃ k : Nat, k ≤ l.length ∧ k ≤ 16 ∧ i = .int .i64 (k : Int) ∧ Blk w1 w.heap.size 31 (barr (List.replicate 16 0)) ∧ Blk w1 (w.heap.size + 1) 31 (barr (blkTo l k)) ∧ Below w.heap.size w w1) (fun i _ => 16 - (intOf i).toNat)
  case atStart =>
    refine ⟨0, by omega, by omega, rfl, ?_, ?_, ?_⟩
    · exact (Blk.at (by simp) rfl).alloc _
    · rw [blkTo_zero]
      exact Blk.at (by simp) rfl
    · exact ((Below.refl _ _).alloc (Nat.le_refl _) _).alloc (by simp) _
  case round =>
    obtain ⟨k, hk, hk16, rfl, h5, h6, hb⟩ := hrel
    by_cases hlt : k < l.length
    · by_cases hlt16 : k < 16
      · obtain ⟨b, off, rfl, c0⟩ := h4 k hlt
        have hbl : b < w.heap.size := World.block_lt_of_cell? w _ c0
        have c1 : wr.cell? ⟨b, off + k, none⟩ = some (.int .u8 ((l.getD k 0).toNat : Int)) := (hb.cell hbl).trans c0
        have H4 := Lib.hid h4
        clear h4 c0
        have c2 := h6.cellAt k (barr_getD (blkTo l k) k (by rw [blkTo_length]; exact hlt16))
        have f2 := h6.unfrozen k
        generalize hx : l.getD k 0 = x at c1
        have HX := Lib.hid hx
        generalize (blkTo l k).getD k 0 = z at c2
        clear hx
        go_wp2_with fail
        go_roundw
        case rel =>
          refine ⟨k + 1, by omega, by omega, by go_num, ?_, ?_, ?_⟩
          · exact h5.set_ne (by simp) _
          · have h := h6.set k (.int .u8 (x.toNat : Int))
            rw [barr_set, ← HX.out, blkTo_succ] at h
            rw [← HX.out]
            exact h
          · exact hb.setCell (by simp) _
        case measure => simp [intOf]; omega
      · have h6' : Blk wr (w.heap.size + 1) 31 (barr (blk l)) := by
          rw [blkTo_end l k (.inr (by omega))] at h6
          exact h6
        clear h6 h4
        go_wp2_with (first | ((with_reducible change wpList _ _ _ (Oper.mk _ (Op.load 31 _) _ _ _ _ :: _) _ _); refine wpList_load_blk (d := some 21) (ty := 31) (w.heap.size + 1) rfl h6' Try.underlying31 rfl size16 (blk_cells l) ?_) | ((with_reducible change wpList _ _ _ (Oper.mk _ (Op.store 31 _ _) _ _ _ _ :: _) _ _); refine wpList_store_blk (ty := 31) w.heap.size (barr (blk l)) rfl rfl h5 size16 (blk_cells l) (barr_size _) (barr_one _) ?_))
        refine bodyPost_ret (results_cell_blk rfl _ _ w.heap.size rfl (h5.row _) Try.underlying31 rfl size16 (blk_cells l)) rfl ⟨rfl, ?_⟩
        exact below_row hb (Nat.le_refl _) _
    · have h6' : Blk wr (w.heap.size + 1) 31 (barr (blk l)) := by
        rw [blkTo_end l k (.inl (by omega))] at h6
        exact h6
      clear h6 h4
      go_wp2_with (first | ((with_reducible change wpList _ _ _ (Oper.mk _ (Op.load 31 _) _ _ _ _ :: _) _ _); refine wpList_load_blk (d := some 21) (ty := 31) (w.heap.size + 1) rfl h6' Try.underlying31 rfl size16 (blk_cells l) ?_) | ((with_reducible change wpList _ _ _ (Oper.mk _ (Op.store 31 _ _) _ _ _ _ :: _) _ _); refine wpList_store_blk (ty := 31) w.heap.size (barr (blk l)) rfl rfl h5 size16 (blk_cells l) (barr_size _) (barr_one _) ?_))
      refine bodyPost_ret (results_cell_blk rfl _ _ w.heap.size rfl (h5.row _) Try.underlying31 rfl size16 (blk_cells l)) rfl ⟨rfl, ?_⟩
      exact below_row hb (Nat.le_refl _) _

end Go.Proofs.Ytihmgkjmebdioaa
/- A cipher of the program and the document's: one state of both, one answer of both. -/
namespace Go.Proofs.Ytihmgkjmebdioaa
open Go.RowKit
set_option maxRecDepth 100000
set_option linter.unusedVariables false
set_option linter.unusedSimpArgs false
/-- the same cipher -/
def rel (c : Cst) (R : Option Rc) : Prop := match c, R with
  | none, none => True
  | some (k, K), some r => if r.made = true then k = r.k ∧ K = r.K ∧ RightLen k else k = 0
  | _, _ => False
theorem rel.made {c : Cst} {R : Option Rc} (h : rel c R) : rcMade R = madeC c := by
  match c, R, h with
  | none, none, _ => rfl
  | some (k, K), some r, h =>
    simp only [rel] at h
    simp only [rcMade, madeC]
    cases hm : r.made
    · rw [hm, if_neg (by decide)] at h
      simp [h]
    · rw [hm, if_pos rfl] at h
      have := h.2.2
      unfold RightLen at this
      simp
      omega
theorem rel.get {k : Nat} {K : List UInt8} {R : Option Rc} (h : rel (some (k, K)) R) (hk : 0 < k) : ∃ r, R = some r ∧ r.made = true ∧ k = r.k ∧ K = r.K ∧ RightLen k := by
  match R, h with
  | some r, h =>
    simp only [rel] at h
    cases hm : r.made
    · rw [hm, if_neg (by decide)] at h
      omega
    · rw [hm, if_pos rfl] at h
      exact ⟨r, rfl, hm, h⟩
theorem rel.len {c : Cst} {R : Option Rc} (h : rel c R) : rcLen R = lenC c := by
  match c, R, h with
  | none, none, _ => rfl
  | some (k, K), some r, h =>
    simp only [rel] at h
    simp only [rcLen, lenC]
    cases hm : r.made
    · rw [hm, if_neg (by decide)] at h
      simp [h]
    · rw [hm, if_pos rfl] at h
      simp [h.1]
theorem rel.isNone {c : Cst} {R : Option Rc} (h : rel c R) : R = none ↔ c = none := by
  match c, R, h with
  | none, none, _ => simp
  | some (k, K), some r, _ => simp
theorem rel.right {c : Cst} {R : Option Rc} (h : rel c R) (hm : madeC c = true) : RightLen (lenC c) := by
  match c, hm with
  | some (k, K), hm =>
    have hk : 0 < k := by simpa [madeC] using hm
    obtain ⟨r, _, _, _, _, h4⟩ := h.get hk
    exact h4
def z16 : List UInt8 := List.replicate 16 0
def encR (c : Cst) (l : List UInt8) : List UInt8 := match c with
  | some (k, K) => if 0 < k then enc K (k / 4 + 6) l else z16
  | none => z16
def decR (c : Cst) (l : List UInt8) : List UInt8 := match c with
  | some (k, K) => if 0 < k then dec K (k / 4 + 6) l else z16
  | none => z16
theorem encR_len (c : Cst) (l : List UInt8) : (encR c l).length = 16 := by
  unfold encR
  split
  · split
    · exact enc_len _ _ _
    · simp [z16]
  · simp [z16]
theorem decR_len (c : Cst) (l : List UInt8) : (decR c l).length = 16 := by
  unfold decR
  split
  · split
    · exact dec_len _ _ _
    · simp [z16]
  · simp [z16]
def codeC (c : Cst) : Int := if madeC c = true then 0 else 1
def noteE (o : Option (List Rn)) (c : Cst) : Option (List Rn) := if madeC c = true then noteO o 5 (lenC c) 1 else o
def noteW (o : Option (List Rn)) (c : Cst) : Option (List Rn) := if madeC c = true then noteO o 8 ((16 * (lenC c / 4 + 6 + 1) : Nat) : Int) 1 else o
def formL (c : Cst) : List UInt8 := match c with
  | some (k, K) => if 0 < k then K.take (16 * (k / 4 + 6 + 1)) else []
  | none => []
def wiped (c : Cst) : Cst := if madeC c = true then some (0, zeroK) else c
theorem not_made {c : Cst} (h : madeC c = false) (l : List UInt8) : encR c l = z16 ∧ decR c l = z16 ∧ formL c = [] := by
  match c, h with
  | none, _ => exact ⟨rfl, rfl, rfl⟩
  | some (k, K), h =>
    have hk : k = 0 := by simpa [madeC] using h
    subst hk
    exact ⟨rfl, rfl, rfl⟩
theorem is_made {c : Cst} (h : madeC c = true) : ∃ k K, c = some (k, K) ∧ 0 < k := by
  match c, h with
  | some (k, K), h => exact ⟨k, K, rfl, by simpa [madeC] using h⟩
theorem set_id {obs : List Ob} {j : Nat} {x : Ob} (h : obs[j]? = some x) : obs.set j x = obs := set_same _ _ _ h
section
variable {w0 w : World} {obs : List Ob}
theorem encC_all (h : Env w0 w obs) (i j : Nat) (hij : i ≠ j) {p q : Value} {c : Cst} {o : Option (List Rn)} (hi : obs[i]? = some (obC p c)) (hj : obs[j]? = some (obP q o)) (hb : Room o 1) (l : List UInt8) (hl : l.length = 16) :
    Calls Try.prog 13 #[p, q, .agg (barr l)] w fun e w' => e = .returned (.tuple #[.agg (barr (encR c l)), .int .i64 (codeC c)]) ∧ Env w0 w' (obs.set j (obP q (noteE o c))) := by
  cases hm : madeC c
  · have e1 := (not_made hm l).1
    unfold codeC noteE
    rw [e1, hm, if_neg (by decide), if_neg (by decide), set_id hj]
    exact encC_no h i hi hm l
  · obtain ⟨k, K, rfl, hk⟩ := is_made hm
    unfold codeC noteE
    rw [hm, if_pos rfl, if_pos rfl]
    unfold encR
    simp only [if_pos hk]
    exact encC_env h i j hij hi hj hb hk l hl
theorem decC_all (h : Env w0 w obs) (i j : Nat) (hij : i ≠ j) {p q : Value} {c : Cst} {o : Option (List Rn)} (hi : obs[i]? = some (obC p c)) (hj : obs[j]? = some (obP q o)) (hb : Room o 1) (l : List UInt8) (hl : l.length = 16) :
    Calls Try.prog 18 #[p, q, .agg (barr l)] w fun e w' => e = .returned (.tuple #[.agg (barr (decR c l)), .int .i64 (codeC c)]) ∧ Env w0 w' (obs.set j (obP q (noteE o c))) := by
  cases hm : madeC c
  · have e1 := (not_made hm l).2.1
    unfold codeC noteE
    rw [e1, hm, if_neg (by decide), if_neg (by decide), set_id hj]
    exact decC_no h i hi hm l
  · obtain ⟨k, K, rfl, hk⟩ := is_made hm
    unfold codeC noteE
    rw [hm, if_pos rfl, if_pos rfl]
    unfold decR
    simp only [if_pos hk]
    exact decC_env h i j hij hi hj hb hk l hl
theorem rcEnc_all (h : Env w0 w obs) (i j : Nat) (hij : i ≠ j) {r s : Option Rc} {q : Value} {c : Cst} {o : Option (List Rn)} (hi : obs[i]? = some (obR2 r s)) (hj : obs[j]? = some (obR q o)) (hb : Room o 1) (k : Nat) (hr : rel c (side k r s)) (l : List UInt8) (hl : l.length = 16) :
    Calls Try.prog 43 #[rcV (side k r s), q, .agg (barr l)] w fun e w' => e = .returned (.tuple #[.agg (barr (encR c l)), .int .i64 (codeC c)]) ∧ Env w0 w' (obs.set j (obR q (noteE o c))) := by
  cases hm : madeC c
  · have e1 := (not_made hm l).1
    unfold codeC noteE
    rw [e1, hm, if_neg (by decide), if_neg (by decide), set_id hj]
    exact rcEnc_no h i hi k (hr.made.trans hm) q l
  · obtain ⟨kk, K, rfl, hk⟩ := is_made hm
    obtain ⟨x, hx, hxm, h1, h2, _⟩ := hr.get hk
    unfold codeC noteE
    rw [hm, if_pos rfl, if_pos rfl, hx]
    unfold encR
    simp only [if_pos hk, lenC]
    subst h1; subst h2
    exact rcEnc_env h i j hij hi hj hb k x hx hxm l hl
theorem rcDec_all (h : Env w0 w obs) (i j : Nat) (hij : i ≠ j) {r s : Option Rc} {q : Value} {c : Cst} {o : Option (List Rn)} (hi : obs[i]? = some (obR2 r s)) (hj : obs[j]? = some (obR q o)) (hb : Room o 1) (k : Nat) (hr : rel c (side k r s)) (l : List UInt8) (hl : l.length = 16) :
    Calls Try.prog 44 #[rcV (side k r s), q, .agg (barr l)] w fun e w' => e = .returned (.tuple #[.agg (barr (decR c l)), .int .i64 (codeC c)]) ∧ Env w0 w' (obs.set j (obR q (noteE o c))) := by
  cases hm : madeC c
  · have e1 := (not_made hm l).2.1
    unfold codeC noteE
    rw [e1, hm, if_neg (by decide), if_neg (by decide), set_id hj]
    exact rcDec_no h i hi k (hr.made.trans hm) q l
  · obtain ⟨kk, K, rfl, hk⟩ := is_made hm
    obtain ⟨x, hx, hxm, h1, h2, _⟩ := hr.get hk
    unfold codeC noteE
    rw [hm, if_pos rfl, if_pos rfl, hx]
    unfold decR
    simp only [if_pos hk, lenC]
    subst h1; subst h2
    exact rcDec_env h i j hij hi hj hb k x hx hxm l hl
theorem Env.pushNilB (h : Env w0 w obs) : Env w0 w (obs ++ [obB (.slice none 0 0) []]) :=
  h.pushB (OB.nil w) (Below.refl _ _) (fun x hx => by simp [fpv, Value.ownBlock] at hx)
theorem formC_all (h : Env w0 w obs) (i : Nat) {p : Value} {c : Cst} (hi : obs[i]? = some (obC p c)) :
    Calls Try.prog 12 #[p] w fun e w' => ∃ v, e = .returned v ∧ Env w0 w' (obs ++ [obB v (formL c)]) := by
  cases hm : madeC c
  · rw [(not_made hm []).2.2]
    refine (formC_no h i hi hm).mono ?_
    rintro e w' ⟨rfl, rfl⟩
    exact ⟨_, rfl, h.pushNilB⟩
  · obtain ⟨k, K, rfl, hk⟩ := is_made hm
    unfold formL
    simp only [if_pos hk]
    exact formC_env h i hi hk
theorem rcForm_all (h : Env w0 w obs) (i : Nat) {r s : Option Rc} {c : Cst} (hi : obs[i]? = some (obR2 r s)) (k : Nat) (hr : rel c (side k r s)) :
    Calls Try.prog 45 #[rcV (side k r s)] w fun e w' => ∃ v, e = .returned v ∧ Env w0 w' (obs ++ [obB v (formL c)]) := by
  cases hm : madeC c
  · rw [(not_made hm []).2.2]
    refine (rcForm_no h i hi k (hr.made.trans hm)).mono ?_
    rintro e w' ⟨rfl, rfl⟩
    exact ⟨_, rfl, h.pushNilB⟩
  · obtain ⟨kk, K, rfl, hk⟩ := is_made hm
    obtain ⟨x, hx, hxm, h1, h2, _⟩ := hr.get hk
    unfold formL
    simp only [if_pos hk]
    subst h1; subst h2
    rw [hx, show 16 * (x.k / 4 + 6 + 1) = 4 * (4 * (x.k / 4 + 7)) from by omega]
    exact rcForm_env h i hi k x hx hxm
theorem wipeC_all (h : Env w0 w obs) (i j : Nat) (hij : i ≠ j) {p q : Value} {c : Cst} {o : Option (List Rn)} (hi : obs[i]? = some (obC p c)) (hj : obs[j]? = some (obP q o)) (hb : Room o 1) :
    Calls Try.prog 15 #[p, q] w fun e w' => e = .returned (.int .i64 (codeC c)) ∧ Env w0 w' ((obs.set i (obC p (wiped c))).set j (obP q (noteW o c))) := by
  cases hm : madeC c
  · unfold codeC noteW wiped
    rw [hm, if_neg (by decide), if_neg (by decide), if_neg (by decide), set_id hi, set_id hj]
    refine (wipeC_no h i hi hm).mono ?_
    rintro e w' ⟨rfl, rfl⟩
    exact ⟨rfl, h⟩
  · obtain ⟨k, K, rfl, hk⟩ := is_made hm
    unfold codeC noteW wiped
    rw [hm, if_pos rfl, if_pos rfl, if_pos rfl]
    simp only [lenC]
    exact wipeC_env h i j hij hi hj hb hk
def woff1 (c : Cst) (k : Nat) (r : Option Rc) : Option Rc := if madeC c = true then off1 k r else r
def woff2 (c : Cst) (k : Nat) (s : Option Rc) : Option Rc := if madeC c = true then off2 k s else s
theorem rcWipe_all (h : Env w0 w obs) (i j : Nat) (hij : i ≠ j) {r s : Option Rc} {q : Value} {c : Cst} {o : Option (List Rn)} (hi : obs[i]? = some (obR2 r s)) (hj : obs[j]? = some (obR q o)) (hb : Room o 1) (k : Nat) (hk2 : k < 2) (hr : rel c (side k r s)) :
    Calls Try.prog 48 #[rcV (side k r s), q] w fun e w' => e = .returned (.int .i64 (codeC c)) ∧ Env w0 w' ((obs.set j (obR q (noteW o c))).set i (obR2 (woff1 c k r) (woff2 c k s))) := by
  cases hm : madeC c
  · unfold codeC noteW woff1 woff2
    rw [hm, if_neg (by decide), if_neg (by decide), if_neg (by decide), if_neg (by decide), set_id hj, set_id hi]
    refine (rcWipe_no h i hi k (hr.made.trans hm) q).mono ?_
    rintro e w' ⟨rfl, rfl⟩
    exact ⟨rfl, h⟩
  · obtain ⟨kk, K, rfl, hk⟩ := is_made hm
    obtain ⟨x, hx, hxm, h1, h2, _⟩ := hr.get hk
    unfold codeC noteW woff1 woff2
    rw [hm, if_pos rfl, if_pos rfl, if_pos rfl, if_pos rfl, hx]
    simp only [lenC]
    subst h1
    exact rcWipe_env h i j hij hi hj hb k hk2 x hx hxm
end
/-- one side's state is x then -/
theorem rel.wiped {c : Cst} {R : Option Rc} (h : rel c R) (hm : madeC c = true) : rel (wiped c) (R.map offC) := by
  obtain ⟨k, K, rfl, hk⟩ := is_made hm
  obtain ⟨x, rfl, _⟩ := h.get hk
  unfold Go.Proofs.Ytihmgkjmebdioaa.wiped
  rw [hm, if_pos rfl]
  show rel (some (0, zeroK)) (some (offC x))
  simp [rel, offC]
end Go.Proofs.Ytihmgkjmebdioaa
namespace Go.Proofs.Ytihmgkjmebdioaa
open Go.RowKit
set_option maxRecDepth 100000
set_option linter.unusedVariables false
set_option linter.unusedSimpArgs false

/-- one list: its value, how many elements, its cells -/
structure Mem1 where
  v : Value
  n : Nat
  cs : List Value
section
variable (st e : TypeId) (sz : Nat)
structure LLat (w : World) (u : Value) (vs : List Value) (es : List Mem1) : Prop where
  row : w.ownsRow 0 st 1 u vs.length vs
  mem : ∀ (j : Nat) (p : Mem1), es[j]? = some p → w.ownsRow 0 e sz p.v p.n p.cs
  out : ∀ (j : Nat) (p : Mem1), es[j]? = some p → ∀ x, fpv p.v x → ¬ fpv u x
  two : ∀ (i j : Nat) (p q : Mem1), i ≠ j → es[i]? = some p → es[j]? = some q → ∀ x, fpv p.v x → ¬ fpv q.v x
def llF (u : Value) (es : List Mem1) : Nat → Prop := fun x => fpv u x ∨ ∃ (j : Nat) (p : Mem1), es[j]? = some p ∧ fpv p.v x
def obLL (u : Value) (vs : List Value) (es : List Mem1) : Ob where
  at' w F := LLat st e sz w u vs es ∧ F = llF u es
  keep h ho hd := by
    obtain ⟨h, rfl⟩ := h
    exact ⟨⟨ownsRow_keep h.row ho fun x hx => hd x (.inl hx), fun j p hp => ownsRow_keep (h.mem j p hp) ho fun x hx => hd x (.inr ⟨j, p, hp, hx⟩), h.out, h.two⟩, rfl⟩
  lt h := by
    obtain ⟨h, rfl⟩ := h
    rintro x (hx | ⟨j, p, hp, hx⟩)
    · exact (World.ownsRow.lt h.row x hx).2
    · exact (World.ownsRow.lt (h.mem j p hp) x hx).2
variable {st e sz}
theorem Env.ll {w0 w : World} {obs : List Ob} (h : Env w0 w obs) (i : Nat) {u : Value} {vs : List Value} {es : List Mem1} (hi : obs[i]? = some (obLL st e sz u vs es)) : LLat st e sz w u vs es := by
  obtain ⟨F, h1, _⟩ := h.get i hi
  exact h1.1
theorem Env.llNil {w0 w : World} {obs : List Ob} (h : Env w0 w obs) : Env w0 w (obs ++ [obLL st e sz (.slice none 0 0) [] []]) :=
  h.push (F' := llF (.slice none 0 0) []) _ ⟨⟨World.ownsRow_nil w 0 st 1, fun j p hp => by simp at hp, fun j p hp => by simp at hp, fun i j p q _ hp => by simp at hp⟩, rfl⟩ (Below.refl _ _) (fun x hx => by
    rcases hx with hx | ⟨j, p, hp, _⟩
    · simp [fpv, Value.ownBlock] at hx
    · simp at hp)
/-- two things become one (the second is the last) -/
theorem Env.merge {w0 w : World} {obs : List Ob} {ob2 : Ob} (h : Env w0 w (obs ++ [ob2])) (i : Nat) {ob1 : Ob} (hi : obs[i]? = some ob1) (ob3 : Ob)
    (hm : ∀ F1 F2, ob1.at' w F1 → ob2.at' w F2 → (∀ x, F1 x → ¬ F2 x) → ob3.at' w (fun x => F1 x ∨ F2 x)) : Env w0 w (obs.set i ob3) := by
  obtain ⟨own, hs, ho⟩ := h
  have hil : i < obs.length := (List.getElem?_eq_some_iff.1 hi).1
  obtain ⟨F1, a1, b1⟩ := ho i ob1 (by rw [List.getElem?_append_left hil]; exact hi)
  obtain ⟨F2, a2, b2⟩ := ho obs.length ob2 (by simp)
  refine ⟨fun x => if own x = obs.length + 1 then i + 1 else own x, ⟨hs.1, fun x hx => ?_⟩, fun j ob hj => ?_⟩
  · have := hs.2 x hx
    show (if own x = obs.length + 1 then i + 1 else own x) = 0
    rw [this, if_neg (by omega)]
  · by_cases hji : j = i
    · subst hji
      rw [List.getElem?_set_self hil] at hj
      injection hj with hj
      subst hj
      refine ⟨_, hm F1 F2 a1 a2 (fun x h1 h2 => ?_), fun x hx => ?_⟩
      · have := (b1 x h1).1
        have := (b2 x h2).1
        omega
      · rcases hx with hx | hx
        · refine ⟨?_, (b1 x hx).2⟩
          show (if own x = obs.length + 1 then j + 1 else own x) = j + 1
          rw [(b1 x hx).1, if_neg (by omega)]
        · refine ⟨?_, (b2 x hx).2⟩
          show (if own x = obs.length + 1 then j + 1 else own x) = j + 1
          rw [(b2 x hx).1, if_pos rfl]
    · rw [List.getElem?_set_ne (by omega)] at hj
      have hjl : j < obs.length := (List.getElem?_eq_some_iff.1 hj).1
      obtain ⟨F, c1, c2⟩ := ho j ob (by rw [List.getElem?_append_left hjl]; exact hj)
      refine ⟨F, c1, fun x hx => ⟨?_, (c2 x hx).2⟩⟩
      show (if own x = obs.length + 1 then i + 1 else own x) = j + 1
      rw [(c2 x hx).1, if_neg (by omega)]
theorem llF_add (u : Value) (es : List Mem1) (m : Mem1) : (fun x => llF u es x ∨ fpv m.v x) = llF u (es ++ [m]) := by
  funext x
  apply propext
  constructor
  · rintro ((hx | ⟨j, p, hp, hx⟩) | hx)
    · exact .inl hx
    · exact .inr ⟨j, p, by rw [List.getElem?_append_left (List.getElem?_eq_some_iff.1 hp).1]; exact hp, hx⟩
    · exact .inr ⟨es.length, m, by simp, hx⟩
  · rintro (hx | ⟨j, p, hp, hx⟩)
    · exact .inl (.inl hx)
    · rcases Nat.lt_or_ge j es.length with hj | hj
      · rw [List.getElem?_append_left hj] at hp
        exact .inl (.inr ⟨j, p, hp, hx⟩)
      · rw [List.getElem?_append_right hj] at hp
        rcases hk : j - es.length with _ | k
        · rw [hk] at hp
          simp at hp
          subst hp
          exact .inr hx
        · rw [hk] at hp
          simp at hp
theorem add_get (es : List Mem1) (m : Mem1) (j : Nat) (p : Mem1) (h : (es ++ [m])[j]? = some p) : (j < es.length ∧ es[j]? = some p) ∨ (j = es.length ∧ p = m) := by
  rcases Nat.lt_or_ge j es.length with hj | hj
  · rw [List.getElem?_append_left hj] at h
    exact .inl ⟨hj, h⟩
  · rw [List.getElem?_append_right hj] at h
    rcases hk : j - es.length with _ | k
    · rw [hk] at h
      simp at h
      exact .inr ⟨by omega, h.symm⟩
    · rw [hk] at h
      simp at h
/-- the last thing is taken in; the row is not yet written -/
theorem Env.llIn {w0 w : World} {obs : List Ob} {v : Value} {n : Nat} {cs : List Value} (h : Env w0 w (obs ++ [obE e sz v n cs])) (i : Nat) {u : Value} {vs : List Value} {es : List Mem1} (hi : obs[i]? = some (obLL st e sz u vs es)) :
    Env w0 w (obs.set i (obLL st e sz u vs (es ++ [⟨v, n, cs⟩]))) := by
  refine h.merge i hi _ ?_
  rintro F1 F2 ⟨h1, rfl⟩ ⟨h2, rfl⟩ hd
  refine ⟨⟨h1.row, fun j p hp => ?_, fun j p hp x hx => ?_, fun a b p q hab hp hq x hx => ?_⟩, llF_add u es ⟨v, n, cs⟩⟩
  · rcases add_get _ _ _ _ hp with ⟨_, hp⟩ | ⟨_, rfl⟩
    · exact h1.mem j p hp
    · exact h2
  · rcases add_get _ _ _ _ hp with ⟨_, hp⟩ | ⟨_, rfl⟩
    · exact h1.out j p hp x hx
    · exact fun hu => hd x (.inl hu) hx
  · rcases add_get _ _ _ _ hp with ⟨_, hp⟩ | ⟨e1, rfl⟩
    · rcases add_get _ _ _ _ hq with ⟨_, hq⟩ | ⟨e2, rfl⟩
      · exact h1.two a b p q hab hp hq x hx
      · exact hd x (.inr ⟨a, p, hp, hx⟩)
    · rcases add_get _ _ _ _ hq with ⟨_, hq⟩ | ⟨e2, rfl⟩
      · exact fun hx2 => hd x (.inr ⟨b, q, hq, hx2⟩) hx
      · exact absurd (e1.trans e2.symm) hab
/-- the row is written on -/
theorem Env.llRow {w0 w w' : World} {obs : List Ob} (h : Env w0 w obs) (i : Nat) {u u' : Value} {vs vs' : List Value} {es : List Mem1} (hi : obs[i]? = some (obLL st e sz u vs es))
    (hown : w'.ownsRow 0 st 1 u' vs'.length vs') (hg : w.grownBy w' u.ownBlock) (hat : u'.ownBlock = u.ownBlock ∨ u'.ownBlock = some w.heap.size) : Env w0 w' (obs.set i (obLL st e sz u' vs' es)) := by
  obtain ⟨F, ⟨h1, rfl⟩, h2, h3, h4⟩ := h.get i hi
  have ho : Only (fpv u) w w' := Only.grown (Only.refl _ w) hg (fun k hk => .inl hk)
  have hu : ∀ x, fpv u' x → fpv u x ∨ w.heap.size ≤ x := by
    intro x hx
    have hx' : u'.ownBlock = some x := hx
    rcases hat with hat | hat
    · rw [hat] at hx'
      exact .inl hx'
    · rw [hat] at hx'
      injection hx' with hx'
      exact .inr (by omega)
  refine h4 w' (llF u' es) (obLL st e sz u' vs' es) ⟨⟨hown, fun j p hp => ownsRow_keep (h1.mem j p hp) ho (h1.out j p hp), fun j p hp x hx hx2 => ?_, h1.two⟩, rfl⟩ (ho.mono fun x hx => .inl hx) (fun x hx => ?_)
  · rcases hu x hx2 with hx3 | hx3
    · exact h1.out j p hp x hx hx3
    · have := (World.ownsRow.lt (h1.mem j p hp) x hx).2
      omega
  · rcases hx with hx | hx
    · rcases hu x hx with hx | hx
      · exact .inl (.inl hx)
      · exact .inr hx
    · exact .inl (.inr hx)
open Classical in
/-- it falls into its parts -/
theorem Env.llOut {w0 w : World} {u : Value} {vs : List Value} {es : List Mem1} {rest : List Ob} (h : Env w0 w (obLL st e sz u vs es :: rest)) (T : Nat → Ob) (hT : ∀ (j : Nat) (p : Mem1), es[j]? = some p → T j = obE e sz p.v p.n p.cs) :
    Env w0 w (obE st 1 u vs.length vs :: ((List.range es.length).map T ++ rest)) := by
  obtain ⟨own, hs, ho⟩ := h
  obtain ⟨F, ⟨h1, hF⟩, hb⟩ := ho 0 _ rfl
  subst hF
  refine ⟨fun x => if own x = 0 then 0 else if own x = 1 then (if fpv u x then 1 else if hh : ∃ (j : Nat) (p : Mem1), es[j]? = some p ∧ fpv p.v x then Classical.choose hh + 2 else 0) else own x + es.length, ⟨hs.1, fun x hx => ?_⟩, fun k ob hk => ?_⟩
  · show (if own x = 0 then 0 else _) = 0
    rw [if_pos (hs.2 x hx)]
  · rcases k with _ | k
    · simp at hk
      subst hk
      refine ⟨fpv u, ⟨h1.row, rfl⟩, fun x hx => ⟨?_, (hb x (.inl hx)).2⟩⟩
      have e1 := (hb x (.inl hx)).1
      show (if own x = 0 then 0 else _) = 1
      rw [if_neg (by omega), if_pos (by omega), if_pos hx]
    · rw [List.getElem?_cons_succ] at hk
      rcases Nat.lt_or_ge k es.length with hkl | hkl
      · rw [List.getElem?_append_left (by simpa using hkl), List.getElem?_map, List.getElem?_range hkl] at hk
        simp at hk
        obtain ⟨p, hp⟩ : ∃ p, es[k]? = some p := ⟨_, List.getElem?_eq_getElem hkl⟩
        rw [hT k p hp] at hk
        subst hk
        refine ⟨fpv p.v, ⟨h1.mem k p hp, rfl⟩, fun x hx => ⟨?_, (hb x (.inr ⟨k, p, hp, hx⟩)).2⟩⟩
        have e1 := (hb x (.inr ⟨k, p, hp, hx⟩)).1
        have hh : ∃ (j : Nat) (p : Mem1), es[j]? = some p ∧ fpv p.v x := ⟨k, p, hp, hx⟩
        show (if own x = 0 then 0 else _) = k + 1 + 1
        rw [if_neg (by omega), if_pos (by omega), if_neg (h1.out k p hp x hx), dif_pos hh]
        obtain ⟨q, hq, hqx⟩ := Classical.choose_spec hh
        by_cases hjk : Classical.choose hh = k
        · rw [hjk]
        · exact absurd hqx (h1.two k _ p q (fun e => hjk e.symm) hp hq x hx)
      · rw [List.getElem?_append_right (by simpa using hkl)] at hk
        rw [List.length_map, List.length_range] at hk
        obtain ⟨F, c1, c2⟩ := ho (k - es.length + 1) ob (by rw [List.getElem?_cons_succ]; exact hk)
        refine ⟨F, c1, fun x hx => ⟨?_, (c2 x hx).2⟩⟩
        have e1 := (c2 x hx).1
        show (if own x = 0 then 0 else _) = k + 1 + 1
        rw [if_neg (by omega), if_neg (by omega)]
        omega
end
end Go.Proofs.Ytihmgkjmebdioaa
