/- The walk of CtWipes. Conditions: the list has at most 2^47 - 4096 bytes (the form's own reach). -/
import Derived.Test.YthegjgbidhbmfaaRows
import Derived.Test.YthegjgbidhbmfaaCtLaws
import Derived.Test.YthegjgbidhbmfaaCount
namespace Go.Proofs.Ythegjgbidhbmfaa
open Go.RowKit
set_option maxRecDepth 100000
set_option linter.unusedVariables false

/-- the address of s[at:..] -/
def cutA (ao : Option Addr) (cap at' : Nat) : Option Addr := if cap = at' then ao else Option.map (fun x => x.add at') ao
theorem Bs.cut {w : World} {ao : Option Addr} {n cap : Nat} {l : List UInt8} (h : Bs w (.slice ao n cap) l) (at' k : Nat) (hk : at' + k ≤ l.length) : Bs w (.slice (cutA ao cap at') k (cap - at')) ((l.drop at').take k) := by
  obtain ⟨ao', cap', hv, h1, h2, h3, h4⟩ := h.form
  injection hv with e1 e2 e3
  subst e1; subst e3
  have hlen : ((l.drop at').take k).length = k := by simp; omega
  refine ⟨cutA ao cap at', cap - at', by rw [hlen], by omega, by omega, (fun hn => ?_), fun j hj => ?_⟩
  · have : ao = none := by
      unfold cutA at hn
      split at hn
      · exact hn
      · simpa using hn
    have := h3 this
    omega
  · rw [hlen] at hj
    obtain ⟨b, off, hb, hc⟩ := h4 (at' + j) (by omega)
    subst hb
    refine ⟨b, off + at', ?_, ?_⟩
    · unfold cutA
      rw [if_neg (by omega)]
      simp only [Option.map_some, Addr.add]
      split
      · rename_i he; rw [he]; rfl
      · rfl
    · rw [Nat.add_assoc, hc, List.getD_eq_getElem?_getD, List.getD_eq_getElem?_getD, List.getElem?_take, if_pos hj, List.getElem?_drop]
theorem Env.appended {w0 w w' : World} {obs : List Ob} (h : Env w0 w obs) (i : Nat) {v v' : Value} {l m : List UInt8} (hi : obs[i]? = some (obB v l)) (hown : w'.ownsRow 0 5 1 v' (l.length + m.length) (l.map B ++ m.map B)) (hgrow : w.grownBy w' v.ownBlock)
    (hat : v'.ownBlock = v.ownBlock ∨ v'.ownBlock = some w.heap.size) : Env w0 w' (obs.set i (obB v' (l ++ m))) := by
  obtain ⟨F, h1, _, _, h4⟩ := h.get i hi
  obtain ⟨hb, rfl⟩ := h1
  refine h4 w' (fpv v') (obB v' (l ++ m)) ⟨?_, rfl⟩ ?_ (fun x hx => ?_)
  · unfold OB
    rw [List.length_append, List.map_append]
    exact hown
  · exact (Only.refl (fpv v) w).grown hgrow (fun k hk => .inl hk)
  · have hx' : v'.ownBlock = some x := hx
    rcases hat with hat | hat
    · exact .inl (by show v.ownBlock = some x; rw [← hat]; exact hx')
    · rw [hat] at hx'
      simp at hx'
      exact .inr (by omega)
theorem set_same {α : Type} : ∀ (l : List α) (j : Nat) (x : α), l[j]? = some x → l.set j x = l
  | [], _, _, h => by simp at h
  | a :: l, 0, x, h => by simp at h; subst h; rfl
  | a :: l, j + 1, x, h => by rw [List.set_cons_succ, set_same l j x (by simpa using h)]
theorem wipeSlice_env {w0 w : World} {obs : List Ob} (h : Env w0 w obs) (i j : Nat) (hij : i ≠ j) {p : Value} {o : Option (List Rn)} (hi : obs[i]? = some (obP p o)) (hb : Room o 1) {ao : Option Addr} {cap : Nat} {l : List UInt8} (hj : obs[j]? = some (obB (.slice ao l.length cap) l))
    (at' n : Nat) (hn : at' + n ≤ l.length) (hl : l.length ≤ 140737488355328) :
    Calls Try.prog 13 #[p, .slice (cutA ao cap at') n (cap - at')] w fun e w' => e = .returned (.tuple #[]) ∧ Env w0 w' ((obs.set i (obP p (noteO o 8 n 1))).set j (obB (.slice ao l.length cap) (wipeTo l at' n))) := by
  by_cases h0 : n = 0
  · subst h0
    refine (wipe0_env h i hi hb (cutA ao cap at') (cap - at')).mono fun e w' ⟨he, h1⟩ => ⟨he, ?_⟩
    rw [wipeTo_zero, set_same _ _ _ (by rw [List.getElem?_set_ne hij]; exact hj)]
    exact h1
  · obtain ⟨g, capL, hv⟩ := (h.bytes j hj).form (by omega)
    injection hv with e1 e2 e3
    subst e1; subst e3
    have hc := (h.bytes j hj).caps
    have ec : cutA (some ⟨g, 0, none⟩) cap at' = some ⟨g, at', none⟩ := by
      unfold cutA
      rw [if_neg (by omega)]
      simp only [Option.map_some, Addr.add]
      split
      · rename_i he; rw [he]
      · rw [Nat.zero_add]
    rw [ec]
    exact wipe_env h i j hij hi hb hj at' n _ hn hl
/-- a thing is wiped without a ledger -/
theorem wipeSlice_nil {w0 w : World} {obs : List Ob} (h : Env w0 w obs) (j : Nat) {ao : Option Addr} {cap : Nat} {l : List UInt8} (hj : obs[j]? = some (obB (.slice ao l.length cap) l))
    (at' n : Nat) (hn : at' + n ≤ l.length) (hl : l.length ≤ 140737488355328) :
    Calls Try.prog 13 #[.pointer none, .slice (cutA ao cap at') n (cap - at')] w fun e w' => e = .returned (.tuple #[]) ∧ Env w0 w' (obs.set j (obB (.slice ao l.length cap) (wipeTo l at' n))) := by
  by_cases h0 : n = 0
  · subst h0
    refine (wipe_none _ _ none (cutA ao cap at') (cap - at') w (LgP.nil w) (Room.none 1)).mono fun e w' ⟨he, h1⟩ => ⟨he, ?_⟩
    rw [wipeTo_zero, set_same _ _ _ hj]
    exact h.below h1.nothing
  · obtain ⟨g, capL, hv⟩ := (h.bytes j hj).form (by omega)
    injection hv with e1 e2 e3
    subst e1; subst e3
    have hc := (h.bytes j hj).caps
    have ec : cutA (some ⟨g, 0, none⟩) cap at' = some ⟨g, at', none⟩ := by
      unfold cutA
      rw [if_neg (by omega)]
      simp only [Option.map_some, Addr.add]
      split
      · rename_i he; rw [he]
      · rw [Nat.zero_add]
    rw [ec]
    refine (wipe_any _ _ none g at' n (cap - at') cap l w (LgP.nil w) (Room.none 1) (h.bytes j hj) hn (fun h => h) hl).mono fun e w' ⟨he, w1, h1, h2, h3⟩ => ⟨he, ?_⟩
    exact (h.turnB j hj h1 (h2.mono (fun x hx => by rw [hx]; rfl))).below h3.nothing
theorem countP_env {w0 w : World} {obs : List Ob} (h : Env w0 w obs) (i : Nat) {p : Value} {rs : List Rn} (hi : obs[i]? = some (obP p (some rs))) (k : Int) (hl : rs.length ≤ 1099511627776) (ht : tot rs < 9223372036854775808) :
    Calls Try.prog 19 #[p, .int .u8 k] w fun e w' => e = .returned (.int .i64 (cnt rs k)) ∧ Env w0 w' obs := by
  obtain ⟨F, f1, _⟩ := h.ledP i hi
  obtain ⟨b, v, rfl, rfl, f2⟩ := f1
  exact (countP_any b v rs k w f2 hl ht).mono fun e w' ⟨he, hb⟩ => ⟨he, h.below hb⟩
theorem pick_nat (i : Int) (n : Nat) (hn : 0 < n) : ∃ k : Nat, i % (n : Int) = (k : Int) ∧ k < n := by
  have h1 := Int.emod_nonneg i (show (n : Int) ≠ 0 by omega)
  have h2 := Int.emod_lt_of_pos i (show (0 : Int) < n by omega)
  exact ⟨(i % (n : Int)).toNat, by omega, by omega⟩
/-- what stands behind wiping, in three pieces -/
theorem wipe_want (l : List UInt8) (a n : Nat) (h : a + n ≤ l.length) : ([] ++ l.take a) ++ List.replicate n 0 ++ (l.drop (a + n)).take (l.length - (a + n)) = wipeTo l a n := by
  unfold wipeTo
  rw [List.nil_append, List.take_of_length_le (l := l.drop (a + n)) (by simp)]
theorem Bs.sl {w : World} {v : Value} {l : List UInt8} (h : Bs w v l) {n : Nat} (hn : l.length = n) : Sl w 1 v n (l.map B) := by
  subst hn; exact Sl.of_bytes h
theorem OB.owns {w : World} {v : Value} {l : List UInt8} (h : OB w v l) {n : Nat} (hn : l.length = n) : w.ownsRow 0 5 1 v n (l.map B) := by
  subst hn; exact h
theorem bl2 {a n : Nat} (h : a + n ≤ 140737488351232) : a + n ≤ maxLen := by unfold maxLen; omega
theorem bb2 {a n : Nat} (h : a + n ≤ 140737488351232) : (a + n) * 1 ≤ 140737488355328 := by omega
set_option maxHeartbeats 4000000 in
theorem ctWipes_walk (vb : Value) (b : List UInt8) (i n : Int) (w : World) (hb : In w vb b) :
    Calls Try.prog 3 #[vb, .int .i64 i, .int .i64 n] w fun e w' => e = .returned (.bool true) ∧ Below w.heap.size w w' := by
  obtain ⟨i0, hi0, hz0, hz1, hz2⟩ := info_parts info8
  have HI := Lib.hid (And.intro hi0 (And.intro hz0 (And.intro hz1 hz2)))
  clear hi0 hz0 hz1 hz2
  have lb := hb.2
  have HB := Lib.hid hb.1
  obtain ⟨bo, bcap, rfl, b1, b2, _, _⟩ := hb.1.form
  clear hb
  obtain ⟨A, hA, A1⟩ := pick_nat i (b.length + 1) (by omega)
  obtain ⟨N, hN, N1⟩ := pick_nat n (b.length - A + 1) (by omega)
  have hA' : i % ((b.length : Int) + 1) = (A : Int) := by rw [← hA]; rfl
  have hN' : n % ((b.length : Int) - (A : Int) + 1) = (N : Int) := by
    rw [← hN]
    congr 1
    omega
  have HA := Lib.hid hA'
  have HN := Lib.hid hN'
  clear hA hN hA' hN'
  go_enter Try.func3, Try.ntmps3
  go_wp2_with fail
  refine (newP_env (Env.start w)).mono ?_
  rintro e w1 ⟨p, rfl, h5⟩
  have H1 := Lib.hid h5
  clear h5
  go_wp2_with fail
  refine (newR_env H1.out).mono ?_
  rintro e w2 ⟨q, rfl, h5⟩
  have H2 := Lib.hid h5
  clear h5 H1
  go_wp2_with fail
  refine (copy_env H2.out (H2.out.old HB.out) (by omega)).mono ?_
  rintro e w3 ⟨v0, rfl, h5⟩
  obtain ⟨fo, fcap, rfl⟩ := (h5.bytes 2 rfl).any
  have hfc : b.length ≤ fcap ∧ fcap ≤ 9223372036854775807 := by
    obtain ⟨_, _, hv, x1, x2, _, _⟩ := (h5.bytes 2 rfl).rd.form
    injection hv with _ _ e3
    rw [e3]
    exact ⟨x1, x2⟩
  obtain ⟨f1, f2⟩ := hfc
  have H3 := Lib.hid h5
  clear h5 H2
  go_wp2_with fail
  refine (pick_any i _ _ (by omega) (by omega)).mono ?_
  rintro e w' ⟨he, rfl⟩
  rw [HA.out] at he
  subst he
  go_wp2_with fail
  refine (pick_any n _ _ (by omega) (by omega)).mono ?_
  rintro e w' ⟨he, rfl⟩
  rw [HN.out] at he
  subst he
  have hca : (if fcap = A then fo else Option.map (fun x => x.add A) fo) = cutA fo fcap A := rfl
  have g1 : A + N ≤ fcap := by omega
  have g2 : A ≤ A + N := by omega
  have g3 : A + N - A = N := by omega
  go_wp2_with fail
  refine (wipeSlice_env H3.out 0 2 (by decide) rfl (Few.nil.room (by omega)) rfl A N (by omega) (by omega)).mono ?_
  rintro e w4 ⟨rfl, h5⟩
  have H4 : Hid (Env w w4 ([obP p (some [⟨8, N, 1⟩]), obR q (some []), obB (.slice fo b.length fcap) (wipeTo b A N)] ++ [obB (.slice none 0 0) []])) := Lib.hid ((h5.pushB (OB.nil w4) (Below.refl _ _) (fun x hx => by simp [fpv, Value.ownBlock] at hx)))
  clear h5 H3 hca
  have A2 : A ≤ b.length := by omega
  have A3 : A ≤ bcap := by omega
  have A4 : A + N ≤ b.length := by omega
  have A5 : A + N ≤ bcap := by omega
  have LA : (b.take A).length = A := by simp; omega
  have LN : ((b.drop A).take N).length = N := by simp; omega
  have LAh := Lib.hid LA
  have LNh := Lib.hid LN
  clear LA LN
  have hy := ((H4.out.old HB.out).take A A2).sl LAh.out
  have hown0 : w4.ownsRow 0 5 1 (.slice none 0 0) 0 [] := World.ownsRow_nil w4 0 _ 1
  obtain ⟨hi, hz0, hz1, hz2⟩ := HI.out
  go_wp2_with (at_builtin; refine wpList_append_sl _ rfl _ _ 22 rfl 5 i0 _ 1 1 Try.underlying22 hi hz0 hz1 hz2 rfl (by decide) (.slice none 0 0) 0 [] rfl hown0 (.slice bo A bcap) A ((b.take A).map B) rfl hy (bl2 (by omega)) (bb2 (by omega)) ?_)
  intro v1 w5 hown hgrow hat
  have H5 : Hid (Env w w5 [obP p (some [⟨8, N, 1⟩]), obR q (some []), obB (.slice fo b.length fcap) (wipeTo b A N), obB v1 ([] ++ b.take A)]) := Lib.hid (H4.out.appended 3 rfl (by rw [LAh.out]; simpa using hown) hgrow hat)
  clear hown hgrow hat hown0 hy hi hz0 hz1 hz2 H4
  have hca : (if bcap = A then bo else Option.map (fun x => x.add A) bo) = cutA bo bcap A := rfl
  go_wp2_with fail
  have HC := (H5.out.old HB.out).cut A N A4
  refine (wiped_env H5.out 1 rfl (Few.nil.room (by omega)) HC (by rw [LNh.out]; omega)).mono ?_
  rintro e w6 ⟨r, rfl, h5⟩
  have H6 : Hid (Env w w6 [obP p (some [⟨8, N, 1⟩]), obR q (some [⟨8, N, 1⟩]), obB (.slice fo b.length fcap) (wipeTo b A N), obB v1 ([] ++ b.take A), obB r (List.replicate N 0)]) := Lib.hid (by rw [LNh.out] at h5; exact h5)
  clear h5 H5 HC hca
  obtain ⟨L1, hL1⟩ : ∃ L, [] ++ b.take A = L := ⟨_, rfl⟩
  obtain ⟨M2, hM2⟩ : ∃ L, List.replicate N (0 : UInt8) = L := ⟨_, rfl⟩
  have l1 : L1.length = A := by rw [← hL1]; simpa using LAh.out
  have m2 : M2.length = N := by rw [← hM2]; simp
  have H7 : Hid (Env w w6 [obP p (some [⟨8, N, 1⟩]), obR q (some [⟨8, N, 1⟩]), obB (.slice fo b.length fcap) (wipeTo b A N), obB v1 L1, obB r M2]) := Lib.hid (by rw [← hL1, ← hM2]; exact H6.out)
  have HL1 := Lib.hid hL1
  have HM2 := Lib.hid hM2
  have Hl1 := Lib.hid l1
  have Hm2 := Lib.hid m2
  clear H6 hL1 hM2 l1 m2
  have hown0 := (H7.out.bytes 3 rfl).owns Hl1.out
  have hy := (H7.out.bytes 4 rfl).rd.sl Hm2.out
  obtain ⟨hi, hz0, hz1, hz2⟩ := HI.out
  go_wp2_with (at_builtin; refine wpList_append_sl _ rfl _ _ 22 rfl 5 i0 _ 1 1 Try.underlying22 hi hz0 hz1 hz2 rfl (by decide) v1 A (L1.map B) rfl hown0 r N (M2.map B) rfl hy (bl2 (by omega)) (bb2 (by omega)) ?_)
  intro v2 w7 hown hgrow hat _
  have H8 : Hid (Env w w7 [obP p (some [⟨8, N, 1⟩]), obR q (some [⟨8, N, 1⟩]), obB (.slice fo b.length fcap) (wipeTo b A N), obB v2 (L1 ++ M2), obB r M2]) := Lib.hid (H7.out.appended 3 rfl (by rw [Hl1.out, Hm2.out]; exact hown) hgrow hat)
  clear hown hgrow hat hown0 hy hi hz0 hz1 hz2 H7
  obtain ⟨L2, hL2⟩ : ∃ L, L1 ++ M2 = L := ⟨_, rfl⟩
  have l2 : L2.length = A + N := by rw [← hL2, List.length_append, Hl1.out, Hm2.out]
  have H9 : Hid (Env w w7 [obP p (some [⟨8, N, 1⟩]), obR q (some [⟨8, N, 1⟩]), obB (.slice fo b.length fcap) (wipeTo b A N), obB v2 L2, obB r M2]) := Lib.hid (by rw [← hL2]; exact H8.out)
  have HL2 := Lib.hid hL2
  have Hl2 := Lib.hid l2
  clear H8 hL2 l2
  have hown0 := (H9.out.bytes 3 rfl).owns Hl2.out
  have HC := ((H9.out.old HB.out).cut (A + N) (b.length - (A + N)) (by omega))
  obtain ⟨M3, hM3⟩ : ∃ L, (b.drop (A + N)).take (b.length - (A + N)) = L := ⟨_, rfl⟩
  rw [hM3] at HC
  have m3 : M3.length = b.length - (A + N) := by rw [← hM3]; simp
  have hy := HC.sl m3
  have HM3 := Lib.hid hM3
  have Hm3 := Lib.hid m3
  clear hM3 m3 HC
  have hca : (if bcap = A + N then bo else Option.map (fun x => x.add (A + N)) bo) = cutA bo bcap (A + N) := rfl
  obtain ⟨hi, hz0, hz1, hz2⟩ := HI.out
  go_wp2_with (at_builtin; refine wpList_append_sl _ rfl _ _ 22 rfl 5 i0 _ 1 1 Try.underlying22 hi hz0 hz1 hz2 rfl (by decide) v2 (A + N) (L2.map B) rfl hown0 (.slice (cutA bo bcap (A + N)) (b.length - (A + N)) (bcap - (A + N))) (b.length - (A + N)) (M3.map B) rfl hy (bl2 (by omega)) (bb2 (by omega)) ?_)
  intro v3 w8 hown hgrow hat _
  have H10 : Hid (Env w w8 [obP p (some [⟨8, N, 1⟩]), obR q (some [⟨8, N, 1⟩]), obB (.slice fo b.length fcap) (wipeTo b A N), obB v3 (wipeTo b A N), obB r M2]) := Lib.hid (by
    have h := H9.out.appended (m := M3) 3 rfl (by rw [Hl2.out, Hm3.out, show A + N + (b.length - (A + N)) = b.length from by omega]; exact hown) hgrow hat
    rw [show L2 ++ M3 = wipeTo b A N from by rw [← HL2.out, ← HL1.out, ← HM2.out, ← HM3.out]; exact wipe_want b A N A4] at h
    exact h)
  clear hown hgrow hat hown0 hy hi hz0 hz1 hz2 H9 hca
  go_wp2_with fail
  refine (sameBytes_env H10.out (H10.out.bytes 2 rfl).rd (H10.out.bytes 3 rfl).rd).mono ?_
  rintro e w9 ⟨he, h5⟩
  rw [decide_eq_true rfl] at he
  subst he
  have H11 := Lib.hid h5
  clear h5 H10
  go_wp2_with fail
  refine (runsP_env H11.out 0 rfl (by simp)).mono ?_
  rintro e w10 ⟨vp, rfl, h5⟩
  have H12 := Lib.hid h5
  clear h5 H11
  go_wp2_with fail
  refine (runsR_env H12.out 1 rfl (by simp)).mono ?_
  rintro e w11 ⟨vr, rfl, h5⟩
  have H13 := Lib.hid h5
  clear h5 H12
  go_wp2_with fail
  refine (sameRuns_env H13.out (H13.out.runs 5 rfl).rd (H13.out.runs 6 rfl).rd).mono ?_
  rintro e w12 ⟨he, h5⟩
  rw [decide_eq_true rfl] at he
  subst he
  have H14 := Lib.hid h5
  clear h5 H13
  go_wp2_with fail
  refine (copy_env H14.out (H14.out.old HB.out) (by omega)).mono ?_
  rintro e w13 ⟨v4, rfl, h5⟩
  obtain ⟨so, scap, rfl⟩ := (h5.bytes 7 rfl).any
  have hfc : b.length ≤ scap ∧ scap ≤ 9223372036854775807 := by
    obtain ⟨_, _, hv, x1, x2, _, _⟩ := (h5.bytes 7 rfl).rd.form
    injection hv with _ _ e3
    rw [e3]
    exact ⟨x1, x2⟩
  obtain ⟨s1, s2⟩ := hfc
  have H15 := Lib.hid h5
  clear h5 H14
  have hca : (if scap = A then so else Option.map (fun x => x.add A) so) = cutA so scap A := rfl
  have s3 : A + N ≤ scap := by omega
  go_wp2_with fail
  refine (wipeSlice_nil H15.out 7 rfl A N (by omega) (by omega)).mono ?_
  rintro e w14 ⟨rfl, h5⟩
  have H16 := Lib.hid h5
  clear h5 H15 hca
  go_wp2_with fail
  refine (sameBytes_env H16.out (H16.out.bytes 7 rfl).rd (H16.out.bytes 3 rfl).rd).mono ?_
  rintro e w15 ⟨he, h5⟩
  rw [decide_eq_true rfl] at he
  subst he
  have H17 := Lib.hid h5
  clear h5 H16
  go_wp2_with fail
  refine (countP_env H17.out 0 rfl 8 (by simp) (by simp [tot])).mono ?_
  rintro e w16 ⟨he, h5⟩
  have he' : e = .returned (.int .i64 1) := by rw [he]; rfl
  subst he'
  have H18 := Lib.hid h5
  clear h5 H17 he
  go_wp2
  go_ret
  exact ⟨rfl, H18.out.base⟩
theorem ctWipes.walk {w : World} (vb : Value) (b : List UInt8) (hb : In w vb b) (i : Int) (wi : (Lit.int .i64 i).wf = true) (n : Int) (wn : (Lit.int .i64 n).wf = true) :
    Calls Try.prog 3 #[vb, .int .i64 i, .int .i64 n] w fun e w' => e = .returned (.bool true) ∧ Below w.heap.size w w' := ctWipes_walk vb b i n w hb
end Go.Proofs.Ythegjgbidhbmfaa
