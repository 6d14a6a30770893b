/- The law's pair of ciphers: act, a call of both. -/
import Derived.Test.YtihmgkjmebdioaaRows
import Derived.Test.YtihmgkjmebdioaaQAesScript1
import Derived.Test.YtihmgkjmebdioaaQAesScript6
import Derived.Test.YtihmgkjmebdioaaQAesScript7
namespace Go.Proofs.Ytihmgkjmebdioaa
open Go.RowKit
set_option maxRecDepth 100000
set_option linter.unusedVariables false
set_option linter.unusedSimpArgs false
attribute [local go_sem] Oper.semAt_some
theorem pick10 (i n : Int) (w : World) (hn : 0 < n) (hn' : n ≤ 9223372036854775807) :
    Calls Try.prog 42 #[.int .i64 i, .int .i64 n] w fun e w' => e = .returned (.int .i64 (i % n)) ∧ w = w' := by
  have ht : i.tmod n = if i % n = 0 ∨ 0 ≤ i then i % n else i % n - n := by
    have := Int.emod_nonneg i (show n ≠ 0 by omega)
    rw [Int.tmod_eq_emod]
    have : (n.natAbs : Int) = n := by omega
    by_cases h : 0 ≤ i ∨ n ∣ i
    · rw [if_pos h]
      rcases h with h | h
      · rw [if_pos (.inr h)]; omega
      · rw [if_pos (.inl (Int.emod_eq_zero_of_dvd h))]; omega
    · rw [if_neg h]
      have : ¬ (i % n = 0 ∨ 0 ≤ i) := by
        rintro (h1 | h1)
        · exact h (.inr (Int.dvd_of_emod_eq_zero h1))
        · exact h (.inl h1)
      rw [if_neg this]
      omega
  have h1 := Int.emod_nonneg i (show n ≠ 0 by omega)
  have h2 := Int.emod_lt_of_pos i hn
  by_cases hc : i % n = 0 ∨ 0 ≤ i
  · rw [if_pos hc] at ht
    clear hc
    generalize i % n = r at ht h1 h2 ⊢
    go_enter Try.func42, Try.ntmps42
    go_wp2
    go_ret
    exact ⟨rfl, rfl⟩
  · rw [if_neg hc] at ht
    have h3 : ¬ i % n = 0 := fun e => hc (.inl e)
    clear hc
    generalize i % n = r at ht h1 h2 h3 ⊢
    have e : r - n + n = r := by omega
    go_enter Try.func42, Try.ntmps42
    go_wp2
    go_ret
    exact ⟨rfl, rfl⟩
def actV10 (on kd : Int) (bv : Value) (mute : Bool) : Value := .agg #[.int .i64 on, .int .i64 kd, bv, .bool mute]
def obA10 (G : Nat) (on kd : Int) (bv : Value) (mute : Bool) : Ob := obK G 63 #[.int .i64 on, .int .i64 kd, bv, .bool mute]
/-- what the drawn regions read -/
structure SA (P G k : Nat) (cv rv pl pw bv : Value) (W : World) : Prop where
  c : W.cell? ⟨P, k, none⟩ = some cv
  r : W.cell? ⟨P, 2 + k, none⟩ = some rv
  l : W.cell? ⟨P, 4, none⟩ = some pl
  w : W.cell? ⟨P, 5, none⟩ = some pw
  b : W.cell? ⟨G, 2, none⟩ = some bv
theorem SA.fc {P G k : Nat} {cv rv pl pw bv : Value} (W : World) (h : SA P G k cv rv pl pw bv W) : W.cell? ⟨P, k, none⟩ = some cv := h.c
theorem SA.fr {P G k : Nat} {cv rv pl pw bv : Value} (W : World) (h : SA P G k cv rv pl pw bv W) : W.cell? ⟨P, 2 + k, none⟩ = some rv := h.r
theorem SA.fl {P G k : Nat} {cv rv pl pw bv : Value} (W : World) (h : SA P G k cv rv pl pw bv W) : W.cell? ⟨P, 4, none⟩ = some pl := h.l
theorem SA.fw {P G k : Nat} {cv rv pl pw bv : Value} (W : World) (h : SA P G k cv rv pl pw bv W) : W.cell? ⟨P, 5, none⟩ = some pw := h.w
theorem SA.fb {P G k : Nat} {cv rv pl pw bv : Value} (W : World) (h : SA P G k cv rv pl pw bv W) : W.cell? ⟨G, 2, none⟩ = some bv := h.b
/-- a list of things on the way: the pair's block ahead, the act's box at place 10 -/
structure Stg (P G : Nat) (pl pw : Value) (x : St10) (on kd : Int) (bv : Value) (mute : Bool) (M : List Ob) : Prop where
  len : 11 ≤ M.length
  p0 : M[0]? = some (obK P 59 (pairC pl pw x))
  g : M[10]? = some (obA10 G on kd bv mute)
section
variable {P G : Nat} {pl pw : Value} {x : St10} {on kd : Int} {bv : Value} {mute : Bool} {M : List Ob} {w0 W : World}
theorem Stg.sa (h : Stg P G pl pw x on kd bv mute M) (X : List Ob) (hE : Env w0 W (M ++ X)) (k : Nat) (hk : k < 2) : SA P G k (sd k x.c0 x.c1) (rcV (side k x.R0 x.R1)) pl pw bv W := by
  have hl := h.len
  have b0 := hE.blk 0 (b := P) (by rw [List.getElem?_append_left (by omega)]; exact h.p0)
  have b1 := hE.blk 10 (b := G) (by rw [List.getElem?_append_left (by omega)]; exact h.g)
  exact ⟨b0.cellAt k (pair_c k hk), b0.cellAt (2 + k) (pair_r k hk), b0.cellAt 4 rfl, b0.cellAt 5 rfl, b1.cellAt 2 rfl⟩
theorem Stg.set (h : Stg P G pl pw x on kd bv mute M) (j : Nat) (hj : j ≠ 0 ∧ j ≠ 10) (ob : Ob) : Stg P G pl pw x on kd bv mute (M.set j ob) :=
  ⟨by rw [List.length_set]; exact h.len, by rw [List.getElem?_set_ne (by omega)]; exact h.p0, by rw [List.getElem?_set_ne (by omega)]; exact h.g⟩
theorem Stg.begin : Stg P G pl pw x on kd bv mute (WL P pl pw x ++ [obA10 G on kd bv mute]) 
 := ⟨by rw [List.length_append, WL_len]; exact Nat.le_refl _, rfl, rfl⟩
theorem Stg.more (h : Stg P G pl pw x on kd bv mute M) (X : List Ob) : Stg P G pl pw x on kd bv mute (M ++ X) := by
  have hl := h.len
  exact ⟨by rw [List.length_append]; omega, by rw [List.getElem?_append_left (by omega)]; exact h.p0, by rw [List.getElem?_append_left (by omega)]; exact h.g⟩
theorem note_end {L X0 X Y : List Ob} (hL : L.length = 10) (jl jw : Nat) (h1 : jl < 10) (h2 : jw < 10) {A B : Ob} (h : Env w0 W ((((L ++ X0).set jl A) ++ X).set jw B ++ Y)) : Env w0 W ((L.set jl A).set jw B) := by
  have e1 : (L ++ X0).set jl A = L.set jl A ++ X0 := List.set_append_left _ _ (by omega)
  rw [e1, List.append_assoc] at h
  have e2 : (L.set jl A ++ (X0 ++ X)).set jw B = (L.set jl A).set jw B ++ (X0 ++ X) := List.set_append_left _ _ (by rw [List.length_set]; omega)
  rw [e2, List.append_assoc] at h
  exact h.leftA
end
theorem Env.boxIn {w0 w w' : World} {L : List Ob} {A : Nat} {t : TypeId} {cs cs' : Array Value} (h : Env w0 w (L ++ [obK A t cs])) (hb : Blk w' A t cs') (ho : Only (fun x => x = A) w w') : Env w0 w' (L ++ [obK A t cs']) := by
  have h1 := h.turnBlk L.length ((atApp L [_] 0).trans rfl) hb ho
  rw [List.set_append_right _ _ (Nat.le_refl _), Nat.sub_self] at h1
  exact h1
theorem rcV_off1 (c : Cst) (k : Nat) (r : Option Rc) : rcV (woff1 c k r) = rcV r := by
  unfold woff1 off1
  split
  · split
    · cases r <;> rfl
    · rfl
  · rfl
theorem rcV_off2 (c : Cst) (k : Nat) (r : Option Rc) : rcV (woff2 c k r) = rcV r := by
  unfold woff2 off2
  split
  · split
    · rfl
    · cases r <;> rfl
  · rfl
def St10.wipe (x : St10) (k : Nat) (c : Cst) : St10 := { x with s0 := if k = 0 then wiped c else x.s0, s1 := if k = 0 then x.s1 else wiped c, R0 := woff1 c k x.R0, R1 := woff2 c k x.R1 }
theorem OK10.wipe {i : Nat} {x : St10} (h : OK10 i x) (k : Nat) (hk : k < 2) {c : Cst} (hr : rel c (side k x.R0 x.R1)) (hc : sd k x.s0 x.s1 = c) : OK10 i (x.wipe k c) := by
  rcases (by omega : k = 0 ∨ k = 1) with rfl | rfl
  · have hr0 : rel c x.R0 := hr
    refine ⟨?_, ?_, h.nn, h.sum, h.len, h.tl, h.same, h.small⟩
    · show rel (wiped c) (woff1 c 0 x.R0)
      cases hm : madeC c
      · unfold wiped woff1
        rw [hm, if_neg (by decide), if_neg (by decide)]
        exact hr0
      · unfold woff1
        rw [if_pos hm]
        exact hr0.wiped hm
    · show rel x.s1 (woff2 c 0 x.R1)
      unfold woff2
      split <;> exact h.r1
  · have hr0 : rel c x.R1 := hr
    refine ⟨?_, ?_, h.nn, h.sum, h.len, h.tl, h.same, h.small⟩
    · show rel x.s0 (woff1 c 1 x.R0)
      unfold woff1
      split <;> exact h.r0
    · show rel (wiped c) (woff2 c 1 x.R1)
      cases hm : madeC c
      · unfold wiped woff2
        rw [hm, if_neg (by decide), if_neg (by decide)]
        exact hr0
      · unfold woff2
        rw [if_pos hm]
        exact hr0.wiped hm
theorem wipe_end {P : Nat} {pl pw : Value} {x : St10} {jl jw : Nat} {lv qv : Value} {o o' : Option (List Rn)} {w0 W : World} {c : Cst} {K : Ob} {rs' : List Rn} (k : Nat) (hk : k < 2) (hs : LSel pl pw x jl jw lv qv o) (hset : ((WL P pl pw x).set jl (obP lv o')).set jw (obR qv o') = WL P pl pw (x.led rs'))
    (h : Env w0 W (((((WL P pl pw x ++ [K]).set (3 + k) (obC (sd k x.c0 x.c1) (wiped c))).set jl (obP lv o')).set jw (obR qv o')).set 5 (obR2 (woff1 c k x.R0) (woff2 c k x.R1)))) : Env w0 W (WL P pl pw ((x.led rs').wipe k c)) := by
  obtain ⟨_, _, _, _, _, n6, n7, _⟩ := hs.j
  have e : ((((WL P pl pw x).set (3 + k) (obC (sd k x.c0 x.c1) (wiped c))).set jl (obP lv o')).set jw (obR qv o')).set 5 (obR2 (woff1 c k x.R0) (woff2 c k x.R1)) = WL P pl pw ((x.led rs').wipe k c) := by
    have e1 : (((WL P pl pw x).set (3 + k) (obC (sd k x.c0 x.c1) (wiped c))).set jl (obP lv o')).set jw (obR qv o') = (((WL P pl pw x).set jl (obP lv o')).set jw (obR qv o')).set (3 + k) (obC (sd k x.c0 x.c1) (wiped c)) := by
      rcases (by omega : k = 0 ∨ k = 1) with rfl | rfl <;> rcases hs with ⟨rfl, rfl, _⟩ | ⟨rfl, rfl, _⟩ <;> rfl
    rw [e1, hset]
    have p : pairC pl pw ((x.led rs').wipe k c) = pairC pl pw (x.led rs') := by
      show #[x.c0, x.c1, rcV (woff1 c k x.R0), rcV (woff2 c k x.R1), pl, pw, x.fv, x.wv] = #[x.c0, x.c1, rcV x.R0, rcV x.R1, pl, pw, x.fv, x.wv]
      rw [rcV_off1, rcV_off2]
    have q : WL P pl pw ((x.led rs').wipe k c) = obK P 59 (pairC pl pw ((x.led rs').wipe k c)) :: (WL P pl pw ((x.led rs').wipe k c)).tail := rfl
    rw [q, p]
    rcases (by omega : k = 0 ∨ k = 1) with rfl | rfl <;> rfl
  rw [List.set_append_left _ _ (by rw [WL_len]; omega), List.set_append_left _ _ (by rw [List.length_set, WL_len]; omega), List.set_append_left _ _ (by rw [List.length_set, List.length_set, WL_len]; omega), List.set_append_left _ _ (by rw [List.length_set, List.length_set, List.length_set, WL_len]; omega), e] at h
  exact h.leftA
theorem Env.swapOne {w0 w : World} {L : List Ob} {C : Ob} (h : Env w0 w (L ++ [C])) (m : Nat) (hm : m < L.length) : Env w0 w (L.set m C) := by
  refine h.pick (fun j => if j = m then L.length else j) ?_ ?_
  · intro i j hi hj e
    rw [List.length_set] at hi hj
    by_cases h1 : i = m <;> by_cases h2 : j = m <;> simp only [h1, h2, if_true, if_false] at e <;> omega
  · intro j ob hj
    have hjl : j < L.length := by
      have := (List.getElem?_eq_some_iff.1 hj).1
      rwa [List.length_set] at this
    by_cases h1 : j = m
    · subst h1
      rw [List.getElem?_set_self hjl] at hj
      rw [if_pos rfl]
      exact ((atApp L [C] 0).trans rfl).trans hj
    · rw [List.getElem?_set_ne (fun e => h1 e.symm)] at hj
      rw [if_neg h1, List.getElem?_append_left hjl]
      exact hj
theorem formL_len {w : World} {p : Value} {c : Cst} (h : ∃ F, CipP w p F c) : (formL c).length ≤ 240 := by
  obtain ⟨F, h⟩ := h
  match c, h with
  | none, _ => simp [formL]
  | some (k, K), ⟨b, _, _, h3, _⟩ =>
    unfold formL
    simp only
    split
    · rw [List.length_take, h3.2]
      exact Nat.min_le_right _ _
    · simp
theorem wp_append_T {w0 w1 : World} {obs : List Ob} {ao : Option Addr} {c : Nat} {l : List UInt8} (h : Env w0 w1 (obs ++ [obB (.slice ao l.length c) l])) (i : Nat) {u : Value} {ts : List (Value × List UInt8)} (hi : obs[i]? = some (obT u ts)) {a : Act} {o : Oper} {K : Act → World → Prop} {Q : Exit → Act → World → Prop}
    (s x : Operand) (ho : o.op = .call { callee := .builtin .append, args := #[s, x], argTypes := #[57, 57] }) (hs : a.eval s = u) (hx : a.eval x = .slice (some ⟨w1.heap.size, 0, none⟩) 1 1) (hn : ts.length ≤ 5000000000000)
    (kk : ∀ u' w', Env w0 w' (obs.set i (obT u' (ts ++ [(.slice ao l.length c, l)]))) → K (a.put o.dst u') w') : o.wp Try.prog a (w1.alloc (.cells #[.slice ao l.length c] 22)) K Q := by
  obtain ⟨i0, hi0, hz0, hz1, hz2⟩ := info_parts info8s
  have hb : Below w1.heap.size w1 (w1.alloc (.cells #[.slice ao l.length c] 22)) := (Below.refl _ _).alloc (Nat.le_refl _) _
  have hil : i < obs.length := (List.getElem?_eq_some_iff.1 hi).1
  have hi2 : (obs ++ [obB (.slice ao l.length c) l])[i]? = some (obT u ts) := by rw [List.getElem?_append_left hil]; exact hi
  have hrow := ((h.below hb).ll i hi2).row
  rw [List.length_map] at hrow
  refine wp_append_lies _ s x 57 ho 0 22 i0 _ 1 24 Try.underlying57 hi0 hz0 hz1 hz2 rfl (by decide) u ts.length (ts.map (·.1)) hs hrow ⟨w1.heap.size, 0, none⟩ 1 1 [.slice ao l.length c] hx rfl (World.news_of_block (heap_alloc_new w1 (.cells #[.slice ao l.length c] 22))) one_slice' (by decide) (by unfold maxLen; omega) (by omega) (Nat.zero_le _) _ rfl ?_
  intro g cap w' h1 h2 h3 h4
  exact kk _ _ (obT_more h hb i hi h1 h2 (by
    rcases h3 with h3 | h3
    · exact .inl (by rw [h3]; rfl)
    · exact .inr (by rw [h3]; rfl)))
structure Act10R (w0 : World) (P : Nat) (pl pw : Value) (i : Nat) (e : Ending) (w' : World) : Prop where
  ex : e = .returned (.bool true) ∧ ∃ x', Env w0 w' (WL P pl pw x') ∧ OK10 i x'
set_option maxHeartbeats 16000000 in
theorem act10 {w0 w : World} {P : Nat} {pl pw : Value} {x : St10} (h : Env w0 w (WL P pl pw x)) {i : Nat} (hx : OK10 i x) (hi : i ≤ 300) (on kd : Int) {bv : Value} {bl : List UInt8} (mute : Bool) (hu : Bs w0 bv bl) (hbl : bl.length + 6 ≤ 140737488355328) :
    Calls Try.prog 25 #[.pointer (some ⟨P, 0, none⟩), actV10 on kd bv mute] w (Act10R w0 P pl pw (i + 1)) := by
  have h1 := h.newK 63 #[.int .i64 on, .int .i64 kd, bv, .bool mute]
  have H1 : Hid (Env w0 (w.alloc (.cells #[.int .i64 on, .int .i64 kd, bv, .bool mute] 63)) ((WL P pl pw x ++ [obA10 w.heap.size on kd bv mute]) ++ [])) := by rw [List.append_nil]; exact Lib.hid h1
  have HX := Lib.hid hx
  have HU := Lib.hid hu
  obtain ⟨ao, cap, rfl, _⟩ := hu.form
  clear h1 h hx hu
  unfold actV10
  go_enter Try.func25, Try.ntmps25
  obtain ⟨w2, hw2⟩ : ∃ y, w.alloc (.cells #[.int .i64 on, .int .i64 kd, .slice ao bl.length cap, .bool mute] 63) = y := ⟨_, rfl⟩
  obtain ⟨G, hG⟩ : ∃ y, w.heap.size = y := ⟨_, rfl⟩
  rw [hw2, hG] at H1
  go_upto_region 1 with fail
  try rw [hw2]
  try rw [hG]
  clear hw2 hG
  obtain ⟨M0, hM0⟩ : ∃ y, WL P pl pw x ++ [obA10 G on kd (.slice ao bl.length cap) mute] = y := ⟨_, rfl⟩
  have ST0 : Hid (Stg P G pl pw x on kd (.slice ao bl.length cap) mute M0) := by rw [← hM0]; exact Lib.hid Stg.begin
  rw [hM0] at H1
  have HM0 := Lib.hid hM0
  clear hM0
  have bG := H1.out.blk 10 (b := G) (by rw [List.append_nil]; exact ST0.out.g)
  have g0 := bG.cellAt 0 rfl
  have g1 := bG.cellAt 1 rfl
  have g3 := bG.cellAt 3 rfl
  have hGl := bG.lt
  obtain ⟨k, hkI, hk2⟩ : ∃ k : Nat, on % 2 = (k : Int) ∧ k < 2 := ⟨(on % 2).toNat, by omega, by omega⟩
  have bk : 0 ≤ (k : Int) ∧ (k : Int) < 2 := by omega
  clear bG
  go_wp2_with fail
  refine (pick10 on 2 _ (by omega) (by omega)).mono ?_
  rintro e w3 ⟨he, rfl⟩
  rw [hkI] at he
  subst he
  clear g0 g1 g3
  go_upto_region 2 with fail
  refine hd_start (SA P G k (sd k x.c0 x.c1) (rcV (side k x.R0 x.R1)) pl pw (.slice ao bl.length cap)) (by kernel_rfl) ?_
  intro w3 hw'
  have H3 := Lib.hid (H1.out.draw 1)
  rw [← hw'] at H3
  clear hw' H1
  have S3 := ST0.out.sa _ H3.out k hk2
  refine hd_take (v := ?_) 0 rfl (by kernel_rfl) (fun _ _ d _ _ h => (by cases d <;> exact h)) (by kernel_rfl) S3 (fun w' hS => ?_) ?_
  rotate_left
  focus (have q0 := SA.fl w' hS; have q1 := SA.fw w' hS; clear hS; go_simp; try rfl; done)
  simp only [List.getElem_toArray, List.getElem_cons_succ, List.getElem_cons_zero, Act.put, List.setIfInBounds_toArray, List.set_cons_zero, List.set_cons_succ]
  refine hd_take (v := ?_) 1 rfl (by kernel_rfl) (fun _ _ d _ _ h => (by cases d <;> exact h)) (by kernel_rfl) S3 (fun w' hS => ?_) ?_
  rotate_left
  focus (have q0 := SA.fl w' hS; have q1 := SA.fw w' hS; clear hS; go_simp; try rfl; done)
  simp only [List.getElem_toArray, List.getElem_cons_succ, List.getElem_cons_zero, Act.put, List.setIfInBounds_toArray, List.set_cons_zero, List.set_cons_succ]
  refine hd_take (v := ?_) 2 rfl (by kernel_rfl) (fun _ _ d _ _ h => (by cases d <;> exact h)) (by kernel_rfl) S3 (fun w' hS => ?_) ?_
  rotate_left
  focus (have q0 := SA.fl w' hS; have q1 := SA.fw w' hS; clear hS; go_simp; try rfl; done)
  simp only [List.getElem_toArray, List.getElem_cons_succ, List.getElem_cons_zero, Act.put, List.setIfInBounds_toArray, List.set_cons_zero, List.set_cons_succ]
  refine hd_take (v := ?_) 3 rfl (by kernel_rfl) (fun _ _ d _ _ h => (by cases d <;> exact h)) (by kernel_rfl) S3 (fun w' hS => ?_) ?_
  rotate_left
  focus (have q0 := SA.fl w' hS; have q1 := SA.fw w' hS; clear hS; go_simp; try rfl; done)
  simp only [List.getElem_toArray, List.getElem_cons_succ, List.getElem_cons_zero, Act.put, List.setIfInBounds_toArray, List.set_cons_zero, List.set_cons_succ]
  refine hd_take (v := ?_) 4 rfl (by kernel_rfl) (fun _ _ d _ _ h => (by cases d <;> exact h)) (by kernel_rfl) S3 (fun w' hS => ?_) ?_
  rotate_left
  focus (have q0 := SA.fl w' hS; have q1 := SA.fw w' hS; clear hS; go_simp; try rfl; done)
  simp only [List.getElem_toArray, List.getElem_cons_succ, List.getElem_cons_zero, Act.put, List.setIfInBounds_toArray, List.set_cons_zero, List.set_cons_succ]
  refine hd_take (v := ?_) 5 rfl (by kernel_rfl) (fun _ _ d _ _ h => (by cases d <;> exact h)) (by kernel_rfl) S3 (fun w' hS => ?_) ?_
  rotate_left
  focus (have q0 := SA.fl w' hS; have q1 := SA.fw w' hS; clear hS; go_simp; try rfl; done)
  simp only [List.getElem_toArray, List.getElem_cons_succ, List.getElem_cons_zero, Act.put, List.setIfInBounds_toArray, List.set_cons_zero, List.set_cons_succ]
  refine hd_take (v := ?_) 6 rfl (by kernel_rfl) (fun _ _ d _ _ h => (by cases d <;> exact h)) (by kernel_rfl) S3 (fun w' hS => ?_) ?_
  rotate_left
  focus (have q0 := SA.fl w' hS; have q1 := SA.fw w' hS; clear hS; go_simp; try rfl; done)
  simp only [List.getElem_toArray, List.getElem_cons_succ, List.getElem_cons_zero, Act.put, List.setIfInBounds_toArray, List.set_cons_zero, List.set_cons_succ]
  refine hd_take (v := ?_) 7 rfl (by kernel_rfl) (fun _ _ d _ _ h => (by cases d <;> exact h)) (by kernel_rfl) S3 (fun w' hS => ?_) ?_
  rotate_left
  focus (have q0 := SA.fl w' hS; have q1 := SA.fw w' hS; clear hS; go_simp; try rfl; done)
  simp only [List.getElem_toArray, List.getElem_cons_succ, List.getElem_cons_zero, Act.put, List.setIfInBounds_toArray, List.set_cons_zero, List.set_cons_succ]
  refine hd_take (v := ?_) 8 rfl (by kernel_rfl) (fun _ _ d _ _ h => (by cases d <;> exact h)) (by kernel_rfl) S3 (fun w' hS => ?_) ?_
  rotate_left
  focus (have q0 := SA.fl w' hS; have q1 := SA.fw w' hS; clear hS; go_simp; try rfl; done)
  simp only [List.getElem_toArray, List.getElem_cons_succ, List.getElem_cons_zero, Act.put, List.setIfInBounds_toArray, List.set_cons_zero, List.set_cons_succ]
  refine hd_take (v := ?_) 9 rfl (by kernel_rfl) (fun _ _ d _ _ h => (by cases d <;> exact h)) (by kernel_rfl) S3 (fun w' hS => ?_) ?_
  rotate_left
  focus (have q0 := SA.fl w' hS; have q1 := SA.fw w' hS; clear hS; go_simp; try rfl; done)
  simp only [List.getElem_toArray, List.getElem_cons_succ, List.getElem_cons_zero, Act.put, List.setIfInBounds_toArray, List.set_cons_zero, List.set_cons_succ]
  refine hd_done (by kernel_rfl) ?_
  clear S3
  have bG := H3.out.blk 10 (b := G) (by rw [List.append_nil]; exact ST0.out.g)
  have g1 := bG.cellAt 1 rfl
  have g3 := bG.cellAt 3 rfl
  clear bG
  go_upto_if 32 with fail
  go_cut [6, 7] from 31 to 32 (fun lv qv wx => wx = w3 ∧ ∃ jl jw o, Hid (LSel pl pw x jl jw lv qv o))
  case first =>
    cases mute
    · go_wp2_with fail
      go_meet
      exact ⟨rfl, 1, 2, _, Lib.hid (.inl ⟨rfl, rfl, rfl, rfl, rfl⟩)⟩
    · go_wp2_with fail
      go_meet
      exact ⟨rfl, 8, 9, _, Lib.hid (.inr ⟨rfl, rfl, rfl, rfl, rfl⟩)⟩
  case rest =>
    obtain ⟨rfl, jl, jw, o, HS⟩ := hcut
    obtain ⟨n1, n2, n3, n4, n5, n6, n7, n8, n9, n10, n11, n12, n13, n14, n15⟩ := HS.out.j
    have hroom := Lib.hid (HS.out.room HX.out (by omega))
    obtain ⟨c, hc⟩ : ∃ c, sd k x.s0 x.s1 = c := ⟨_, rfl⟩
    have HR : Hid (rel c (side k x.R0 x.R1)) := by rw [← hc]; exact Lib.hid (HX.out.rk k hk2)
    have I3 : Hid (M0[3 + k]? = some (obC (sd k x.c0 x.c1) c)) := by
      rw [← HM0.out, ← hc, List.getElem?_append_left (by rw [WL_len]; omega)]
      exact Lib.hid (WL_c k hk2)
    have I5 : Hid (M0[5]? = some (obR2 x.R0 x.R1)) := by rw [← HM0.out]; exact Lib.hid rfl
    have IL : Hid (M0[jl]? = some (obP u6 o)) := by
      rw [← HM0.out, List.getElem?_append_left (by rw [WL_len]; omega)]
      exact Lib.hid HS.out.l
    have IW : Hid (M0[jw]? = some (obR u7 o)) := by
      rw [← HM0.out, List.getElem?_append_left (by rw [WL_len]; omega)]
      exact Lib.hid HS.out.w
    have HC := Lib.hid hc
    have J3 : Hid (∀ X, (M0 ++ X)[3 + k]? = some (obC (sd k x.c0 x.c1) c)) := Lib.hid (fun X => by rw [List.getElem?_append_left (by have := ST0.out.len; omega)]; exact I3.out)
    have J5 : Hid (∀ X, (M0 ++ X)[5]? = some (obR2 x.R0 x.R1)) := Lib.hid (fun X => by rw [List.getElem?_append_left (by have := ST0.out.len; omega)]; exact I5.out)
    have JL : Hid (∀ X, (M0 ++ X)[jl]? = some (obP u6 o)) := Lib.hid (fun X => by rw [List.getElem?_append_left (by have := ST0.out.len; omega)]; exact IL.out)
    have JW : Hid (∀ X, (M0 ++ X)[jw]? = some (obR u7 o)) := Lib.hid (fun X => by rw [List.getElem?_append_left (by have := ST0.out.len; omega)]; exact IW.out)
    clear hc
    go_upto_block 0 with fail
    clear g1 g3
    by_cases k0 : kd = 0
    · have t0 : (kd == (0 : Int)) = true := by rw [k0]; rfl
      clear k0
      --[k0
      have hes : (barr (encR c (blk bl))).size = 16 := by rw [barr_size, encR_len]
      have hcc : (codeC c == codeC c) = true := beq_self_eq_true _
      obtain ⟨M1, hM1⟩ : ∃ y, M0.set jl (obP u6 (noteE o c)) = y := ⟨_, rfl⟩
      have ST1 : Hid (Stg P G pl pw x on kd (.slice ao bl.length cap) mute M1) := by rw [← hM1]; exact Lib.hid (ST0.out.set jl (by omega) _)
      have HEX : Hid (∀ (W : World) (X : List Ob), Env w0 W ((M0 ++ X).set jl (obP u6 (noteE o c))) → Env w0 W (M1 ++ X)) := Lib.hid (fun W X h => by rw [List.set_append_left _ _ (by have := ST0.out.len; omega), hM1] at h; exact h)
      have HM1 := Lib.hid hM1
      clear hM1
      go_upto_region 7 with fail
      go_cut [8, 9] from 37 to 50 (fun p8 v9 wx => ∃ A : Nat, p8 = .pointer (some ⟨A, 0, none⟩) ∧ v9 = .int .i64 (codeC c) ∧ Hid (Env w0 wx (M1 ++ [obK A 31 (barr (encR c (blk bl)))])))
      case first =>
        refine hd_start (SA P G k (sd k x.c0 x.c1) (rcV (side k x.R0 x.R1)) pl pw (.slice ao bl.length cap)) (by kernel_rfl) ?_
        intro w4 hw'
        have H4 := Lib.hid (H3.out.draw 1)
        rw [← hw'] at H4
        clear hw' H3
        have S4 := ST0.out.sa _ H4.out k hk2
        refine hd_take (v := ?_) 0 rfl (by kernel_rfl) (fun _ _ d _ _ h => (by cases d <;> exact h)) (by kernel_rfl) S4 (fun w' hS => ?_) ?_
        rotate_left
        focus (have q0 := SA.fc w' hS; have q1 := SA.fr w' hS; have q2 := SA.fb w' hS; clear hS; go_simp; try rfl; done)
        simp only [List.getElem_toArray, List.getElem_cons_succ, List.getElem_cons_zero, Act.put, List.setIfInBounds_toArray, List.set_cons_zero, List.set_cons_succ]
        refine hd_take (v := ?_) 1 rfl (by kernel_rfl) (fun _ _ d _ _ h => (by cases d <;> exact h)) (by kernel_rfl) S4 (fun w' hS => ?_) ?_
        rotate_left
        focus (have q0 := SA.fc w' hS; have q1 := SA.fr w' hS; have q2 := SA.fb w' hS; clear hS; go_simp; try rfl; done)
        simp only [List.getElem_toArray, List.getElem_cons_succ, List.getElem_cons_zero, Act.put, List.setIfInBounds_toArray, List.set_cons_zero, List.set_cons_succ]
        refine hd_take (v := ?_) 2 rfl (by kernel_rfl) (fun _ _ d _ _ h => (by cases d <;> exact h)) (by kernel_rfl) S4 (fun w' hS => ?_) ?_
        rotate_left
        focus (have q0 := SA.fc w' hS; have q1 := SA.fr w' hS; have q2 := SA.fb w' hS; clear hS; go_simp; try rfl; done)
        simp only [List.getElem_toArray, List.getElem_cons_succ, List.getElem_cons_zero, Act.put, List.setIfInBounds_toArray, List.set_cons_zero, List.set_cons_succ]
        refine hd_take (v := ?_) 3 rfl (by kernel_rfl) (fun _ _ d _ _ h => (by cases d <;> exact h)) (by kernel_rfl) S4 (fun w' hS => ?_) ?_
        rotate_left
        focus (have q0 := SA.fc w' hS; have q1 := SA.fr w' hS; have q2 := SA.fb w' hS; clear hS; go_simp; try rfl; done)
        simp only [List.getElem_toArray, List.getElem_cons_succ, List.getElem_cons_zero, Act.put, List.setIfInBounds_toArray, List.set_cons_zero, List.set_cons_succ]
        refine hd_take (v := ?_) 4 rfl (by kernel_rfl) (fun _ _ d _ _ h => (by cases d <;> exact h)) (by kernel_rfl) S4 (fun w' hS => ?_) ?_
        rotate_left
        focus (have q0 := SA.fc w' hS; have q1 := SA.fr w' hS; have q2 := SA.fb w' hS; clear hS; go_simp; try rfl; done)
        simp only [List.getElem_toArray, List.getElem_cons_succ, List.getElem_cons_zero, Act.put, List.setIfInBounds_toArray, List.set_cons_zero, List.set_cons_succ]
        refine hd_take (v := ?_) 5 rfl (by kernel_rfl) (fun _ _ d _ _ h => (by cases d <;> exact h)) (by kernel_rfl) S4 (fun w' hS => ?_) ?_
        rotate_left
        focus (have q0 := SA.fc w' hS; have q1 := SA.fr w' hS; have q2 := SA.fb w' hS; clear hS; go_simp; try rfl; done)
        simp only [List.getElem_toArray, List.getElem_cons_succ, List.getElem_cons_zero, Act.put, List.setIfInBounds_toArray, List.set_cons_zero, List.set_cons_succ]
        refine hd_take (v := ?_) 6 rfl (by kernel_rfl) (fun _ _ d _ _ h => (by cases d <;> exact h)) (by kernel_rfl) S4 (fun w' hS => ?_) ?_
        rotate_left
        focus (have q0 := SA.fc w' hS; have q1 := SA.fr w' hS; have q2 := SA.fb w' hS; clear hS; go_simp; try rfl; done)
        simp only [List.getElem_toArray, List.getElem_cons_succ, List.getElem_cons_zero, Act.put, List.setIfInBounds_toArray, List.set_cons_zero, List.set_cons_succ]
        refine hd_take (v := ?_) 7 rfl (by kernel_rfl) (fun _ _ d _ _ h => (by cases d <;> exact h)) (by kernel_rfl) S4 (fun w' hS => ?_) ?_
        rotate_left
        focus (have q0 := SA.fc w' hS; have q1 := SA.fr w' hS; have q2 := SA.fb w' hS; clear hS; go_simp; try rfl; done)
        simp only [List.getElem_toArray, List.getElem_cons_succ, List.getElem_cons_zero, Act.put, List.setIfInBounds_toArray, List.set_cons_zero, List.set_cons_succ]
        refine hd_take (v := ?_) 8 rfl (by kernel_rfl) (fun _ _ d _ _ h => (by cases d <;> exact h)) (by kernel_rfl) S4 (fun w' hS => ?_) ?_
        rotate_left
        focus (have q0 := SA.fc w' hS; have q1 := SA.fr w' hS; have q2 := SA.fb w' hS; clear hS; go_simp; try rfl; done)
        simp only [List.getElem_toArray, List.getElem_cons_succ, List.getElem_cons_zero, Act.put, List.setIfInBounds_toArray, List.set_cons_zero, List.set_cons_succ]
        refine hd_two 9 14 (by kernel_rfl) ?_ ?_
        · skip
          refine op_call rfl (by kernel_rfl) (by go_simp; first | exact ⟨rfl, rfl⟩ | rfl) ?_
          refine (block_any _ bl w4 (H4.out.old HU.out)).mono ?_
          rintro e w5 ⟨he, hb5⟩
          subst he
          have H5 := Lib.hid (H4.out.below hb5)
          clear hb5
          have hS2 := ST0.out.sa _ H5.out k hk2
          refine ⟨_, rfl, hS2, ?_⟩
          simp only [List.getElem_toArray, List.getElem_cons_succ, List.getElem_cons_zero, Act.put, List.setIfInBounds_toArray, List.set_cons_zero, List.set_cons_succ]
          refine hd_two 10 14 (by kernel_rfl) ?_ ?_
          · skip
            refine op_call rfl (by kernel_rfl) (by go_simp; first | exact ⟨rfl, rfl⟩ | rfl) ?_
            refine (encC_all H5.out (3 + k) jl (by omega) (J3.out _) (JL.out _) hroom.out (blk bl) (blk_length bl)).mono ?_
            rintro e w6 ⟨he, h5⟩
            subst he
            have H6 := Lib.hid (HEX.out _ _ h5)
            clear h5
            have hS2 := ST1.out.sa _ H6.out k hk2
            refine ⟨_, rfl, hS2, ?_⟩
            simp only [List.getElem_toArray, List.getElem_cons_succ, List.getElem_cons_zero, Act.put, List.setIfInBounds_toArray, List.set_cons_zero, List.set_cons_succ]
            refine hd_take (v := ?_) 11 rfl (by kernel_rfl) (fun _ _ d _ _ h => (by cases d <;> exact h)) (by kernel_rfl) hS2 (fun w' hS => ?_) ?_
            rotate_left
            focus (clear hS; go_simp; try rfl; done)
            simp only [List.getElem_toArray, List.getElem_cons_succ, List.getElem_cons_zero, Act.put, List.setIfInBounds_toArray, List.set_cons_zero, List.set_cons_succ]
            refine hd_take (v := ?_) 12 rfl (by kernel_rfl) (fun _ _ d _ _ h => (by cases d <;> exact h)) (by kernel_rfl) hS2 (fun w' hS => ?_) ?_
            rotate_left
            focus (clear hS; go_simp; try rfl; done)
            simp only [List.getElem_toArray, List.getElem_cons_succ, List.getElem_cons_zero, Act.put, List.setIfInBounds_toArray, List.set_cons_zero, List.set_cons_succ]
            refine hd_take (v := ?_) 13 rfl (by kernel_rfl) (fun _ _ d _ _ h => (by cases d <;> exact h)) (by kernel_rfl) hS2 (fun w' hS => ?_) ?_
            rotate_left
            focus (clear hS; go_simp; try rfl; done)
            simp only [List.getElem_toArray, List.getElem_cons_succ, List.getElem_cons_zero, Act.put, List.setIfInBounds_toArray, List.set_cons_zero, List.set_cons_succ]
            have h7 : Env w0 _ (M1 ++ [obK w6.heap.size 31 (barr (List.replicate 16 0))]) := (show Env w0 w6 M1 from by simpa using H6.out).newK 31 (barr (List.replicate 16 0))
            have H7 := Lib.hid h7
            have S7 := ST1.out.sa _ h7 k hk2
            clear h7
            refine hd_one 14 (by kernel_rfl) ?_
            refine op_run rfl (by kernel_rfl) (by go_simp; first | done | exact ⟨rfl, rfl⟩ | rfl) ?_
            refine ⟨S7, ?_⟩
            simp only [List.getElem_toArray, List.getElem_cons_succ, List.getElem_cons_zero, Act.put, List.setIfInBounds_toArray, List.set_cons_zero, List.set_cons_succ]
            refine hd_one 15 (by kernel_rfl) ?_
            have hbz := H7.out.blk M1.length ((atApp M1 [_] 0).trans rfl)
            refine op_store_blk2 _ (barr (encR c (blk bl))) rfl (by kernel_rfl) rfl rfl hbz size16 hes (by rw [barr_size]; rfl) (barr_one _) ?_
            intro w9 B9 O9
            have H9 := Lib.hid (H7.out.boxIn B9 O9)
            simp only [List.getElem_toArray, List.getElem_cons_succ, List.getElem_cons_zero, Act.put, List.setIfInBounds_toArray, List.set_cons_zero, List.set_cons_succ]
            have S9 := ST1.out.sa _ H9.out k hk2
            refine ⟨S9, ?_⟩
            refine hd_take (v := ?_) 16 rfl (by kernel_rfl) (fun _ _ d _ _ h => (by cases d <;> exact h)) (by kernel_rfl) S9 (fun w' hS => ?_) ?_
            rotate_left
            focus (clear hS; go_simp; try rfl; done)
            simp only [List.getElem_toArray, List.getElem_cons_succ, List.getElem_cons_zero, Act.put, List.setIfInBounds_toArray, List.set_cons_zero, List.set_cons_succ]
            refine hd_done (by kernel_rfl) ?_
            go_wp2_with fail
            go_meet
            exact ⟨_, rfl, rfl, H9⟩
          · skip
            have h6 : Env w0 _ (M0 ++ [obK w5.heap.size 31 (barr (List.replicate 16 0))]) := (show Env w0 w5 M0 from by simpa using H5.out).newK 31 (barr (List.replicate 16 0))
            have H6 := Lib.hid h6
            have S6 := ST0.out.sa _ h6 k hk2
            clear h6
            refine op_run rfl (by kernel_rfl) (by go_simp; first | done | exact ⟨rfl, rfl⟩ | rfl) ?_
            refine ⟨S6, ?_⟩
            simp only [List.getElem_toArray, List.getElem_cons_succ, List.getElem_cons_zero, Act.put, List.setIfInBounds_toArray, List.set_cons_zero, List.set_cons_succ]
            refine hd_one 10 (by kernel_rfl) ?_
            refine op_call rfl (by kernel_rfl) (by go_simp; first | exact ⟨rfl, rfl⟩ | rfl) ?_
            refine (encC_all H6.out (3 + k) jl (by omega) (J3.out _) (JL.out _) hroom.out (blk bl) (blk_length bl)).mono ?_
            rintro e w7 ⟨he, h5⟩
            subst he
            have H7 := Lib.hid (HEX.out _ _ h5)
            clear h5
            have hS2 := ST1.out.sa _ H7.out k hk2
            refine ⟨_, rfl, hS2, ?_⟩
            simp only [List.getElem_toArray, List.getElem_cons_succ, List.getElem_cons_zero, Act.put, List.setIfInBounds_toArray, List.set_cons_zero, List.set_cons_succ]
            have SZ := ST1.out.sa _ H7.out k hk2
            refine hd_take (v := ?_) 11 rfl (by kernel_rfl) (fun _ _ d _ _ h => (by cases d <;> exact h)) (by kernel_rfl) SZ (fun w' hS => ?_) ?_
            rotate_left
            focus (clear hS; go_simp; try rfl; done)
            simp only [List.getElem_toArray, List.getElem_cons_succ, List.getElem_cons_zero, Act.put, List.setIfInBounds_toArray, List.set_cons_zero, List.set_cons_succ]
            refine hd_take (v := ?_) 12 rfl (by kernel_rfl) (fun _ _ d _ _ h => (by cases d <;> exact h)) (by kernel_rfl) SZ (fun w' hS => ?_) ?_
            rotate_left
            focus (clear hS; go_simp; try rfl; done)
            simp only [List.getElem_toArray, List.getElem_cons_succ, List.getElem_cons_zero, Act.put, List.setIfInBounds_toArray, List.set_cons_zero, List.set_cons_succ]
            refine hd_take (v := ?_) 13 rfl (by kernel_rfl) (fun _ _ d _ _ h => (by cases d <;> exact h)) (by kernel_rfl) SZ (fun w' hS => ?_) ?_
            rotate_left
            focus (clear hS; go_simp; try rfl; done)
            simp only [List.getElem_toArray, List.getElem_cons_succ, List.getElem_cons_zero, Act.put, List.setIfInBounds_toArray, List.set_cons_zero, List.set_cons_succ]
            refine hd_one 15 (by kernel_rfl) ?_
            have hbz := H7.out.blk M1.length ((atApp M1 [_] 0).trans rfl)
            refine op_store_blk2 _ (barr (encR c (blk bl))) rfl (by kernel_rfl) rfl rfl hbz size16 hes (by rw [barr_size]; rfl) (barr_one _) ?_
            intro w9 B9 O9
            have H9 := Lib.hid (H7.out.boxIn B9 O9)
            simp only [List.getElem_toArray, List.getElem_cons_succ, List.getElem_cons_zero, Act.put, List.setIfInBounds_toArray, List.set_cons_zero, List.set_cons_succ]
            have S9 := ST1.out.sa _ H9.out k hk2
            refine ⟨S9, ?_⟩
            refine hd_take (v := ?_) 16 rfl (by kernel_rfl) (fun _ _ d _ _ h => (by cases d <;> exact h)) (by kernel_rfl) S9 (fun w' hS => ?_) ?_
            rotate_left
            focus (clear hS; go_simp; try rfl; done)
            simp only [List.getElem_toArray, List.getElem_cons_succ, List.getElem_cons_zero, Act.put, List.setIfInBounds_toArray, List.set_cons_zero, List.set_cons_succ]
            refine hd_done (by kernel_rfl) ?_
            go_wp2_with fail
            go_meet
            exact ⟨_, rfl, rfl, H9⟩
        · skip
          have h5 : Env w0 _ (M0 ++ [obK w4.heap.size 31 (barr (List.replicate 16 0))]) := (show Env w0 w4 M0 from by simpa using H4.out).newK 31 (barr (List.replicate 16 0))
          have H5 := Lib.hid h5
          have S5 := ST0.out.sa _ h5 k hk2
          clear h5
          refine op_run rfl (by kernel_rfl) (by go_simp; first | done | exact ⟨rfl, rfl⟩ | rfl) ?_
          refine ⟨S5, ?_⟩
          simp only [List.getElem_toArray, List.getElem_cons_succ, List.getElem_cons_zero, Act.put, List.setIfInBounds_toArray, List.set_cons_zero, List.set_cons_succ]
          refine hd_one 9 (by kernel_rfl) ?_
          refine op_call rfl (by kernel_rfl) (by go_simp; first | exact ⟨rfl, rfl⟩ | rfl) ?_
          refine (block_any _ bl _ (H5.out.old HU.out)).mono ?_
          rintro e w6 ⟨he, hb5⟩
          subst he
          have H6 := Lib.hid (H5.out.below hb5)
          clear hb5
          have hS2 := ST0.out.sa _ H6.out k hk2
          refine ⟨_, rfl, hS2, ?_⟩
          simp only [List.getElem_toArray, List.getElem_cons_succ, List.getElem_cons_zero, Act.put, List.setIfInBounds_toArray, List.set_cons_zero, List.set_cons_succ]
          refine hd_one 10 (by kernel_rfl) ?_
          refine op_call rfl (by kernel_rfl) (by go_simp; first | exact ⟨rfl, rfl⟩ | rfl) ?_
          refine (encC_all H6.out (3 + k) jl (by omega) (J3.out _) (JL.out _) hroom.out (blk bl) (blk_length bl)).mono ?_
          rintro e w7 ⟨he, h5⟩
          subst he
          have H7 := Lib.hid (HEX.out _ _ h5)
          clear h5
          have hS2 := ST1.out.sa _ H7.out k hk2
          refine ⟨_, rfl, hS2, ?_⟩
          simp only [List.getElem_toArray, List.getElem_cons_succ, List.getElem_cons_zero, Act.put, List.setIfInBounds_toArray, List.set_cons_zero, List.set_cons_succ]
          have SZ := ST1.out.sa _ H7.out k hk2
          refine hd_take (v := ?_) 11 rfl (by kernel_rfl) (fun _ _ d _ _ h => (by cases d <;> exact h)) (by kernel_rfl) SZ (fun w' hS => ?_) ?_
          rotate_left
          focus (clear hS; go_simp; try rfl; done)
          simp only [List.getElem_toArray, List.getElem_cons_succ, List.getElem_cons_zero, Act.put, List.setIfInBounds_toArray, List.set_cons_zero, List.set_cons_succ]
          refine hd_take (v := ?_) 12 rfl (by kernel_rfl) (fun _ _ d _ _ h => (by cases d <;> exact h)) (by kernel_rfl) SZ (fun w' hS => ?_) ?_
          rotate_left
          focus (clear hS; go_simp; try rfl; done)
          simp only [List.getElem_toArray, List.getElem_cons_succ, List.getElem_cons_zero, Act.put, List.setIfInBounds_toArray, List.set_cons_zero, List.set_cons_succ]
          refine hd_take (v := ?_) 13 rfl (by kernel_rfl) (fun _ _ d _ _ h => (by cases d <;> exact h)) (by kernel_rfl) SZ (fun w' hS => ?_) ?_
          rotate_left
          focus (clear hS; go_simp; try rfl; done)
          simp only [List.getElem_toArray, List.getElem_cons_succ, List.getElem_cons_zero, Act.put, List.setIfInBounds_toArray, List.set_cons_zero, List.set_cons_succ]
          refine hd_one 15 (by kernel_rfl) ?_
          have hbz := H7.out.blk M1.length ((atApp M1 [_] 0).trans rfl)
          refine op_store_blk2 _ (barr (encR c (blk bl))) rfl (by kernel_rfl) rfl rfl hbz size16 hes (by rw [barr_size]; rfl) (barr_one _) ?_
          intro w9 B9 O9
          have H9 := Lib.hid (H7.out.boxIn B9 O9)
          simp only [List.getElem_toArray, List.getElem_cons_succ, List.getElem_cons_zero, Act.put, List.setIfInBounds_toArray, List.set_cons_zero, List.set_cons_succ]
          have S9 := ST1.out.sa _ H9.out k hk2
          refine ⟨S9, ?_⟩
          refine hd_take (v := ?_) 16 rfl (by kernel_rfl) (fun _ _ d _ _ h => (by cases d <;> exact h)) (by kernel_rfl) S9 (fun w' hS => ?_) ?_
          rotate_left
          focus (clear hS; go_simp; try rfl; done)
          simp only [List.getElem_toArray, List.getElem_cons_succ, List.getElem_cons_zero, Act.put, List.setIfInBounds_toArray, List.set_cons_zero, List.set_cons_succ]
          refine hd_done (by kernel_rfl) ?_
          go_wp2_with fail
          go_meet
          exact ⟨_, rfl, rfl, H9⟩
      case rest =>
        obtain ⟨A, rfl, rfl, H4⟩ := hcut
        clear H3
        obtain ⟨N1, hN1⟩ : ∃ y, M1 ++ [obK A 31 (barr (encR c (blk bl)))] = y := ⟨_, rfl⟩
        have STN1 : Hid (Stg P G pl pw x on kd (.slice ao bl.length cap) mute N1) := by rw [← hN1]; exact Lib.hid (ST1.out.more _)
        rw [hN1] at H4
        have H5 : Hid (Env w0 wc (N1 ++ [])) := by rw [List.append_nil]; exact H4
        clear H4
        have K5 : Hid (∀ X, (N1 ++ X)[5]? = some (obR2 x.R0 x.R1)) := Lib.hid (fun X => by
          rw [← hN1, ← HM1.out, List.append_assoc, List.getElem?_append_left (by rw [List.length_set]; have := ST0.out.len; omega), List.getElem?_set_ne (by omega)]
          exact I5.out)
        have KW : Hid (∀ X, (N1 ++ X)[jw]? = some (obR u7 o)) := Lib.hid (fun X => by
          rw [← hN1, ← HM1.out, List.append_assoc, List.getElem?_append_left (by rw [List.length_set]; have := ST0.out.len; omega), List.getElem?_set_ne (by omega)]
          exact IW.out)
        obtain ⟨N2, hN2⟩ : ∃ y, N1.set jw (obR u7 (noteE o c)) = y := ⟨_, rfl⟩
        have STN2 : Hid (Stg P G pl pw x on kd (.slice ao bl.length cap) mute N2) := by rw [← hN2]; exact Lib.hid (STN1.out.set jw (by omega) _)
        have HEX2 : Hid (∀ (W : World) (X : List Ob), Env w0 W ((N1 ++ X).set jw (obR u7 (noteE o c))) → Env w0 W (N2 ++ X)) := Lib.hid (fun W X h => by rw [List.set_append_left _ _ (by have := STN1.out.len; omega), hN2] at h; exact h)
        have HA1 : Hid (N2[M1.length]? = some (obK A 31 (barr (encR c (blk bl))))) := by
          rw [← hN2, ← hN1, List.getElem?_set_ne (by have := ST1.out.len; omega)]
          exact Lib.hid ((atApp M1 [_] 0).trans rfl)
        have HN := Lib.hid (And.intro hN1 hN2)
        clear hN1 hN2
        go_upto_region 8 with fail
        go_cut [10, 11] from 51 to 64 (fun p8 v9 wx => ∃ A2 : Nat, p8 = .pointer (some ⟨A2, 0, none⟩) ∧ v9 = .int .i64 (codeC c) ∧ Hid (Env w0 wx (N2 ++ [obK A2 31 (barr (encR c (blk bl)))])))
        case first =>
          refine hd_start (SA P G k (sd k x.c0 x.c1) (rcV (side k x.R0 x.R1)) pl pw (.slice ao bl.length cap)) (by kernel_rfl) ?_
          intro w4 hw'
          have H4 := Lib.hid (H5.out.draw 1)
          rw [← hw'] at H4
          clear hw' H5
          have S4 := STN1.out.sa _ H4.out k hk2
          refine hd_take (v := ?_) 0 rfl (by kernel_rfl) (fun _ _ d _ _ h => (by cases d <;> exact h)) (by kernel_rfl) S4 (fun w' hS => ?_) ?_
          rotate_left
          focus (have q0 := SA.fc w' hS; have q1 := SA.fr w' hS; have q2 := SA.fb w' hS; clear hS; go_simp; try rfl; done)
          simp only [List.getElem_toArray, List.getElem_cons_succ, List.getElem_cons_zero, Act.put, List.setIfInBounds_toArray, List.set_cons_zero, List.set_cons_succ]
          refine hd_take (v := ?_) 1 rfl (by kernel_rfl) (fun _ _ d _ _ h => (by cases d <;> exact h)) (by kernel_rfl) S4 (fun w' hS => ?_) ?_
          rotate_left
          focus (have q0 := SA.fc w' hS; have q1 := SA.fr w' hS; have q2 := SA.fb w' hS; clear hS; go_simp; try rfl; done)
          simp only [List.getElem_toArray, List.getElem_cons_succ, List.getElem_cons_zero, Act.put, List.setIfInBounds_toArray, List.set_cons_zero, List.set_cons_succ]
          refine hd_take (v := ?_) 2 rfl (by kernel_rfl) (fun _ _ d _ _ h => (by cases d <;> exact h)) (by kernel_rfl) S4 (fun w' hS => ?_) ?_
          rotate_left
          focus (have q0 := SA.fc w' hS; have q1 := SA.fr w' hS; have q2 := SA.fb w' hS; clear hS; go_simp; try rfl; done)
          simp only [List.getElem_toArray, List.getElem_cons_succ, List.getElem_cons_zero, Act.put, List.setIfInBounds_toArray, List.set_cons_zero, List.set_cons_succ]
          refine hd_take (v := ?_) 3 rfl (by kernel_rfl) (fun _ _ d _ _ h => (by cases d <;> exact h)) (by kernel_rfl) S4 (fun w' hS => ?_) ?_
          rotate_left
          focus (have q0 := SA.fc w' hS; have q1 := SA.fr w' hS; have q2 := SA.fb w' hS; clear hS; go_simp; try rfl; done)
          simp only [List.getElem_toArray, List.getElem_cons_succ, List.getElem_cons_zero, Act.put, List.setIfInBounds_toArray, List.set_cons_zero, List.set_cons_succ]
          refine hd_take (v := ?_) 4 rfl (by kernel_rfl) (fun _ _ d _ _ h => (by cases d <;> exact h)) (by kernel_rfl) S4 (fun w' hS => ?_) ?_
          rotate_left
          focus (have q0 := SA.fc w' hS; have q1 := SA.fr w' hS; have q2 := SA.fb w' hS; clear hS; go_simp; try rfl; done)
          simp only [List.getElem_toArray, List.getElem_cons_succ, List.getElem_cons_zero, Act.put, List.setIfInBounds_toArray, List.set_cons_zero, List.set_cons_succ]
          refine hd_take (v := ?_) 5 rfl (by kernel_rfl) (fun _ _ d _ _ h => (by cases d <;> exact h)) (by kernel_rfl) S4 (fun w' hS => ?_) ?_
          rotate_left
          focus (have q0 := SA.fc w' hS; have q1 := SA.fr w' hS; have q2 := SA.fb w' hS; clear hS; go_simp; try rfl; done)
          simp only [List.getElem_toArray, List.getElem_cons_succ, List.getElem_cons_zero, Act.put, List.setIfInBounds_toArray, List.set_cons_zero, List.set_cons_succ]
          refine hd_take (v := ?_) 6 rfl (by kernel_rfl) (fun _ _ d _ _ h => (by cases d <;> exact h)) (by kernel_rfl) S4 (fun w' hS => ?_) ?_
          rotate_left
          focus (have q0 := SA.fc w' hS; have q1 := SA.fr w' hS; have q2 := SA.fb w' hS; clear hS; go_simp; try rfl; done)
          simp only [List.getElem_toArray, List.getElem_cons_succ, List.getElem_cons_zero, Act.put, List.setIfInBounds_toArray, List.set_cons_zero, List.set_cons_succ]
          refine hd_take (v := ?_) 7 rfl (by kernel_rfl) (fun _ _ d _ _ h => (by cases d <;> exact h)) (by kernel_rfl) S4 (fun w' hS => ?_) ?_
          rotate_left
          focus (have q0 := SA.fc w' hS; have q1 := SA.fr w' hS; have q2 := SA.fb w' hS; clear hS; go_simp; try rfl; done)
          simp only [List.getElem_toArray, List.getElem_cons_succ, List.getElem_cons_zero, Act.put, List.setIfInBounds_toArray, List.set_cons_zero, List.set_cons_succ]
          refine hd_take (v := ?_) 8 rfl (by kernel_rfl) (fun _ _ d _ _ h => (by cases d <;> exact h)) (by kernel_rfl) S4 (fun w' hS => ?_) ?_
          rotate_left
          focus (have q0 := SA.fc w' hS; have q1 := SA.fr w' hS; have q2 := SA.fb w' hS; clear hS; go_simp; try rfl; done)
          simp only [List.getElem_toArray, List.getElem_cons_succ, List.getElem_cons_zero, Act.put, List.setIfInBounds_toArray, List.set_cons_zero, List.set_cons_succ]
          refine hd_two 9 14 (by kernel_rfl) ?_ ?_
          · skip
            refine op_call rfl (by kernel_rfl) (by go_simp; first | exact ⟨rfl, rfl⟩ | rfl) ?_
            refine (block_any _ bl w4 (H4.out.old HU.out)).mono ?_
            rintro e w5 ⟨he, hb5⟩
            subst he
            have H5 := Lib.hid (H4.out.below hb5)
            clear hb5
            have hS2 := STN1.out.sa _ H5.out k hk2
            refine ⟨_, rfl, hS2, ?_⟩
            simp only [List.getElem_toArray, List.getElem_cons_succ, List.getElem_cons_zero, Act.put, List.setIfInBounds_toArray, List.set_cons_zero, List.set_cons_succ]
            refine hd_two 10 14 (by kernel_rfl) ?_ ?_
            · skip
              refine op_call rfl (by kernel_rfl) (by go_simp; first | exact ⟨rfl, rfl⟩ | rfl) ?_
              refine (rcEnc_all H5.out 5 jw (by omega) (K5.out _) (KW.out _) hroom.out k HR.out (blk bl) (blk_length bl)).mono ?_
              rintro e w6 ⟨he, h5⟩
              subst he
              have H6 := Lib.hid (HEX2.out _ _ h5)
              clear h5
              have hS2 := STN2.out.sa _ H6.out k hk2
              refine ⟨_, rfl, hS2, ?_⟩
              simp only [List.getElem_toArray, List.getElem_cons_succ, List.getElem_cons_zero, Act.put, List.setIfInBounds_toArray, List.set_cons_zero, List.set_cons_succ]
              refine hd_take (v := ?_) 11 rfl (by kernel_rfl) (fun _ _ d _ _ h => (by cases d <;> exact h)) (by kernel_rfl) hS2 (fun w' hS => ?_) ?_
              rotate_left
              focus (clear hS; go_simp; try rfl; done)
              simp only [List.getElem_toArray, List.getElem_cons_succ, List.getElem_cons_zero, Act.put, List.setIfInBounds_toArray, List.set_cons_zero, List.set_cons_succ]
              refine hd_take (v := ?_) 12 rfl (by kernel_rfl) (fun _ _ d _ _ h => (by cases d <;> exact h)) (by kernel_rfl) hS2 (fun w' hS => ?_) ?_
              rotate_left
              focus (clear hS; go_simp; try rfl; done)
              simp only [List.getElem_toArray, List.getElem_cons_succ, List.getElem_cons_zero, Act.put, List.setIfInBounds_toArray, List.set_cons_zero, List.set_cons_succ]
              refine hd_take (v := ?_) 13 rfl (by kernel_rfl) (fun _ _ d _ _ h => (by cases d <;> exact h)) (by kernel_rfl) hS2 (fun w' hS => ?_) ?_
              rotate_left
              focus (clear hS; go_simp; try rfl; done)
              simp only [List.getElem_toArray, List.getElem_cons_succ, List.getElem_cons_zero, Act.put, List.setIfInBounds_toArray, List.set_cons_zero, List.set_cons_succ]
              have h7 : Env w0 _ (N2 ++ [obK w6.heap.size 31 (barr (List.replicate 16 0))]) := (show Env w0 w6 N2 from by simpa using H6.out).newK 31 (barr (List.replicate 16 0))
              have H7 := Lib.hid h7
              have S7 := STN2.out.sa _ h7 k hk2
              clear h7
              refine hd_one 14 (by kernel_rfl) ?_
              refine op_run rfl (by kernel_rfl) (by go_simp; first | done | exact ⟨rfl, rfl⟩ | rfl) ?_
              refine ⟨S7, ?_⟩
              simp only [List.getElem_toArray, List.getElem_cons_succ, List.getElem_cons_zero, Act.put, List.setIfInBounds_toArray, List.set_cons_zero, List.set_cons_succ]
              refine hd_one 15 (by kernel_rfl) ?_
              have hbz := H7.out.blk N2.length ((atApp N2 [_] 0).trans rfl)
              refine op_store_blk2 _ (barr (encR c (blk bl))) rfl (by kernel_rfl) rfl rfl hbz size16 hes (by rw [barr_size]; rfl) (barr_one _) ?_
              intro w9 B9 O9
              have H9 := Lib.hid (H7.out.boxIn B9 O9)
              simp only [List.getElem_toArray, List.getElem_cons_succ, List.getElem_cons_zero, Act.put, List.setIfInBounds_toArray, List.set_cons_zero, List.set_cons_succ]
              have S9 := STN2.out.sa _ H9.out k hk2
              refine ⟨S9, ?_⟩
              refine hd_take (v := ?_) 16 rfl (by kernel_rfl) (fun _ _ d _ _ h => (by cases d <;> exact h)) (by kernel_rfl) S9 (fun w' hS => ?_) ?_
              rotate_left
              focus (clear hS; go_simp; try rfl; done)
              simp only [List.getElem_toArray, List.getElem_cons_succ, List.getElem_cons_zero, Act.put, List.setIfInBounds_toArray, List.set_cons_zero, List.set_cons_succ]
              refine hd_done (by kernel_rfl) ?_
              go_wp2_with fail
              go_meet
              exact ⟨_, rfl, rfl, H9⟩
            · skip
              have h6 : Env w0 _ (N1 ++ [obK w5.heap.size 31 (barr (List.replicate 16 0))]) := (show Env w0 w5 N1 from by simpa using H5.out).newK 31 (barr (List.replicate 16 0))
              have H6 := Lib.hid h6
              have S6 := STN1.out.sa _ h6 k hk2
              clear h6
              refine op_run rfl (by kernel_rfl) (by go_simp; first | done | exact ⟨rfl, rfl⟩ | rfl) ?_
              refine ⟨S6, ?_⟩
              simp only [List.getElem_toArray, List.getElem_cons_succ, List.getElem_cons_zero, Act.put, List.setIfInBounds_toArray, List.set_cons_zero, List.set_cons_succ]
              refine hd_one 10 (by kernel_rfl) ?_
              refine op_call rfl (by kernel_rfl) (by go_simp; first | exact ⟨rfl, rfl⟩ | rfl) ?_
              refine (rcEnc_all H6.out 5 jw (by omega) (K5.out _) (KW.out _) hroom.out k HR.out (blk bl) (blk_length bl)).mono ?_
              rintro e w7 ⟨he, h5⟩
              subst he
              have H7 := Lib.hid (HEX2.out _ _ h5)
              clear h5
              have hS2 := STN2.out.sa _ H7.out k hk2
              refine ⟨_, rfl, hS2, ?_⟩
              simp only [List.getElem_toArray, List.getElem_cons_succ, List.getElem_cons_zero, Act.put, List.setIfInBounds_toArray, List.set_cons_zero, List.set_cons_succ]
              have SZ := STN2.out.sa _ H7.out k hk2
              refine hd_take (v := ?_) 11 rfl (by kernel_rfl) (fun _ _ d _ _ h => (by cases d <;> exact h)) (by kernel_rfl) SZ (fun w' hS => ?_) ?_
              rotate_left
              focus (clear hS; go_simp; try rfl; done)
              simp only [List.getElem_toArray, List.getElem_cons_succ, List.getElem_cons_zero, Act.put, List.setIfInBounds_toArray, List.set_cons_zero, List.set_cons_succ]
              refine hd_take (v := ?_) 12 rfl (by kernel_rfl) (fun _ _ d _ _ h => (by cases d <;> exact h)) (by kernel_rfl) SZ (fun w' hS => ?_) ?_
              rotate_left
              focus (clear hS; go_simp; try rfl; done)
              simp only [List.getElem_toArray, List.getElem_cons_succ, List.getElem_cons_zero, Act.put, List.setIfInBounds_toArray, List.set_cons_zero, List.set_cons_succ]
              refine hd_take (v := ?_) 13 rfl (by kernel_rfl) (fun _ _ d _ _ h => (by cases d <;> exact h)) (by kernel_rfl) SZ (fun w' hS => ?_) ?_
              rotate_left
              focus (clear hS; go_simp; try rfl; done)
              simp only [List.getElem_toArray, List.getElem_cons_succ, List.getElem_cons_zero, Act.put, List.setIfInBounds_toArray, List.set_cons_zero, List.set_cons_succ]
              refine hd_one 15 (by kernel_rfl) ?_
              have hbz := H7.out.blk N2.length ((atApp N2 [_] 0).trans rfl)
              refine op_store_blk2 _ (barr (encR c (blk bl))) rfl (by kernel_rfl) rfl rfl hbz size16 hes (by rw [barr_size]; rfl) (barr_one _) ?_
              intro w9 B9 O9
              have H9 := Lib.hid (H7.out.boxIn B9 O9)
              simp only [List.getElem_toArray, List.getElem_cons_succ, List.getElem_cons_zero, Act.put, List.setIfInBounds_toArray, List.set_cons_zero, List.set_cons_succ]
              have S9 := STN2.out.sa _ H9.out k hk2
              refine ⟨S9, ?_⟩
              refine hd_take (v := ?_) 16 rfl (by kernel_rfl) (fun _ _ d _ _ h => (by cases d <;> exact h)) (by kernel_rfl) S9 (fun w' hS => ?_) ?_
              rotate_left
              focus (clear hS; go_simp; try rfl; done)
              simp only [List.getElem_toArray, List.getElem_cons_succ, List.getElem_cons_zero, Act.put, List.setIfInBounds_toArray, List.set_cons_zero, List.set_cons_succ]
              refine hd_done (by kernel_rfl) ?_
              go_wp2_with fail
              go_meet
              exact ⟨_, rfl, rfl, H9⟩
          · skip
            have h5 : Env w0 _ (N1 ++ [obK w4.heap.size 31 (barr (List.replicate 16 0))]) := (show Env w0 w4 N1 from by simpa using H4.out).newK 31 (barr (List.replicate 16 0))
            have H5 := Lib.hid h5
            have S5 := STN1.out.sa _ h5 k hk2
            clear h5
            refine op_run rfl (by kernel_rfl) (by go_simp; first | done | exact ⟨rfl, rfl⟩ | rfl) ?_
            refine ⟨S5, ?_⟩
            simp only [List.getElem_toArray, List.getElem_cons_succ, List.getElem_cons_zero, Act.put, List.setIfInBounds_toArray, List.set_cons_zero, List.set_cons_succ]
            refine hd_one 9 (by kernel_rfl) ?_
            refine op_call rfl (by kernel_rfl) (by go_simp; first | exact ⟨rfl, rfl⟩ | rfl) ?_
            refine (block_any _ bl _ (H5.out.old HU.out)).mono ?_
            rintro e w6 ⟨he, hb5⟩
            subst he
            have H6 := Lib.hid (H5.out.below hb5)
            clear hb5
            have hS2 := STN1.out.sa _ H6.out k hk2
            refine ⟨_, rfl, hS2, ?_⟩
            simp only [List.getElem_toArray, List.getElem_cons_succ, List.getElem_cons_zero, Act.put, List.setIfInBounds_toArray, List.set_cons_zero, List.set_cons_succ]
            refine hd_one 10 (by kernel_rfl) ?_
            refine op_call rfl (by kernel_rfl) (by go_simp; first | exact ⟨rfl, rfl⟩ | rfl) ?_
            refine (rcEnc_all H6.out 5 jw (by omega) (K5.out _) (KW.out _) hroom.out k HR.out (blk bl) (blk_length bl)).mono ?_
            rintro e w7 ⟨he, h5⟩
            subst he
            have H7 := Lib.hid (HEX2.out _ _ h5)
            clear h5
            have hS2 := STN2.out.sa _ H7.out k hk2
            refine ⟨_, rfl, hS2, ?_⟩
            simp only [List.getElem_toArray, List.getElem_cons_succ, List.getElem_cons_zero, Act.put, List.setIfInBounds_toArray, List.set_cons_zero, List.set_cons_succ]
            have SZ := STN2.out.sa _ H7.out k hk2
            refine hd_take (v := ?_) 11 rfl (by kernel_rfl) (fun _ _ d _ _ h => (by cases d <;> exact h)) (by kernel_rfl) SZ (fun w' hS => ?_) ?_
            rotate_left
            focus (clear hS; go_simp; try rfl; done)
            simp only [List.getElem_toArray, List.getElem_cons_succ, List.getElem_cons_zero, Act.put, List.setIfInBounds_toArray, List.set_cons_zero, List.set_cons_succ]
            refine hd_take (v := ?_) 12 rfl (by kernel_rfl) (fun _ _ d _ _ h => (by cases d <;> exact h)) (by kernel_rfl) SZ (fun w' hS => ?_) ?_
            rotate_left
            focus (clear hS; go_simp; try rfl; done)
            simp only [List.getElem_toArray, List.getElem_cons_succ, List.getElem_cons_zero, Act.put, List.setIfInBounds_toArray, List.set_cons_zero, List.set_cons_succ]
            refine hd_take (v := ?_) 13 rfl (by kernel_rfl) (fun _ _ d _ _ h => (by cases d <;> exact h)) (by kernel_rfl) SZ (fun w' hS => ?_) ?_
            rotate_left
            focus (clear hS; go_simp; try rfl; done)
            simp only [List.getElem_toArray, List.getElem_cons_succ, List.getElem_cons_zero, Act.put, List.setIfInBounds_toArray, List.set_cons_zero, List.set_cons_succ]
            refine hd_one 15 (by kernel_rfl) ?_
            have hbz := H7.out.blk N2.length ((atApp N2 [_] 0).trans rfl)
            refine op_store_blk2 _ (barr (encR c (blk bl))) rfl (by kernel_rfl) rfl rfl hbz size16 hes (by rw [barr_size]; rfl) (barr_one _) ?_
            intro w9 B9 O9
            have H9 := Lib.hid (H7.out.boxIn B9 O9)
            simp only [List.getElem_toArray, List.getElem_cons_succ, List.getElem_cons_zero, Act.put, List.setIfInBounds_toArray, List.set_cons_zero, List.set_cons_succ]
            have S9 := STN2.out.sa _ H9.out k hk2
            refine ⟨S9, ?_⟩
            refine hd_take (v := ?_) 16 rfl (by kernel_rfl) (fun _ _ d _ _ h => (by cases d <;> exact h)) (by kernel_rfl) S9 (fun w' hS => ?_) ?_
            rotate_left
            focus (clear hS; go_simp; try rfl; done)
            simp only [List.getElem_toArray, List.getElem_cons_succ, List.getElem_cons_zero, Act.put, List.setIfInBounds_toArray, List.set_cons_zero, List.set_cons_succ]
            refine hd_done (by kernel_rfl) ?_
            go_wp2_with fail
            go_meet
            exact ⟨_, rfl, rfl, H9⟩
        case rest =>
          obtain ⟨A2, rfl, rfl, H6⟩ := hcut
          clear H5
          have Q1 := H6.out.blk M1.length (b := A) (by rw [List.getElem?_append_left (List.getElem?_eq_some_iff.1 HA1.out).1]; exact HA1.out)
          have Q2 := H6.out.blk N2.length (b := A2) ((atApp N2 [_] 0).trans rfl)
          have hel : (encR c (blk bl)).length = 16 := encR_len _ _
          go_wp2_with (first | ((with_reducible change wpList _ _ _ (Oper.mk (some 65) (Op.load 31 _) _ _ _ _ :: _) _ _); refine wpList_load_blk (ty := 31) A rfl Q1 Try.underlying31 rfl size16 hes ?_) | ((with_reducible change wpList _ _ _ (Oper.mk (some 66) (Op.load 31 _) _ _ _ _ :: _) _ _); refine wpList_load_blk (ty := 31) A2 rfl Q2 Try.underlying31 rfl size16 hes ?_) | ((with_reducible change wpList _ _ _ (Oper.mk _ (Op.binOp .eql 31 _ _ _) _ _ _ _ :: _) _ _); refine wpList_eql_arr (encR c (blk bl)) (encR c (blk bl)) true rfl rfl rfl guard16 (eqAt16 _ _ hel hel true (by simp)) ?_))
          go_ret
          obtain ⟨rs', hset, hok⟩ := HS.out.note (P := P) (upd_E o c) HX.out
          refine ⟨rfl, x.led rs', ?_, hok⟩
          rw [← hset]
          have h9 := H6.out
          rw [← HN.out.2, ← HN.out.1, ← HM1.out, ← HM0.out] at h9
          exact note_end WL_len jl jw n6 n7 h9
      --]k0
    · have t0 : (kd == (0 : Int)) = false := by rw [beq_eq_false_iff_ne]; exact k0
      clear k0
      by_cases k1 : kd = 1
      · have t1 : (kd == (1 : Int)) = true := by rw [k1]; rfl
        clear k1
        --[k1
        have hes : (barr (decR c (blk bl))).size = 16 := by rw [barr_size, decR_len]
        have hcc : (codeC c == codeC c) = true := beq_self_eq_true _
        obtain ⟨M1, hM1⟩ : ∃ y, M0.set jl (obP u6 (noteE o c)) = y := ⟨_, rfl⟩
        have ST1 : Hid (Stg P G pl pw x on kd (.slice ao bl.length cap) mute M1) := by rw [← hM1]; exact Lib.hid (ST0.out.set jl (by omega) _)
        have HEX : Hid (∀ (W : World) (X : List Ob), Env w0 W ((M0 ++ X).set jl (obP u6 (noteE o c))) → Env w0 W (M1 ++ X)) := Lib.hid (fun W X h => by rw [List.set_append_left _ _ (by have := ST0.out.len; omega), hM1] at h; exact h)
        have HM1 := Lib.hid hM1
        clear hM1
        go_upto_region 11 with fail
        go_cut [12, 13] from 75 to 88 (fun p8 v9 wx => ∃ A : Nat, p8 = .pointer (some ⟨A, 0, none⟩) ∧ v9 = .int .i64 (codeC c) ∧ Hid (Env w0 wx (M1 ++ [obK A 31 (barr (decR c (blk bl)))])))
        case first =>
          refine hd_start (SA P G k (sd k x.c0 x.c1) (rcV (side k x.R0 x.R1)) pl pw (.slice ao bl.length cap)) (by kernel_rfl) ?_
          intro w4 hw'
          have H4 := Lib.hid (H3.out.draw 1)
          rw [← hw'] at H4
          clear hw' H3
          have S4 := ST0.out.sa _ H4.out k hk2
          refine hd_take (v := ?_) 0 rfl (by kernel_rfl) (fun _ _ d _ _ h => (by cases d <;> exact h)) (by kernel_rfl) S4 (fun w' hS => ?_) ?_
          rotate_left
          focus (have q0 := SA.fc w' hS; have q1 := SA.fr w' hS; have q2 := SA.fb w' hS; clear hS; go_simp; try rfl; done)
          simp only [List.getElem_toArray, List.getElem_cons_succ, List.getElem_cons_zero, Act.put, List.setIfInBounds_toArray, List.set_cons_zero, List.set_cons_succ]
          refine hd_take (v := ?_) 1 rfl (by kernel_rfl) (fun _ _ d _ _ h => (by cases d <;> exact h)) (by kernel_rfl) S4 (fun w' hS => ?_) ?_
          rotate_left
          focus (have q0 := SA.fc w' hS; have q1 := SA.fr w' hS; have q2 := SA.fb w' hS; clear hS; go_simp; try rfl; done)
          simp only [List.getElem_toArray, List.getElem_cons_succ, List.getElem_cons_zero, Act.put, List.setIfInBounds_toArray, List.set_cons_zero, List.set_cons_succ]
          refine hd_take (v := ?_) 2 rfl (by kernel_rfl) (fun _ _ d _ _ h => (by cases d <;> exact h)) (by kernel_rfl) S4 (fun w' hS => ?_) ?_
          rotate_left
          focus (have q0 := SA.fc w' hS; have q1 := SA.fr w' hS; have q2 := SA.fb w' hS; clear hS; go_simp; try rfl; done)
          simp only [List.getElem_toArray, List.getElem_cons_succ, List.getElem_cons_zero, Act.put, List.setIfInBounds_toArray, List.set_cons_zero, List.set_cons_succ]
          refine hd_take (v := ?_) 3 rfl (by kernel_rfl) (fun _ _ d _ _ h => (by cases d <;> exact h)) (by kernel_rfl) S4 (fun w' hS => ?_) ?_
          rotate_left
          focus (have q0 := SA.fc w' hS; have q1 := SA.fr w' hS; have q2 := SA.fb w' hS; clear hS; go_simp; try rfl; done)
          simp only [List.getElem_toArray, List.getElem_cons_succ, List.getElem_cons_zero, Act.put, List.setIfInBounds_toArray, List.set_cons_zero, List.set_cons_succ]
          refine hd_take (v := ?_) 4 rfl (by kernel_rfl) (fun _ _ d _ _ h => (by cases d <;> exact h)) (by kernel_rfl) S4 (fun w' hS => ?_) ?_
          rotate_left
          focus (have q0 := SA.fc w' hS; have q1 := SA.fr w' hS; have q2 := SA.fb w' hS; clear hS; go_simp; try rfl; done)
          simp only [List.getElem_toArray, List.getElem_cons_succ, List.getElem_cons_zero, Act.put, List.setIfInBounds_toArray, List.set_cons_zero, List.set_cons_succ]
          refine hd_take (v := ?_) 5 rfl (by kernel_rfl) (fun _ _ d _ _ h => (by cases d <;> exact h)) (by kernel_rfl) S4 (fun w' hS => ?_) ?_
          rotate_left
          focus (have q0 := SA.fc w' hS; have q1 := SA.fr w' hS; have q2 := SA.fb w' hS; clear hS; go_simp; try rfl; done)
          simp only [List.getElem_toArray, List.getElem_cons_succ, List.getElem_cons_zero, Act.put, List.setIfInBounds_toArray, List.set_cons_zero, List.set_cons_succ]
          refine hd_take (v := ?_) 6 rfl (by kernel_rfl) (fun _ _ d _ _ h => (by cases d <;> exact h)) (by kernel_rfl) S4 (fun w' hS => ?_) ?_
          rotate_left
          focus (have q0 := SA.fc w' hS; have q1 := SA.fr w' hS; have q2 := SA.fb w' hS; clear hS; go_simp; try rfl; done)
          simp only [List.getElem_toArray, List.getElem_cons_succ, List.getElem_cons_zero, Act.put, List.setIfInBounds_toArray, List.set_cons_zero, List.set_cons_succ]
          refine hd_take (v := ?_) 7 rfl (by kernel_rfl) (fun _ _ d _ _ h => (by cases d <;> exact h)) (by kernel_rfl) S4 (fun w' hS => ?_) ?_
          rotate_left
          focus (have q0 := SA.fc w' hS; have q1 := SA.fr w' hS; have q2 := SA.fb w' hS; clear hS; go_simp; try rfl; done)
          simp only [List.getElem_toArray, List.getElem_cons_succ, List.getElem_cons_zero, Act.put, List.setIfInBounds_toArray, List.set_cons_zero, List.set_cons_succ]
          refine hd_take (v := ?_) 8 rfl (by kernel_rfl) (fun _ _ d _ _ h => (by cases d <;> exact h)) (by kernel_rfl) S4 (fun w' hS => ?_) ?_
          rotate_left
          focus (have q0 := SA.fc w' hS; have q1 := SA.fr w' hS; have q2 := SA.fb w' hS; clear hS; go_simp; try rfl; done)
          simp only [List.getElem_toArray, List.getElem_cons_succ, List.getElem_cons_zero, Act.put, List.setIfInBounds_toArray, List.set_cons_zero, List.set_cons_succ]
          refine hd_two 9 14 (by kernel_rfl) ?_ ?_
          · skip
            refine op_call rfl (by kernel_rfl) (by go_simp; first | exact ⟨rfl, rfl⟩ | rfl) ?_
            refine (block_any _ bl w4 (H4.out.old HU.out)).mono ?_
            rintro e w5 ⟨he, hb5⟩
            subst he
            have H5 := Lib.hid (H4.out.below hb5)
            clear hb5
            have hS2 := ST0.out.sa _ H5.out k hk2
            refine ⟨_, rfl, hS2, ?_⟩
            simp only [List.getElem_toArray, List.getElem_cons_succ, List.getElem_cons_zero, Act.put, List.setIfInBounds_toArray, List.set_cons_zero, List.set_cons_succ]
            refine hd_two 10 14 (by kernel_rfl) ?_ ?_
            · skip
              refine op_call rfl (by kernel_rfl) (by go_simp; first | exact ⟨rfl, rfl⟩ | rfl) ?_
              refine (decC_all H5.out (3 + k) jl (by omega) (J3.out _) (JL.out _) hroom.out (blk bl) (blk_length bl)).mono ?_
              rintro e w6 ⟨he, h5⟩
              subst he
              have H6 := Lib.hid (HEX.out _ _ h5)
              clear h5
              have hS2 := ST1.out.sa _ H6.out k hk2
              refine ⟨_, rfl, hS2, ?_⟩
              simp only [List.getElem_toArray, List.getElem_cons_succ, List.getElem_cons_zero, Act.put, List.setIfInBounds_toArray, List.set_cons_zero, List.set_cons_succ]
              refine hd_take (v := ?_) 11 rfl (by kernel_rfl) (fun _ _ d _ _ h => (by cases d <;> exact h)) (by kernel_rfl) hS2 (fun w' hS => ?_) ?_
              rotate_left
              focus (clear hS; go_simp; try rfl; done)
              simp only [List.getElem_toArray, List.getElem_cons_succ, List.getElem_cons_zero, Act.put, List.setIfInBounds_toArray, List.set_cons_zero, List.set_cons_succ]
              refine hd_take (v := ?_) 12 rfl (by kernel_rfl) (fun _ _ d _ _ h => (by cases d <;> exact h)) (by kernel_rfl) hS2 (fun w' hS => ?_) ?_
              rotate_left
              focus (clear hS; go_simp; try rfl; done)
              simp only [List.getElem_toArray, List.getElem_cons_succ, List.getElem_cons_zero, Act.put, List.setIfInBounds_toArray, List.set_cons_zero, List.set_cons_succ]
              refine hd_take (v := ?_) 13 rfl (by kernel_rfl) (fun _ _ d _ _ h => (by cases d <;> exact h)) (by kernel_rfl) hS2 (fun w' hS => ?_) ?_
              rotate_left
              focus (clear hS; go_simp; try rfl; done)
              simp only [List.getElem_toArray, List.getElem_cons_succ, List.getElem_cons_zero, Act.put, List.setIfInBounds_toArray, List.set_cons_zero, List.set_cons_succ]
              have h7 : Env w0 _ (M1 ++ [obK w6.heap.size 31 (barr (List.replicate 16 0))]) := (show Env w0 w6 M1 from by simpa using H6.out).newK 31 (barr (List.replicate 16 0))
              have H7 := Lib.hid h7
              have S7 := ST1.out.sa _ h7 k hk2
              clear h7
              refine hd_one 14 (by kernel_rfl) ?_
              refine op_run rfl (by kernel_rfl) (by go_simp; first | done | exact ⟨rfl, rfl⟩ | rfl) ?_
              refine ⟨S7, ?_⟩
              simp only [List.getElem_toArray, List.getElem_cons_succ, List.getElem_cons_zero, Act.put, List.setIfInBounds_toArray, List.set_cons_zero, List.set_cons_succ]
              refine hd_one 15 (by kernel_rfl) ?_
              have hbz := H7.out.blk M1.length ((atApp M1 [_] 0).trans rfl)
              refine op_store_blk2 _ (barr (decR c (blk bl))) rfl (by kernel_rfl) rfl rfl hbz size16 hes (by rw [barr_size]; rfl) (barr_one _) ?_
              intro w9 B9 O9
              have H9 := Lib.hid (H7.out.boxIn B9 O9)
              simp only [List.getElem_toArray, List.getElem_cons_succ, List.getElem_cons_zero, Act.put, List.setIfInBounds_toArray, List.set_cons_zero, List.set_cons_succ]
              have S9 := ST1.out.sa _ H9.out k hk2
              refine ⟨S9, ?_⟩
              refine hd_take (v := ?_) 16 rfl (by kernel_rfl) (fun _ _ d _ _ h => (by cases d <;> exact h)) (by kernel_rfl) S9 (fun w' hS => ?_) ?_
              rotate_left
              focus (clear hS; go_simp; try rfl; done)
              simp only [List.getElem_toArray, List.getElem_cons_succ, List.getElem_cons_zero, Act.put, List.setIfInBounds_toArray, List.set_cons_zero, List.set_cons_succ]
              refine hd_done (by kernel_rfl) ?_
              go_wp2_with fail
              go_meet
              exact ⟨_, rfl, rfl, H9⟩
            · skip
              have h6 : Env w0 _ (M0 ++ [obK w5.heap.size 31 (barr (List.replicate 16 0))]) := (show Env w0 w5 M0 from by simpa using H5.out).newK 31 (barr (List.replicate 16 0))
              have H6 := Lib.hid h6
              have S6 := ST0.out.sa _ h6 k hk2
              clear h6
              refine op_run rfl (by kernel_rfl) (by go_simp; first | done | exact ⟨rfl, rfl⟩ | rfl) ?_
              refine ⟨S6, ?_⟩
              simp only [List.getElem_toArray, List.getElem_cons_succ, List.getElem_cons_zero, Act.put, List.setIfInBounds_toArray, List.set_cons_zero, List.set_cons_succ]
              refine hd_one 10 (by kernel_rfl) ?_
              refine op_call rfl (by kernel_rfl) (by go_simp; first | exact ⟨rfl, rfl⟩ | rfl) ?_
              refine (decC_all H6.out (3 + k) jl (by omega) (J3.out _) (JL.out _) hroom.out (blk bl) (blk_length bl)).mono ?_
              rintro e w7 ⟨he, h5⟩
              subst he
              have H7 := Lib.hid (HEX.out _ _ h5)
              clear h5
              have hS2 := ST1.out.sa _ H7.out k hk2
              refine ⟨_, rfl, hS2, ?_⟩
              simp only [List.getElem_toArray, List.getElem_cons_succ, List.getElem_cons_zero, Act.put, List.setIfInBounds_toArray, List.set_cons_zero, List.set_cons_succ]
              have SZ := ST1.out.sa _ H7.out k hk2
              refine hd_take (v := ?_) 11 rfl (by kernel_rfl) (fun _ _ d _ _ h => (by cases d <;> exact h)) (by kernel_rfl) SZ (fun w' hS => ?_) ?_
              rotate_left
              focus (clear hS; go_simp; try rfl; done)
              simp only [List.getElem_toArray, List.getElem_cons_succ, List.getElem_cons_zero, Act.put, List.setIfInBounds_toArray, List.set_cons_zero, List.set_cons_succ]
              refine hd_take (v := ?_) 12 rfl (by kernel_rfl) (fun _ _ d _ _ h => (by cases d <;> exact h)) (by kernel_rfl) SZ (fun w' hS => ?_) ?_
              rotate_left
              focus (clear hS; go_simp; try rfl; done)
              simp only [List.getElem_toArray, List.getElem_cons_succ, List.getElem_cons_zero, Act.put, List.setIfInBounds_toArray, List.set_cons_zero, List.set_cons_succ]
              refine hd_take (v := ?_) 13 rfl (by kernel_rfl) (fun _ _ d _ _ h => (by cases d <;> exact h)) (by kernel_rfl) SZ (fun w' hS => ?_) ?_
              rotate_left
              focus (clear hS; go_simp; try rfl; done)
              simp only [List.getElem_toArray, List.getElem_cons_succ, List.getElem_cons_zero, Act.put, List.setIfInBounds_toArray, List.set_cons_zero, List.set_cons_succ]
              refine hd_one 15 (by kernel_rfl) ?_
              have hbz := H7.out.blk M1.length ((atApp M1 [_] 0).trans rfl)
              refine op_store_blk2 _ (barr (decR c (blk bl))) rfl (by kernel_rfl) rfl rfl hbz size16 hes (by rw [barr_size]; rfl) (barr_one _) ?_
              intro w9 B9 O9
              have H9 := Lib.hid (H7.out.boxIn B9 O9)
              simp only [List.getElem_toArray, List.getElem_cons_succ, List.getElem_cons_zero, Act.put, List.setIfInBounds_toArray, List.set_cons_zero, List.set_cons_succ]
              have S9 := ST1.out.sa _ H9.out k hk2
              refine ⟨S9, ?_⟩
              refine hd_take (v := ?_) 16 rfl (by kernel_rfl) (fun _ _ d _ _ h => (by cases d <;> exact h)) (by kernel_rfl) S9 (fun w' hS => ?_) ?_
              rotate_left
              focus (clear hS; go_simp; try rfl; done)
              simp only [List.getElem_toArray, List.getElem_cons_succ, List.getElem_cons_zero, Act.put, List.setIfInBounds_toArray, List.set_cons_zero, List.set_cons_succ]
              refine hd_done (by kernel_rfl) ?_
              go_wp2_with fail
              go_meet
              exact ⟨_, rfl, rfl, H9⟩
          · skip
            have h5 : Env w0 _ (M0 ++ [obK w4.heap.size 31 (barr (List.replicate 16 0))]) := (show Env w0 w4 M0 from by simpa using H4.out).newK 31 (barr (List.replicate 16 0))
            have H5 := Lib.hid h5
            have S5 := ST0.out.sa _ h5 k hk2
            clear h5
            refine op_run rfl (by kernel_rfl) (by go_simp; first | done | exact ⟨rfl, rfl⟩ | rfl) ?_
            refine ⟨S5, ?_⟩
            simp only [List.getElem_toArray, List.getElem_cons_succ, List.getElem_cons_zero, Act.put, List.setIfInBounds_toArray, List.set_cons_zero, List.set_cons_succ]
            refine hd_one 9 (by kernel_rfl) ?_
            refine op_call rfl (by kernel_rfl) (by go_simp; first | exact ⟨rfl, rfl⟩ | rfl) ?_
            refine (block_any _ bl _ (H5.out.old HU.out)).mono ?_
            rintro e w6 ⟨he, hb5⟩
            subst he
            have H6 := Lib.hid (H5.out.below hb5)
            clear hb5
            have hS2 := ST0.out.sa _ H6.out k hk2
            refine ⟨_, rfl, hS2, ?_⟩
            simp only [List.getElem_toArray, List.getElem_cons_succ, List.getElem_cons_zero, Act.put, List.setIfInBounds_toArray, List.set_cons_zero, List.set_cons_succ]
            refine hd_one 10 (by kernel_rfl) ?_
            refine op_call rfl (by kernel_rfl) (by go_simp; first | exact ⟨rfl, rfl⟩ | rfl) ?_
            refine (decC_all H6.out (3 + k) jl (by omega) (J3.out _) (JL.out _) hroom.out (blk bl) (blk_length bl)).mono ?_
            rintro e w7 ⟨he, h5⟩
            subst he
            have H7 := Lib.hid (HEX.out _ _ h5)
            clear h5
            have hS2 := ST1.out.sa _ H7.out k hk2
            refine ⟨_, rfl, hS2, ?_⟩
            simp only [List.getElem_toArray, List.getElem_cons_succ, List.getElem_cons_zero, Act.put, List.setIfInBounds_toArray, List.set_cons_zero, List.set_cons_succ]
            have SZ := ST1.out.sa _ H7.out k hk2
            refine hd_take (v := ?_) 11 rfl (by kernel_rfl) (fun _ _ d _ _ h => (by cases d <;> exact h)) (by kernel_rfl) SZ (fun w' hS => ?_) ?_
            rotate_left
            focus (clear hS; go_simp; try rfl; done)
            simp only [List.getElem_toArray, List.getElem_cons_succ, List.getElem_cons_zero, Act.put, List.setIfInBounds_toArray, List.set_cons_zero, List.set_cons_succ]
            refine hd_take (v := ?_) 12 rfl (by kernel_rfl) (fun _ _ d _ _ h => (by cases d <;> exact h)) (by kernel_rfl) SZ (fun w' hS => ?_) ?_
            rotate_left
            focus (clear hS; go_simp; try rfl; done)
            simp only [List.getElem_toArray, List.getElem_cons_succ, List.getElem_cons_zero, Act.put, List.setIfInBounds_toArray, List.set_cons_zero, List.set_cons_succ]
            refine hd_take (v := ?_) 13 rfl (by kernel_rfl) (fun _ _ d _ _ h => (by cases d <;> exact h)) (by kernel_rfl) SZ (fun w' hS => ?_) ?_
            rotate_left
            focus (clear hS; go_simp; try rfl; done)
            simp only [List.getElem_toArray, List.getElem_cons_succ, List.getElem_cons_zero, Act.put, List.setIfInBounds_toArray, List.set_cons_zero, List.set_cons_succ]
            refine hd_one 15 (by kernel_rfl) ?_
            have hbz := H7.out.blk M1.length ((atApp M1 [_] 0).trans rfl)
            refine op_store_blk2 _ (barr (decR c (blk bl))) rfl (by kernel_rfl) rfl rfl hbz size16 hes (by rw [barr_size]; rfl) (barr_one _) ?_
            intro w9 B9 O9
            have H9 := Lib.hid (H7.out.boxIn B9 O9)
            simp only [List.getElem_toArray, List.getElem_cons_succ, List.getElem_cons_zero, Act.put, List.setIfInBounds_toArray, List.set_cons_zero, List.set_cons_succ]
            have S9 := ST1.out.sa _ H9.out k hk2
            refine ⟨S9, ?_⟩
            refine hd_take (v := ?_) 16 rfl (by kernel_rfl) (fun _ _ d _ _ h => (by cases d <;> exact h)) (by kernel_rfl) S9 (fun w' hS => ?_) ?_
            rotate_left
            focus (clear hS; go_simp; try rfl; done)
            simp only [List.getElem_toArray, List.getElem_cons_succ, List.getElem_cons_zero, Act.put, List.setIfInBounds_toArray, List.set_cons_zero, List.set_cons_succ]
            refine hd_done (by kernel_rfl) ?_
            go_wp2_with fail
            go_meet
            exact ⟨_, rfl, rfl, H9⟩
        case rest =>
          obtain ⟨A, rfl, rfl, H4⟩ := hcut
          clear H3
          obtain ⟨N1, hN1⟩ : ∃ y, M1 ++ [obK A 31 (barr (decR c (blk bl)))] = y := ⟨_, rfl⟩
          have STN1 : Hid (Stg P G pl pw x on kd (.slice ao bl.length cap) mute N1) := by rw [← hN1]; exact Lib.hid (ST1.out.more _)
          rw [hN1] at H4
          have H5 : Hid (Env w0 wc (N1 ++ [])) := by rw [List.append_nil]; exact H4
          clear H4
          have K5 : Hid (∀ X, (N1 ++ X)[5]? = some (obR2 x.R0 x.R1)) := Lib.hid (fun X => by
            rw [← hN1, ← HM1.out, List.append_assoc, List.getElem?_append_left (by rw [List.length_set]; have := ST0.out.len; omega), List.getElem?_set_ne (by omega)]
            exact I5.out)
          have KW : Hid (∀ X, (N1 ++ X)[jw]? = some (obR u7 o)) := Lib.hid (fun X => by
            rw [← hN1, ← HM1.out, List.append_assoc, List.getElem?_append_left (by rw [List.length_set]; have := ST0.out.len; omega), List.getElem?_set_ne (by omega)]
            exact IW.out)
          obtain ⟨N2, hN2⟩ : ∃ y, N1.set jw (obR u7 (noteE o c)) = y := ⟨_, rfl⟩
          have STN2 : Hid (Stg P G pl pw x on kd (.slice ao bl.length cap) mute N2) := by rw [← hN2]; exact Lib.hid (STN1.out.set jw (by omega) _)
          have HEX2 : Hid (∀ (W : World) (X : List Ob), Env w0 W ((N1 ++ X).set jw (obR u7 (noteE o c))) → Env w0 W (N2 ++ X)) := Lib.hid (fun W X h => by rw [List.set_append_left _ _ (by have := STN1.out.len; omega), hN2] at h; exact h)
          have HA1 : Hid (N2[M1.length]? = some (obK A 31 (barr (decR c (blk bl))))) := by
            rw [← hN2, ← hN1, List.getElem?_set_ne (by have := ST1.out.len; omega)]
            exact Lib.hid ((atApp M1 [_] 0).trans rfl)
          have HN := Lib.hid (And.intro hN1 hN2)
          clear hN1 hN2
          go_upto_region 12 with fail
          go_cut [14, 15] from 89 to 102 (fun p8 v9 wx => ∃ A2 : Nat, p8 = .pointer (some ⟨A2, 0, none⟩) ∧ v9 = .int .i64 (codeC c) ∧ Hid (Env w0 wx (N2 ++ [obK A2 31 (barr (decR c (blk bl)))])))
          case first =>
            refine hd_start (SA P G k (sd k x.c0 x.c1) (rcV (side k x.R0 x.R1)) pl pw (.slice ao bl.length cap)) (by kernel_rfl) ?_
            intro w4 hw'
            have H4 := Lib.hid (H5.out.draw 1)
            rw [← hw'] at H4
            clear hw' H5
            have S4 := STN1.out.sa _ H4.out k hk2
            refine hd_take (v := ?_) 0 rfl (by kernel_rfl) (fun _ _ d _ _ h => (by cases d <;> exact h)) (by kernel_rfl) S4 (fun w' hS => ?_) ?_
            rotate_left
            focus (have q0 := SA.fc w' hS; have q1 := SA.fr w' hS; have q2 := SA.fb w' hS; clear hS; go_simp; try rfl; done)
            simp only [List.getElem_toArray, List.getElem_cons_succ, List.getElem_cons_zero, Act.put, List.setIfInBounds_toArray, List.set_cons_zero, List.set_cons_succ]
            refine hd_take (v := ?_) 1 rfl (by kernel_rfl) (fun _ _ d _ _ h => (by cases d <;> exact h)) (by kernel_rfl) S4 (fun w' hS => ?_) ?_
            rotate_left
            focus (have q0 := SA.fc w' hS; have q1 := SA.fr w' hS; have q2 := SA.fb w' hS; clear hS; go_simp; try rfl; done)
            simp only [List.getElem_toArray, List.getElem_cons_succ, List.getElem_cons_zero, Act.put, List.setIfInBounds_toArray, List.set_cons_zero, List.set_cons_succ]
            refine hd_take (v := ?_) 2 rfl (by kernel_rfl) (fun _ _ d _ _ h => (by cases d <;> exact h)) (by kernel_rfl) S4 (fun w' hS => ?_) ?_
            rotate_left
            focus (have q0 := SA.fc w' hS; have q1 := SA.fr w' hS; have q2 := SA.fb w' hS; clear hS; go_simp; try rfl; done)
            simp only [List.getElem_toArray, List.getElem_cons_succ, List.getElem_cons_zero, Act.put, List.setIfInBounds_toArray, List.set_cons_zero, List.set_cons_succ]
            refine hd_take (v := ?_) 3 rfl (by kernel_rfl) (fun _ _ d _ _ h => (by cases d <;> exact h)) (by kernel_rfl) S4 (fun w' hS => ?_) ?_
            rotate_left
            focus (have q0 := SA.fc w' hS; have q1 := SA.fr w' hS; have q2 := SA.fb w' hS; clear hS; go_simp; try rfl; done)
            simp only [List.getElem_toArray, List.getElem_cons_succ, List.getElem_cons_zero, Act.put, List.setIfInBounds_toArray, List.set_cons_zero, List.set_cons_succ]
            refine hd_take (v := ?_) 4 rfl (by kernel_rfl) (fun _ _ d _ _ h => (by cases d <;> exact h)) (by kernel_rfl) S4 (fun w' hS => ?_) ?_
            rotate_left
            focus (have q0 := SA.fc w' hS; have q1 := SA.fr w' hS; have q2 := SA.fb w' hS; clear hS; go_simp; try rfl; done)
            simp only [List.getElem_toArray, List.getElem_cons_succ, List.getElem_cons_zero, Act.put, List.setIfInBounds_toArray, List.set_cons_zero, List.set_cons_succ]
            refine hd_take (v := ?_) 5 rfl (by kernel_rfl) (fun _ _ d _ _ h => (by cases d <;> exact h)) (by kernel_rfl) S4 (fun w' hS => ?_) ?_
            rotate_left
            focus (have q0 := SA.fc w' hS; have q1 := SA.fr w' hS; have q2 := SA.fb w' hS; clear hS; go_simp; try rfl; done)
            simp only [List.getElem_toArray, List.getElem_cons_succ, List.getElem_cons_zero, Act.put, List.setIfInBounds_toArray, List.set_cons_zero, List.set_cons_succ]
            refine hd_take (v := ?_) 6 rfl (by kernel_rfl) (fun _ _ d _ _ h => (by cases d <;> exact h)) (by kernel_rfl) S4 (fun w' hS => ?_) ?_
            rotate_left
            focus (have q0 := SA.fc w' hS; have q1 := SA.fr w' hS; have q2 := SA.fb w' hS; clear hS; go_simp; try rfl; done)
            simp only [List.getElem_toArray, List.getElem_cons_succ, List.getElem_cons_zero, Act.put, List.setIfInBounds_toArray, List.set_cons_zero, List.set_cons_succ]
            refine hd_take (v := ?_) 7 rfl (by kernel_rfl) (fun _ _ d _ _ h => (by cases d <;> exact h)) (by kernel_rfl) S4 (fun w' hS => ?_) ?_
            rotate_left
            focus (have q0 := SA.fc w' hS; have q1 := SA.fr w' hS; have q2 := SA.fb w' hS; clear hS; go_simp; try rfl; done)
            simp only [List.getElem_toArray, List.getElem_cons_succ, List.getElem_cons_zero, Act.put, List.setIfInBounds_toArray, List.set_cons_zero, List.set_cons_succ]
            refine hd_take (v := ?_) 8 rfl (by kernel_rfl) (fun _ _ d _ _ h => (by cases d <;> exact h)) (by kernel_rfl) S4 (fun w' hS => ?_) ?_
            rotate_left
            focus (have q0 := SA.fc w' hS; have q1 := SA.fr w' hS; have q2 := SA.fb w' hS; clear hS; go_simp; try rfl; done)
            simp only [List.getElem_toArray, List.getElem_cons_succ, List.getElem_cons_zero, Act.put, List.setIfInBounds_toArray, List.set_cons_zero, List.set_cons_succ]
            refine hd_two 9 14 (by kernel_rfl) ?_ ?_
            · skip
              refine op_call rfl (by kernel_rfl) (by go_simp; first | exact ⟨rfl, rfl⟩ | rfl) ?_
              refine (block_any _ bl w4 (H4.out.old HU.out)).mono ?_
              rintro e w5 ⟨he, hb5⟩
              subst he
              have H5 := Lib.hid (H4.out.below hb5)
              clear hb5
              have hS2 := STN1.out.sa _ H5.out k hk2
              refine ⟨_, rfl, hS2, ?_⟩
              simp only [List.getElem_toArray, List.getElem_cons_succ, List.getElem_cons_zero, Act.put, List.setIfInBounds_toArray, List.set_cons_zero, List.set_cons_succ]
              refine hd_two 10 14 (by kernel_rfl) ?_ ?_
              · skip
                refine op_call rfl (by kernel_rfl) (by go_simp; first | exact ⟨rfl, rfl⟩ | rfl) ?_
                refine (rcDec_all H5.out 5 jw (by omega) (K5.out _) (KW.out _) hroom.out k HR.out (blk bl) (blk_length bl)).mono ?_
                rintro e w6 ⟨he, h5⟩
                subst he
                have H6 := Lib.hid (HEX2.out _ _ h5)
                clear h5
                have hS2 := STN2.out.sa _ H6.out k hk2
                refine ⟨_, rfl, hS2, ?_⟩
                simp only [List.getElem_toArray, List.getElem_cons_succ, List.getElem_cons_zero, Act.put, List.setIfInBounds_toArray, List.set_cons_zero, List.set_cons_succ]
                refine hd_take (v := ?_) 11 rfl (by kernel_rfl) (fun _ _ d _ _ h => (by cases d <;> exact h)) (by kernel_rfl) hS2 (fun w' hS => ?_) ?_
                rotate_left
                focus (clear hS; go_simp; try rfl; done)
                simp only [List.getElem_toArray, List.getElem_cons_succ, List.getElem_cons_zero, Act.put, List.setIfInBounds_toArray, List.set_cons_zero, List.set_cons_succ]
                refine hd_take (v := ?_) 12 rfl (by kernel_rfl) (fun _ _ d _ _ h => (by cases d <;> exact h)) (by kernel_rfl) hS2 (fun w' hS => ?_) ?_
                rotate_left
                focus (clear hS; go_simp; try rfl; done)
                simp only [List.getElem_toArray, List.getElem_cons_succ, List.getElem_cons_zero, Act.put, List.setIfInBounds_toArray, List.set_cons_zero, List.set_cons_succ]
                refine hd_take (v := ?_) 13 rfl (by kernel_rfl) (fun _ _ d _ _ h => (by cases d <;> exact h)) (by kernel_rfl) hS2 (fun w' hS => ?_) ?_
                rotate_left
                focus (clear hS; go_simp; try rfl; done)
                simp only [List.getElem_toArray, List.getElem_cons_succ, List.getElem_cons_zero, Act.put, List.setIfInBounds_toArray, List.set_cons_zero, List.set_cons_succ]
                have h7 : Env w0 _ (N2 ++ [obK w6.heap.size 31 (barr (List.replicate 16 0))]) := (show Env w0 w6 N2 from by simpa using H6.out).newK 31 (barr (List.replicate 16 0))
                have H7 := Lib.hid h7
                have S7 := STN2.out.sa _ h7 k hk2
                clear h7
                refine hd_one 14 (by kernel_rfl) ?_
                refine op_run rfl (by kernel_rfl) (by go_simp; first | done | exact ⟨rfl, rfl⟩ | rfl) ?_
                refine ⟨S7, ?_⟩
                simp only [List.getElem_toArray, List.getElem_cons_succ, List.getElem_cons_zero, Act.put, List.setIfInBounds_toArray, List.set_cons_zero, List.set_cons_succ]
                refine hd_one 15 (by kernel_rfl) ?_
                have hbz := H7.out.blk N2.length ((atApp N2 [_] 0).trans rfl)
                refine op_store_blk2 _ (barr (decR c (blk bl))) rfl (by kernel_rfl) rfl rfl hbz size16 hes (by rw [barr_size]; rfl) (barr_one _) ?_
                intro w9 B9 O9
                have H9 := Lib.hid (H7.out.boxIn B9 O9)
                simp only [List.getElem_toArray, List.getElem_cons_succ, List.getElem_cons_zero, Act.put, List.setIfInBounds_toArray, List.set_cons_zero, List.set_cons_succ]
                have S9 := STN2.out.sa _ H9.out k hk2
                refine ⟨S9, ?_⟩
                refine hd_take (v := ?_) 16 rfl (by kernel_rfl) (fun _ _ d _ _ h => (by cases d <;> exact h)) (by kernel_rfl) S9 (fun w' hS => ?_) ?_
                rotate_left
                focus (clear hS; go_simp; try rfl; done)
                simp only [List.getElem_toArray, List.getElem_cons_succ, List.getElem_cons_zero, Act.put, List.setIfInBounds_toArray, List.set_cons_zero, List.set_cons_succ]
                refine hd_done (by kernel_rfl) ?_
                go_wp2_with fail
                go_meet
                exact ⟨_, rfl, rfl, H9⟩
              · skip
                have h6 : Env w0 _ (N1 ++ [obK w5.heap.size 31 (barr (List.replicate 16 0))]) := (show Env w0 w5 N1 from by simpa using H5.out).newK 31 (barr (List.replicate 16 0))
                have H6 := Lib.hid h6
                have S6 := STN1.out.sa _ h6 k hk2
                clear h6
                refine op_run rfl (by kernel_rfl) (by go_simp; first | done | exact ⟨rfl, rfl⟩ | rfl) ?_
                refine ⟨S6, ?_⟩
                simp only [List.getElem_toArray, List.getElem_cons_succ, List.getElem_cons_zero, Act.put, List.setIfInBounds_toArray, List.set_cons_zero, List.set_cons_succ]
                refine hd_one 10 (by kernel_rfl) ?_
                refine op_call rfl (by kernel_rfl) (by go_simp; first | exact ⟨rfl, rfl⟩ | rfl) ?_
                refine (rcDec_all H6.out 5 jw (by omega) (K5.out _) (KW.out _) hroom.out k HR.out (blk bl) (blk_length bl)).mono ?_
                rintro e w7 ⟨he, h5⟩
                subst he
                have H7 := Lib.hid (HEX2.out _ _ h5)
                clear h5
                have hS2 := STN2.out.sa _ H7.out k hk2
                refine ⟨_, rfl, hS2, ?_⟩
                simp only [List.getElem_toArray, List.getElem_cons_succ, List.getElem_cons_zero, Act.put, List.setIfInBounds_toArray, List.set_cons_zero, List.set_cons_succ]
                have SZ := STN2.out.sa _ H7.out k hk2
                refine hd_take (v := ?_) 11 rfl (by kernel_rfl) (fun _ _ d _ _ h => (by cases d <;> exact h)) (by kernel_rfl) SZ (fun w' hS => ?_) ?_
                rotate_left
                focus (clear hS; go_simp; try rfl; done)
                simp only [List.getElem_toArray, List.getElem_cons_succ, List.getElem_cons_zero, Act.put, List.setIfInBounds_toArray, List.set_cons_zero, List.set_cons_succ]
                refine hd_take (v := ?_) 12 rfl (by kernel_rfl) (fun _ _ d _ _ h => (by cases d <;> exact h)) (by kernel_rfl) SZ (fun w' hS => ?_) ?_
                rotate_left
                focus (clear hS; go_simp; try rfl; done)
                simp only [List.getElem_toArray, List.getElem_cons_succ, List.getElem_cons_zero, Act.put, List.setIfInBounds_toArray, List.set_cons_zero, List.set_cons_succ]
                refine hd_take (v := ?_) 13 rfl (by kernel_rfl) (fun _ _ d _ _ h => (by cases d <;> exact h)) (by kernel_rfl) SZ (fun w' hS => ?_) ?_
                rotate_left
                focus (clear hS; go_simp; try rfl; done)
                simp only [List.getElem_toArray, List.getElem_cons_succ, List.getElem_cons_zero, Act.put, List.setIfInBounds_toArray, List.set_cons_zero, List.set_cons_succ]
                refine hd_one 15 (by kernel_rfl) ?_
                have hbz := H7.out.blk N2.length ((atApp N2 [_] 0).trans rfl)
                refine op_store_blk2 _ (barr (decR c (blk bl))) rfl (by kernel_rfl) rfl rfl hbz size16 hes (by rw [barr_size]; rfl) (barr_one _) ?_
                intro w9 B9 O9
                have H9 := Lib.hid (H7.out.boxIn B9 O9)
                simp only [List.getElem_toArray, List.getElem_cons_succ, List.getElem_cons_zero, Act.put, List.setIfInBounds_toArray, List.set_cons_zero, List.set_cons_succ]
                have S9 := STN2.out.sa _ H9.out k hk2
                refine ⟨S9, ?_⟩
                refine hd_take (v := ?_) 16 rfl (by kernel_rfl) (fun _ _ d _ _ h => (by cases d <;> exact h)) (by kernel_rfl) S9 (fun w' hS => ?_) ?_
                rotate_left
                focus (clear hS; go_simp; try rfl; done)
                simp only [List.getElem_toArray, List.getElem_cons_succ, List.getElem_cons_zero, Act.put, List.setIfInBounds_toArray, List.set_cons_zero, List.set_cons_succ]
                refine hd_done (by kernel_rfl) ?_
                go_wp2_with fail
                go_meet
                exact ⟨_, rfl, rfl, H9⟩
            · skip
              have h5 : Env w0 _ (N1 ++ [obK w4.heap.size 31 (barr (List.replicate 16 0))]) := (show Env w0 w4 N1 from by simpa using H4.out).newK 31 (barr (List.replicate 16 0))
              have H5 := Lib.hid h5
              have S5 := STN1.out.sa _ h5 k hk2
              clear h5
              refine op_run rfl (by kernel_rfl) (by go_simp; first | done | exact ⟨rfl, rfl⟩ | rfl) ?_
              refine ⟨S5, ?_⟩
              simp only [List.getElem_toArray, List.getElem_cons_succ, List.getElem_cons_zero, Act.put, List.setIfInBounds_toArray, List.set_cons_zero, List.set_cons_succ]
              refine hd_one 9 (by kernel_rfl) ?_
              refine op_call rfl (by kernel_rfl) (by go_simp; first | exact ⟨rfl, rfl⟩ | rfl) ?_
              refine (block_any _ bl _ (H5.out.old HU.out)).mono ?_
              rintro e w6 ⟨he, hb5⟩
              subst he
              have H6 := Lib.hid (H5.out.below hb5)
              clear hb5
              have hS2 := STN1.out.sa _ H6.out k hk2
              refine ⟨_, rfl, hS2, ?_⟩
              simp only [List.getElem_toArray, List.getElem_cons_succ, List.getElem_cons_zero, Act.put, List.setIfInBounds_toArray, List.set_cons_zero, List.set_cons_succ]
              refine hd_one 10 (by kernel_rfl) ?_
              refine op_call rfl (by kernel_rfl) (by go_simp; first | exact ⟨rfl, rfl⟩ | rfl) ?_
              refine (rcDec_all H6.out 5 jw (by omega) (K5.out _) (KW.out _) hroom.out k HR.out (blk bl) (blk_length bl)).mono ?_
              rintro e w7 ⟨he, h5⟩
              subst he
              have H7 := Lib.hid (HEX2.out _ _ h5)
              clear h5
              have hS2 := STN2.out.sa _ H7.out k hk2
              refine ⟨_, rfl, hS2, ?_⟩
              simp only [List.getElem_toArray, List.getElem_cons_succ, List.getElem_cons_zero, Act.put, List.setIfInBounds_toArray, List.set_cons_zero, List.set_cons_succ]
              have SZ := STN2.out.sa _ H7.out k hk2
              refine hd_take (v := ?_) 11 rfl (by kernel_rfl) (fun _ _ d _ _ h => (by cases d <;> exact h)) (by kernel_rfl) SZ (fun w' hS => ?_) ?_
              rotate_left
              focus (clear hS; go_simp; try rfl; done)
              simp only [List.getElem_toArray, List.getElem_cons_succ, List.getElem_cons_zero, Act.put, List.setIfInBounds_toArray, List.set_cons_zero, List.set_cons_succ]
              refine hd_take (v := ?_) 12 rfl (by kernel_rfl) (fun _ _ d _ _ h => (by cases d <;> exact h)) (by kernel_rfl) SZ (fun w' hS => ?_) ?_
              rotate_left
              focus (clear hS; go_simp; try rfl; done)
              simp only [List.getElem_toArray, List.getElem_cons_succ, List.getElem_cons_zero, Act.put, List.setIfInBounds_toArray, List.set_cons_zero, List.set_cons_succ]
              refine hd_take (v := ?_) 13 rfl (by kernel_rfl) (fun _ _ d _ _ h => (by cases d <;> exact h)) (by kernel_rfl) SZ (fun w' hS => ?_) ?_
              rotate_left
              focus (clear hS; go_simp; try rfl; done)
              simp only [List.getElem_toArray, List.getElem_cons_succ, List.getElem_cons_zero, Act.put, List.setIfInBounds_toArray, List.set_cons_zero, List.set_cons_succ]
              refine hd_one 15 (by kernel_rfl) ?_
              have hbz := H7.out.blk N2.length ((atApp N2 [_] 0).trans rfl)
              refine op_store_blk2 _ (barr (decR c (blk bl))) rfl (by kernel_rfl) rfl rfl hbz size16 hes (by rw [barr_size]; rfl) (barr_one _) ?_
              intro w9 B9 O9
              have H9 := Lib.hid (H7.out.boxIn B9 O9)
              simp only [List.getElem_toArray, List.getElem_cons_succ, List.getElem_cons_zero, Act.put, List.setIfInBounds_toArray, List.set_cons_zero, List.set_cons_succ]
              have S9 := STN2.out.sa _ H9.out k hk2
              refine ⟨S9, ?_⟩
              refine hd_take (v := ?_) 16 rfl (by kernel_rfl) (fun _ _ d _ _ h => (by cases d <;> exact h)) (by kernel_rfl) S9 (fun w' hS => ?_) ?_
              rotate_left
              focus (clear hS; go_simp; try rfl; done)
              simp only [List.getElem_toArray, List.getElem_cons_succ, List.getElem_cons_zero, Act.put, List.setIfInBounds_toArray, List.set_cons_zero, List.set_cons_succ]
              refine hd_done (by kernel_rfl) ?_
              go_wp2_with fail
              go_meet
              exact ⟨_, rfl, rfl, H9⟩
          case rest =>
            obtain ⟨A2, rfl, rfl, H6⟩ := hcut
            clear H5
            have Q1 := H6.out.blk M1.length (b := A) (by rw [List.getElem?_append_left (List.getElem?_eq_some_iff.1 HA1.out).1]; exact HA1.out)
            have Q2 := H6.out.blk N2.length (b := A2) ((atApp N2 [_] 0).trans rfl)
            have hel : (decR c (blk bl)).length = 16 := decR_len _ _
            go_wp2_with (first | ((with_reducible change wpList _ _ _ (Oper.mk (some 103) (Op.load 31 _) _ _ _ _ :: _) _ _); refine wpList_load_blk (ty := 31) A rfl Q1 Try.underlying31 rfl size16 hes ?_) | ((with_reducible change wpList _ _ _ (Oper.mk (some 104) (Op.load 31 _) _ _ _ _ :: _) _ _); refine wpList_load_blk (ty := 31) A2 rfl Q2 Try.underlying31 rfl size16 hes ?_) | ((with_reducible change wpList _ _ _ (Oper.mk _ (Op.binOp .eql 31 _ _ _) _ _ _ _ :: _) _ _); refine wpList_eql_arr (decR c (blk bl)) (decR c (blk bl)) true rfl rfl rfl guard16 (eqAt16 _ _ hel hel true (by simp)) ?_))
            go_ret
            obtain ⟨rs', hset, hok⟩ := HS.out.note (P := P) (upd_E o c) HX.out
            refine ⟨rfl, x.led rs', ?_, hok⟩
            rw [← hset]
            have h9 := H6.out
            rw [← HN.out.2, ← HN.out.1, ← HM1.out, ← HM0.out] at h9
            exact note_end WL_len jl jw n6 n7 h9
        --]k1
      · have t1 : (kd == (1 : Int)) = false := by rw [beq_eq_false_iff_ne]; exact k1
        clear k1
        by_cases k2 : kd = 2
        · have t2 : (kd == (2 : Int)) = true := by rw [k2]; rfl
          clear k2
          --[k2
          have hfl : (formL c).length ≤ 240 := formL_len (H3.out.cip (3 + k) (J3.out _))
          have HFL := Lib.hid hfl
          clear hfl
          have I6 : Hid (M0[6]? = some (obT x.fv x.ts)) := by rw [← HM0.out]; exact Lib.hid rfl
          obtain ⟨fo, fc, hfv, hf1, hf2⟩ := obT_form H3.out 6 (u := x.fv) (ts := x.ts) (by rw [List.append_nil]; exact I6.out)
          have HFV := Lib.hid hfv
          clear hfv
          go_upto_region 15 with fail
          go_cut [] from 113 to 128 (fun wx => ∃ fv' v, Hid (Env w0 wx (WL P pl pw { x with fv := fv', ts := x.ts ++ [(v, formL c)] } ++ [obA10 G on kd (.slice ao bl.length cap) mute])))
          case first =>
            refine hd_start (SA P G k (sd k x.c0 x.c1) (rcV (side k x.R0 x.R1)) pl pw (.slice ao bl.length cap)) (by kernel_rfl) ?_
            intro w4 hw'
            have H4 := Lib.hid (H3.out.draw 1)
            rw [← hw'] at H4
            clear hw' H3
            have S4 := ST0.out.sa _ H4.out k hk2
            refine hd_take (v := ?_) 0 rfl (by kernel_rfl) (fun _ _ d _ _ h => (by cases d <;> exact h)) (by kernel_rfl) S4 (fun w' hS => ?_) ?_
            rotate_left
            focus (have q0 := SA.fc w' hS; have q1 := SA.fr w' hS; clear hS; go_simp; try rfl; done)
            simp only [List.getElem_toArray, List.getElem_cons_succ, List.getElem_cons_zero, Act.put, List.setIfInBounds_toArray, List.set_cons_zero, List.set_cons_succ]
            refine hd_take (v := ?_) 1 rfl (by kernel_rfl) (fun _ _ d _ _ h => (by cases d <;> exact h)) (by kernel_rfl) S4 (fun w' hS => ?_) ?_
            rotate_left
            focus (have q0 := SA.fc w' hS; have q1 := SA.fr w' hS; clear hS; go_simp; try rfl; done)
            simp only [List.getElem_toArray, List.getElem_cons_succ, List.getElem_cons_zero, Act.put, List.setIfInBounds_toArray, List.set_cons_zero, List.set_cons_succ]
            refine hd_take (v := ?_) 2 rfl (by kernel_rfl) (fun _ _ d _ _ h => (by cases d <;> exact h)) (by kernel_rfl) S4 (fun w' hS => ?_) ?_
            rotate_left
            focus (have q0 := SA.fc w' hS; have q1 := SA.fr w' hS; clear hS; go_simp; try rfl; done)
            simp only [List.getElem_toArray, List.getElem_cons_succ, List.getElem_cons_zero, Act.put, List.setIfInBounds_toArray, List.set_cons_zero, List.set_cons_succ]
            refine hd_take (v := ?_) 3 rfl (by kernel_rfl) (fun _ _ d _ _ h => (by cases d <;> exact h)) (by kernel_rfl) S4 (fun w' hS => ?_) ?_
            rotate_left
            focus (have q0 := SA.fc w' hS; have q1 := SA.fr w' hS; clear hS; go_simp; try rfl; done)
            simp only [List.getElem_toArray, List.getElem_cons_succ, List.getElem_cons_zero, Act.put, List.setIfInBounds_toArray, List.set_cons_zero, List.set_cons_succ]
            refine hd_take (v := ?_) 5 rfl (by kernel_rfl) (fun _ _ d _ _ h => (by cases d <;> exact h)) (by kernel_rfl) S4 (fun w' hS => ?_) ?_
            rotate_left
            focus (have q0 := SA.fc w' hS; have q1 := SA.fr w' hS; clear hS; go_simp; try rfl; done)
            simp only [List.getElem_toArray, List.getElem_cons_succ, List.getElem_cons_zero, Act.put, List.setIfInBounds_toArray, List.set_cons_zero, List.set_cons_succ]
            refine hd_take (v := ?_) 6 rfl (by kernel_rfl) (fun _ _ d _ _ h => (by cases d <;> exact h)) (by kernel_rfl) S4 (fun w' hS => ?_) ?_
            rotate_left
            focus (have q0 := SA.fc w' hS; have q1 := SA.fr w' hS; clear hS; go_simp; try rfl; done)
            simp only [List.getElem_toArray, List.getElem_cons_succ, List.getElem_cons_zero, Act.put, List.setIfInBounds_toArray, List.set_cons_zero, List.set_cons_succ]
            refine hd_take (v := ?_) 7 rfl (by kernel_rfl) (fun _ _ d _ _ h => (by cases d <;> exact h)) (by kernel_rfl) S4 (fun w' hS => ?_) ?_
            rotate_left
            focus (have q0 := SA.fc w' hS; have q1 := SA.fr w' hS; clear hS; go_simp; try rfl; done)
            simp only [List.getElem_toArray, List.getElem_cons_succ, List.getElem_cons_zero, Act.put, List.setIfInBounds_toArray, List.set_cons_zero, List.set_cons_succ]
            refine hd_take (v := ?_) 8 rfl (by kernel_rfl) (fun _ _ d _ _ h => (by cases d <;> exact h)) (by kernel_rfl) S4 (fun w' hS => ?_) ?_
            rotate_left
            focus (have q0 := SA.fc w' hS; have q1 := SA.fr w' hS; clear hS; go_simp; try rfl; done)
            simp only [List.getElem_toArray, List.getElem_cons_succ, List.getElem_cons_zero, Act.put, List.setIfInBounds_toArray, List.set_cons_zero, List.set_cons_succ]
            refine hd_take (v := ?_) 9 rfl (by kernel_rfl) (fun _ _ d _ _ h => (by cases d <;> exact h)) (by kernel_rfl) S4 (fun w' hS => ?_) ?_
            rotate_left
            focus (have q0 := SA.fc w' hS; have q1 := SA.fr w' hS; clear hS; go_simp; try rfl; done)
            simp only [List.getElem_toArray, List.getElem_cons_succ, List.getElem_cons_zero, Act.put, List.setIfInBounds_toArray, List.set_cons_zero, List.set_cons_succ]
            refine hd_take (v := ?_) 10 rfl (by kernel_rfl) (fun _ _ d _ _ h => (by cases d <;> exact h)) (by kernel_rfl) S4 (fun w' hS => ?_) ?_
            rotate_left
            focus (have q0 := SA.fc w' hS; have q1 := SA.fr w' hS; clear hS; go_simp; try rfl; done)
            simp only [List.getElem_toArray, List.getElem_cons_succ, List.getElem_cons_zero, Act.put, List.setIfInBounds_toArray, List.set_cons_zero, List.set_cons_succ]
            refine hd_two 4 11 (by kernel_rfl) ?_ ?_
            · skip
              have d6 : w4.cell? ⟨P, 6, none⟩ = some (.slice fo x.ts.length fc) := by rw [← HFV.out]; exact (H4.out.blk 0 ((ST0.out.more _).p0)).cellAt 6 rfl
              refine op_run rfl (by kernel_rfl) (by go_simp; first | done | exact ⟨rfl, rfl⟩ | rfl) ?_
              refine ⟨S4, ?_⟩
              simp only [List.getElem_toArray, List.getElem_cons_succ, List.getElem_cons_zero, Act.put, List.setIfInBounds_toArray, List.set_cons_zero, List.set_cons_succ]
              clear d6
              refine hd_one 11 (by kernel_rfl) ?_
              refine op_call rfl (by kernel_rfl) (by go_simp; first | exact ⟨rfl, rfl⟩ | rfl) ?_
              refine (formC_all H4.out (3 + k) (J3.out _)).mono ?_
              rintro e w5 ⟨v, he, h5⟩
              subst he
              rw [List.append_nil] at h5
              obtain ⟨oa, oc, hv, _⟩ := (h5.bytes M0.length (v := v) (l := formL c) ((atApp M0 [_] 0).trans rfl)).rd.form
              subst hv
              have H5 := Lib.hid h5
              clear h5
              have hS2 := ST0.out.sa _ H5.out k hk2
              refine ⟨_, rfl, hS2, ?_⟩
              simp only [List.getElem_toArray, List.getElem_cons_succ, List.getElem_cons_zero, Act.put, List.setIfInBounds_toArray, List.set_cons_zero, List.set_cons_succ]
              have S6 : SA P G k (sd k x.c0 x.c1) (rcV (side k x.R0 x.R1)) pl pw (.slice ao bl.length cap) (w5.alloc (.cells #[.slice oa (formL c).length oc] 22)) := ST0.out.sa _ (H5.out.below ((Below.refl _ _).alloc (Nat.le_refl _) _)) k hk2
              refine hd_one 12 (by kernel_rfl) ?_
              refine op_run rfl (by kernel_rfl) (by go_simp; first | done | exact ⟨rfl, rfl⟩ | rfl) ?_
              refine ⟨S6, ?_⟩
              simp only [List.getElem_toArray, List.getElem_cons_succ, List.getElem_cons_zero, Act.put, List.setIfInBounds_toArray, List.set_cons_zero, List.set_cons_succ]
              refine hd_one 13 (by kernel_rfl) ?_
              refine op_wp rfl (by kernel_rfl) ?_
              refine wp_append_T (obs := M0) H5.out 6 I6.out _ _ rfl HFV.out.symm rfl (by have := HX.out.tl; have := HX.out.wl; omega) ?_
              intro u8v w7 h7
              obtain ⟨uo, uc, hu8, _, _⟩ := obT_form h7 6 (u := u8v) (ts := x.ts ++ [(.slice oa (formL c).length oc, formL c)]) (List.getElem?_set_self (by have := ST0.out.len; omega))
              rw [List.length_append, List.length_singleton] at hu8
              subst hu8
              have hP := (ST0.out.set 6 (by omega) (obT (.slice uo (x.ts.length + 1) uc) (x.ts ++ [(.slice oa (formL c).length oc, formL c)]))).p0
              have hP1 := h7.blk 0 hP
              have e6 : w7.cell? ⟨P, 6, none⟩ = some (.slice fo x.ts.length fc) := by rw [← HFV.out]; exact hP1.cellAt 6 rfl
              have ef := hP1.unfrozen 6
              have h8 := h7.turnBlk 0 hP (hP1.set 6 (.slice uo (x.ts.length + 1) uc)) ((Only.refl (fun x => x = P) w7).set (p := ⟨P, 6, none⟩) (.inl rfl) _)
              have S7 : SA P G k (sd k x.c0 x.c1) (rcV (side k x.R0 x.R1)) pl pw (.slice ao bl.length cap) w7 := (ST0.out.set 6 (by omega) _).sa [] (by rw [List.append_nil]; exact h7) k hk2
              have h9 : Env w0 (w7.setCell ⟨P, 6, none⟩ (.slice uo (x.ts.length + 1) uc)) (WL P pl pw { x with fv := (.slice uo (x.ts.length + 1) uc), ts := x.ts ++ [(.slice oa (formL c).length oc, formL c)] } ++ [obA10 G on kd (.slice ao bl.length cap) mute]) := by
                rw [← HM0.out] at h8
                exact h8
              have H9 := Lib.hid h9
              have S8 : SA P G k (sd k x.c0 x.c1) (rcV (side k x.R0 x.R1)) pl pw (.slice ao bl.length cap) (w7.setCell ⟨P, 6, none⟩ (.slice uo (x.ts.length + 1) uc)) := (Stg.begin (x := { x with fv := (.slice uo (x.ts.length + 1) uc), ts := x.ts ++ [(.slice oa (formL c).length oc, formL c)] }) (on := on) (kd := kd) (mute := mute)).sa [] (by rw [List.append_nil]; exact h9) k hk2
              clear h7 h8 h9 hP hP1
              simp only [List.getElem_toArray, List.getElem_cons_succ, List.getElem_cons_zero, Act.put, List.setIfInBounds_toArray, List.set_cons_zero, List.set_cons_succ]
              refine ⟨S7, ?_⟩
              refine hd_take (v := ?_) 14 rfl (by kernel_rfl) (fun _ _ d _ _ h => (by cases d <;> exact h)) (by kernel_rfl) S7 (fun w' hS => ?_) ?_
              rotate_left
              focus (clear hS; go_simp; try rfl; done)
              simp only [List.getElem_toArray, List.getElem_cons_succ, List.getElem_cons_zero, Act.put, List.setIfInBounds_toArray, List.set_cons_zero, List.set_cons_succ]
              refine hd_take (v := ?_) 15 rfl (by kernel_rfl) (fun _ _ d _ _ h => (by cases d <;> exact h)) (by kernel_rfl) S7 (fun w' hS => ?_) ?_
              rotate_left
              focus (clear hS; go_simp; try rfl; done)
              simp only [List.getElem_toArray, List.getElem_cons_succ, List.getElem_cons_zero, Act.put, List.setIfInBounds_toArray, List.set_cons_zero, List.set_cons_succ]
              refine hd_one 16 (by kernel_rfl) ?_
              refine op_skip rfl (by kernel_rfl) (by go_simp; first | done | rfl) ?_
              refine ⟨S8, ?_⟩
              simp only [List.getElem_toArray, List.getElem_cons_succ, List.getElem_cons_zero, Act.put, List.setIfInBounds_toArray, List.set_cons_zero, List.set_cons_succ]
              refine hd_done (by kernel_rfl) ?_
              clear e6 ef S7 S8
              go_wp2_with fail
              go_meet
              exact ⟨_, _, H9⟩
            · skip
              refine op_call rfl (by kernel_rfl) (by go_simp; first | exact ⟨rfl, rfl⟩ | rfl) ?_
              refine (formC_all H4.out (3 + k) (J3.out _)).mono ?_
              rintro e w5 ⟨v, he, h5⟩
              subst he
              rw [List.append_nil] at h5
              obtain ⟨oa, oc, hv, _⟩ := (h5.bytes M0.length (v := v) (l := formL c) ((atApp M0 [_] 0).trans rfl)).rd.form
              subst hv
              have H5 := Lib.hid h5
              clear h5
              have hS2 := ST0.out.sa _ H5.out k hk2
              refine ⟨_, rfl, hS2, ?_⟩
              simp only [List.getElem_toArray, List.getElem_cons_succ, List.getElem_cons_zero, Act.put, List.setIfInBounds_toArray, List.set_cons_zero, List.set_cons_succ]
              refine hd_two 4 12 (by kernel_rfl) ?_ ?_
              · skip
                have d6 : w5.cell? ⟨P, 6, none⟩ = some (.slice fo x.ts.length fc) := by rw [← HFV.out]; exact (H5.out.blk 0 ((ST0.out.more _).p0)).cellAt 6 rfl
                refine op_run rfl (by kernel_rfl) (by go_simp; first | done | exact ⟨rfl, rfl⟩ | rfl) ?_
                refine ⟨hS2, ?_⟩
                simp only [List.getElem_toArray, List.getElem_cons_succ, List.getElem_cons_zero, Act.put, List.setIfInBounds_toArray, List.set_cons_zero, List.set_cons_succ]
                clear d6
                have S6 : SA P G k (sd k x.c0 x.c1) (rcV (side k x.R0 x.R1)) pl pw (.slice ao bl.length cap) (w5.alloc (.cells #[.slice oa (formL c).length oc] 22)) := ST0.out.sa _ (H5.out.below ((Below.refl _ _).alloc (Nat.le_refl _) _)) k hk2
                refine hd_one 12 (by kernel_rfl) ?_
                refine op_run rfl (by kernel_rfl) (by go_simp; first | done | exact ⟨rfl, rfl⟩ | rfl) ?_
                refine ⟨S6, ?_⟩
                simp only [List.getElem_toArray, List.getElem_cons_succ, List.getElem_cons_zero, Act.put, List.setIfInBounds_toArray, List.set_cons_zero, List.set_cons_succ]
                refine hd_one 13 (by kernel_rfl) ?_
                refine op_wp rfl (by kernel_rfl) ?_
                refine wp_append_T (obs := M0) H5.out 6 I6.out _ _ rfl HFV.out.symm rfl (by have := HX.out.tl; have := HX.out.wl; omega) ?_
                intro u8v w7 h7
                obtain ⟨uo, uc, hu8, _, _⟩ := obT_form h7 6 (u := u8v) (ts := x.ts ++ [(.slice oa (formL c).length oc, formL c)]) (List.getElem?_set_self (by have := ST0.out.len; omega))
                rw [List.length_append, List.length_singleton] at hu8
                subst hu8
                have hP := (ST0.out.set 6 (by omega) (obT (.slice uo (x.ts.length + 1) uc) (x.ts ++ [(.slice oa (formL c).length oc, formL c)]))).p0
                have hP1 := h7.blk 0 hP
                have e6 : w7.cell? ⟨P, 6, none⟩ = some (.slice fo x.ts.length fc) := by rw [← HFV.out]; exact hP1.cellAt 6 rfl
                have ef := hP1.unfrozen 6
                have h8 := h7.turnBlk 0 hP (hP1.set 6 (.slice uo (x.ts.length + 1) uc)) ((Only.refl (fun x => x = P) w7).set (p := ⟨P, 6, none⟩) (.inl rfl) _)
                have S7 : SA P G k (sd k x.c0 x.c1) (rcV (side k x.R0 x.R1)) pl pw (.slice ao bl.length cap) w7 := (ST0.out.set 6 (by omega) _).sa [] (by rw [List.append_nil]; exact h7) k hk2
                have h9 : Env w0 (w7.setCell ⟨P, 6, none⟩ (.slice uo (x.ts.length + 1) uc)) (WL P pl pw { x with fv := (.slice uo (x.ts.length + 1) uc), ts := x.ts ++ [(.slice oa (formL c).length oc, formL c)] } ++ [obA10 G on kd (.slice ao bl.length cap) mute]) := by
                  rw [← HM0.out] at h8
                  exact h8
                have H9 := Lib.hid h9
                have S8 : SA P G k (sd k x.c0 x.c1) (rcV (side k x.R0 x.R1)) pl pw (.slice ao bl.length cap) (w7.setCell ⟨P, 6, none⟩ (.slice uo (x.ts.length + 1) uc)) := (Stg.begin (x := { x with fv := (.slice uo (x.ts.length + 1) uc), ts := x.ts ++ [(.slice oa (formL c).length oc, formL c)] }) (on := on) (kd := kd) (mute := mute)).sa [] (by rw [List.append_nil]; exact h9) k hk2
                clear h7 h8 h9 hP hP1
                simp only [List.getElem_toArray, List.getElem_cons_succ, List.getElem_cons_zero, Act.put, List.setIfInBounds_toArray, List.set_cons_zero, List.set_cons_succ]
                refine ⟨S7, ?_⟩
                refine hd_take (v := ?_) 14 rfl (by kernel_rfl) (fun _ _ d _ _ h => (by cases d <;> exact h)) (by kernel_rfl) S7 (fun w' hS => ?_) ?_
                rotate_left
                focus (clear hS; go_simp; try rfl; done)
                simp only [List.getElem_toArray, List.getElem_cons_succ, List.getElem_cons_zero, Act.put, List.setIfInBounds_toArray, List.set_cons_zero, List.set_cons_succ]
                refine hd_take (v := ?_) 15 rfl (by kernel_rfl) (fun _ _ d _ _ h => (by cases d <;> exact h)) (by kernel_rfl) S7 (fun w' hS => ?_) ?_
                rotate_left
                focus (clear hS; go_simp; try rfl; done)
                simp only [List.getElem_toArray, List.getElem_cons_succ, List.getElem_cons_zero, Act.put, List.setIfInBounds_toArray, List.set_cons_zero, List.set_cons_succ]
                refine hd_one 16 (by kernel_rfl) ?_
                refine op_skip rfl (by kernel_rfl) (by go_simp; first | done | rfl) ?_
                refine ⟨S8, ?_⟩
                simp only [List.getElem_toArray, List.getElem_cons_succ, List.getElem_cons_zero, Act.put, List.setIfInBounds_toArray, List.set_cons_zero, List.set_cons_succ]
                refine hd_done (by kernel_rfl) ?_
                clear e6 ef S7 S8
                go_wp2_with fail
                go_meet
                exact ⟨_, _, H9⟩
              · skip
                have S6 : SA P G k (sd k x.c0 x.c1) (rcV (side k x.R0 x.R1)) pl pw (.slice ao bl.length cap) (w5.alloc (.cells #[.slice oa (formL c).length oc] 22)) := ST0.out.sa _ (H5.out.below ((Below.refl _ _).alloc (Nat.le_refl _) _)) k hk2
                refine op_run rfl (by kernel_rfl) (by go_simp; first | done | exact ⟨rfl, rfl⟩ | rfl) ?_
                refine ⟨S6, ?_⟩
                simp only [List.getElem_toArray, List.getElem_cons_succ, List.getElem_cons_zero, Act.put, List.setIfInBounds_toArray, List.set_cons_zero, List.set_cons_succ]
                refine hd_one 4 (by kernel_rfl) ?_
                have d6 : (w5.alloc (.cells #[.slice oa (formL c).length oc] 22)).cell? ⟨P, 6, none⟩ = some (.slice fo x.ts.length fc) := by rw [← HFV.out]; exact ((H5.out.below ((Below.refl _ _).alloc (Nat.le_refl _) _)).blk 0 ((ST0.out.more _).p0)).cellAt 6 rfl
                refine op_run rfl (by kernel_rfl) (by go_simp; first | done | exact ⟨rfl, rfl⟩ | rfl) ?_
                refine ⟨S6, ?_⟩
                simp only [List.getElem_toArray, List.getElem_cons_succ, List.getElem_cons_zero, Act.put, List.setIfInBounds_toArray, List.set_cons_zero, List.set_cons_succ]
                clear d6
                refine hd_one 13 (by kernel_rfl) ?_
                refine op_wp rfl (by kernel_rfl) ?_
                refine wp_append_T (obs := M0) H5.out 6 I6.out _ _ rfl HFV.out.symm rfl (by have := HX.out.tl; have := HX.out.wl; omega) ?_
                intro u8v w7 h7
                obtain ⟨uo, uc, hu8, _, _⟩ := obT_form h7 6 (u := u8v) (ts := x.ts ++ [(.slice oa (formL c).length oc, formL c)]) (List.getElem?_set_self (by have := ST0.out.len; omega))
                rw [List.length_append, List.length_singleton] at hu8
                subst hu8
                have hP := (ST0.out.set 6 (by omega) (obT (.slice uo (x.ts.length + 1) uc) (x.ts ++ [(.slice oa (formL c).length oc, formL c)]))).p0
                have hP1 := h7.blk 0 hP
                have e6 : w7.cell? ⟨P, 6, none⟩ = some (.slice fo x.ts.length fc) := by rw [← HFV.out]; exact hP1.cellAt 6 rfl
                have ef := hP1.unfrozen 6
                have h8 := h7.turnBlk 0 hP (hP1.set 6 (.slice uo (x.ts.length + 1) uc)) ((Only.refl (fun x => x = P) w7).set (p := ⟨P, 6, none⟩) (.inl rfl) _)
                have S7 : SA P G k (sd k x.c0 x.c1) (rcV (side k x.R0 x.R1)) pl pw (.slice ao bl.length cap) w7 := (ST0.out.set 6 (by omega) _).sa [] (by rw [List.append_nil]; exact h7) k hk2
                have h9 : Env w0 (w7.setCell ⟨P, 6, none⟩ (.slice uo (x.ts.length + 1) uc)) (WL P pl pw { x with fv := (.slice uo (x.ts.length + 1) uc), ts := x.ts ++ [(.slice oa (formL c).length oc, formL c)] } ++ [obA10 G on kd (.slice ao bl.length cap) mute]) := by
                  rw [← HM0.out] at h8
                  exact h8
                have H9 := Lib.hid h9
                have S8 : SA P G k (sd k x.c0 x.c1) (rcV (side k x.R0 x.R1)) pl pw (.slice ao bl.length cap) (w7.setCell ⟨P, 6, none⟩ (.slice uo (x.ts.length + 1) uc)) := (Stg.begin (x := { x with fv := (.slice uo (x.ts.length + 1) uc), ts := x.ts ++ [(.slice oa (formL c).length oc, formL c)] }) (on := on) (kd := kd) (mute := mute)).sa [] (by rw [List.append_nil]; exact h9) k hk2
                clear h7 h8 h9 hP hP1
                simp only [List.getElem_toArray, List.getElem_cons_succ, List.getElem_cons_zero, Act.put, List.setIfInBounds_toArray, List.set_cons_zero, List.set_cons_succ]
                refine ⟨S7, ?_⟩
                refine hd_take (v := ?_) 14 rfl (by kernel_rfl) (fun _ _ d _ _ h => (by cases d <;> exact h)) (by kernel_rfl) S7 (fun w' hS => ?_) ?_
                rotate_left
                focus (clear hS; go_simp; try rfl; done)
                simp only [List.getElem_toArray, List.getElem_cons_succ, List.getElem_cons_zero, Act.put, List.setIfInBounds_toArray, List.set_cons_zero, List.set_cons_succ]
                refine hd_take (v := ?_) 15 rfl (by kernel_rfl) (fun _ _ d _ _ h => (by cases d <;> exact h)) (by kernel_rfl) S7 (fun w' hS => ?_) ?_
                rotate_left
                focus (clear hS; go_simp; try rfl; done)
                simp only [List.getElem_toArray, List.getElem_cons_succ, List.getElem_cons_zero, Act.put, List.setIfInBounds_toArray, List.set_cons_zero, List.set_cons_succ]
                refine hd_one 16 (by kernel_rfl) ?_
                refine op_skip rfl (by kernel_rfl) (by go_simp; first | done | rfl) ?_
                refine ⟨S8, ?_⟩
                simp only [List.getElem_toArray, List.getElem_cons_succ, List.getElem_cons_zero, Act.put, List.setIfInBounds_toArray, List.set_cons_zero, List.set_cons_succ]
                refine hd_done (by kernel_rfl) ?_
                clear e6 ef S7 S8
                go_wp2_with fail
                go_meet
                exact ⟨_, _, H9⟩
          case rest =>
            obtain ⟨fv', v, H4⟩ := hcut
            clear H3 HFV I6
            obtain ⟨x1, hx1⟩ : ∃ y : St10, { x with fv := fv', ts := x.ts ++ [(v, formL c)] } = y := ⟨_, rfl⟩
            rw [hx1] at H4
            have HX1 := Lib.hid hx1
            have e9 : x1.wv = x.wv ∧ x1.ws = x.ws ∧ x1.R0 = x.R0 ∧ x1.R1 = x.R1 ∧ x1.c0 = x.c0 ∧ x1.c1 = x.c1 := by rw [← hx1]; exact ⟨rfl, rfl, rfl, rfl, rfl, rfl⟩
            clear hx1
            obtain ⟨ew, ews, eR0, eR1, ec0, ec1⟩ := e9
            obtain ⟨M9, hM9⟩ : ∃ y, WL P pl pw x1 ++ [obA10 G on kd (.slice ao bl.length cap) mute] = y := ⟨_, rfl⟩
            have ST9 : Hid (Stg P G pl pw x1 on kd (.slice ao bl.length cap) mute M9) := by rw [← hM9]; exact Lib.hid Stg.begin
            have I7 : Hid (M9[7]? = some (obT x1.wv x1.ws)) := by rw [← hM9]; exact Lib.hid rfl
            have K5 : Hid (∀ X, (M9 ++ X)[5]? = some (obR2 x1.R0 x1.R1)) := by rw [← hM9]; exact Lib.hid (fun X => rfl)
            have HR9 : Hid (rel c (side k x1.R0 x1.R1)) := by rw [eR0, eR1]; exact HR
            have H5' : Hid (Env w0 wc (M9 ++ [])) := by rw [List.append_nil, ← hM9]; exact H4
            have HM9 := Lib.hid hM9
            have HWL : Hid (x1.ws.length = x.ts.length) := by rw [ews]; exact Lib.hid HX.out.wl
            obtain ⟨fo, fc, hfv, hf1, hf2⟩ := obT_form H5'.out 7 (u := x1.wv) (ts := x1.ws) (by rw [List.append_nil]; exact I7.out)
            have HFV := Lib.hid hfv
            have HE9 := Lib.hid (And.intro ew (And.intro ews (And.intro eR0 (And.intro eR1 (And.intro ec0 ec1)))))
            clear hfv hM9 H4 ew ews eR0 eR1 ec0 ec1
            go_upto_region 16 with fail
            refine hd_start (SA P G k (sd k x1.c0 x1.c1) (rcV (side k x1.R0 x1.R1)) pl pw (.slice ao bl.length cap)) (by kernel_rfl) ?_
            intro w4 hw'
            have H4 := Lib.hid (H5'.out.draw 1)
            rw [← hw'] at H4
            clear hw' H5'
            have S4 := ST9.out.sa _ H4.out k hk2
            refine hd_take (v := ?_) 0 rfl (by kernel_rfl) (fun _ _ d _ _ h => (by cases d <;> exact h)) (by kernel_rfl) S4 (fun w' hS => ?_) ?_
            rotate_left
            focus (have q0 := SA.fc w' hS; have q1 := SA.fr w' hS; clear hS; go_simp; try rfl; done)
            simp only [List.getElem_toArray, List.getElem_cons_succ, List.getElem_cons_zero, Act.put, List.setIfInBounds_toArray, List.set_cons_zero, List.set_cons_succ]
            refine hd_take (v := ?_) 1 rfl (by kernel_rfl) (fun _ _ d _ _ h => (by cases d <;> exact h)) (by kernel_rfl) S4 (fun w' hS => ?_) ?_
            rotate_left
            focus (have q0 := SA.fc w' hS; have q1 := SA.fr w' hS; clear hS; go_simp; try rfl; done)
            simp only [List.getElem_toArray, List.getElem_cons_succ, List.getElem_cons_zero, Act.put, List.setIfInBounds_toArray, List.set_cons_zero, List.set_cons_succ]
            refine hd_take (v := ?_) 2 rfl (by kernel_rfl) (fun _ _ d _ _ h => (by cases d <;> exact h)) (by kernel_rfl) S4 (fun w' hS => ?_) ?_
            rotate_left
            focus (have q0 := SA.fc w' hS; have q1 := SA.fr w' hS; clear hS; go_simp; try rfl; done)
            simp only [List.getElem_toArray, List.getElem_cons_succ, List.getElem_cons_zero, Act.put, List.setIfInBounds_toArray, List.set_cons_zero, List.set_cons_succ]
            refine hd_take (v := ?_) 3 rfl (by kernel_rfl) (fun _ _ d _ _ h => (by cases d <;> exact h)) (by kernel_rfl) S4 (fun w' hS => ?_) ?_
            rotate_left
            focus (have q0 := SA.fc w' hS; have q1 := SA.fr w' hS; clear hS; go_simp; try rfl; done)
            simp only [List.getElem_toArray, List.getElem_cons_succ, List.getElem_cons_zero, Act.put, List.setIfInBounds_toArray, List.set_cons_zero, List.set_cons_succ]
            refine hd_take (v := ?_) 5 rfl (by kernel_rfl) (fun _ _ d _ _ h => (by cases d <;> exact h)) (by kernel_rfl) S4 (fun w' hS => ?_) ?_
            rotate_left
            focus (have q0 := SA.fc w' hS; have q1 := SA.fr w' hS; clear hS; go_simp; try rfl; done)
            simp only [List.getElem_toArray, List.getElem_cons_succ, List.getElem_cons_zero, Act.put, List.setIfInBounds_toArray, List.set_cons_zero, List.set_cons_succ]
            refine hd_take (v := ?_) 6 rfl (by kernel_rfl) (fun _ _ d _ _ h => (by cases d <;> exact h)) (by kernel_rfl) S4 (fun w' hS => ?_) ?_
            rotate_left
            focus (have q0 := SA.fc w' hS; have q1 := SA.fr w' hS; clear hS; go_simp; try rfl; done)
            simp only [List.getElem_toArray, List.getElem_cons_succ, List.getElem_cons_zero, Act.put, List.setIfInBounds_toArray, List.set_cons_zero, List.set_cons_succ]
            refine hd_take (v := ?_) 7 rfl (by kernel_rfl) (fun _ _ d _ _ h => (by cases d <;> exact h)) (by kernel_rfl) S4 (fun w' hS => ?_) ?_
            rotate_left
            focus (have q0 := SA.fc w' hS; have q1 := SA.fr w' hS; clear hS; go_simp; try rfl; done)
            simp only [List.getElem_toArray, List.getElem_cons_succ, List.getElem_cons_zero, Act.put, List.setIfInBounds_toArray, List.set_cons_zero, List.set_cons_succ]
            refine hd_take (v := ?_) 8 rfl (by kernel_rfl) (fun _ _ d _ _ h => (by cases d <;> exact h)) (by kernel_rfl) S4 (fun w' hS => ?_) ?_
            rotate_left
            focus (have q0 := SA.fc w' hS; have q1 := SA.fr w' hS; clear hS; go_simp; try rfl; done)
            simp only [List.getElem_toArray, List.getElem_cons_succ, List.getElem_cons_zero, Act.put, List.setIfInBounds_toArray, List.set_cons_zero, List.set_cons_succ]
            refine hd_take (v := ?_) 9 rfl (by kernel_rfl) (fun _ _ d _ _ h => (by cases d <;> exact h)) (by kernel_rfl) S4 (fun w' hS => ?_) ?_
            rotate_left
            focus (have q0 := SA.fc w' hS; have q1 := SA.fr w' hS; clear hS; go_simp; try rfl; done)
            simp only [List.getElem_toArray, List.getElem_cons_succ, List.getElem_cons_zero, Act.put, List.setIfInBounds_toArray, List.set_cons_zero, List.set_cons_succ]
            refine hd_take (v := ?_) 10 rfl (by kernel_rfl) (fun _ _ d _ _ h => (by cases d <;> exact h)) (by kernel_rfl) S4 (fun w' hS => ?_) ?_
            rotate_left
            focus (have q0 := SA.fc w' hS; have q1 := SA.fr w' hS; clear hS; go_simp; try rfl; done)
            simp only [List.getElem_toArray, List.getElem_cons_succ, List.getElem_cons_zero, Act.put, List.setIfInBounds_toArray, List.set_cons_zero, List.set_cons_succ]
            refine hd_two 4 11 (by kernel_rfl) ?_ ?_
            · skip
              have d6 : w4.cell? ⟨P, 7, none⟩ = some (.slice fo x1.ws.length fc) := by rw [← HFV.out]; exact (H4.out.blk 0 ((ST9.out.more _).p0)).cellAt 7 rfl
              refine op_run rfl (by kernel_rfl) (by go_simp; first | done | exact ⟨rfl, rfl⟩ | rfl) ?_
              refine ⟨S4, ?_⟩
              simp only [List.getElem_toArray, List.getElem_cons_succ, List.getElem_cons_zero, Act.put, List.setIfInBounds_toArray, List.set_cons_zero, List.set_cons_succ]
              clear d6
              refine hd_one 11 (by kernel_rfl) ?_
              refine op_call rfl (by kernel_rfl) (by go_simp; first | exact ⟨rfl, rfl⟩ | rfl) ?_
              refine (rcForm_all H4.out 5 (K5.out _) k HR9.out).mono ?_
              rintro e w5 ⟨v, he, h5⟩
              subst he
              rw [List.append_nil] at h5
              obtain ⟨oa, oc, hv, _⟩ := (h5.bytes M9.length (v := v) (l := formL c) ((atApp M9 [_] 0).trans rfl)).rd.form
              subst hv
              have H5 := Lib.hid h5
              clear h5
              have hS2 := ST9.out.sa _ H5.out k hk2
              refine ⟨_, rfl, hS2, ?_⟩
              simp only [List.getElem_toArray, List.getElem_cons_succ, List.getElem_cons_zero, Act.put, List.setIfInBounds_toArray, List.set_cons_zero, List.set_cons_succ]
              have S6 : SA P G k (sd k x1.c0 x1.c1) (rcV (side k x1.R0 x1.R1)) pl pw (.slice ao bl.length cap) (w5.alloc (.cells #[.slice oa (formL c).length oc] 22)) := ST9.out.sa _ (H5.out.below ((Below.refl _ _).alloc (Nat.le_refl _) _)) k hk2
              refine hd_one 12 (by kernel_rfl) ?_
              refine op_run rfl (by kernel_rfl) (by go_simp; first | done | exact ⟨rfl, rfl⟩ | rfl) ?_
              refine ⟨S6, ?_⟩
              simp only [List.getElem_toArray, List.getElem_cons_succ, List.getElem_cons_zero, Act.put, List.setIfInBounds_toArray, List.set_cons_zero, List.set_cons_succ]
              refine hd_one 13 (by kernel_rfl) ?_
              refine op_wp rfl (by kernel_rfl) ?_
              refine wp_append_T (obs := M9) H5.out 7 I7.out _ _ rfl HFV.out.symm rfl (by have := HX.out.tl; have := HWL.out; omega) ?_
              intro u8v w7 h7
              obtain ⟨uo, uc, hu8, _, _⟩ := obT_form h7 7 (u := u8v) (ts := x1.ws ++ [(.slice oa (formL c).length oc, formL c)]) (List.getElem?_set_self (by have := ST9.out.len; omega))
              rw [List.length_append, List.length_singleton] at hu8
              subst hu8
              have hP := (ST9.out.set 7 (by omega) (obT (.slice uo (x1.ws.length + 1) uc) (x1.ws ++ [(.slice oa (formL c).length oc, formL c)]))).p0
              have hP1 := h7.blk 0 hP
              have e6 : w7.cell? ⟨P, 7, none⟩ = some (.slice fo x1.ws.length fc) := by rw [← HFV.out]; exact hP1.cellAt 7 rfl
              have ef := hP1.unfrozen 7
              have h8 := h7.turnBlk 0 hP (hP1.set 7 (.slice uo (x1.ws.length + 1) uc)) ((Only.refl (fun x => x = P) w7).set (p := ⟨P, 7, none⟩) (.inl rfl) _)
              have S7 : SA P G k (sd k x1.c0 x1.c1) (rcV (side k x1.R0 x1.R1)) pl pw (.slice ao bl.length cap) w7 := (ST9.out.set 7 (by omega) _).sa [] (by rw [List.append_nil]; exact h7) k hk2
              have h9 : Env w0 (w7.setCell ⟨P, 7, none⟩ (.slice uo (x1.ws.length + 1) uc)) (WL P pl pw { x1 with wv := (.slice uo (x1.ws.length + 1) uc), ws := x1.ws ++ [(.slice oa (formL c).length oc, formL c)] } ++ [obA10 G on kd (.slice ao bl.length cap) mute]) := by
                rw [← HM9.out] at h8
                exact h8
              have H9 := Lib.hid h9
              have S8 : SA P G k (sd k x1.c0 x1.c1) (rcV (side k x1.R0 x1.R1)) pl pw (.slice ao bl.length cap) (w7.setCell ⟨P, 7, none⟩ (.slice uo (x1.ws.length + 1) uc)) := (Stg.begin (x := { x1 with wv := (.slice uo (x1.ws.length + 1) uc), ws := x1.ws ++ [(.slice oa (formL c).length oc, formL c)] }) (on := on) (kd := kd) (mute := mute)).sa [] (by rw [List.append_nil]; exact h9) k hk2
              clear h7 h8 h9 hP hP1
              simp only [List.getElem_toArray, List.getElem_cons_succ, List.getElem_cons_zero, Act.put, List.setIfInBounds_toArray, List.set_cons_zero, List.set_cons_succ]
              refine ⟨S7, ?_⟩
              refine hd_take (v := ?_) 14 rfl (by kernel_rfl) (fun _ _ d _ _ h => (by cases d <;> exact h)) (by kernel_rfl) S7 (fun w' hS => ?_) ?_
              rotate_left
              focus (clear hS; go_simp; try rfl; done)
              simp only [List.getElem_toArray, List.getElem_cons_succ, List.getElem_cons_zero, Act.put, List.setIfInBounds_toArray, List.set_cons_zero, List.set_cons_succ]
              refine hd_take (v := ?_) 15 rfl (by kernel_rfl) (fun _ _ d _ _ h => (by cases d <;> exact h)) (by kernel_rfl) S7 (fun w' hS => ?_) ?_
              rotate_left
              focus (clear hS; go_simp; try rfl; done)
              simp only [List.getElem_toArray, List.getElem_cons_succ, List.getElem_cons_zero, Act.put, List.setIfInBounds_toArray, List.set_cons_zero, List.set_cons_succ]
              refine hd_one 16 (by kernel_rfl) ?_
              refine op_skip rfl (by kernel_rfl) (by go_simp; first | done | rfl) ?_
              refine ⟨S8, ?_⟩
              simp only [List.getElem_toArray, List.getElem_cons_succ, List.getElem_cons_zero, Act.put, List.setIfInBounds_toArray, List.set_cons_zero, List.set_cons_succ]
              refine hd_done (by kernel_rfl) ?_
              clear e6 ef S7 S8
              go_wp2_with fail
              go_ret
              refine ⟨rfl, _, H9.out.leftA, ?_⟩
              rw [← HX1.out]
              refine ⟨HX.out.r0, HX.out.r1, HX.out.nn, by have := HX.out.sum; show tot x.rs ≤ _; omega, by have := HX.out.len; show x.rs.length ≤ _; omega, ?_, ?_, fun y hy => ?_⟩
              · have := HX.out.tl
                show (x.ts ++ [(v, formL c)]).length ≤ i + 1
                rw [List.length_append, List.length_singleton]
                omega
              · show List.map _ (x.ts ++ [(v, formL c)]) = List.map _ (x.ws ++ [_])
                rw [List.map_append, List.map_append, HX.out.same]
                rfl
              · rcases List.mem_append.1 hy with hy | hy
                · exact HX.out.small y hy
                · simp at hy
                  subst hy
                  exact HFL.out
            · skip
              refine op_call rfl (by kernel_rfl) (by go_simp; first | exact ⟨rfl, rfl⟩ | rfl) ?_
              refine (rcForm_all H4.out 5 (K5.out _) k HR9.out).mono ?_
              rintro e w5 ⟨v, he, h5⟩
              subst he
              rw [List.append_nil] at h5
              obtain ⟨oa, oc, hv, _⟩ := (h5.bytes M9.length (v := v) (l := formL c) ((atApp M9 [_] 0).trans rfl)).rd.form
              subst hv
              have H5 := Lib.hid h5
              clear h5
              have hS2 := ST9.out.sa _ H5.out k hk2
              refine ⟨_, rfl, hS2, ?_⟩
              simp only [List.getElem_toArray, List.getElem_cons_succ, List.getElem_cons_zero, Act.put, List.setIfInBounds_toArray, List.set_cons_zero, List.set_cons_succ]
              refine hd_two 4 12 (by kernel_rfl) ?_ ?_
              · skip
                have d6 : w5.cell? ⟨P, 7, none⟩ = some (.slice fo x1.ws.length fc) := by rw [← HFV.out]; exact (H5.out.blk 0 ((ST9.out.more _).p0)).cellAt 7 rfl
                refine op_run rfl (by kernel_rfl) (by go_simp; first | done | exact ⟨rfl, rfl⟩ | rfl) ?_
                refine ⟨hS2, ?_⟩
                simp only [List.getElem_toArray, List.getElem_cons_succ, List.getElem_cons_zero, Act.put, List.setIfInBounds_toArray, List.set_cons_zero, List.set_cons_succ]
                clear d6
                have S6 : SA P G k (sd k x1.c0 x1.c1) (rcV (side k x1.R0 x1.R1)) pl pw (.slice ao bl.length cap) (w5.alloc (.cells #[.slice oa (formL c).length oc] 22)) := ST9.out.sa _ (H5.out.below ((Below.refl _ _).alloc (Nat.le_refl _) _)) k hk2
                refine hd_one 12 (by kernel_rfl) ?_
                refine op_run rfl (by kernel_rfl) (by go_simp; first | done | exact ⟨rfl, rfl⟩ | rfl) ?_
                refine ⟨S6, ?_⟩
                simp only [List.getElem_toArray, List.getElem_cons_succ, List.getElem_cons_zero, Act.put, List.setIfInBounds_toArray, List.set_cons_zero, List.set_cons_succ]
                refine hd_one 13 (by kernel_rfl) ?_
                refine op_wp rfl (by kernel_rfl) ?_
                refine wp_append_T (obs := M9) H5.out 7 I7.out _ _ rfl HFV.out.symm rfl (by have := HX.out.tl; have := HWL.out; omega) ?_
                intro u8v w7 h7
                obtain ⟨uo, uc, hu8, _, _⟩ := obT_form h7 7 (u := u8v) (ts := x1.ws ++ [(.slice oa (formL c).length oc, formL c)]) (List.getElem?_set_self (by have := ST9.out.len; omega))
                rw [List.length_append, List.length_singleton] at hu8
                subst hu8
                have hP := (ST9.out.set 7 (by omega) (obT (.slice uo (x1.ws.length + 1) uc) (x1.ws ++ [(.slice oa (formL c).length oc, formL c)]))).p0
                have hP1 := h7.blk 0 hP
                have e6 : w7.cell? ⟨P, 7, none⟩ = some (.slice fo x1.ws.length fc) := by rw [← HFV.out]; exact hP1.cellAt 7 rfl
                have ef := hP1.unfrozen 7
                have h8 := h7.turnBlk 0 hP (hP1.set 7 (.slice uo (x1.ws.length + 1) uc)) ((Only.refl (fun x => x = P) w7).set (p := ⟨P, 7, none⟩) (.inl rfl) _)
                have S7 : SA P G k (sd k x1.c0 x1.c1) (rcV (side k x1.R0 x1.R1)) pl pw (.slice ao bl.length cap) w7 := (ST9.out.set 7 (by omega) _).sa [] (by rw [List.append_nil]; exact h7) k hk2
                have h9 : Env w0 (w7.setCell ⟨P, 7, none⟩ (.slice uo (x1.ws.length + 1) uc)) (WL P pl pw { x1 with wv := (.slice uo (x1.ws.length + 1) uc), ws := x1.ws ++ [(.slice oa (formL c).length oc, formL c)] } ++ [obA10 G on kd (.slice ao bl.length cap) mute]) := by
                  rw [← HM9.out] at h8
                  exact h8
                have H9 := Lib.hid h9
                have S8 : SA P G k (sd k x1.c0 x1.c1) (rcV (side k x1.R0 x1.R1)) pl pw (.slice ao bl.length cap) (w7.setCell ⟨P, 7, none⟩ (.slice uo (x1.ws.length + 1) uc)) := (Stg.begin (x := { x1 with wv := (.slice uo (x1.ws.length + 1) uc), ws := x1.ws ++ [(.slice oa (formL c).length oc, formL c)] }) (on := on) (kd := kd) (mute := mute)).sa [] (by rw [List.append_nil]; exact h9) k hk2
                clear h7 h8 h9 hP hP1
                simp only [List.getElem_toArray, List.getElem_cons_succ, List.getElem_cons_zero, Act.put, List.setIfInBounds_toArray, List.set_cons_zero, List.set_cons_succ]
                refine ⟨S7, ?_⟩
                refine hd_take (v := ?_) 14 rfl (by kernel_rfl) (fun _ _ d _ _ h => (by cases d <;> exact h)) (by kernel_rfl) S7 (fun w' hS => ?_) ?_
                rotate_left
                focus (clear hS; go_simp; try rfl; done)
                simp only [List.getElem_toArray, List.getElem_cons_succ, List.getElem_cons_zero, Act.put, List.setIfInBounds_toArray, List.set_cons_zero, List.set_cons_succ]
                refine hd_take (v := ?_) 15 rfl (by kernel_rfl) (fun _ _ d _ _ h => (by cases d <;> exact h)) (by kernel_rfl) S7 (fun w' hS => ?_) ?_
                rotate_left
                focus (clear hS; go_simp; try rfl; done)
                simp only [List.getElem_toArray, List.getElem_cons_succ, List.getElem_cons_zero, Act.put, List.setIfInBounds_toArray, List.set_cons_zero, List.set_cons_succ]
                refine hd_one 16 (by kernel_rfl) ?_
                refine op_skip rfl (by kernel_rfl) (by go_simp; first | done | rfl) ?_
                refine ⟨S8, ?_⟩
                simp only [List.getElem_toArray, List.getElem_cons_succ, List.getElem_cons_zero, Act.put, List.setIfInBounds_toArray, List.set_cons_zero, List.set_cons_succ]
                refine hd_done (by kernel_rfl) ?_
                clear e6 ef S7 S8
                go_wp2_with fail
                go_ret
                refine ⟨rfl, _, H9.out.leftA, ?_⟩
                rw [← HX1.out]
                refine ⟨HX.out.r0, HX.out.r1, HX.out.nn, by have := HX.out.sum; show tot x.rs ≤ _; omega, by have := HX.out.len; show x.rs.length ≤ _; omega, ?_, ?_, fun y hy => ?_⟩
                · have := HX.out.tl
                  show (x.ts ++ [(v, formL c)]).length ≤ i + 1
                  rw [List.length_append, List.length_singleton]
                  omega
                · show List.map _ (x.ts ++ [(v, formL c)]) = List.map _ (x.ws ++ [_])
                  rw [List.map_append, List.map_append, HX.out.same]
                  rfl
                · rcases List.mem_append.1 hy with hy | hy
                  · exact HX.out.small y hy
                  · simp at hy
                    subst hy
                    exact HFL.out
              · skip
                have S6 : SA P G k (sd k x1.c0 x1.c1) (rcV (side k x1.R0 x1.R1)) pl pw (.slice ao bl.length cap) (w5.alloc (.cells #[.slice oa (formL c).length oc] 22)) := ST9.out.sa _ (H5.out.below ((Below.refl _ _).alloc (Nat.le_refl _) _)) k hk2
                refine op_run rfl (by kernel_rfl) (by go_simp; first | done | exact ⟨rfl, rfl⟩ | rfl) ?_
                refine ⟨S6, ?_⟩
                simp only [List.getElem_toArray, List.getElem_cons_succ, List.getElem_cons_zero, Act.put, List.setIfInBounds_toArray, List.set_cons_zero, List.set_cons_succ]
                refine hd_one 4 (by kernel_rfl) ?_
                have d6 : (w5.alloc (.cells #[.slice oa (formL c).length oc] 22)).cell? ⟨P, 7, none⟩ = some (.slice fo x1.ws.length fc) := by rw [← HFV.out]; exact ((H5.out.below ((Below.refl _ _).alloc (Nat.le_refl _) _)).blk 0 ((ST9.out.more _).p0)).cellAt 7 rfl
                refine op_run rfl (by kernel_rfl) (by go_simp; first | done | exact ⟨rfl, rfl⟩ | rfl) ?_
                refine ⟨S6, ?_⟩
                simp only [List.getElem_toArray, List.getElem_cons_succ, List.getElem_cons_zero, Act.put, List.setIfInBounds_toArray, List.set_cons_zero, List.set_cons_succ]
                clear d6
                refine hd_one 13 (by kernel_rfl) ?_
                refine op_wp rfl (by kernel_rfl) ?_
                refine wp_append_T (obs := M9) H5.out 7 I7.out _ _ rfl HFV.out.symm rfl (by have := HX.out.tl; have := HWL.out; omega) ?_
                intro u8v w7 h7
                obtain ⟨uo, uc, hu8, _, _⟩ := obT_form h7 7 (u := u8v) (ts := x1.ws ++ [(.slice oa (formL c).length oc, formL c)]) (List.getElem?_set_self (by have := ST9.out.len; omega))
                rw [List.length_append, List.length_singleton] at hu8
                subst hu8
                have hP := (ST9.out.set 7 (by omega) (obT (.slice uo (x1.ws.length + 1) uc) (x1.ws ++ [(.slice oa (formL c).length oc, formL c)]))).p0
                have hP1 := h7.blk 0 hP
                have e6 : w7.cell? ⟨P, 7, none⟩ = some (.slice fo x1.ws.length fc) := by rw [← HFV.out]; exact hP1.cellAt 7 rfl
                have ef := hP1.unfrozen 7
                have h8 := h7.turnBlk 0 hP (hP1.set 7 (.slice uo (x1.ws.length + 1) uc)) ((Only.refl (fun x => x = P) w7).set (p := ⟨P, 7, none⟩) (.inl rfl) _)
                have S7 : SA P G k (sd k x1.c0 x1.c1) (rcV (side k x1.R0 x1.R1)) pl pw (.slice ao bl.length cap) w7 := (ST9.out.set 7 (by omega) _).sa [] (by rw [List.append_nil]; exact h7) k hk2
                have h9 : Env w0 (w7.setCell ⟨P, 7, none⟩ (.slice uo (x1.ws.length + 1) uc)) (WL P pl pw { x1 with wv := (.slice uo (x1.ws.length + 1) uc), ws := x1.ws ++ [(.slice oa (formL c).length oc, formL c)] } ++ [obA10 G on kd (.slice ao bl.length cap) mute]) := by
                  rw [← HM9.out] at h8
                  exact h8
                have H9 := Lib.hid h9
                have S8 : SA P G k (sd k x1.c0 x1.c1) (rcV (side k x1.R0 x1.R1)) pl pw (.slice ao bl.length cap) (w7.setCell ⟨P, 7, none⟩ (.slice uo (x1.ws.length + 1) uc)) := (Stg.begin (x := { x1 with wv := (.slice uo (x1.ws.length + 1) uc), ws := x1.ws ++ [(.slice oa (formL c).length oc, formL c)] }) (on := on) (kd := kd) (mute := mute)).sa [] (by rw [List.append_nil]; exact h9) k hk2
                clear h7 h8 h9 hP hP1
                simp only [List.getElem_toArray, List.getElem_cons_succ, List.getElem_cons_zero, Act.put, List.setIfInBounds_toArray, List.set_cons_zero, List.set_cons_succ]
                refine ⟨S7, ?_⟩
                refine hd_take (v := ?_) 14 rfl (by kernel_rfl) (fun _ _ d _ _ h => (by cases d <;> exact h)) (by kernel_rfl) S7 (fun w' hS => ?_) ?_
                rotate_left
                focus (clear hS; go_simp; try rfl; done)
                simp only [List.getElem_toArray, List.getElem_cons_succ, List.getElem_cons_zero, Act.put, List.setIfInBounds_toArray, List.set_cons_zero, List.set_cons_succ]
                refine hd_take (v := ?_) 15 rfl (by kernel_rfl) (fun _ _ d _ _ h => (by cases d <;> exact h)) (by kernel_rfl) S7 (fun w' hS => ?_) ?_
                rotate_left
                focus (clear hS; go_simp; try rfl; done)
                simp only [List.getElem_toArray, List.getElem_cons_succ, List.getElem_cons_zero, Act.put, List.setIfInBounds_toArray, List.set_cons_zero, List.set_cons_succ]
                refine hd_one 16 (by kernel_rfl) ?_
                refine op_skip rfl (by kernel_rfl) (by go_simp; first | done | rfl) ?_
                refine ⟨S8, ?_⟩
                simp only [List.getElem_toArray, List.getElem_cons_succ, List.getElem_cons_zero, Act.put, List.setIfInBounds_toArray, List.set_cons_zero, List.set_cons_succ]
                refine hd_done (by kernel_rfl) ?_
                clear e6 ef S7 S8
                go_wp2_with fail
                go_ret
                refine ⟨rfl, _, H9.out.leftA, ?_⟩
                rw [← HX1.out]
                refine ⟨HX.out.r0, HX.out.r1, HX.out.nn, by have := HX.out.sum; show tot x.rs ≤ _; omega, by have := HX.out.len; show x.rs.length ≤ _; omega, ?_, ?_, fun y hy => ?_⟩
                · have := HX.out.tl
                  show (x.ts ++ [(v, formL c)]).length ≤ i + 1
                  rw [List.length_append, List.length_singleton]
                  omega
                · show List.map _ (x.ts ++ [(v, formL c)]) = List.map _ (x.ws ++ [_])
                  rw [List.map_append, List.map_append, HX.out.same]
                  rfl
                · rcases List.mem_append.1 hy with hy | hy
                  · exact HX.out.small y hy
                  · simp at hy
                    subst hy
                    exact HFL.out
          --]k2
        · have t2 : (kd == (2 : Int)) = false := by rw [beq_eq_false_iff_ne]; exact k2
          clear k2
          by_cases k3 : kd = 3
          · have t3 : (kd == (3 : Int)) = true := by rw [k3]; rfl
            clear k3
            --[k3
            obtain ⟨n, hn⟩ : ∃ n, lenC c = n := ⟨_, rfl⟩
            have tn : ((n : Int) == (n : Int)) = true := beq_self_eq_true _
            have HN := Lib.hid hn
            clear hn
            go_upto_region 18 with fail
            refine hd_start (SA P G k (sd k x.c0 x.c1) (rcV (side k x.R0 x.R1)) pl pw (.slice ao bl.length cap)) (by kernel_rfl) ?_
            intro w4 hw'
            have H4 := Lib.hid (H3.out.draw 1)
            rw [← hw'] at H4
            clear hw' H3
            have S4 := ST0.out.sa _ H4.out k hk2
            refine hd_take (v := ?_) 0 rfl (by kernel_rfl) (fun _ _ d _ _ h => (by cases d <;> exact h)) (by kernel_rfl) S4 (fun w' hS => ?_) ?_
            rotate_left
            focus (have q0 := SA.fc w' hS; have q1 := SA.fr w' hS; clear hS; go_simp; try rfl; done)
            simp only [List.getElem_toArray, List.getElem_cons_succ, List.getElem_cons_zero, Act.put, List.setIfInBounds_toArray, List.set_cons_zero, List.set_cons_succ]
            refine hd_take (v := ?_) 1 rfl (by kernel_rfl) (fun _ _ d _ _ h => (by cases d <;> exact h)) (by kernel_rfl) S4 (fun w' hS => ?_) ?_
            rotate_left
            focus (have q0 := SA.fc w' hS; have q1 := SA.fr w' hS; clear hS; go_simp; try rfl; done)
            simp only [List.getElem_toArray, List.getElem_cons_succ, List.getElem_cons_zero, Act.put, List.setIfInBounds_toArray, List.set_cons_zero, List.set_cons_succ]
            refine hd_take (v := ?_) 2 rfl (by kernel_rfl) (fun _ _ d _ _ h => (by cases d <;> exact h)) (by kernel_rfl) S4 (fun w' hS => ?_) ?_
            rotate_left
            focus (have q0 := SA.fc w' hS; have q1 := SA.fr w' hS; clear hS; go_simp; try rfl; done)
            simp only [List.getElem_toArray, List.getElem_cons_succ, List.getElem_cons_zero, Act.put, List.setIfInBounds_toArray, List.set_cons_zero, List.set_cons_succ]
            refine hd_take (v := ?_) 3 rfl (by kernel_rfl) (fun _ _ d _ _ h => (by cases d <;> exact h)) (by kernel_rfl) S4 (fun w' hS => ?_) ?_
            rotate_left
            focus (have q0 := SA.fc w' hS; have q1 := SA.fr w' hS; clear hS; go_simp; try rfl; done)
            simp only [List.getElem_toArray, List.getElem_cons_succ, List.getElem_cons_zero, Act.put, List.setIfInBounds_toArray, List.set_cons_zero, List.set_cons_succ]
            refine hd_take (v := ?_) 4 rfl (by kernel_rfl) (fun _ _ d _ _ h => (by cases d <;> exact h)) (by kernel_rfl) S4 (fun w' hS => ?_) ?_
            rotate_left
            focus (have q0 := SA.fc w' hS; have q1 := SA.fr w' hS; clear hS; go_simp; try rfl; done)
            simp only [List.getElem_toArray, List.getElem_cons_succ, List.getElem_cons_zero, Act.put, List.setIfInBounds_toArray, List.set_cons_zero, List.set_cons_succ]
            refine hd_take (v := ?_) 5 rfl (by kernel_rfl) (fun _ _ d _ _ h => (by cases d <;> exact h)) (by kernel_rfl) S4 (fun w' hS => ?_) ?_
            rotate_left
            focus (have q0 := SA.fc w' hS; have q1 := SA.fr w' hS; clear hS; go_simp; try rfl; done)
            simp only [List.getElem_toArray, List.getElem_cons_succ, List.getElem_cons_zero, Act.put, List.setIfInBounds_toArray, List.set_cons_zero, List.set_cons_succ]
            refine hd_take (v := ?_) 7 rfl (by kernel_rfl) (fun _ _ d _ _ h => (by cases d <;> exact h)) (by kernel_rfl) S4 (fun w' hS => ?_) ?_
            rotate_left
            focus (have q0 := SA.fc w' hS; have q1 := SA.fr w' hS; clear hS; go_simp; try rfl; done)
            simp only [List.getElem_toArray, List.getElem_cons_succ, List.getElem_cons_zero, Act.put, List.setIfInBounds_toArray, List.set_cons_zero, List.set_cons_succ]
            refine hd_take (v := ?_) 8 rfl (by kernel_rfl) (fun _ _ d _ _ h => (by cases d <;> exact h)) (by kernel_rfl) S4 (fun w' hS => ?_) ?_
            rotate_left
            focus (have q0 := SA.fc w' hS; have q1 := SA.fr w' hS; clear hS; go_simp; try rfl; done)
            simp only [List.getElem_toArray, List.getElem_cons_succ, List.getElem_cons_zero, Act.put, List.setIfInBounds_toArray, List.set_cons_zero, List.set_cons_succ]
            refine hd_take (v := ?_) 9 rfl (by kernel_rfl) (fun _ _ d _ _ h => (by cases d <;> exact h)) (by kernel_rfl) S4 (fun w' hS => ?_) ?_
            rotate_left
            focus (have q0 := SA.fc w' hS; have q1 := SA.fr w' hS; clear hS; go_simp; try rfl; done)
            simp only [List.getElem_toArray, List.getElem_cons_succ, List.getElem_cons_zero, Act.put, List.setIfInBounds_toArray, List.set_cons_zero, List.set_cons_succ]
            refine hd_take (v := ?_) 10 rfl (by kernel_rfl) (fun _ _ d _ _ h => (by cases d <;> exact h)) (by kernel_rfl) S4 (fun w' hS => ?_) ?_
            rotate_left
            focus (have q0 := SA.fc w' hS; have q1 := SA.fr w' hS; clear hS; go_simp; try rfl; done)
            simp only [List.getElem_toArray, List.getElem_cons_succ, List.getElem_cons_zero, Act.put, List.setIfInBounds_toArray, List.set_cons_zero, List.set_cons_succ]
            refine hd_take (v := ?_) 11 rfl (by kernel_rfl) (fun _ _ d _ _ h => (by cases d <;> exact h)) (by kernel_rfl) S4 (fun w' hS => ?_) ?_
            rotate_left
            focus (have q0 := SA.fc w' hS; have q1 := SA.fr w' hS; clear hS; go_simp; try rfl; done)
            simp only [List.getElem_toArray, List.getElem_cons_succ, List.getElem_cons_zero, Act.put, List.setIfInBounds_toArray, List.set_cons_zero, List.set_cons_succ]
            refine hd_take (v := ?_) 12 rfl (by kernel_rfl) (fun _ _ d _ _ h => (by cases d <;> exact h)) (by kernel_rfl) S4 (fun w' hS => ?_) ?_
            rotate_left
            focus (have q0 := SA.fc w' hS; have q1 := SA.fr w' hS; clear hS; go_simp; try rfl; done)
            simp only [List.getElem_toArray, List.getElem_cons_succ, List.getElem_cons_zero, Act.put, List.setIfInBounds_toArray, List.set_cons_zero, List.set_cons_succ]
            refine hd_one 6 (by kernel_rfl) ?_
            refine op_call rfl (by kernel_rfl) (by go_simp; first | exact ⟨rfl, rfl⟩ | rfl) ?_
            refine (lenC_env H4.out (3 + k) (J3.out _)).mono ?_
            rintro e w5 ⟨he, hw⟩
            rw [HN.out] at he
            subst he
            subst hw
            have hS2 := S4
            refine ⟨_, rfl, hS2, ?_⟩
            simp only [List.getElem_toArray, List.getElem_cons_succ, List.getElem_cons_zero, Act.put, List.setIfInBounds_toArray, List.set_cons_zero, List.set_cons_succ]
            refine hd_one 13 (by kernel_rfl) ?_
            refine op_call rfl (by kernel_rfl) (by go_simp; first | exact ⟨rfl, rfl⟩ | rfl) ?_
            refine (rcLen_env H4.out 5 (J5.out _) k).mono ?_
            rintro e w6 ⟨he, hw⟩
            rw [HR.out.len, HN.out] at he
            subst he
            subst hw
            have hS3 := S4
            refine ⟨_, rfl, hS2, ?_⟩
            simp only [List.getElem_toArray, List.getElem_cons_succ, List.getElem_cons_zero, Act.put, List.setIfInBounds_toArray, List.set_cons_zero, List.set_cons_succ]
            refine hd_take (v := ?_) 14 rfl (by kernel_rfl) (fun _ _ d _ _ h => (by cases d <;> exact h)) (by kernel_rfl) S4 (fun w' hS => ?_) ?_
            rotate_left
            focus (clear hS; go_simp; try rfl; done)
            simp only [List.getElem_toArray, List.getElem_cons_succ, List.getElem_cons_zero, Act.put, List.setIfInBounds_toArray, List.set_cons_zero, List.set_cons_succ]
            refine hd_take (v := ?_) 15 rfl (by kernel_rfl) (fun _ _ d _ _ h => (by cases d <;> exact h)) (by kernel_rfl) S4 (fun w' hS => ?_) ?_
            rotate_left
            focus (clear hS; go_simp; try rfl; done)
            simp only [List.getElem_toArray, List.getElem_cons_succ, List.getElem_cons_zero, Act.put, List.setIfInBounds_toArray, List.set_cons_zero, List.set_cons_succ]
            refine hd_done (by kernel_rfl) ?_
            clear S4 hS2
            go_wp2_with fail
            go_ret
            have h9 := H4.out
            rw [← HM0.out, List.append_nil] at h9
            exact ⟨rfl, x, h9.leftA, HX.out.up⟩
            --]k3
          · have t3 : (kd == (3 : Int)) = false := by rw [beq_eq_false_iff_ne]; exact k3
            clear k3
            by_cases k4 : kd = 4
            · have t4 : (kd == (4 : Int)) = true := by rw [k4]; rfl
              clear k4
              --[k4
              obtain ⟨k', hk'⟩ : ∃ k', 1 - k = k' := ⟨_, rfl⟩
              have hk'I : (1 : Int) - (k : Int) = (k' : Int) := by omega
              have hk'2 : k' < 2 := by omega
              have bk' : 0 ≤ (k' : Int) ∧ (k' : Int) < 2 := by omega
              have HK' := Lib.hid hk'
              clear hk'
              have sa := ST0.out.sa _ H3.out k hk2
              have d0 := sa.c
              have d1 := sa.r
              clear sa
              cases hm : madeC c
              · have HM := Lib.hid hm
                clear hm
                go_wp2_with fail
                refine (cloneC_no H3.out (3 + k) (J3.out _) HM.out).mono ?_
                rintro e w5 ⟨rfl, rfl⟩
                go_wp2_with fail
                refine (rcClone_no H3.out 5 (J5.out _) k (HR.out.made.trans HM.out)).mono ?_
                rintro e w6 ⟨rfl, rfl⟩
                clear d0 d1
                go_wp2_with fail
                go_ret
                have h9 := H3.out
                rw [← HM0.out, List.append_nil] at h9
                exact ⟨rfl, x, h9.leftA, HX.out.up⟩
              · obtain ⟨kk, K, rfl, hkk⟩ := is_made hm
                obtain ⟨R, hR, hRm, e1, e2, hRL⟩ := HR.out.get hkk
                have HM := Lib.hid (And.intro hR (And.intro hRm (And.intro e1 (And.intro e2 hRL))))
                clear hm hR hRm e1 e2 hRL
                go_wp2_with fail
                refine (cloneC_env H3.out (3 + k) (J3.out _) hkk).mono ?_
                rintro e w5 ⟨b, rfl, h5⟩
                rw [List.append_nil] at h5
                have H5 := Lib.hid h5
                clear h5 d0 d1
                have d1 := (ST0.out.sa _ H5.out k hk2).r
                go_wp2_with fail
                clear d1
                rw [HM.out.1]
                refine (rcClone_env H5.out 5 (J5.out _) k hk2 R HM.out.1 HM.out.2.1).mono ?_
                rintro e w6 ⟨b', rfl, h6⟩
                rw [List.set_append_left _ _ (by have := ST0.out.len; omega)] at h6
                have hP1 := h6.blk 0 (b := P) (((ST0.out.set 5 (by omega) _).more _).p0)
                have f0 := hP1.unfrozen k'
                have d0 := hP1.cellAt k' (pair_c k' hk'2)
                have hP2 := hP1.set k' (.pointer (some ⟨b, 0, none⟩))
                have f1 := hP2.unfrozen (2 + k')
                have d1 : (w6.setCell ⟨P, k', none⟩ (.pointer (some ⟨b, 0, none⟩))).cell? ⟨P, 2 + k', none⟩ = some (rcV (side k' x.R0 x.R1)) := hP2.cellAt (2 + k') (by rw [Array.getElem?_setIfInBounds_ne (by omega)]; exact pair_r k' hk'2)
                have hbP := hP1.lt
                have h7 := h6.turnBlk 0 (b := P) (((ST0.out.set 5 (by omega) _).more _).p0) (hP2.set (2 + k') (.pointer (some ⟨b', 0, none⟩))) (((Only.refl (fun x => x = P) w6).set (p := ⟨P, k', none⟩) (.inl rfl) _).set (p := ⟨P, 2 + k', none⟩) (.inl rfl) _)
                rw [List.set_append_left _ _ (by rw [List.length_set]; have := ST0.out.len; omega)] at h7
                have h8 := h7.swapOne (3 + k') (by rw [List.length_set, List.length_set]; have := ST0.out.len; omega)
                have hrel : rel (some (kk, K)) (some { R with b := b', made := true }) := by
                  simp only [rel]
                  exact ⟨HM.out.2.2.1, HM.out.2.2.2.1, HM.out.2.2.2.2⟩
                have h9 : Env w0 ((w6.setCell ⟨P, k', none⟩ (.pointer (some ⟨b, 0, none⟩))).setCell ⟨P, 2 + k', none⟩ (.pointer (some ⟨b', 0, none⟩))) (WL P pl pw (x.make k' (.pointer (some ⟨b, 0, none⟩)) (some (kk, K)) { R with b := b', made := true }) ++ [obA10 G on kd (.slice ao bl.length cap) mute]) := by
                  have e : (((M0.set 5 (obR2 (oth1 k x.R0 (some { R with b := b', made := true })) (oth2 k x.R1 (some { R with b := b', made := true })))).set 0 (obK P 59 (((pairC pl pw x).setIfInBounds k' (.pointer (some ⟨b, 0, none⟩))).setIfInBounds (2 + k') (.pointer (some ⟨b', 0, none⟩))))).set (3 + k') (obC (.pointer (some ⟨b, 0, none⟩)) (some (kk, K)))) = WL P pl pw (x.make k' (.pointer (some ⟨b, 0, none⟩)) (some (kk, K)) { R with b := b', made := true }) ++ [obA10 G on kd (.slice ao bl.length cap) mute] := by
                    rw [← HM0.out, ← HK'.out]
                    rcases (by omega : k = 0 ∨ k = 1) with rfl | rfl <;> rfl
                  rw [← e]
                  exact h8
                have H9 := Lib.hid h9
                have HOK := Lib.hid (HX.out.make k' hk'2 (.pointer (some ⟨b, 0, none⟩)) hrel)
                clear h6 h7 h8 h9 hP1 hP2 hrel H5
                go_wp2_with fail
                go_ret
                exact ⟨rfl, _, H9.out.leftA, HOK.out.up⟩
              --]k4
            · have t4 : (kd == (4 : Int)) = false := by rw [beq_eq_false_iff_ne]; exact k4
              clear k4
              by_cases k5 : kd = 5
              · have t5 : (kd == (5 : Int)) = true := by rw [k5]; rfl
                clear k5
                --[k5
                have hcc : (codeC c == codeC c) = true := beq_self_eq_true _
                obtain ⟨M1, hM1⟩ : ∃ y, (M0.set (3 + k) (obC (sd k x.c0 x.c1) (wiped c))).set jl (obP u6 (noteW o c)) = y := ⟨_, rfl⟩
                have ST1 : Hid (Stg P G pl pw x on kd (.slice ao bl.length cap) mute M1) := by rw [← hM1]; exact Lib.hid ((ST0.out.set (3 + k) (by omega) _).set jl (by omega) _)
                have HEX : Hid (∀ (W : World) (X : List Ob), Env w0 W (((M0 ++ X).set (3 + k) (obC (sd k x.c0 x.c1) (wiped c))).set jl (obP u6 (noteW o c))) → Env w0 W (M1 ++ X)) := Lib.hid (fun W X h => by rw [List.set_append_left _ _ (by have := ST0.out.len; omega), List.set_append_left _ _ (by rw [List.length_set]; have := ST0.out.len; omega), hM1] at h; exact h)
                have K5 : Hid (∀ X, (M1 ++ X)[5]? = some (obR2 x.R0 x.R1)) := Lib.hid (fun X => by
                  rw [List.getElem?_append_left (by have := ST1.out.len; omega), ← hM1, List.getElem?_set_ne (by omega), List.getElem?_set_ne (by omega)]
                  exact I5.out)
                have KW : Hid (∀ X, (M1 ++ X)[jw]? = some (obR u7 o)) := Lib.hid (fun X => by
                  rw [List.getElem?_append_left (by have := ST1.out.len; omega), ← hM1, List.getElem?_set_ne (by omega), List.getElem?_set_ne (by omega)]
                  exact IW.out)
                have HM1 := Lib.hid hM1
                clear hM1
                go_upto_region 28 with fail
                refine hd_start (SA P G k (sd k x.c0 x.c1) (rcV (side k x.R0 x.R1)) pl pw (.slice ao bl.length cap)) (by kernel_rfl) ?_
                intro w4 hw'
                have H4 := Lib.hid (H3.out.draw 1)
                rw [← hw'] at H4
                clear hw' H3
                have S4 := ST0.out.sa _ H4.out k hk2
                refine hd_take (v := ?_) 0 rfl (by kernel_rfl) (fun _ _ d _ _ h => (by cases d <;> exact h)) (by kernel_rfl) S4 (fun w' hS => ?_) ?_
                rotate_left
                focus (have q0 := SA.fc w' hS; have q1 := SA.fr w' hS; clear hS; go_simp; try rfl; done)
                simp only [List.getElem_toArray, List.getElem_cons_succ, List.getElem_cons_zero, Act.put, List.setIfInBounds_toArray, List.set_cons_zero, List.set_cons_succ]
                refine hd_take (v := ?_) 1 rfl (by kernel_rfl) (fun _ _ d _ _ h => (by cases d <;> exact h)) (by kernel_rfl) S4 (fun w' hS => ?_) ?_
                rotate_left
                focus (have q0 := SA.fc w' hS; have q1 := SA.fr w' hS; clear hS; go_simp; try rfl; done)
                simp only [List.getElem_toArray, List.getElem_cons_succ, List.getElem_cons_zero, Act.put, List.setIfInBounds_toArray, List.set_cons_zero, List.set_cons_succ]
                refine hd_take (v := ?_) 2 rfl (by kernel_rfl) (fun _ _ d _ _ h => (by cases d <;> exact h)) (by kernel_rfl) S4 (fun w' hS => ?_) ?_
                rotate_left
                focus (have q0 := SA.fc w' hS; have q1 := SA.fr w' hS; clear hS; go_simp; try rfl; done)
                simp only [List.getElem_toArray, List.getElem_cons_succ, List.getElem_cons_zero, Act.put, List.setIfInBounds_toArray, List.set_cons_zero, List.set_cons_succ]
                refine hd_take (v := ?_) 3 rfl (by kernel_rfl) (fun _ _ d _ _ h => (by cases d <;> exact h)) (by kernel_rfl) S4 (fun w' hS => ?_) ?_
                rotate_left
                focus (have q0 := SA.fc w' hS; have q1 := SA.fr w' hS; clear hS; go_simp; try rfl; done)
                simp only [List.getElem_toArray, List.getElem_cons_succ, List.getElem_cons_zero, Act.put, List.setIfInBounds_toArray, List.set_cons_zero, List.set_cons_succ]
                refine hd_take (v := ?_) 4 rfl (by kernel_rfl) (fun _ _ d _ _ h => (by cases d <;> exact h)) (by kernel_rfl) S4 (fun w' hS => ?_) ?_
                rotate_left
                focus (have q0 := SA.fc w' hS; have q1 := SA.fr w' hS; clear hS; go_simp; try rfl; done)
                simp only [List.getElem_toArray, List.getElem_cons_succ, List.getElem_cons_zero, Act.put, List.setIfInBounds_toArray, List.set_cons_zero, List.set_cons_succ]
                refine hd_take (v := ?_) 5 rfl (by kernel_rfl) (fun _ _ d _ _ h => (by cases d <;> exact h)) (by kernel_rfl) S4 (fun w' hS => ?_) ?_
                rotate_left
                focus (have q0 := SA.fc w' hS; have q1 := SA.fr w' hS; clear hS; go_simp; try rfl; done)
                simp only [List.getElem_toArray, List.getElem_cons_succ, List.getElem_cons_zero, Act.put, List.setIfInBounds_toArray, List.set_cons_zero, List.set_cons_succ]
                refine hd_take (v := ?_) 6 rfl (by kernel_rfl) (fun _ _ d _ _ h => (by cases d <;> exact h)) (by kernel_rfl) S4 (fun w' hS => ?_) ?_
                rotate_left
                focus (have q0 := SA.fc w' hS; have q1 := SA.fr w' hS; clear hS; go_simp; try rfl; done)
                simp only [List.getElem_toArray, List.getElem_cons_succ, List.getElem_cons_zero, Act.put, List.setIfInBounds_toArray, List.set_cons_zero, List.set_cons_succ]
                refine hd_take (v := ?_) 8 rfl (by kernel_rfl) (fun _ _ d _ _ h => (by cases d <;> exact h)) (by kernel_rfl) S4 (fun w' hS => ?_) ?_
                rotate_left
                focus (have q0 := SA.fc w' hS; have q1 := SA.fr w' hS; clear hS; go_simp; try rfl; done)
                simp only [List.getElem_toArray, List.getElem_cons_succ, List.getElem_cons_zero, Act.put, List.setIfInBounds_toArray, List.set_cons_zero, List.set_cons_succ]
                refine hd_take (v := ?_) 9 rfl (by kernel_rfl) (fun _ _ d _ _ h => (by cases d <;> exact h)) (by kernel_rfl) S4 (fun w' hS => ?_) ?_
                rotate_left
                focus (have q0 := SA.fc w' hS; have q1 := SA.fr w' hS; clear hS; go_simp; try rfl; done)
                simp only [List.getElem_toArray, List.getElem_cons_succ, List.getElem_cons_zero, Act.put, List.setIfInBounds_toArray, List.set_cons_zero, List.set_cons_succ]
                refine hd_take (v := ?_) 10 rfl (by kernel_rfl) (fun _ _ d _ _ h => (by cases d <;> exact h)) (by kernel_rfl) S4 (fun w' hS => ?_) ?_
                rotate_left
                focus (have q0 := SA.fc w' hS; have q1 := SA.fr w' hS; clear hS; go_simp; try rfl; done)
                simp only [List.getElem_toArray, List.getElem_cons_succ, List.getElem_cons_zero, Act.put, List.setIfInBounds_toArray, List.set_cons_zero, List.set_cons_succ]
                refine hd_take (v := ?_) 11 rfl (by kernel_rfl) (fun _ _ d _ _ h => (by cases d <;> exact h)) (by kernel_rfl) S4 (fun w' hS => ?_) ?_
                rotate_left
                focus (have q0 := SA.fc w' hS; have q1 := SA.fr w' hS; clear hS; go_simp; try rfl; done)
                simp only [List.getElem_toArray, List.getElem_cons_succ, List.getElem_cons_zero, Act.put, List.setIfInBounds_toArray, List.set_cons_zero, List.set_cons_succ]
                refine hd_take (v := ?_) 12 rfl (by kernel_rfl) (fun _ _ d _ _ h => (by cases d <;> exact h)) (by kernel_rfl) S4 (fun w' hS => ?_) ?_
                rotate_left
                focus (have q0 := SA.fc w' hS; have q1 := SA.fr w' hS; clear hS; go_simp; try rfl; done)
                simp only [List.getElem_toArray, List.getElem_cons_succ, List.getElem_cons_zero, Act.put, List.setIfInBounds_toArray, List.set_cons_zero, List.set_cons_succ]
                refine hd_take (v := ?_) 13 rfl (by kernel_rfl) (fun _ _ d _ _ h => (by cases d <;> exact h)) (by kernel_rfl) S4 (fun w' hS => ?_) ?_
                rotate_left
                focus (have q0 := SA.fc w' hS; have q1 := SA.fr w' hS; clear hS; go_simp; try rfl; done)
                simp only [List.getElem_toArray, List.getElem_cons_succ, List.getElem_cons_zero, Act.put, List.setIfInBounds_toArray, List.set_cons_zero, List.set_cons_succ]
                refine hd_take (v := ?_) 14 rfl (by kernel_rfl) (fun _ _ d _ _ h => (by cases d <;> exact h)) (by kernel_rfl) S4 (fun w' hS => ?_) ?_
                rotate_left
                focus (have q0 := SA.fc w' hS; have q1 := SA.fr w' hS; clear hS; go_simp; try rfl; done)
                simp only [List.getElem_toArray, List.getElem_cons_succ, List.getElem_cons_zero, Act.put, List.setIfInBounds_toArray, List.set_cons_zero, List.set_cons_succ]
                refine hd_one 7 (by kernel_rfl) ?_
                refine op_call rfl (by kernel_rfl) (by go_simp; first | exact ⟨rfl, rfl⟩ | rfl) ?_
                refine (wipeC_all H4.out (3 + k) jl (by omega) (J3.out _) (JL.out _) hroom.out).mono ?_
                rintro e w5 ⟨he, h5⟩
                subst he
                have H5 := Lib.hid (HEX.out _ _ h5)
                clear h5
                have hS2 := ST1.out.sa _ H5.out k hk2
                refine ⟨_, rfl, hS2, ?_⟩
                simp only [List.getElem_toArray, List.getElem_cons_succ, List.getElem_cons_zero, Act.put, List.setIfInBounds_toArray, List.set_cons_zero, List.set_cons_succ]
                refine hd_one 15 (by kernel_rfl) ?_
                refine op_call rfl (by kernel_rfl) (by go_simp; first | exact ⟨rfl, rfl⟩ | rfl) ?_
                refine (rcWipe_all H5.out 5 jw (by omega) (K5.out _) (KW.out _) hroom.out k hk2 HR.out).mono ?_
                rintro e w6 ⟨he, h5⟩
                subst he
                have H6 := Lib.hid h5
                clear h5
                have hS3 : SA P G k (sd k x.c0 x.c1) (rcV (side k x.R0 x.R1)) pl pw (.slice ao bl.length cap) w6 := ((ST1.out.more []).set jw (by omega) _).set 5 (by omega) _ |>.sa [] (by rw [List.append_nil]; exact H6.out) k hk2
                have S6 := hS3
                have hS2 := hS3
                refine ⟨_, rfl, hS2, ?_⟩
                simp only [List.getElem_toArray, List.getElem_cons_succ, List.getElem_cons_zero, Act.put, List.setIfInBounds_toArray, List.set_cons_zero, List.set_cons_succ]
                refine hd_take (v := ?_) 16 rfl (by kernel_rfl) (fun _ _ d _ _ h => (by cases d <;> exact h)) (by kernel_rfl) S6 (fun w' hS => ?_) ?_
                rotate_left
                focus (clear hS; go_simp; try rfl; done)
                simp only [List.getElem_toArray, List.getElem_cons_succ, List.getElem_cons_zero, Act.put, List.setIfInBounds_toArray, List.set_cons_zero, List.set_cons_succ]
                refine hd_take (v := ?_) 17 rfl (by kernel_rfl) (fun _ _ d _ _ h => (by cases d <;> exact h)) (by kernel_rfl) S6 (fun w' hS => ?_) ?_
                rotate_left
                focus (clear hS; go_simp; try rfl; done)
                simp only [List.getElem_toArray, List.getElem_cons_succ, List.getElem_cons_zero, Act.put, List.setIfInBounds_toArray, List.set_cons_zero, List.set_cons_succ]
                refine hd_done (by kernel_rfl) ?_
                clear S4 S6 hS3
                go_wp2_with fail
                go_ret
                obtain ⟨rs', hset, hok⟩ := HS.out.note (P := P) (upd_W o c) HX.out
                have h9 := H6.out
                rw [← HM1.out, ← HM0.out, List.append_nil] at h9
                refine ⟨rfl, (x.led rs').wipe k c, ?_, hok.wipe k hk2 HR.out (by rw [← HC.out]; rfl)⟩
                exact wipe_end k hk2 HS.out hset h9
                --]k5
              · have t5 : (kd == (5 : Int)) = false := by rw [beq_eq_false_iff_ne]; exact k5
                clear k5
                by_cases k6 : kd = 6
                · have t6 : (kd == (6 : Int)) = true := by rw [k6]; rfl
                  clear k6
                  --[k6
                  have g2 := (ST0.out.sa _ H3.out k hk2).b
                  go_wp2_with fail
                  clear g2
                  have h9 := H3.out
                  rw [← HM0.out, List.append_nil] at h9
                  refine (make10 h9.leftA HX.out (by omega) k hk2 HU.out hbl HS.out).mono ?_
                  rintro e w5 ⟨rfl, x', q1, q2⟩
                  have HQ := Lib.hid (And.intro q1 q2)
                  clear q1 q2 h9
                  go_wp2_with fail
                  go_ret
                  exact ⟨rfl, x', HQ.out.1, HQ.out.2⟩
                  --]k6
                · have t6 : (kd == (6 : Int)) = false := by rw [beq_eq_false_iff_ne]; exact k6
                  clear k6
                  go_wp2_with fail
                  go_ret
                  have h9 := H3.out
                  rw [← HM0.out, List.append_nil] at h9
                  exact ⟨rfl, x, h9.leftA, HX.out.up⟩
end Go.Proofs.Ytihmgkjmebdioaa
