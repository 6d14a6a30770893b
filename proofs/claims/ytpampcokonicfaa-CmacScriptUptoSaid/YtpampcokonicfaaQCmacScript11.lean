/- Opening a list of calls of Macs under the second form's bound. -/
import Derived.Test.YtpampcokonicfaaRows
import Derived.Lib.SmallJoins
import Derived.Deep.Slices
import Derived.Test.YtpampcokonicfaaQCmacScript1
import Derived.Test.YtpampcokonicfaaQCmacScript10
import Derived.Test.YtpampcokonicfaaQCmacScript2
import Derived.Test.YtpampcokonicfaaQCmacScript6
/- The law's pair of Macs: act, a call of both. -/
namespace Go.Proofs.Ytpampcokonicfaa
open Go.RowKit
set_option maxRecDepth 100000
set_option linter.unusedVariables false
set_option linter.unusedSimpArgs false
attribute [local go_sem] Oper.semAt_some
theorem pick13 (i n : Int) (w : World) (hn : 0 < n) (hn' : n ≤ 9223372036854775807) :
    Calls Try.prog 56 #[.int .i64 i, .int .i64 n] w fun e w' => e = .returned (.int .i64 (i % n)) ∧ w = w' := by
  have ht : i.tmod n = if i % n = 0 ∨ 0 ≤ i then i % n else i % n - n := by
    have := Int.emod_nonneg i (show n ≠ 0 by omega)
    rw [Int.tmod_eq_emod]
    have : (n.natAbs : Int) = n := by omega
    by_cases h : 0 ≤ i ∨ n ∣ i
    · rw [if_pos h]
      rcases h with h | h
      · rw [if_pos (.inr h)]; omega
      · rw [if_pos (.inl (Int.emod_eq_zero_of_dvd h))]; omega
    · rw [if_neg h]
      have : ¬ (i % n = 0 ∨ 0 ≤ i) := by
        rintro (h1 | h1)
        · exact h (.inr (Int.dvd_of_emod_eq_zero h1))
        · exact h (.inl h1)
      rw [if_neg this]
      omega
  have h1 := Int.emod_nonneg i (show n ≠ 0 by omega)
  have h2 := Int.emod_lt_of_pos i hn
  by_cases hc : i % n = 0 ∨ 0 ≤ i
  · rw [if_pos hc] at ht
    clear hc
    generalize i % n = r at ht h1 h2 ⊢
    go_enter Try.func56, Try.ntmps56
    go_wp2
    go_ret
    exact ⟨rfl, rfl⟩
  · rw [if_neg hc] at ht
    have h3 : ¬ i % n = 0 := fun e => hc (.inl e)
    clear hc
    generalize i % n = r at ht h1 h2 h3 ⊢
    have e : r - n + n = r := by omega
    go_enter Try.func56, Try.ntmps56
    go_wp2
    go_ret
    exact ⟨rfl, rfl⟩
def actV13 (on kd : Int) (kv dv : Value) (mute : Bool) : Value := .agg #[.int .i64 on, .int .i64 kd, kv, dv, .bool mute]
def obA13 (G : Nat) (on kd : Int) (kv dv : Value) (mute : Bool) : Ob := obK G 72 #[.int .i64 on, .int .i64 kd, kv, dv, .bool mute]
/-- what the drawn regions read -/
structure SM (P G k : Nat) (cv rv pl pw dv : Value) (W : World) : Prop where
  c : W.cell? ⟨P, k, none⟩ = some cv
  r : W.cell? ⟨P, 2 + k, none⟩ = some rv
  l : W.cell? ⟨P, 4, none⟩ = some pl
  w : W.cell? ⟨P, 5, none⟩ = some pw
  d : W.cell? ⟨G, 3, none⟩ = some dv
theorem SM.fc {P G k : Nat} {cv rv pl pw dv : Value} (W : World) (h : SM P G k cv rv pl pw dv W) : W.cell? ⟨P, k, none⟩ = some cv := h.c
theorem SM.fr {P G k : Nat} {cv rv pl pw dv : Value} (W : World) (h : SM P G k cv rv pl pw dv W) : W.cell? ⟨P, 2 + k, none⟩ = some rv := h.r
theorem SM.fl {P G k : Nat} {cv rv pl pw dv : Value} (W : World) (h : SM P G k cv rv pl pw dv W) : W.cell? ⟨P, 4, none⟩ = some pl := h.l
theorem SM.fw {P G k : Nat} {cv rv pl pw dv : Value} (W : World) (h : SM P G k cv rv pl pw dv W) : W.cell? ⟨P, 5, none⟩ = some pw := h.w
theorem SM.fd {P G k : Nat} {cv rv pl pw dv : Value} (W : World) (h : SM P G k cv rv pl pw dv W) : W.cell? ⟨G, 3, none⟩ = some dv := h.d
/-- a list of things on the way: the pair's block ahead, the act's box at place 12 -/
structure Sg (P G : Nat) (pl pw : Value) (x : St13) (on kd : Int) (kv dv : Value) (mute : Bool) (M : List Ob) : Prop where
  p0 : M[0]? = some (obK P 68 (pairM pl pw x))
  g : M[12]? = some (obA13 G on kd kv dv mute)
section
variable {P G : Nat} {pl pw : Value} {x : St13} {on kd : Int} {kv dv : Value} {mute : Bool} {M : List Ob} {w0 W : World}
theorem Sg.sa (h : Sg P G pl pw x on kd kv dv mute M) (hE : Env w0 W M) (k : Nat) (hk : k < 2) : SM P G k (sdM k x).v (rmV (sideM k x.R0 x.R1)) pl pw dv W := by
  have b0 := hE.blk 0 (b := P) h.p0
  have b1 := hE.blk 12 (b := G) h.g
  exact ⟨b0.cellAt k (pairM_c k hk), b0.cellAt (2 + k) (pairM_r k hk), b0.cellAt 4 rfl, b0.cellAt 5 rfl, b1.cellAt 3 rfl⟩
theorem Sg.set (h : Sg P G pl pw x on kd kv dv mute M) (j : Nat) (hj : j ≠ 0 ∧ j ≠ 12) (ob : Ob) : Sg P G pl pw x on kd kv dv mute (M.set j ob) :=
  ⟨by rw [List.getElem?_set_ne (by omega)]; exact h.p0, by rw [List.getElem?_set_ne (by omega)]; exact h.g⟩
theorem Sg.more (h : Sg P G pl pw x on kd kv dv mute M) (X : List Ob) : Sg P G pl pw x on kd kv dv mute (M ++ X) :=
  ⟨at_l h.p0, at_l h.g⟩
end
structure Act13R (w0 : World) (P : Nat) (pl pw : Value) (i m : Nat) (e : Ending) (w' : World) : Prop where
  ex : e = .returned (.bool true) ∧ ∃ x', Env w0 w' (WM P pl pw x') ∧ OK13 i m x'
set_option maxHeartbeats 16000000 in
theorem act13 {w0 w : World} {P : Nat} {pl pw : Value} {x : St13} (h : Env w0 w (WM P pl pw x)) {i m : Nat} (hx : OK13 i m x) (hi : i ≤ 900) (on kd : Int) {kv dv : Value} {key dl : List UInt8} (mute : Bool) (hkv : Bs w0 kv key) (hkl : key.length + 6 ≤ 140737488355328) (hdv : Bs w0 dv dl) (hdl : m + dl.length ≤ 4000) :
    Calls Try.prog 36 #[.pointer (some ⟨P, 0, none⟩), actV13 on kd kv dv mute] w (Act13R w0 P pl pw (i + 2) (m + dl.length)) := by
  have h1 := h.newK 72 #[.int .i64 on, .int .i64 kd, kv, dv, .bool mute]
  have H1 : Hid (Env w0 (w.alloc (.cells #[.int .i64 on, .int .i64 kd, kv, dv, .bool mute] 72)) (WM P pl pw x ++ [obA13 w.heap.size on kd kv dv mute])) := Lib.hid h1
  have HX := Lib.hid hx
  have HK := Lib.hid hkv
  have HD := Lib.hid hdv
  obtain ⟨ko, kcap, rfl, _⟩ := hkv.form
  obtain ⟨ao, cap, rfl, _⟩ := hdv.form
  clear h1 h hx hkv hdv
  unfold actV13
  go_enter Try.func36, Try.ntmps36
  obtain ⟨w2, hw2⟩ : ∃ y, w.alloc (.cells #[.int .i64 on, .int .i64 kd, .slice ko key.length kcap, .slice ao dl.length cap, .bool mute] 72) = y := ⟨_, rfl⟩
  obtain ⟨G, hG⟩ : ∃ y, w.heap.size = y := ⟨_, rfl⟩
  rw [hw2, hG] at H1
  go_upto_region 1 with fail
  try rw [hw2]
  try rw [hG]
  clear hw2 hG
  have STA : Hid (Sg P G pl pw x on kd (.slice ko key.length kcap) (.slice ao dl.length cap) mute (WM P pl pw x ++ [obA13 G on kd (.slice ko key.length kcap) (.slice ao dl.length cap) mute])) := Lib.hid ⟨rfl, rfl⟩
  have bG := H1.out.blk 12 (b := G) rfl
  have g0 := bG.cellAt 0 rfl
  have hGl := bG.lt
  obtain ⟨k, hkI, hk2⟩ : ∃ k : Nat, on % 2 = (k : Int) ∧ k < 2 := ⟨(on % 2).toNat, by omega, by omega⟩
  have bk : 0 ≤ (k : Int) ∧ (k : Int) < 2 := by omega
  clear bG
  go_wp2_with fail
  refine (pick13 on 2 _ (by omega) (by omega)).mono ?_
  rintro e w3 ⟨he, rfl⟩
  rw [hkI] at he
  subst he
  clear g0
  go_upto_region 2 with fail
  refine hd_start (SM P G k (sdM k x).v (rmV (sideM k x.R0 x.R1)) pl pw (.slice ao dl.length cap)) (by kernel_rfl) ?_
  intro w3 hw'
  have H3 := Lib.hid (H1.out.draw 1)
  rw [← hw'] at H3
  clear hw' H1
  have S3 := STA.out.sa H3.out k hk2
  refine hd_take (v := ?_) 0 rfl (by kernel_rfl) (fun _ _ d _ _ h => (by cases d <;> exact h)) (by kernel_rfl) S3 (fun w' hS => ?_) ?_
  rotate_left
  focus (have q0 := SM.fl w' hS; have q1 := SM.fw w' hS; clear hS; go_simp; try rfl; done)
  simp only [List.getElem_toArray, List.getElem_cons_succ, List.getElem_cons_zero, Act.put, List.setIfInBounds_toArray, List.set_cons_zero, List.set_cons_succ]
  refine hd_take (v := ?_) 1 rfl (by kernel_rfl) (fun _ _ d _ _ h => (by cases d <;> exact h)) (by kernel_rfl) S3 (fun w' hS => ?_) ?_
  rotate_left
  focus (have q0 := SM.fl w' hS; have q1 := SM.fw w' hS; clear hS; go_simp; try rfl; done)
  simp only [List.getElem_toArray, List.getElem_cons_succ, List.getElem_cons_zero, Act.put, List.setIfInBounds_toArray, List.set_cons_zero, List.set_cons_succ]
  refine hd_take (v := ?_) 2 rfl (by kernel_rfl) (fun _ _ d _ _ h => (by cases d <;> exact h)) (by kernel_rfl) S3 (fun w' hS => ?_) ?_
  rotate_left
  focus (have q0 := SM.fl w' hS; have q1 := SM.fw w' hS; clear hS; go_simp; try rfl; done)
  simp only [List.getElem_toArray, List.getElem_cons_succ, List.getElem_cons_zero, Act.put, List.setIfInBounds_toArray, List.set_cons_zero, List.set_cons_succ]
  refine hd_take (v := ?_) 3 rfl (by kernel_rfl) (fun _ _ d _ _ h => (by cases d <;> exact h)) (by kernel_rfl) S3 (fun w' hS => ?_) ?_
  rotate_left
  focus (have q0 := SM.fl w' hS; have q1 := SM.fw w' hS; clear hS; go_simp; try rfl; done)
  simp only [List.getElem_toArray, List.getElem_cons_succ, List.getElem_cons_zero, Act.put, List.setIfInBounds_toArray, List.set_cons_zero, List.set_cons_succ]
  refine hd_take (v := ?_) 4 rfl (by kernel_rfl) (fun _ _ d _ _ h => (by cases d <;> exact h)) (by kernel_rfl) S3 (fun w' hS => ?_) ?_
  rotate_left
  focus (have q0 := SM.fl w' hS; have q1 := SM.fw w' hS; clear hS; go_simp; try rfl; done)
  simp only [List.getElem_toArray, List.getElem_cons_succ, List.getElem_cons_zero, Act.put, List.setIfInBounds_toArray, List.set_cons_zero, List.set_cons_succ]
  refine hd_take (v := ?_) 5 rfl (by kernel_rfl) (fun _ _ d _ _ h => (by cases d <;> exact h)) (by kernel_rfl) S3 (fun w' hS => ?_) ?_
  rotate_left
  focus (have q0 := SM.fl w' hS; have q1 := SM.fw w' hS; clear hS; go_simp; try rfl; done)
  simp only [List.getElem_toArray, List.getElem_cons_succ, List.getElem_cons_zero, Act.put, List.setIfInBounds_toArray, List.set_cons_zero, List.set_cons_succ]
  refine hd_take (v := ?_) 6 rfl (by kernel_rfl) (fun _ _ d _ _ h => (by cases d <;> exact h)) (by kernel_rfl) S3 (fun w' hS => ?_) ?_
  rotate_left
  focus (have q0 := SM.fl w' hS; have q1 := SM.fw w' hS; clear hS; go_simp; try rfl; done)
  simp only [List.getElem_toArray, List.getElem_cons_succ, List.getElem_cons_zero, Act.put, List.setIfInBounds_toArray, List.set_cons_zero, List.set_cons_succ]
  refine hd_take (v := ?_) 7 rfl (by kernel_rfl) (fun _ _ d _ _ h => (by cases d <;> exact h)) (by kernel_rfl) S3 (fun w' hS => ?_) ?_
  rotate_left
  focus (have q0 := SM.fl w' hS; have q1 := SM.fw w' hS; clear hS; go_simp; try rfl; done)
  simp only [List.getElem_toArray, List.getElem_cons_succ, List.getElem_cons_zero, Act.put, List.setIfInBounds_toArray, List.set_cons_zero, List.set_cons_succ]
  refine hd_take (v := ?_) 8 rfl (by kernel_rfl) (fun _ _ d _ _ h => (by cases d <;> exact h)) (by kernel_rfl) S3 (fun w' hS => ?_) ?_
  rotate_left
  focus (have q0 := SM.fl w' hS; have q1 := SM.fw w' hS; clear hS; go_simp; try rfl; done)
  simp only [List.getElem_toArray, List.getElem_cons_succ, List.getElem_cons_zero, Act.put, List.setIfInBounds_toArray, List.set_cons_zero, List.set_cons_succ]
  refine hd_take (v := ?_) 9 rfl (by kernel_rfl) (fun _ _ d _ _ h => (by cases d <;> exact h)) (by kernel_rfl) S3 (fun w' hS => ?_) ?_
  rotate_left
  focus (have q0 := SM.fl w' hS; have q1 := SM.fw w' hS; clear hS; go_simp; try rfl; done)
  simp only [List.getElem_toArray, List.getElem_cons_succ, List.getElem_cons_zero, Act.put, List.setIfInBounds_toArray, List.set_cons_zero, List.set_cons_succ]
  refine hd_done (by kernel_rfl) ?_
  clear S3
  have bG := H3.out.blk 12 (b := G) rfl
  have g1 := bG.cellAt 1 rfl
  have g3 := bG.cellAt 3 rfl
  have g4 := bG.cellAt 4 rfl
  clear bG
  go_upto_if 36 with fail
  go_cut [6, 7] from 35 to 36 (fun lv qv wx => wx = w3 ∧ ∃ jl jw o, Hid (LSel13 pl pw x jl jw lv qv o))
  case first =>
    cases mute
    · go_wp2_with fail
      go_meet
      exact ⟨rfl, 1, 2, _, Lib.hid (.inl ⟨rfl, rfl, rfl, rfl, rfl⟩)⟩
    · go_wp2_with fail
      go_meet
      exact ⟨rfl, 8, 9, _, Lib.hid (.inr ⟨rfl, rfl, rfl, rfl, rfl⟩)⟩
  case rest =>
    obtain ⟨rfl, jl, jw, o, HS⟩ := hcut
    have n0 : jl ≠ jw ∧ jl ≠ 5 ∧ jw ≠ 5 ∧ jl < 12 ∧ jw < 12 ∧ jl ≠ 0 ∧ jw ≠ 0 ∧ 3 + k ≠ jl ∧ 3 + k ≠ jw ∧ 10 + k ≠ jl ∧ 10 + k ≠ jw ∧ jl ≠ 6 ∧ jl ≠ 7 ∧ jw ≠ 6 ∧ jw ≠ 7 := by rcases HS.out.j with ⟨rfl, rfl⟩ | ⟨rfl, rfl⟩ <;> omega
    obtain ⟨n1, n2, n3, n4, n5, n6, n7, n8, n9, n10, n11, n12, n13, n14, n15⟩ := n0
    have hlotl := Lib.hid (HS.out.lotl HX.out (by omega))
    have hlots := Lib.hid (hlotl.out.lots (Upd.refl o) (by omega))
    go_wp2_with fail
    refine (lent_env H3.out (H3.out.old HD.out) (by omega)).mono ?_
    rintro e w4 ⟨g, gc, rfl, h5⟩
    rw [List.append_assoc, lent_length] at h5
    rw [lent_length]
    have hgc : dl.length + 6 ≤ gc ∧ gc ≤ 9223372036854775807 := by
      obtain ⟨ao', cap', he, q1, q2, _⟩ := (h5.bytes 13 rfl).rd.form
      injection he with _ _ he
      subst he
      rw [lent_length] at q1
      exact ⟨q1, q2⟩
    obtain ⟨hgc1, hgc2⟩ := hgc
    have hgl : g < w4.heap.size := by
      obtain ⟨F, hF, _⟩ := h5.get 13 (ob := obB (.slice (some ⟨g, 0, none⟩) (dl.length + 6) gc) (lent dl)) rfl
      exact hF.1.lt g rfl
    obtain ⟨Y, hY⟩ : ∃ Y, [obA13 G on kd (.slice ko key.length kcap) (.slice ao dl.length cap) mute] ++ [obB (.slice (some ⟨g, 0, none⟩) (dl.length + 6) gc) (lent dl)] = Y := ⟨_, rfl⟩
    have HY0 : Hid (∀ x, (WM P pl pw x ++ Y)[12]? = some (obA13 G on kd (.slice ko key.length kcap) (.slice ao dl.length cap) mute)) := by rw [← hY]; exact Lib.hid (fun _ => rfl)
    have HY1 : Hid (∀ x, (WM P pl pw x ++ Y)[13]? = some (obB (.slice (some ⟨g, 0, none⟩) (dl.length + 6) gc) (lent dl))) := by rw [← hY]; exact Lib.hid (fun _ => rfl)
    rw [hY] at h5
    have H4 := Lib.hid h5
    have ST0 : Hid (∀ x, Sg P G pl pw x on kd (.slice ko key.length kcap) (.slice ao dl.length cap) mute (WM P pl pw x ++ Y)) := Lib.hid (fun x => ⟨rfl, HY0.out x⟩)
    clear h5 hY H3 STA g1 g3 g4
    obtain ⟨p, hp⟩ : ∃ p, sdM k x = p := ⟨_, rfl⟩
    have HR : Hid (relM p (sideM k x.R0 x.R1)) := by rw [← hp]; exact Lib.hid (HX.out.rk k hk2)
    have HPL : Hid (p.msgLen ≤ m) := by rw [← hp]; exact Lib.hid (HX.out.mlen k)
    have I3 : Hid ((WM P pl pw x ++ Y)[3 + k]? = some p.oc) := by rw [← hp]; exact Lib.hid (WM_c k hk2)
    have I10 : Hid ((WM P pl pw x ++ Y)[10 + k]? = some p.om) := by rw [← hp]; exact Lib.hid (WM_m k hk2)
    have HSA : Hid (∀ (M : List Ob) (W : World), Sg P G pl pw x on kd (.slice ko key.length kcap) (.slice ao dl.length cap) mute M → Env w0 W M → SM P G k p.v (rmV (sideM k x.R0 x.R1)) pl pw (.slice ao dl.length cap) W) := by rw [← hp]; exact Lib.hid (fun M W hM hE => hM.sa hE k hk2)
    have HP := Lib.hid hp
    have hcc : (p.code == p.code) = true := beq_self_eq_true _
    have HRD : Hid (∀ wx obs', Env w0 wx obs' → (∀ (x' : Nat) (ob : Ob), x' ≠ jl → x' ≠ 10 + k → (WM P pl pw x ++ Y)[x']? = some ob → obs'[x']? = some ob) → Bs wx (.slice (some ⟨g, 0, none⟩) dl.length gc) dl) := Lib.hid (fun wx obs' he hk => by
      have hb : OB wx (.slice (some ⟨g, 0, none⟩) (lent dl).length gc) (lent dl) := by rw [lent_length]; exact he.bytes 13 (hk 13 _ (by omega) (by omega) (HY1.out x))
      have := hb.part 0 dl.length (by rw [lent_length]; omega)
      rw [lent_take] at this
      exact this)
    clear hp
    have bG := H4.out.blk 12 (b := G) (HY0.out x)
    have g1 := bG.cellAt 1 rfl
    have g3 := bG.cellAt 3 rfl
    clear bG
    have HT8 : Hid (∀ (W : World) (tv wv v v' : Value) (l : List UInt8), Env w0 W (WM P pl pw (x.tell tv wv v v' l) ++ Y) → SM P G k p.v (rmV (sideM k x.R0 x.R1)) pl pw (.slice ao dl.length cap) W) := by
      rw [← HP.out]
      exact Lib.hid (fun W tv wv v v' l hE => Sg.sa (x := x.tell tv wv v v' l) (on := on) (kd := kd) (kv := .slice ko key.length kcap) (mute := mute) ⟨rfl, HY0.out _⟩ hE k hk2)
    go_upto_block 0 with fail
    clear g1 g3
    go_cut [10, 11, 12, 13, 14, 15, 16, 17, 18, 19, 20, 21, 22] from 47 to 240 (fun ok c11 c12 c13 c14 c15 c16 c17 c18 c19 c20 c21 c22 wx => ok = .bool true ∧ ∃ x', Hid (Env w0 wx (WM P pl pw x' ++ Y)) ∧ Hid (OK13 (i + 2) (m + dl.length) x'))
    case first =>
      by_cases k0 : kd = 0
      · have t0 : (kd == (0 : Int)) = true := by rw [k0]; rfl
        clear k0
        --[k0
        obtain ⟨M1, hM1⟩ : ∃ y, ((WM P pl pw x ++ Y).set jl (obP u6 (p.noteW dl o))).set (10 + k) (p.write dl).om = y := ⟨_, rfl⟩
        have ST1 : Hid (Sg P G pl pw x on kd (.slice ko key.length kcap) (.slice ao dl.length cap) mute M1) := by rw [← hM1]; exact Lib.hid (((ST0.out x).set jl ⟨by omega, by omega⟩ _).set (10 + k) ⟨by omega, by omega⟩ _)
        have K5 : Hid (M1[5]? = some (obM2 x.R0 x.R1)) := by rw [← hM1, List.getElem?_set_ne (by omega), List.getElem?_set_ne (by omega)]; exact Lib.hid rfl
        have KW : Hid (M1[jw]? = some (obR u7 o)) := by rw [← hM1, List.getElem?_set_ne (by omega), List.getElem?_set_ne (by omega)]; exact Lib.hid HS.out.w
        have HM1 := Lib.hid hM1
        clear hM1
        go_upto_region 10 with fail
        refine hd_start (SM P G k p.v (rmV (sideM k x.R0 x.R1)) pl pw (.slice ao dl.length cap)) (by kernel_rfl) ?_
        intro w5 hw'
        have H5 := Lib.hid (H4.out.draw 1)
        rw [← hw'] at H5
        clear hw' H4
        have S5 := HSA.out _ _ (ST0.out x) H5.out
        refine hd_take (v := ?_) 0 rfl (by kernel_rfl) (fun _ _ d _ _ h => (by cases d <;> exact h)) (by kernel_rfl) S5 (fun w' hS => ?_) ?_
        rotate_left
        focus (have q0 := SM.fc w' hS; have q1 := SM.fr w' hS; have q2 := SM.fd w' hS; clear hS; go_simp; try rfl; done)
        simp only [List.getElem_toArray, List.getElem_cons_succ, List.getElem_cons_zero, Act.put, List.setIfInBounds_toArray, List.set_cons_zero, List.set_cons_succ]
        refine hd_take (v := ?_) 1 rfl (by kernel_rfl) (fun _ _ d _ _ h => (by cases d <;> exact h)) (by kernel_rfl) S5 (fun w' hS => ?_) ?_
        rotate_left
        focus (have q0 := SM.fc w' hS; have q1 := SM.fr w' hS; have q2 := SM.fd w' hS; clear hS; go_simp; try rfl; done)
        simp only [List.getElem_toArray, List.getElem_cons_succ, List.getElem_cons_zero, Act.put, List.setIfInBounds_toArray, List.set_cons_zero, List.set_cons_succ]
        refine hd_take (v := ?_) 2 rfl (by kernel_rfl) (fun _ _ d _ _ h => (by cases d <;> exact h)) (by kernel_rfl) S5 (fun w' hS => ?_) ?_
        rotate_left
        focus (have q0 := SM.fc w' hS; have q1 := SM.fr w' hS; have q2 := SM.fd w' hS; clear hS; go_simp; try rfl; done)
        simp only [List.getElem_toArray, List.getElem_cons_succ, List.getElem_cons_zero, Act.put, List.setIfInBounds_toArray, List.set_cons_zero, List.set_cons_succ]
        refine hd_take (v := ?_) 3 rfl (by kernel_rfl) (fun _ _ d _ _ h => (by cases d <;> exact h)) (by kernel_rfl) S5 (fun w' hS => ?_) ?_
        rotate_left
        focus (have q0 := SM.fc w' hS; have q1 := SM.fr w' hS; have q2 := SM.fd w' hS; clear hS; go_simp; try rfl; done)
        simp only [List.getElem_toArray, List.getElem_cons_succ, List.getElem_cons_zero, Act.put, List.setIfInBounds_toArray, List.set_cons_zero, List.set_cons_succ]
        refine hd_take (v := ?_) 4 rfl (by kernel_rfl) (fun _ _ d _ _ h => (by cases d <;> exact h)) (by kernel_rfl) S5 (fun w' hS => ?_) ?_
        rotate_left
        focus (have q0 := SM.fc w' hS; have q1 := SM.fr w' hS; have q2 := SM.fd w' hS; clear hS; go_simp; try rfl; done)
        simp only [List.getElem_toArray, List.getElem_cons_succ, List.getElem_cons_zero, Act.put, List.setIfInBounds_toArray, List.set_cons_zero, List.set_cons_succ]
        refine hd_take (v := ?_) 5 rfl (by kernel_rfl) (fun _ _ d _ _ h => (by cases d <;> exact h)) (by kernel_rfl) S5 (fun w' hS => ?_) ?_
        rotate_left
        focus (have q0 := SM.fc w' hS; have q1 := SM.fr w' hS; have q2 := SM.fd w' hS; clear hS; go_simp; try rfl; done)
        simp only [List.getElem_toArray, List.getElem_cons_succ, List.getElem_cons_zero, Act.put, List.setIfInBounds_toArray, List.set_cons_zero, List.set_cons_succ]
        refine hd_take (v := ?_) 6 rfl (by kernel_rfl) (fun _ _ d _ _ h => (by cases d <;> exact h)) (by kernel_rfl) S5 (fun w' hS => ?_) ?_
        rotate_left
        focus (have q0 := SM.fc w' hS; have q1 := SM.fr w' hS; have q2 := SM.fd w' hS; clear hS; go_simp; try rfl; done)
        simp only [List.getElem_toArray, List.getElem_cons_succ, List.getElem_cons_zero, Act.put, List.setIfInBounds_toArray, List.set_cons_zero, List.set_cons_succ]
        refine hd_take (v := ?_) 7 rfl (by kernel_rfl) (fun _ _ d _ _ h => (by cases d <;> exact h)) (by kernel_rfl) S5 (fun w' hS => ?_) ?_
        rotate_left
        focus (have q0 := SM.fc w' hS; have q1 := SM.fr w' hS; have q2 := SM.fd w' hS; clear hS; go_simp; try rfl; done)
        simp only [List.getElem_toArray, List.getElem_cons_succ, List.getElem_cons_zero, Act.put, List.setIfInBounds_toArray, List.set_cons_zero, List.set_cons_succ]
        refine hd_take (v := ?_) 9 rfl (by kernel_rfl) (fun _ _ d _ _ h => (by cases d <;> exact h)) (by kernel_rfl) S5 (fun w' hS => ?_) ?_
        rotate_left
        focus (have q0 := SM.fc w' hS; have q1 := SM.fr w' hS; have q2 := SM.fd w' hS; clear hS; go_simp; try rfl; done)
        simp only [List.getElem_toArray, List.getElem_cons_succ, List.getElem_cons_zero, Act.put, List.setIfInBounds_toArray, List.set_cons_zero, List.set_cons_succ]
        refine hd_take (v := ?_) 10 rfl (by kernel_rfl) (fun _ _ d _ _ h => (by cases d <;> exact h)) (by kernel_rfl) S5 (fun w' hS => ?_) ?_
        rotate_left
        focus (have q0 := SM.fc w' hS; have q1 := SM.fr w' hS; have q2 := SM.fd w' hS; clear hS; go_simp; try rfl; done)
        simp only [List.getElem_toArray, List.getElem_cons_succ, List.getElem_cons_zero, Act.put, List.setIfInBounds_toArray, List.set_cons_zero, List.set_cons_succ]
        refine hd_take (v := ?_) 11 rfl (by kernel_rfl) (fun _ _ d _ _ h => (by cases d <;> exact h)) (by kernel_rfl) S5 (fun w' hS => ?_) ?_
        rotate_left
        focus (have q0 := SM.fc w' hS; have q1 := SM.fr w' hS; have q2 := SM.fd w' hS; clear hS; go_simp; try rfl; done)
        simp only [List.getElem_toArray, List.getElem_cons_succ, List.getElem_cons_zero, Act.put, List.setIfInBounds_toArray, List.set_cons_zero, List.set_cons_succ]
        refine hd_take (v := ?_) 12 rfl (by kernel_rfl) (fun _ _ d _ _ h => (by cases d <;> exact h)) (by kernel_rfl) S5 (fun w' hS => ?_) ?_
        rotate_left
        focus (have q0 := SM.fc w' hS; have q1 := SM.fr w' hS; have q2 := SM.fd w' hS; clear hS; go_simp; try rfl; done)
        simp only [List.getElem_toArray, List.getElem_cons_succ, List.getElem_cons_zero, Act.put, List.setIfInBounds_toArray, List.set_cons_zero, List.set_cons_succ]
        refine hd_take (v := ?_) 13 rfl (by kernel_rfl) (fun _ _ d _ _ h => (by cases d <;> exact h)) (by kernel_rfl) S5 (fun w' hS => ?_) ?_
        rotate_left
        focus (have q0 := SM.fc w' hS; have q1 := SM.fr w' hS; have q2 := SM.fd w' hS; clear hS; go_simp; try rfl; done)
        simp only [List.getElem_toArray, List.getElem_cons_succ, List.getElem_cons_zero, Act.put, List.setIfInBounds_toArray, List.set_cons_zero, List.set_cons_succ]
        refine hd_take (v := ?_) 14 rfl (by kernel_rfl) (fun _ _ d _ _ h => (by cases d <;> exact h)) (by kernel_rfl) S5 (fun w' hS => ?_) ?_
        rotate_left
        focus (have q0 := SM.fc w' hS; have q1 := SM.fr w' hS; have q2 := SM.fd w' hS; clear hS; go_simp; try rfl; done)
        simp only [List.getElem_toArray, List.getElem_cons_succ, List.getElem_cons_zero, Act.put, List.setIfInBounds_toArray, List.set_cons_zero, List.set_cons_succ]
        refine hd_take (v := ?_) 15 rfl (by kernel_rfl) (fun _ _ d _ _ h => (by cases d <;> exact h)) (by kernel_rfl) S5 (fun w' hS => ?_) ?_
        rotate_left
        focus (have q0 := SM.fc w' hS; have q1 := SM.fr w' hS; have q2 := SM.fd w' hS; clear hS; go_simp; try rfl; done)
        simp only [List.getElem_toArray, List.getElem_cons_succ, List.getElem_cons_zero, Act.put, List.setIfInBounds_toArray, List.set_cons_zero, List.set_cons_succ]
        refine hd_take (v := ?_) 16 rfl (by kernel_rfl) (fun _ _ d _ _ h => (by cases d <;> exact h)) (by kernel_rfl) S5 (fun w' hS => ?_) ?_
        rotate_left
        focus (have q0 := SM.fc w' hS; have q1 := SM.fr w' hS; have q2 := SM.fd w' hS; clear hS; go_simp; try rfl; done)
        simp only [List.getElem_toArray, List.getElem_cons_succ, List.getElem_cons_zero, Act.put, List.setIfInBounds_toArray, List.set_cons_zero, List.set_cons_succ]
        refine hd_take (v := ?_) 17 rfl (by kernel_rfl) (fun _ _ d _ _ h => (by cases d <;> exact h)) (by kernel_rfl) S5 (fun w' hS => ?_) ?_
        rotate_left
        focus (have q0 := SM.fc w' hS; have q1 := SM.fr w' hS; have q2 := SM.fd w' hS; clear hS; go_simp; try rfl; done)
        simp only [List.getElem_toArray, List.getElem_cons_succ, List.getElem_cons_zero, Act.put, List.setIfInBounds_toArray, List.set_cons_zero, List.set_cons_succ]
        refine hd_one 8 (by kernel_rfl) ?_
        refine op_call rfl (by kernel_rfl) (by go_simp; first | exact ⟨rfl, rfl⟩ | rfl) ?_
        refine (writeP_all H5.out (3 + k) (10 + k) jl (by omega) n8 n10 I3.out I10.out HS.out.l HR.out HRD.out (by omega) hlots.out).mono ?_
        rintro e w6 ⟨he, h5⟩
        subst he
        rw [HM1.out] at h5
        have H6 := Lib.hid h5
        clear h5
        have hS2 := HSA.out _ _ ST1.out H6.out
        refine ⟨_, rfl, hS2, ?_⟩
        simp only [List.getElem_toArray, List.getElem_cons_succ, List.getElem_cons_zero, Act.put, List.setIfInBounds_toArray, List.set_cons_zero, List.set_cons_succ]
        refine hd_one 18 (by kernel_rfl) ?_
        refine op_call rfl (by kernel_rfl) (by go_simp; first | exact ⟨rfl, rfl⟩ | rfl) ?_
        refine (rmWrite_all H6.out 5 jw (by omega) K5.out KW.out k hk2 HR.out HD.out (by have := HPL.out; omega) hlots.out).mono ?_
        rintro e w7 ⟨he, R, hRr, hRv, h5⟩
        subst he
        have H7 := Lib.hid h5
        have HRR := Lib.hid (And.intro hRr hRv)
        clear h5 hRr hRv
        have hS2 := HSA.out _ _ ((ST1.out.set 5 (by omega) _).set jw (by omega) _) H7.out
        have S7 := hS2
        refine ⟨_, rfl, hS2, ?_⟩
        simp only [List.getElem_toArray, List.getElem_cons_succ, List.getElem_cons_zero, Act.put, List.setIfInBounds_toArray, List.set_cons_zero, List.set_cons_succ]
        refine hd_take (v := ?_) 19 rfl (by kernel_rfl) (fun _ _ d _ _ h => (by cases d <;> exact h)) (by kernel_rfl) S7 (fun w' hS => ?_) ?_
        rotate_left
        focus (clear hS; go_simp; try rfl; done)
        simp only [List.getElem_toArray, List.getElem_cons_succ, List.getElem_cons_zero, Act.put, List.setIfInBounds_toArray, List.set_cons_zero, List.set_cons_succ]
        refine hd_take (v := ?_) 20 rfl (by kernel_rfl) (fun _ _ d _ _ h => (by cases d <;> exact h)) (by kernel_rfl) S7 (fun w' hS => ?_) ?_
        rotate_left
        focus (clear hS; go_simp; try rfl; done)
        simp only [List.getElem_toArray, List.getElem_cons_succ, List.getElem_cons_zero, Act.put, List.setIfInBounds_toArray, List.set_cons_zero, List.set_cons_succ]
        refine hd_done (by kernel_rfl) ?_
        clear S5 S7
        go_wp2_with fail
        go_meet
        obtain ⟨rs', hset, hok⟩ := HS.out.note (P := P) (p.updW dl o 4000 (by have := HPL.out; omega)) (by omega) HX.out
        have h9 := H7.out
        rw [← HM1.out] at h9
        have hp := HP.out
        have hpl := HPL.out
        have hrr := HRR.out.1
        have hrv := HRR.out.2
        subst hp
        refine ⟨rfl, (x.led rs').setS k ((sdM k x).write dl) R, Lib.hid (end_write HS.out k hk2 hrv hset h9), Lib.hid ((hok.set k hk2 hrr (by omega) (by have := Pm.write_len (sdM k x) dl; omega)).up (Nat.le_refl _) (by omega))⟩
        --]k0
      · have t0 : (kd == (0 : Int)) = false := by rw [beq_eq_false_iff_ne]; exact k0
        clear k0
        by_cases k1 : kd = 1
        · have t1 : (kd == (1 : Int)) = true := by rw [k1]; rfl
          clear k1
          --[k1
          have d0 := (HSA.out _ _ (ST0.out x) H4.out).c
          go_wp2_with fail
          refine (sumP_all H4.out (3 + k) (10 + k) jl (by omega) n8 n10 I3.out I10.out HS.out.l HR.out hlots.out).mono ?_
          rintro e w5 ⟨v, rfl, h5⟩
          obtain ⟨ua, uc, hu1, _⟩ := (h5.bytesX ((WM P pl pw x ++ Y).set jl (obP u6 (p.noteS o))).length (v := v) (l := p.tag) (at_r rfl 0)).form
          subst hu1
          have H5 := Lib.hid h5
          clear h5 d0
          have d0 := (HSA.out _ _ (((ST0.out x).set jl ⟨by omega, by omega⟩ _).more _) H5.out).r
          go_wp2_with fail
          refine (rmSum_all H5.out 5 jw (by omega) (r := x.R0) (s := x.R1) (q := u7) (o := o) (by rw [List.getElem?_append_left (by rw [List.length_set, List.length_append, WM_len]; omega), List.getElem?_set_ne (by omega)]; rfl) (by rw [List.getElem?_append_left (by rw [List.length_set, List.length_append, WM_len]; omega), List.getElem?_set_ne (by omega)]; exact HS.out.w) k HR.out (by have := HPL.out; omega) hlots.out).mono ?_
          rintro e w6 ⟨v', rfl, h6⟩
          clear d0
          obtain ⟨va, vc, hv1, _⟩ := (h6.bytesX (((WM P pl pw x ++ Y).set jl (obP u6 (p.noteS o)) ++ [obBX (.slice ua (p.tag).length uc) (p.tag)]).set jw (obR u7 (p.noteS o))).length (v := v') (l := p.tag) (at_r rfl 0)).form
          subst hv1
          obtain ⟨rs', hset, hok⟩ := HS.out.note (P := P) (p.updS o) (by omega) HX.out
          have h7 : Env w0 w6 (WM P pl pw (x.led rs') ++ Y ++ [obBX (.slice ua (p.tag).length uc) (p.tag), obBX (.slice va (p.tag).length vc) (p.tag)]) := by
            rw [List.set_append_left _ _ (by rw [List.length_set, List.length_append, WM_len]; omega), hset] at h6
            simpa using h6
          have H7 := Lib.hid h7
          have HOK := Lib.hid hok
          have hsm : (p.tag).length ≤ 400 := Pm.tag_len p
          have HSM := Lib.hid hsm
          have hts : x.ts.length ≤ 5000000000 ∧ x.ws.length ≤ 5000000000 := by have := HX.out.tl; have := HX.out.wl; omega
          have HTS := Lib.hid hts
          clear h6 h7 hset hok hsm hts H5
          go_wp2_with fail
          refine (tell13 H7.out HTS.out.1 HTS.out.2 HSM.out).mono ?_
          rintro e w7 hT
          obtain ⟨rfl, tv, wv, h8⟩ := hT.ex
          have H8 := Lib.hid h8
          clear h8 hT H7
          go_wp2_with fail
          go_meet
          exact ⟨rfl, _, H8, Lib.hid ((HOK.out.tell tv wv _ _ HSM.out).up (by omega) (by omega))⟩
          --]k1
        · have t1 : (kd == (1 : Int)) = false := by rw [beq_eq_false_iff_ne]; exact k1
          clear k1
          by_cases k2 : kd = 2
          · have t2 : (kd == (2 : Int)) = true := by rw [k2]; rfl
            clear k2
            --[k2
            obtain ⟨M1, hM1⟩ : ∃ y, (WM P pl pw x ++ Y).set (10 + k) p.reset.om = y := ⟨_, rfl⟩
            have ST1 : Hid (Sg P G pl pw x on kd (.slice ko key.length kcap) (.slice ao dl.length cap) mute M1) := by rw [← hM1]; exact Lib.hid ((ST0.out x).set (10 + k) ⟨by omega, by omega⟩ _)
            have K5 : Hid (M1[5]? = some (obM2 x.R0 x.R1)) := by rw [← hM1, List.getElem?_set_ne (by omega)]; exact Lib.hid rfl
            have HM1 := Lib.hid hM1
            clear hM1
            go_upto_region 16 with fail
            refine hd_start (SM P G k p.v (rmV (sideM k x.R0 x.R1)) pl pw (.slice ao dl.length cap)) (by kernel_rfl) ?_
            intro w5 hw'
            have H5 := Lib.hid (H4.out.draw 1)
            rw [← hw'] at H5
            clear hw' H4
            have S5 := HSA.out _ _ (ST0.out x) H5.out
            refine hd_take (v := ?_) 0 rfl (by kernel_rfl) (fun _ _ d _ _ h => (by cases d <;> exact h)) (by kernel_rfl) S5 (fun w' hS => ?_) ?_
            rotate_left
            focus (have q0 := SM.fc w' hS; have q1 := SM.fr w' hS; clear hS; go_simp; try rfl; done)
            simp only [List.getElem_toArray, List.getElem_cons_succ, List.getElem_cons_zero, Act.put, List.setIfInBounds_toArray, List.set_cons_zero, List.set_cons_succ]
            refine hd_take (v := ?_) 1 rfl (by kernel_rfl) (fun _ _ d _ _ h => (by cases d <;> exact h)) (by kernel_rfl) S5 (fun w' hS => ?_) ?_
            rotate_left
            focus (have q0 := SM.fc w' hS; have q1 := SM.fr w' hS; clear hS; go_simp; try rfl; done)
            simp only [List.getElem_toArray, List.getElem_cons_succ, List.getElem_cons_zero, Act.put, List.setIfInBounds_toArray, List.set_cons_zero, List.set_cons_succ]
            refine hd_take (v := ?_) 2 rfl (by kernel_rfl) (fun _ _ d _ _ h => (by cases d <;> exact h)) (by kernel_rfl) S5 (fun w' hS => ?_) ?_
            rotate_left
            focus (have q0 := SM.fc w' hS; have q1 := SM.fr w' hS; clear hS; go_simp; try rfl; done)
            simp only [List.getElem_toArray, List.getElem_cons_succ, List.getElem_cons_zero, Act.put, List.setIfInBounds_toArray, List.set_cons_zero, List.set_cons_succ]
            refine hd_take (v := ?_) 3 rfl (by kernel_rfl) (fun _ _ d _ _ h => (by cases d <;> exact h)) (by kernel_rfl) S5 (fun w' hS => ?_) ?_
            rotate_left
            focus (have q0 := SM.fc w' hS; have q1 := SM.fr w' hS; clear hS; go_simp; try rfl; done)
            simp only [List.getElem_toArray, List.getElem_cons_succ, List.getElem_cons_zero, Act.put, List.setIfInBounds_toArray, List.set_cons_zero, List.set_cons_succ]
            refine hd_take (v := ?_) 4 rfl (by kernel_rfl) (fun _ _ d _ _ h => (by cases d <;> exact h)) (by kernel_rfl) S5 (fun w' hS => ?_) ?_
            rotate_left
            focus (have q0 := SM.fc w' hS; have q1 := SM.fr w' hS; clear hS; go_simp; try rfl; done)
            simp only [List.getElem_toArray, List.getElem_cons_succ, List.getElem_cons_zero, Act.put, List.setIfInBounds_toArray, List.set_cons_zero, List.set_cons_succ]
            refine hd_take (v := ?_) 5 rfl (by kernel_rfl) (fun _ _ d _ _ h => (by cases d <;> exact h)) (by kernel_rfl) S5 (fun w' hS => ?_) ?_
            rotate_left
            focus (have q0 := SM.fc w' hS; have q1 := SM.fr w' hS; clear hS; go_simp; try rfl; done)
            simp only [List.getElem_toArray, List.getElem_cons_succ, List.getElem_cons_zero, Act.put, List.setIfInBounds_toArray, List.set_cons_zero, List.set_cons_succ]
            refine hd_take (v := ?_) 7 rfl (by kernel_rfl) (fun _ _ d _ _ h => (by cases d <;> exact h)) (by kernel_rfl) S5 (fun w' hS => ?_) ?_
            rotate_left
            focus (have q0 := SM.fc w' hS; have q1 := SM.fr w' hS; clear hS; go_simp; try rfl; done)
            simp only [List.getElem_toArray, List.getElem_cons_succ, List.getElem_cons_zero, Act.put, List.setIfInBounds_toArray, List.set_cons_zero, List.set_cons_succ]
            refine hd_take (v := ?_) 8 rfl (by kernel_rfl) (fun _ _ d _ _ h => (by cases d <;> exact h)) (by kernel_rfl) S5 (fun w' hS => ?_) ?_
            rotate_left
            focus (have q0 := SM.fc w' hS; have q1 := SM.fr w' hS; clear hS; go_simp; try rfl; done)
            simp only [List.getElem_toArray, List.getElem_cons_succ, List.getElem_cons_zero, Act.put, List.setIfInBounds_toArray, List.set_cons_zero, List.set_cons_succ]
            refine hd_take (v := ?_) 9 rfl (by kernel_rfl) (fun _ _ d _ _ h => (by cases d <;> exact h)) (by kernel_rfl) S5 (fun w' hS => ?_) ?_
            rotate_left
            focus (have q0 := SM.fc w' hS; have q1 := SM.fr w' hS; clear hS; go_simp; try rfl; done)
            simp only [List.getElem_toArray, List.getElem_cons_succ, List.getElem_cons_zero, Act.put, List.setIfInBounds_toArray, List.set_cons_zero, List.set_cons_succ]
            refine hd_take (v := ?_) 10 rfl (by kernel_rfl) (fun _ _ d _ _ h => (by cases d <;> exact h)) (by kernel_rfl) S5 (fun w' hS => ?_) ?_
            rotate_left
            focus (have q0 := SM.fc w' hS; have q1 := SM.fr w' hS; clear hS; go_simp; try rfl; done)
            simp only [List.getElem_toArray, List.getElem_cons_succ, List.getElem_cons_zero, Act.put, List.setIfInBounds_toArray, List.set_cons_zero, List.set_cons_succ]
            refine hd_take (v := ?_) 11 rfl (by kernel_rfl) (fun _ _ d _ _ h => (by cases d <;> exact h)) (by kernel_rfl) S5 (fun w' hS => ?_) ?_
            rotate_left
            focus (have q0 := SM.fc w' hS; have q1 := SM.fr w' hS; clear hS; go_simp; try rfl; done)
            simp only [List.getElem_toArray, List.getElem_cons_succ, List.getElem_cons_zero, Act.put, List.setIfInBounds_toArray, List.set_cons_zero, List.set_cons_succ]
            refine hd_take (v := ?_) 12 rfl (by kernel_rfl) (fun _ _ d _ _ h => (by cases d <;> exact h)) (by kernel_rfl) S5 (fun w' hS => ?_) ?_
            rotate_left
            focus (have q0 := SM.fc w' hS; have q1 := SM.fr w' hS; clear hS; go_simp; try rfl; done)
            simp only [List.getElem_toArray, List.getElem_cons_succ, List.getElem_cons_zero, Act.put, List.setIfInBounds_toArray, List.set_cons_zero, List.set_cons_succ]
            refine hd_one 6 (by kernel_rfl) ?_
            refine op_call rfl (by kernel_rfl) (by go_simp; first | exact ⟨rfl, rfl⟩ | rfl) ?_
            refine (resetP_all H5.out (10 + k) I10.out).mono ?_
            rintro e w6 ⟨he, h5⟩
            subst he
            rw [HM1.out] at h5
            have H6 := Lib.hid h5
            clear h5
            have hS2 := HSA.out _ _ ST1.out H6.out
            refine ⟨_, rfl, hS2, ?_⟩
            simp only [List.getElem_toArray, List.getElem_cons_succ, List.getElem_cons_zero, Act.put, List.setIfInBounds_toArray, List.set_cons_zero, List.set_cons_succ]
            refine hd_one 13 (by kernel_rfl) ?_
            refine op_call rfl (by kernel_rfl) (by go_simp; first | exact ⟨rfl, rfl⟩ | rfl) ?_
            refine (rmReset_all H6.out 5 K5.out k hk2 HR.out).mono ?_
            rintro e w7 ⟨he, R, hRr, hRv, h5⟩
            subst he
            have H7 := Lib.hid h5
            have HRR := Lib.hid (And.intro hRr hRv)
            clear h5 hRr hRv
            have hS2 := HSA.out _ _ (ST1.out.set 5 (by omega) _) H7.out
            have S7 := hS2
            refine ⟨_, rfl, hS2, ?_⟩
            simp only [List.getElem_toArray, List.getElem_cons_succ, List.getElem_cons_zero, Act.put, List.setIfInBounds_toArray, List.set_cons_zero, List.set_cons_succ]
            refine hd_take (v := ?_) 14 rfl (by kernel_rfl) (fun _ _ d _ _ h => (by cases d <;> exact h)) (by kernel_rfl) S7 (fun w' hS => ?_) ?_
            rotate_left
            focus (clear hS; go_simp; try rfl; done)
            simp only [List.getElem_toArray, List.getElem_cons_succ, List.getElem_cons_zero, Act.put, List.setIfInBounds_toArray, List.set_cons_zero, List.set_cons_succ]
            refine hd_take (v := ?_) 15 rfl (by kernel_rfl) (fun _ _ d _ _ h => (by cases d <;> exact h)) (by kernel_rfl) S7 (fun w' hS => ?_) ?_
            rotate_left
            focus (clear hS; go_simp; try rfl; done)
            simp only [List.getElem_toArray, List.getElem_cons_succ, List.getElem_cons_zero, Act.put, List.setIfInBounds_toArray, List.set_cons_zero, List.set_cons_succ]
            refine hd_done (by kernel_rfl) ?_
            clear S5 S7
            go_wp2_with fail
            go_meet
            have h9 := H7.out
            rw [← HM1.out] at h9
            have hp := HP.out
            have hpl := HPL.out
            have hrr := HRR.out.1
            have hrv := HRR.out.2
            subst hp
            refine ⟨rfl, x.setS k (sdM k x).reset R, Lib.hid (end_reset k hk2 hrv h9), Lib.hid ((HX.out.set k hk2 hrr (by omega) (by have := Pm.reset_len (sdM k x); omega)).up (Nat.le_refl _) (by omega))⟩
            --]k2
          · have t2 : (kd == (2 : Int)) = false := by rw [beq_eq_false_iff_ne]; exact k2
            clear k2
            by_cases k3 : kd = 3
            · have t3 : (kd == (3 : Int)) = true := by rw [k3]; rfl
              clear k3
              --[k3
              obtain ⟨k', hk'⟩ : ∃ k', 1 - k = k' := ⟨_, rfl⟩
              have hk'I : (1 : Int) - (k : Int) = (k' : Int) := by omega
              have hk'2 : k' < 2 := by omega
              have bk' : 0 ≤ (k' : Int) ∧ (k' : Int) < 2 := by omega
              have HK' := Lib.hid hk'
              clear hk'
              cases hm : p.made
              · have HM := Lib.hid hm
                clear hm
                have hmm := madeM_no H4.out (10 + k) I10.out HM.out
                have HMM := Lib.hid hmm
                clear hmm
                have d0 := (HSA.out _ _ (ST0.out x) H4.out).c
                have d1 := (HSA.out _ _ (ST0.out x) H4.out).r
                go_wp2_with fail
                refine (cloneM_no HMM.out).mono ?_
                rintro e w5 ⟨rfl, rfl⟩
                go_wp2_with fail
                refine (rmClone_no H4.out 5 (r := x.R0) (s := x.R1) rfl k (HR.out.made.trans HM.out)).mono ?_
                rintro e w6 ⟨rfl, rfl⟩
                clear d0 d1
                go_wp2_with fail
                go_meet
                exact ⟨rfl, x, H4, Lib.hid (HX.out.up (by omega) (by omega))⟩
              · obtain ⟨b, c, kk, msg, hpe⟩ := Pm.is_live hm
                subst hpe
                obtain ⟨r, hR, hRm, hRk, hRg, hRL⟩ := HR.out.get
                have HM := Lib.hid (And.intro hR (And.intro hRm (And.intro hRk (And.intro hRg hRL))))
                have d0 : w4.cell? ⟨P, k, none⟩ = some (.pointer (some ⟨b, 0, none⟩)) := (HSA.out _ _ (ST0.out x) H4.out).c
                clear hm hR hRm hRk hRg hRL
                go_wp2_with fail
                refine (cloneM_env H4.out (3 + k) (10 + k) (b := b) (c := c) (k := kk.length) (K := sched kk) (m := (stM kk msg).1) I3.out I10.out (stM_ok kk msg) (HM.out.2.2.2.2).bd.1).mono ?_
                rintro e w5 ⟨b2, c2, rfl, h5⟩
                have H5 : Hid (Env w0 w5 ((WM P pl pw x ++ Y) ++ [(Pm.live b2 c2 kk msg).om, (Pm.live b2 c2 kk msg).oc])) := Lib.hid h5
                clear h5 d0
                have d1 := (HSA.out _ _ ((ST0.out x).more _) H5.out).r
                rw [HM.out.1] at d1
                have d1 : w5.cell? ⟨P, 2 + k, none⟩ = some (.pointer (some ⟨r.b, 0, none⟩)) := d1
                go_wp2_with fail
                refine (rmClone_env H5.out 5 (r := x.R0) (s := x.R1) rfl k hk2 r HM.out.1 HM.out.2.1).mono ?_
                rintro e w6 ⟨b', rfl, h6⟩
                clear d1
                rw [List.set_append_left _ _ (by rw [List.length_append, WM_len]; omega)] at h6
                have hst : Sg P G pl pw x on kd (.slice ko key.length kcap) (.slice ao dl.length cap) mute ((WM P pl pw x ++ Y).set 5 (obM2 (mth1 k x.R0 (some { r with b := b', made := true })) (mth2 k x.R1 (some { r with b := b', made := true }))) ++ [(Pm.live b2 c2 kk msg).om, (Pm.live b2 c2 kk msg).oc]) := ((ST0.out x).set 5 (by omega) _).more _
                have hP1 := h6.blk 0 (b := P) hst.p0
                have f0 := hP1.unfrozen k'
                have d0 := hP1.cellAt k' (pairM_c k' hk'2)
                have hP2 := hP1.set k' (.pointer (some ⟨b2, 0, none⟩))
                have f1 := hP2.unfrozen (2 + k')
                have d1 : (w6.setCell ⟨P, k', none⟩ (.pointer (some ⟨b2, 0, none⟩))).cell? ⟨P, 2 + k', none⟩ = some (rmV (sideM k' x.R0 x.R1)) := hP2.cellAt (2 + k') (by rw [Array.getElem?_setIfInBounds_ne (by omega)]; exact pairM_r k' hk'2)
                have hbP := hP1.lt
                have h7 := h6.turnBlk 0 (b := P) hst.p0 (hP2.set (2 + k') (.pointer (some ⟨b', 0, none⟩))) (((Only.refl (fun x => x = P) w6).set (p := ⟨P, k', none⟩) (.inl rfl) _).set (p := ⟨P, 2 + k', none⟩) (.inl rfl) _)
                rw [List.set_append_left _ _ (by rw [List.length_set, List.length_append, WM_len]; omega)] at h7
                have h8 := h7.swapTwo (3 + k') (10 + k') (by rw [List.length_set, List.length_set, List.length_append, WM_len]; omega) (by rw [List.length_set, List.length_set, List.length_append, WM_len]; omega)
                have e9 : (((((WM P pl pw x ++ Y).set 5 (obM2 (mth1 k x.R0 (some { r with b := b', made := true })) (mth2 k x.R1 (some { r with b := b', made := true })))).set 0 (obK P 68 (((pairM pl pw x).setIfInBounds k' (.pointer (some ⟨b2, 0, none⟩))).setIfInBounds (2 + k') (.pointer (some ⟨b', 0, none⟩))))).set (3 + k') (Pm.live b2 c2 kk msg).oc).set (10 + k') (Pm.live b2 c2 kk msg).om) = WM P pl pw (x.setS k' (.live b2 c2 kk msg) (some { r with b := b', made := true })) ++ Y := by
                  rw [← HK'.out]
                  rcases (by omega : k = 0 ∨ k = 1) with rfl | rfl <;> rfl
                rw [e9] at h8
                have hrel : relM (.live b2 c2 kk msg) (some { r with b := b', made := true }) := ⟨rfl, HM.out.2.2.1, HM.out.2.2.2.1, HM.out.2.2.2.2⟩
                have H8 := Lib.hid h8
                have HOK := Lib.hid (HX.out.set k' hk'2 hrel (show m ≤ m + dl.length by omega) (by have := HPL.out; show msg.length ≤ _; simp only [Pm.msgLen] at this; omega))
                clear h6 h7 h8 hP1 hP2 hrel H5 hst e9
                go_wp2_with fail
                go_meet
                exact ⟨rfl, _, H8, Lib.hid (HOK.out.up (Nat.le_refl _) (by omega))⟩
              --]k3
            · have t3 : (kd == (3 : Int)) = false := by rw [beq_eq_false_iff_ne]; exact k3
              clear k3
              by_cases k4 : kd = 4
              · have t4 : (kd == (4 : Int)) = true := by rw [k4]; rfl
                clear k4
                --[k4
                obtain ⟨M1, hM1⟩ : ∃ y, (((WM P pl pw x ++ Y).set jl (obP u6 (p.noteX o))).set (3 + k) p.wipe.oc).set (10 + k) p.wipe.om = y := ⟨_, rfl⟩
                have ST1 : Hid (Sg P G pl pw x on kd (.slice ko key.length kcap) (.slice ao dl.length cap) mute M1) := by rw [← hM1]; exact Lib.hid ((((ST0.out x).set jl ⟨by omega, by omega⟩ _).set (3 + k) ⟨by omega, by omega⟩ _).set (10 + k) ⟨by omega, by omega⟩ _)
                have K5 : Hid (M1[5]? = some (obM2 x.R0 x.R1)) := by rw [← hM1, List.getElem?_set_ne (by omega), List.getElem?_set_ne (by omega), List.getElem?_set_ne (by omega)]; exact Lib.hid rfl
                have KW : Hid (M1[jw]? = some (obR u7 o)) := by rw [← hM1, List.getElem?_set_ne (by omega), List.getElem?_set_ne (by omega), List.getElem?_set_ne (by omega)]; exact Lib.hid HS.out.w
                have HM1 := Lib.hid hM1
                clear hM1
                go_upto_region 25 with fail
                refine hd_start (SM P G k p.v (rmV (sideM k x.R0 x.R1)) pl pw (.slice ao dl.length cap)) (by kernel_rfl) ?_
                intro w5 hw'
                have H5 := Lib.hid (H4.out.draw 1)
                rw [← hw'] at H5
                clear hw' H4
                have S5 := HSA.out _ _ (ST0.out x) H5.out
                refine hd_take (v := ?_) 0 rfl (by kernel_rfl) (fun _ _ d _ _ h => (by cases d <;> exact h)) (by kernel_rfl) S5 (fun w' hS => ?_) ?_
                rotate_left
                focus (have q0 := SM.fc w' hS; have q1 := SM.fr w' hS; clear hS; go_simp; try rfl; done)
                simp only [List.getElem_toArray, List.getElem_cons_succ, List.getElem_cons_zero, Act.put, List.setIfInBounds_toArray, List.set_cons_zero, List.set_cons_succ]
                refine hd_take (v := ?_) 1 rfl (by kernel_rfl) (fun _ _ d _ _ h => (by cases d <;> exact h)) (by kernel_rfl) S5 (fun w' hS => ?_) ?_
                rotate_left
                focus (have q0 := SM.fc w' hS; have q1 := SM.fr w' hS; clear hS; go_simp; try rfl; done)
                simp only [List.getElem_toArray, List.getElem_cons_succ, List.getElem_cons_zero, Act.put, List.setIfInBounds_toArray, List.set_cons_zero, List.set_cons_succ]
                refine hd_take (v := ?_) 2 rfl (by kernel_rfl) (fun _ _ d _ _ h => (by cases d <;> exact h)) (by kernel_rfl) S5 (fun w' hS => ?_) ?_
                rotate_left
                focus (have q0 := SM.fc w' hS; have q1 := SM.fr w' hS; clear hS; go_simp; try rfl; done)
                simp only [List.getElem_toArray, List.getElem_cons_succ, List.getElem_cons_zero, Act.put, List.setIfInBounds_toArray, List.set_cons_zero, List.set_cons_succ]
                refine hd_take (v := ?_) 3 rfl (by kernel_rfl) (fun _ _ d _ _ h => (by cases d <;> exact h)) (by kernel_rfl) S5 (fun w' hS => ?_) ?_
                rotate_left
                focus (have q0 := SM.fc w' hS; have q1 := SM.fr w' hS; clear hS; go_simp; try rfl; done)
                simp only [List.getElem_toArray, List.getElem_cons_succ, List.getElem_cons_zero, Act.put, List.setIfInBounds_toArray, List.set_cons_zero, List.set_cons_succ]
                refine hd_take (v := ?_) 4 rfl (by kernel_rfl) (fun _ _ d _ _ h => (by cases d <;> exact h)) (by kernel_rfl) S5 (fun w' hS => ?_) ?_
                rotate_left
                focus (have q0 := SM.fc w' hS; have q1 := SM.fr w' hS; clear hS; go_simp; try rfl; done)
                simp only [List.getElem_toArray, List.getElem_cons_succ, List.getElem_cons_zero, Act.put, List.setIfInBounds_toArray, List.set_cons_zero, List.set_cons_succ]
                refine hd_take (v := ?_) 5 rfl (by kernel_rfl) (fun _ _ d _ _ h => (by cases d <;> exact h)) (by kernel_rfl) S5 (fun w' hS => ?_) ?_
                rotate_left
                focus (have q0 := SM.fc w' hS; have q1 := SM.fr w' hS; clear hS; go_simp; try rfl; done)
                simp only [List.getElem_toArray, List.getElem_cons_succ, List.getElem_cons_zero, Act.put, List.setIfInBounds_toArray, List.set_cons_zero, List.set_cons_succ]
                refine hd_take (v := ?_) 6 rfl (by kernel_rfl) (fun _ _ d _ _ h => (by cases d <;> exact h)) (by kernel_rfl) S5 (fun w' hS => ?_) ?_
                rotate_left
                focus (have q0 := SM.fc w' hS; have q1 := SM.fr w' hS; clear hS; go_simp; try rfl; done)
                simp only [List.getElem_toArray, List.getElem_cons_succ, List.getElem_cons_zero, Act.put, List.setIfInBounds_toArray, List.set_cons_zero, List.set_cons_succ]
                refine hd_take (v := ?_) 8 rfl (by kernel_rfl) (fun _ _ d _ _ h => (by cases d <;> exact h)) (by kernel_rfl) S5 (fun w' hS => ?_) ?_
                rotate_left
                focus (have q0 := SM.fc w' hS; have q1 := SM.fr w' hS; clear hS; go_simp; try rfl; done)
                simp only [List.getElem_toArray, List.getElem_cons_succ, List.getElem_cons_zero, Act.put, List.setIfInBounds_toArray, List.set_cons_zero, List.set_cons_succ]
                refine hd_take (v := ?_) 9 rfl (by kernel_rfl) (fun _ _ d _ _ h => (by cases d <;> exact h)) (by kernel_rfl) S5 (fun w' hS => ?_) ?_
                rotate_left
                focus (have q0 := SM.fc w' hS; have q1 := SM.fr w' hS; clear hS; go_simp; try rfl; done)
                simp only [List.getElem_toArray, List.getElem_cons_succ, List.getElem_cons_zero, Act.put, List.setIfInBounds_toArray, List.set_cons_zero, List.set_cons_succ]
                refine hd_take (v := ?_) 10 rfl (by kernel_rfl) (fun _ _ d _ _ h => (by cases d <;> exact h)) (by kernel_rfl) S5 (fun w' hS => ?_) ?_
                rotate_left
                focus (have q0 := SM.fc w' hS; have q1 := SM.fr w' hS; clear hS; go_simp; try rfl; done)
                simp only [List.getElem_toArray, List.getElem_cons_succ, List.getElem_cons_zero, Act.put, List.setIfInBounds_toArray, List.set_cons_zero, List.set_cons_succ]
                refine hd_take (v := ?_) 11 rfl (by kernel_rfl) (fun _ _ d _ _ h => (by cases d <;> exact h)) (by kernel_rfl) S5 (fun w' hS => ?_) ?_
                rotate_left
                focus (have q0 := SM.fc w' hS; have q1 := SM.fr w' hS; clear hS; go_simp; try rfl; done)
                simp only [List.getElem_toArray, List.getElem_cons_succ, List.getElem_cons_zero, Act.put, List.setIfInBounds_toArray, List.set_cons_zero, List.set_cons_succ]
                refine hd_take (v := ?_) 12 rfl (by kernel_rfl) (fun _ _ d _ _ h => (by cases d <;> exact h)) (by kernel_rfl) S5 (fun w' hS => ?_) ?_
                rotate_left
                focus (have q0 := SM.fc w' hS; have q1 := SM.fr w' hS; clear hS; go_simp; try rfl; done)
                simp only [List.getElem_toArray, List.getElem_cons_succ, List.getElem_cons_zero, Act.put, List.setIfInBounds_toArray, List.set_cons_zero, List.set_cons_succ]
                refine hd_take (v := ?_) 13 rfl (by kernel_rfl) (fun _ _ d _ _ h => (by cases d <;> exact h)) (by kernel_rfl) S5 (fun w' hS => ?_) ?_
                rotate_left
                focus (have q0 := SM.fc w' hS; have q1 := SM.fr w' hS; clear hS; go_simp; try rfl; done)
                simp only [List.getElem_toArray, List.getElem_cons_succ, List.getElem_cons_zero, Act.put, List.setIfInBounds_toArray, List.set_cons_zero, List.set_cons_succ]
                refine hd_take (v := ?_) 14 rfl (by kernel_rfl) (fun _ _ d _ _ h => (by cases d <;> exact h)) (by kernel_rfl) S5 (fun w' hS => ?_) ?_
                rotate_left
                focus (have q0 := SM.fc w' hS; have q1 := SM.fr w' hS; clear hS; go_simp; try rfl; done)
                simp only [List.getElem_toArray, List.getElem_cons_succ, List.getElem_cons_zero, Act.put, List.setIfInBounds_toArray, List.set_cons_zero, List.set_cons_succ]
                refine hd_one 7 (by kernel_rfl) ?_
                refine op_call rfl (by kernel_rfl) (by go_simp; first | exact ⟨rfl, rfl⟩ | rfl) ?_
                refine (wipeP_all H5.out (3 + k) (10 + k) jl (by omega) n8 n10 I3.out I10.out HS.out.l HR.out hlots.out).mono ?_
                rintro e w6 ⟨he, h5⟩
                subst he
                rw [HM1.out] at h5
                have H6 := Lib.hid h5
                clear h5
                have hS2 := HSA.out _ _ ST1.out H6.out
                refine ⟨_, rfl, hS2, ?_⟩
                simp only [List.getElem_toArray, List.getElem_cons_succ, List.getElem_cons_zero, Act.put, List.setIfInBounds_toArray, List.set_cons_zero, List.set_cons_succ]
                refine hd_one 15 (by kernel_rfl) ?_
                refine op_call rfl (by kernel_rfl) (by go_simp; first | exact ⟨rfl, rfl⟩ | rfl) ?_
                refine (rmWipe_all H6.out 5 jw (by omega) K5.out KW.out k hk2 HR.out (by have := HPL.out; omega) hlots.out).mono ?_
                rintro e w7 ⟨he, R, hRr, hRv, h5⟩
                subst he
                have H7 := Lib.hid h5
                have HRR := Lib.hid (And.intro hRr hRv)
                clear h5 hRr hRv
                have hS2 := HSA.out _ _ ((ST1.out.set jw (by omega) _).set 5 (by omega) _) H7.out
                have S7 := hS2
                refine ⟨_, rfl, hS2, ?_⟩
                simp only [List.getElem_toArray, List.getElem_cons_succ, List.getElem_cons_zero, Act.put, List.setIfInBounds_toArray, List.set_cons_zero, List.set_cons_succ]
                refine hd_take (v := ?_) 16 rfl (by kernel_rfl) (fun _ _ d _ _ h => (by cases d <;> exact h)) (by kernel_rfl) S7 (fun w' hS => ?_) ?_
                rotate_left
                focus (clear hS; go_simp; try rfl; done)
                simp only [List.getElem_toArray, List.getElem_cons_succ, List.getElem_cons_zero, Act.put, List.setIfInBounds_toArray, List.set_cons_zero, List.set_cons_succ]
                refine hd_take (v := ?_) 17 rfl (by kernel_rfl) (fun _ _ d _ _ h => (by cases d <;> exact h)) (by kernel_rfl) S7 (fun w' hS => ?_) ?_
                rotate_left
                focus (clear hS; go_simp; try rfl; done)
                simp only [List.getElem_toArray, List.getElem_cons_succ, List.getElem_cons_zero, Act.put, List.setIfInBounds_toArray, List.set_cons_zero, List.set_cons_succ]
                refine hd_done (by kernel_rfl) ?_
                clear S5 S7
                go_wp2_with fail
                go_meet
                obtain ⟨rs', hset, hok⟩ := HS.out.note (P := P) (p.updX o) (by omega) HX.out
                have h9 := H7.out
                rw [← HM1.out] at h9
                have hp := HP.out
                have hpl := HPL.out
                have hrr := HRR.out.1
                have hrv := HRR.out.2
                subst hp
                refine ⟨rfl, (x.led rs').setS k (sdM k x).wipe R, Lib.hid (end_wipe HS.out k hk2 hrv hset h9), Lib.hid ((hok.set k hk2 hrr (by omega) (by have := Pm.wipe_len (sdM k x); omega)).up (Nat.le_refl _) (by omega))⟩
                --]k4
              · have t4 : (kd == (4 : Int)) = false := by rw [beq_eq_false_iff_ne]; exact k4
                clear k4
                by_cases k5 : kd = 5
                · have t5 : (kd == (5 : Int)) = true := by rw [k5]; rfl
                  clear k5
                  --[k5
                  have hsm : p.form.length ≤ 400 := Pm.form_len HR.out
                  have HSM := Lib.hid hsm
                  have hts : x.ts.length ≤ 5000000000 ∧ x.ws.length ≤ 5000000000 := by have := HX.out.tl; have := HX.out.wl; omega
                  have HTS := Lib.hid hts
                  clear hsm hts
                  go_upto_region 27 with fail
                  refine hd_start (SM P G k p.v (rmV (sideM k x.R0 x.R1)) pl pw (.slice ao dl.length cap)) (by kernel_rfl) ?_
                  intro w5 hw'
                  have H5 := Lib.hid (H4.out.draw 1)
                  rw [← hw'] at H5
                  clear hw' H4
                  have S5 := HSA.out _ _ (ST0.out x) H5.out
                  refine hd_take (v := ?_) 0 rfl (by kernel_rfl) (fun _ _ d _ _ h => (by cases d <;> exact h)) (by kernel_rfl) S5 (fun w' hS => ?_) ?_
                  rotate_left
                  focus (have q0 := SM.fc w' hS; have q1 := SM.fr w' hS; clear hS; go_simp; try rfl; done)
                  simp only [List.getElem_toArray, List.getElem_cons_succ, List.getElem_cons_zero, Act.put, List.setIfInBounds_toArray, List.set_cons_zero, List.set_cons_succ]
                  refine hd_take (v := ?_) 1 rfl (by kernel_rfl) (fun _ _ d _ _ h => (by cases d <;> exact h)) (by kernel_rfl) S5 (fun w' hS => ?_) ?_
                  rotate_left
                  focus (have q0 := SM.fc w' hS; have q1 := SM.fr w' hS; clear hS; go_simp; try rfl; done)
                  simp only [List.getElem_toArray, List.getElem_cons_succ, List.getElem_cons_zero, Act.put, List.setIfInBounds_toArray, List.set_cons_zero, List.set_cons_succ]
                  refine hd_take (v := ?_) 2 rfl (by kernel_rfl) (fun _ _ d _ _ h => (by cases d <;> exact h)) (by kernel_rfl) S5 (fun w' hS => ?_) ?_
                  rotate_left
                  focus (have q0 := SM.fc w' hS; have q1 := SM.fr w' hS; clear hS; go_simp; try rfl; done)
                  simp only [List.getElem_toArray, List.getElem_cons_succ, List.getElem_cons_zero, Act.put, List.setIfInBounds_toArray, List.set_cons_zero, List.set_cons_succ]
                  refine hd_take (v := ?_) 3 rfl (by kernel_rfl) (fun _ _ d _ _ h => (by cases d <;> exact h)) (by kernel_rfl) S5 (fun w' hS => ?_) ?_
                  rotate_left
                  focus (have q0 := SM.fc w' hS; have q1 := SM.fr w' hS; clear hS; go_simp; try rfl; done)
                  simp only [List.getElem_toArray, List.getElem_cons_succ, List.getElem_cons_zero, Act.put, List.setIfInBounds_toArray, List.set_cons_zero, List.set_cons_succ]
                  refine hd_take (v := ?_) 4 rfl (by kernel_rfl) (fun _ _ d _ _ h => (by cases d <;> exact h)) (by kernel_rfl) S5 (fun w' hS => ?_) ?_
                  rotate_left
                  focus (have q0 := SM.fc w' hS; have q1 := SM.fr w' hS; clear hS; go_simp; try rfl; done)
                  simp only [List.getElem_toArray, List.getElem_cons_succ, List.getElem_cons_zero, Act.put, List.setIfInBounds_toArray, List.set_cons_zero, List.set_cons_succ]
                  refine hd_take (v := ?_) 5 rfl (by kernel_rfl) (fun _ _ d _ _ h => (by cases d <;> exact h)) (by kernel_rfl) S5 (fun w' hS => ?_) ?_
                  rotate_left
                  focus (have q0 := SM.fc w' hS; have q1 := SM.fr w' hS; clear hS; go_simp; try rfl; done)
                  simp only [List.getElem_toArray, List.getElem_cons_succ, List.getElem_cons_zero, Act.put, List.setIfInBounds_toArray, List.set_cons_zero, List.set_cons_succ]
                  refine hd_take (v := ?_) 6 rfl (by kernel_rfl) (fun _ _ d _ _ h => (by cases d <;> exact h)) (by kernel_rfl) S5 (fun w' hS => ?_) ?_
                  rotate_left
                  focus (have q0 := SM.fc w' hS; have q1 := SM.fr w' hS; clear hS; go_simp; try rfl; done)
                  simp only [List.getElem_toArray, List.getElem_cons_succ, List.getElem_cons_zero, Act.put, List.setIfInBounds_toArray, List.set_cons_zero, List.set_cons_succ]
                  refine hd_take (v := ?_) 8 rfl (by kernel_rfl) (fun _ _ d _ _ h => (by cases d <;> exact h)) (by kernel_rfl) S5 (fun w' hS => ?_) ?_
                  rotate_left
                  focus (have q0 := SM.fc w' hS; have q1 := SM.fr w' hS; clear hS; go_simp; try rfl; done)
                  simp only [List.getElem_toArray, List.getElem_cons_succ, List.getElem_cons_zero, Act.put, List.setIfInBounds_toArray, List.set_cons_zero, List.set_cons_succ]
                  refine hd_take (v := ?_) 9 rfl (by kernel_rfl) (fun _ _ d _ _ h => (by cases d <;> exact h)) (by kernel_rfl) S5 (fun w' hS => ?_) ?_
                  rotate_left
                  focus (have q0 := SM.fc w' hS; have q1 := SM.fr w' hS; clear hS; go_simp; try rfl; done)
                  simp only [List.getElem_toArray, List.getElem_cons_succ, List.getElem_cons_zero, Act.put, List.setIfInBounds_toArray, List.set_cons_zero, List.set_cons_succ]
                  refine hd_take (v := ?_) 10 rfl (by kernel_rfl) (fun _ _ d _ _ h => (by cases d <;> exact h)) (by kernel_rfl) S5 (fun w' hS => ?_) ?_
                  rotate_left
                  focus (have q0 := SM.fc w' hS; have q1 := SM.fr w' hS; clear hS; go_simp; try rfl; done)
                  simp only [List.getElem_toArray, List.getElem_cons_succ, List.getElem_cons_zero, Act.put, List.setIfInBounds_toArray, List.set_cons_zero, List.set_cons_succ]
                  refine hd_take (v := ?_) 11 rfl (by kernel_rfl) (fun _ _ d _ _ h => (by cases d <;> exact h)) (by kernel_rfl) S5 (fun w' hS => ?_) ?_
                  rotate_left
                  focus (have q0 := SM.fc w' hS; have q1 := SM.fr w' hS; clear hS; go_simp; try rfl; done)
                  simp only [List.getElem_toArray, List.getElem_cons_succ, List.getElem_cons_zero, Act.put, List.setIfInBounds_toArray, List.set_cons_zero, List.set_cons_succ]
                  refine hd_take (v := ?_) 12 rfl (by kernel_rfl) (fun _ _ d _ _ h => (by cases d <;> exact h)) (by kernel_rfl) S5 (fun w' hS => ?_) ?_
                  rotate_left
                  focus (have q0 := SM.fc w' hS; have q1 := SM.fr w' hS; clear hS; go_simp; try rfl; done)
                  simp only [List.getElem_toArray, List.getElem_cons_succ, List.getElem_cons_zero, Act.put, List.setIfInBounds_toArray, List.set_cons_zero, List.set_cons_succ]
                  refine hd_take (v := ?_) 13 rfl (by kernel_rfl) (fun _ _ d _ _ h => (by cases d <;> exact h)) (by kernel_rfl) S5 (fun w' hS => ?_) ?_
                  rotate_left
                  focus (have q0 := SM.fc w' hS; have q1 := SM.fr w' hS; clear hS; go_simp; try rfl; done)
                  simp only [List.getElem_toArray, List.getElem_cons_succ, List.getElem_cons_zero, Act.put, List.setIfInBounds_toArray, List.set_cons_zero, List.set_cons_succ]
                  refine hd_one 7 (by kernel_rfl) ?_
                  refine op_call rfl (by kernel_rfl) (by go_simp; first | exact ⟨rfl, rfl⟩ | rfl) ?_
                  refine (formP_all H5.out (3 + k) (10 + k) I3.out I10.out HR.out).mono ?_
                  rintro e w6 ⟨v, he, h5⟩
                  subst he
                  have hvf := (h5.bytesX (WM P pl pw x ++ Y).length (v := v) (l := p.form) (at_r rfl 0)).form
                  obtain ⟨ua, uc, hu1, _⟩ := hvf
                  subst hu1
                  have H6 := Lib.hid h5
                  clear h5
                  have hS2 := HSA.out _ _ ((ST0.out x).more _) H6.out
                  refine ⟨_, rfl, hS2, ?_⟩
                  simp only [List.getElem_toArray, List.getElem_cons_succ, List.getElem_cons_zero, Act.put, List.setIfInBounds_toArray, List.set_cons_zero, List.set_cons_succ]
                  refine hd_one 14 (by kernel_rfl) ?_
                  refine op_call rfl (by kernel_rfl) (by go_simp; first | exact ⟨rfl, rfl⟩ | rfl) ?_
                  refine (rmForm_all H6.out 5 (r := x.R0) (s := x.R1) rfl k HR.out (by have := HPL.out; omega)).mono ?_
                  rintro e w7 ⟨v', he, h5⟩
                  subst he
                  have hvf := (h5.bytesX ((WM P pl pw x ++ Y) ++ [obBX (.slice ua p.form.length uc) p.form]).length (v := v') (l := p.form) (at_r rfl 0)).form
                  obtain ⟨va, vc, hv1, _⟩ := hvf
                  subst hv1
                  have h7 : Env w0 w7 (WM P pl pw x ++ Y ++ [obBX (.slice ua p.form.length uc) p.form, obBX (.slice va p.form.length vc) p.form]) := by simpa using h5
                  have H7 := Lib.hid h7
                  clear h7
                  have hS2 := HSA.out _ _ (((ST0.out x).more _).more _) h5
                  clear h5
                  refine ⟨_, rfl, hS2, ?_⟩
                  simp only [List.getElem_toArray, List.getElem_cons_succ, List.getElem_cons_zero, Act.put, List.setIfInBounds_toArray, List.set_cons_zero, List.set_cons_succ]
                  refine hd_one 15 (by kernel_rfl) ?_
                  refine op_call rfl (by kernel_rfl) (by go_simp; first | exact ⟨rfl, rfl⟩ | rfl) ?_
                  refine (tell13 H7.out HTS.out.1 HTS.out.2 HSM.out).mono ?_
                  rintro e w8 hT
                  obtain ⟨he, tv, wv, h8⟩ := hT.ex
                  subst he
                  have H8 := Lib.hid h8
                  clear h8 hT
                  have hS2 : SM P G k p.v (rmV (sideM k x.R0 x.R1)) pl pw (.slice ao dl.length cap) w8 := HT8.out _ _ _ _ _ _ H8.out
                  have S8 := hS2
                  refine ⟨_, rfl, hS2, ?_⟩
                  simp only [List.getElem_toArray, List.getElem_cons_succ, List.getElem_cons_zero, Act.put, List.setIfInBounds_toArray, List.set_cons_zero, List.set_cons_succ]
                  refine hd_take (v := ?_) 16 rfl (by kernel_rfl) (fun _ _ d _ _ h => (by cases d <;> exact h)) (by kernel_rfl) S8 (fun w' hS => ?_) ?_
                  rotate_left
                  focus (clear hS; go_simp; try rfl; done)
                  simp only [List.getElem_toArray, List.getElem_cons_succ, List.getElem_cons_zero, Act.put, List.setIfInBounds_toArray, List.set_cons_zero, List.set_cons_succ]
                  refine hd_done (by kernel_rfl) ?_
                  clear S5 S8
                  go_wp2_with fail
                  go_meet
                  exact ⟨rfl, _, H8, Lib.hid ((HX.out.tell tv wv _ _ HSM.out).up (by omega) (by omega))⟩
                  --]k5
                · have t5 : (kd == (5 : Int)) = false := by rw [beq_eq_false_iff_ne]; exact k5
                  clear k5
                  by_cases k6 : kd = 6
                  · have t6 : (kd == (6 : Int)) = true := by rw [k6]; rfl
                    clear k6
                    --[k6
                    by_cases hr : RightLen key.length
                    · have HRL := Lib.hid hr
                      clear hr
                      have g2 := (H4.out.blk 12 (b := G) (HY0.out x)).cellAt 2 (v := .slice ko key.length kcap) rfl
                      go_wp2_with fail
                      refine (tagP_env H4.out jl (q := u6) (o := o) HS.out.l HRL.out HK.out (fun wx obs' he hk => HRD.out wx obs' he (fun x' ob h1 _ h3 => hk x' ob h1 h3)) (by omega) hlots.out).mono ?_
                      rintro e w5 ⟨v, rfl, h5⟩
                      clear g2
                      have d0 : True := trivial
                      obtain ⟨ua, uc, hu1, _⟩ := (h5.bytesX ((WM P pl pw x ++ Y).set jl (obP u6 (noteT o key.length dl.length))).length (v := v) (l := tagR key dl) (at_r rfl 0)).form
                      subst hu1
                      have H5 := Lib.hid h5
                      clear h5 d0
                      have bG := H5.out.blk 12 (b := G) (((ST0.out x).set jl ⟨by omega, by omega⟩ _).more _).g
                      have g2 := bG.cellAt 2 (v := .slice ko key.length kcap) rfl
                      have g3 := bG.cellAt 3 (v := .slice ao dl.length cap) rfl
                      clear bG
                      go_wp2_with fail
                      refine (rmTag_env H5.out jw (q := u7) (o := o) (by rw [List.getElem?_append_left (by rw [List.length_set, List.length_append, WM_len]; omega), List.getElem?_set_ne (by omega)]; exact HS.out.w) hlotl.out HRL.out HK.out HD.out (by omega)).mono ?_
                      rintro e w6 ⟨v', rfl, h6⟩
                      clear g2 g3
                      obtain ⟨va, vc, hv1, _⟩ := (h6.bytesX (((WM P pl pw x ++ Y).set jl (obP u6 (noteT o key.length dl.length)) ++ [obBX (.slice ua (tagR key dl).length uc) (tagR key dl)]).set jw (obR u7 (noteT o key.length dl.length))).length (v := v') (l := tagR key dl) (at_r rfl 0)).form
                      subst hv1
                      obtain ⟨rs', hset, hok⟩ := HS.out.note (P := P) (upd_T o key.length dl.length) (by omega) HX.out
                      have h7 : Env w0 w6 (WM P pl pw (x.led rs') ++ Y ++ [obBX (.slice ua (tagR key dl).length uc) (tagR key dl), obBX (.slice va (tagR key dl).length vc) (tagR key dl)]) := by
                        rw [List.set_append_left _ _ (by rw [List.length_set, List.length_append, WM_len]; omega), hset] at h6
                        simpa using h6
                      have H7 := Lib.hid h7
                      have HOK := Lib.hid hok
                      have hsm : (tagR key dl).length ≤ 400 := by rw [← tagOf_is, tagOf_len]; omega
                      have HSM := Lib.hid hsm
                      have hts : x.ts.length ≤ 5000000000 ∧ x.ws.length ≤ 5000000000 := by have := HX.out.tl; have := HX.out.wl; omega
                      have HTS := Lib.hid hts
                      clear h6 h7 hset hok hsm hts H5
                      go_wp2_with fail
                      refine (tell13 H7.out HTS.out.1 HTS.out.2 HSM.out).mono ?_
                      rintro e w7 hT
                      obtain ⟨rfl, tv, wv, h8⟩ := hT.ex
                      have H8 := Lib.hid h8
                      clear h8 hT H7
                      go_wp2_with fail
                      go_meet
                      exact ⟨rfl, _, H8, Lib.hid ((HOK.out.tell tv wv _ _ HSM.out).up (by omega) (by omega))⟩
                    · have HNR := Lib.hid hr
                      have hts : x.ts.length ≤ 5000000000 ∧ x.ws.length ≤ 5000000000 := by have := HX.out.tl; have := HX.out.wl; omega
                      have HTS := Lib.hid hts
                      clear hr hts
                      have g2 := (H4.out.blk 12 (b := G) (HY0.out x)).cellAt 2 (v := .slice ko key.length kcap) rfl
                      have g3 := (H4.out.blk 12 (b := G) (HY0.out x)).cellAt 3 (v := .slice ao dl.length cap) rfl
                      have HKW := Lib.hid (H4.out.old HK.out)
                      go_wp2_with fail
                      refine (tagM_off u6 _ _ _ w4 HKW.out HNR.out).mono ?_
                      rintro e w5 ⟨rfl, rfl⟩
                      go_wp2_with fail
                      refine (rmTag_no (q := u7) (v := .bool true) HKW.out HNR.out _ _ _).mono ?_
                      rintro e w6 ⟨rfl, rfl⟩
                      clear g2 g3
                      have h7 : Env w0 w4 (WM P pl pw x ++ Y ++ [obBX (.slice none 0 0) [], obBX (.slice none 0 0) []]) := by simpa using H4.out.pushNilX.pushNilX
                      have H7 := Lib.hid h7
                      clear h7
                      go_wp2_with fail
                      refine (tell13 H7.out HTS.out.1 HTS.out.2 (l := []) (by simp)).mono ?_
                      rintro e w7 hT
                      obtain ⟨rfl, tv, wv, h8⟩ := hT.ex
                      have H8 := Lib.hid h8
                      clear h8 hT H7
                      go_wp2_with fail
                      go_meet
                      exact ⟨rfl, _, H8, Lib.hid ((HX.out.tell tv wv _ _ (l := []) (by simp)).up (by omega) (by omega))⟩
                    --]k6
                  · have t6 : (kd == (6 : Int)) = false := by rw [beq_eq_false_iff_ne]; exact k6
                    clear k6
                    by_cases k7 : kd = 7
                    · have t7 : (kd == (7 : Int)) = true := by rw [k7]; rfl
                      clear k7
                      --[k7
                      have g2 := (H4.out.blk 12 (b := G) (HY0.out x)).cellAt 2 (v := .slice ko key.length kcap) rfl
                      go_wp2_with fail
                      clear g2
                      refine (make13 H4.out HX.out (by omega) k hk2 HK.out hkl HS.out).mono ?_
                      rintro e w5 hM
                      obtain ⟨rfl, x', q1, q2⟩ := hM.ex
                      have H5 := Lib.hid q1
                      have HOK := Lib.hid q2
                      clear hM q1 q2
                      go_wp2_with fail
                      go_meet
                      exact ⟨rfl, x', H5, Lib.hid (HOK.out.up (by omega) (by omega))⟩
                      --]k7
                    · have t7 : (kd == (7 : Int)) = false := by rw [beq_eq_false_iff_ne]; exact k7
                      clear k7
                      go_wp2_with fail
                      go_meet
                      exact ⟨rfl, x, H4, Lib.hid (HX.out.up (by omega) (by omega))⟩
    case rest =>
      obtain ⟨rfl, x', H5, HOK⟩ := hcut
      clear H4 HSA HRD I3 I10 HR HPL HP HX HT8
      have g3 := (H5.out.blk 12 (b := G) (HY0.out x')).cellAt 3 (v := .slice ao dl.length cap) rfl
      have HRD := Lib.hid (And.intro (H5.out.bytes 13 (HY1.out x')).rd (H5.out.old HD.out))
      go_wp2_with fail
      refine (kept_env H5.out HRD.out.1 HRD.out.2 (by omega)).mono ?_
      rintro e w6 ⟨he, h6⟩
      rw [decide_eq_true rfl] at he
      subst he
      have H6 := Lib.hid h6
      clear h6 g3 H5 HRD
      go_wp2_with fail
      refine (over_env H6.out 13 (HY1.out x') (by rw [lent_length]; omega)).mono ?_
      rintro e w7 ⟨rfl, h7⟩
      have h8 : Env w0 w7 (WM P pl pw x') := by
        rw [List.set_append_right _ _ (by rw [WM_len]; omega)] at h7
        exact h7.leftA
      have H8 := Lib.hid h8
      clear h7 h8 H6
      go_wp2_with fail
      go_ret
      exact ⟨rfl, x', H8.out, HOK.out⟩
end Go.Proofs.Ytpampcokonicfaa
/- Opening arguments that are structs of one-cell fields; a cell that reads as bytes. -/
namespace Go.Proofs.Ytpampcokonicfaa
open Go.RowKit Go.ChangeShapes Go.WideShapes Go.ChangeAt
set_option maxRecDepth 100000
section
variable {H : Type} {enc : TypeId × Value → H} {P : Program} {W : World}
/-- the cells of a struct of one-cell fields: each reads by itself -/
theorem trod_fields {b0 : Nat} {sp : Nat → Bool} {hd : Bool} {t : TypeId} {fs : Array Field} {cs : List Value} {fuel : Nat} {x : DataW H × List MemPlace} (hs : P.underlying t = some (.struct fs)) (hone : Go.Deep.oneCellFields P fs = true) (hC : P.cellsOf t = fs.size)
    (h : DataW.trod enc P W b0 sp hd fuel t cs = some x) :
    cs.length = fs.size ∧ ∃ n, ∀ (i : Nat) (f : Field), fs[i]? = some f → ∃ c y, cs[i]? = some c ∧ DataW.trod enc P W b0 sp hd n f.type [c] = some y := by
  obtain ⟨xs, n, _, rfl, hl, hlen, hf⟩ := DataW.trod_struct hs h
  rw [hC] at hl
  refine ⟨hl, n, fun i f hi => ?_⟩
  obtain ⟨h1, h2⟩ := Go.Deep.hone_of hone i f hi
  have hi2 : i < fs.size := (Array.getElem?_eq_some_iff.1 hi).1
  have h3 := hf i f hi
  rw [h1, h2, List.drop_eq_getElem_cons (by omega), List.take_succ_cons, List.take_zero, List.getElem?_eq_getElem (by omega)] at h3
  exact ⟨cs[i]'(by omega), _, List.getElem?_eq_getElem (by omega), h3⟩
/-- a struct argument of one-cell fields -/
theorem open_fields {base b0 : Nat} {sp : Nat → Bool} {hd : Bool} {t : TypeId} {fs : Array Field} {v : Value} {d : DataW H} {p : List MemPlace} (hs : P.underlying t = some (.struct fs)) (hone : Go.Deep.oneCellFields P fs = true) (hC : P.cellsOf t = fs.size)
    (hval : Value.okWide P W .any base t v) (h : DataW.Trod enc P W b0 sp hd t v d p) :
    ∃ cs : List Value, v = .agg cs.toArray ∧ cs.length = fs.size ∧ ∃ n, ∀ (i : Nat) (f : Field), fs[i]? = some f → ∃ c y, cs[i]? = some c ∧ DataW.trod enc P W b0 sp hd n f.type [c] = some y := by
  obtain ⟨⟨cs⟩, rfl, hsz⟩ := Go.WideShapes.okWide_struct hs hval
  obtain ⟨fuel, hf⟩ := h
  obtain ⟨h1, h2⟩ := trod_fields (cs := cs) hs hone hC (by simpa [Value.cells] using hf)
  exact ⟨cs, rfl, h1, h2⟩
/-- a cell that reads as bytes -/
theorem bytes_cell {t e : TypeId} {c : Value} {n : Nat} {y : DataW H × List MemPlace} (ht : P.underlying t = some (.slice e)) (he : P.underlying e = some (.int .u8)) (hce : P.cellsOf e = 1)
    (h : DataW.trod enc P W 0 (fun _ => true) true n t [c] = some y) : ∃ l : List UInt8, Bs W c l := by
  rcases Go.ChangeShapes.open_ints ht he hce h with ⟨hcs, _⟩ | ⟨a, len', cap', zs, hcs, _, hl, hm, hz, hx, hcell, hwz⟩
  · injection hcs with hcs _
    rw [hcs]
    exact ⟨[], Bs.nil W⟩
  · injection hcs with hcs _
    rw [hcs]
    simp only [if_true] at hz
    have hn : ∀ j, (zs.getD j 0) ≥ 0 ∧ (zs.getD j 0) < 256 := by
      intro j
      rw [List.getD_eq_getElem?_getD]
      rcases hj : zs[j]? with _ | n
      · simp
      · have := bounds_u8 (hwz n (List.mem_of_getElem? hj))
        simp only [Option.getD_some]
        omega
    have hlen : ((zs.take len').map fun n => UInt8.ofNat n.toNat).length = len' := by
      rw [List.length_map, List.length_take]; omega
    refine ⟨(zs.take len').map fun n => UInt8.ofNat n.toNat, some a, cap', ?_, ?_, ?_, (fun h => by cases h), fun j hj => ?_⟩
    · rw [hlen]
    · rw [hlen]; exact hl
    · exact hm
    · rw [hlen] at hj
      have hc := hcell j (by omega)
      obtain ⟨b, off, spot⟩ := a
      have hsp : spot = none := by
        cases spot with
        | none => rfl
        | some s =>
          have hc0 := hcell 0 (by omega)
          rw [show (⟨b, off, some s⟩ : Addr).add 0 = ⟨b, off, some s⟩ from by simp [Addr.add]] at hc0
          unfold World.cell? at hc0
          split at hc0 <;> simp at hc0
      subst hsp
      refine ⟨b, off, rfl, ?_⟩
      rw [show (⟨b, off, none⟩ : Addr).add j = ⟨b, off + j, none⟩ from by unfold Addr.add; split <;> simp_all] at hc
      rw [hc]
      have h1 := hn j
      have e : (((zs.take len').map fun n => UInt8.ofNat n.toNat).getD j 0) = UInt8.ofNat (zs.getD j 0).toNat := by
        rw [List.getD_eq_getElem?_getD, List.getD_eq_getElem?_getD, List.getElem?_map, List.getElem?_take, if_pos hj]
        rw [List.getElem?_eq_getElem (by omega : j < zs.length)]
        rfl
      rw [e, u8_of _ (by omega)]
      congr 2
      omega
/-- a cell that reads as an integer, a Boolean -/
theorem int_cell {b0 : Nat} {sp : Nat → Bool} {hd : Bool} {t : TypeId} {k : IntKind} {c : Value} {n : Nat} {y : DataW H × List MemPlace} (ht : P.underlying t = some (.int k)) (h : DataW.trod enc P W b0 sp hd n t [c] = some y) : ∃ a : Int, c = .int k a ∧ (Lit.int k a).wf = true := by
  obtain ⟨a, e, _, hw⟩ := DataW.trod_int ht h
  injection e with e _
  exact ⟨a, e, hw⟩
theorem bool_cell {b0 : Nat} {sp : Nat → Bool} {hd : Bool} {t : TypeId} {c : Value} {n : Nat} {y : DataW H × List MemPlace} (ht : P.underlying t = some .bool) (h : DataW.trod enc P W b0 sp hd n t [c] = some y) : ∃ a : Bool, c = .bool a := by
  obtain ⟨a, e, _⟩ := DataW.trod_bool ht h
  injection e with e _
  exact ⟨a, e⟩
end
end Go.Proofs.Ytpampcokonicfaa
/- Opening a list of lists of bytes, a list of Booleans, a list of bytes of whatever length. -/
namespace Go.Proofs.Ytpampcokonicfaa
open Go.RowKit Go.ChangeShapes Go.WideShapes Go.ChangeAt Go.Deep
set_option maxRecDepth 100000
theorem addr_plain {w : World} {a : Addr} {v : Value} (h : w.cell? a = some v) : ∃ b off, a = ⟨b, off, none⟩ := by
  obtain ⟨b, off, spot⟩ := a
  cases spot with
  | none => exact ⟨b, off, rfl⟩
  | some s =>
    unfold World.cell? at h
    split at h <;> simp at h
/-- a slice that came in, of one-cell elements that each read as p says -/
theorem open_ones {H : Type} {enc : TypeId × Value → H} {P : Program} {W : World} {base : Nat} {α : Type} {t e : TypeId} {v : Value} {d : DataW H} {p : List MemPlace} (ht : P.underlying t = some (.slice e)) (hC : P.cellsOf e = 1) (R : Value → α → Prop) (z : α)
    (dec : ∀ n c y, DataW.trod enc P W 0 (fun _ => true) true n e [c] = some y → ∃ x, R c x)
    (hval : Value.okWide P W .any base t v) (h : DataW.Trod enc P W 0 (fun _ => true) true t v d p) :
    ∃ (ls : List α) (ao : Option Addr) (cap : Nat), v = .slice ao ls.length cap ∧ ls.length ≤ cap ∧ cap ≤ 9223372036854775807 ∧ ∀ i l, ls[i]? = some l → ∃ b off c, ao = some ⟨b, off, none⟩ ∧ W.cell? ⟨b, off + i, none⟩ = some c ∧ R c l := by
  obtain ⟨a0, len0, cap0, rfl⟩ := Go.WideShapes.okWide_slice ht hval
  obtain ⟨fuel, hf⟩ := h
  rcases open_slice1 ht hC hf with ⟨hcs, _⟩ | ⟨a, len, cap, m, n, V, D, Pl, hcs, _, hl, hm, hmm, hx, hi⟩
  · simp only [Value.cells] at hcs
    injection hcs with hcs _
    rw [hcs]
    exact ⟨[], none, 0, rfl, Nat.le_refl _, by omega, fun i l h => by simp at h⟩
  · simp only [Value.cells] at hcs
    injection hcs with hcs _
    rw [hcs]
    simp only [if_true] at hmm
    obtain ⟨L, hL⟩ : ∃ L : Nat → α, ∀ i, i < len → R (V i) (L i) :=
      ⟨fun i => if hh : i < len then Classical.choose (dec _ _ _ (hi i (by omega)).2) else z, fun i hh => by
        simp only [hh, dif_pos]
        exact Classical.choose_spec (dec _ _ _ (hi i (by omega)).2)⟩
    refine ⟨(List.range len).map L, some a, cap, by simp, by simpa using hl, by simp only [maxLen] at hm; omega, fun i l h => ?_⟩
    have hlt : i < len := by
      have := (List.getElem?_eq_some_iff.1 h).1
      simpa using this
    have hc := (hi i (by omega)).1
    have hc0 := (hi 0 (by omega)).1
    rw [List.getElem?_map, List.getElem?_range hlt] at h
    simp at h
    subst h
    obtain ⟨b, off, spot⟩ := a
    have hsp : spot = none := by
      cases spot with
      | none => rfl
      | some s =>
        rw [show (⟨b, off, some s⟩ : Addr).add 0 = ⟨b, off, some s⟩ from by simp [Addr.add]] at hc0
        unfold World.cell? at hc0
        split at hc0 <;> simp at hc0
    subst hsp
    rw [add_lit] at hc
    exact ⟨b, off, V i, rfl, hc, hL i hlt⟩
/-- a list of lists of bytes that came in -/
def InL (W : World) (v : Value) (ls : List (List UInt8)) : Prop := ∃ (ao : Option Addr) (cap : Nat), v = .slice ao ls.length cap ∧ ls.length ≤ cap ∧ cap ≤ 9223372036854775807 ∧ ∀ i l, ls[i]? = some l → ∃ b off c, ao = some ⟨b, off, none⟩ ∧ W.cell? ⟨b, off + i, none⟩ = some c ∧ Bs W c l
theorem openLists {H : Type} {enc : TypeId × Value → H} {W : World} {base : Nat} {v : Value} {d : DataW H} {p : List MemPlace}
    (hval : Value.okWide Try.prog W .any base 43 v) (h : DataW.Trod enc Try.prog W 0 (fun _ => true) true 43 v d p) : ∃ ls, InL W v ls :=
  open_ones Try.underlying43 (by kernel_rfl) (fun c l => Bs W c l) [] (fun n c y h => bytes_cell Try.underlying22 Try.underlying5 cellsU8 h) hval h
/-- a list of Booleans that came in -/
def InBo (W : World) (v : Value) (bs : List Bool) : Prop := ∃ (ao : Option Addr) (cap : Nat), v = .slice ao bs.length cap ∧ bs.length ≤ cap ∧ cap ≤ 9223372036854775807 ∧ ∀ i b, bs[i]? = some b → ∃ g off c, ao = some ⟨g, off, none⟩ ∧ W.cell? ⟨g, off + i, none⟩ = some c ∧ c = .bool b
/-- bytes that came in, of whatever length -/
theorem openBytesP {H : Type} {enc : TypeId × Value → H} {W : World} {base : Nat} {v : Value} {d : DataW H} {p : List MemPlace}
    (hval : Value.okWide Try.prog W .any base 22 v) (h : DataW.Trod enc Try.prog W 0 (fun _ => true) true 22 v d p) : ∃ l, Bs W v l := by
  obtain ⟨l, hl, _⟩ := open_bytes_sized Try.underlying22 Try.underlying5 cellsU8 hval h
  exact ⟨l, hl⟩
end Go.Proofs.Ytpampcokonicfaa
/- Opening a list of structs of one-cell fields, with what the form says of the size of what lies inside. -/
namespace Go.Proofs.Ytpampcokonicfaa
open Go.RowKit Go.ChangeShapes Go.WideShapes Go.ChangeAt Go.Deep
set_option maxRecDepth 100000
section
variable {H : Type} {enc : TypeId × Value → H} {P : Program} {W : World}
theorem trod_fields2 {b0 : Nat} {sp : Nat → Bool} {hd : Bool} {t : TypeId} {fs : Array Field} {cs : List Value} {fuel : Nat} {x : DataW H × List MemPlace} (hs : P.underlying t = some (.struct fs)) (hone : Go.Deep.oneCellFields P fs = true) (hC : P.cellsOf t = fs.size)
    (h : DataW.trod enc P W b0 sp hd fuel t cs = some x) :
    cs.length = fs.size ∧ ∃ (n : Nat) (xs : List (DataW H × List MemPlace)), x.1 = .agg (xs.map (·.1)) ∧ ∀ (i : Nat) (f : Field), fs[i]? = some f → ∃ c y, cs[i]? = some c ∧ xs[i]? = some y ∧ DataW.trod enc P W b0 sp hd n f.type [c] = some y := by
  obtain ⟨xs, n, _, rfl, hl, hlen, hf⟩ := DataW.trod_struct hs h
  rw [hC] at hl
  refine ⟨hl, n, xs, rfl, fun i f hi => ?_⟩
  obtain ⟨h1, h2⟩ := Go.Deep.hone_of hone i f hi
  have hi2 : i < fs.size := (Array.getElem?_eq_some_iff.1 hi).1
  have h3 := hf i f hi
  rw [h1, h2, List.drop_eq_getElem_cons (by omega), List.take_succ_cons, List.take_zero] at h3
  have h4 : xs[i]? = some (xs[i]'(by omega)) := List.getElem?_eq_getElem (by omega)
  exact ⟨cs[i]'(by omega), xs[i]'(by omega), List.getElem?_eq_getElem (by omega), h4, h3.trans h4⟩
theorem weights_all {e : TypeId} : ∀ {ds : List (DataW H)} {i : Nat} {d : DataW H}, ds[i]? = some d → ∀ n ∈ d.weights P e, n ∈ DataW.weightsAll P e ds
  | d0 :: ds, 0, d, hd, n, hn => by
    simp only [List.getElem?_cons_zero, Option.some.injEq] at hd
    subst hd
    simp only [DataW.weightsAll, List.mem_append]
    exact .inl hn
  | d0 :: ds, i + 1, d, hd, n, hn => by
    simp only [List.getElem?_cons_succ] at hd
    simp only [DataW.weightsAll, List.mem_append]
    exact .inr (weights_all hd n hn)
  | [], _, _, hd, _, _ => by simp at hd
theorem weights_elem {t e : TypeId} (hu : P.underlying t = some (.slice e)) {el sp : List (DataW H)} {i : Nat} {d : DataW H} (hd : el[i]? = some d) (n : Nat) (hn : n ∈ d.weights P e) : n ∈ (DataW.slice el sp).weights P t := by
  simp only [DataW.weights, hu, List.mem_cons, List.mem_append]
  exact .inr (.inl (weights_all hd n hn))
theorem weights_part {t : TypeId} {fs : Array Field} (hu : P.underlying t = some (.struct fs)) {parts : List (DataW H)} {i : Nat} {f : Field} {d : DataW H} (hf : fs[i]? = some f) (hd : parts[i]? = some d) (n : Nat) (hn : n ∈ d.weights P f.type) : n ∈ (DataW.agg parts).weights P t := by
  simp only [DataW.weights, hu]
  refine DataW.weights_mem_each (j := i) (t := f.type) (d := d) ?_ hd n hn
  rw [List.getElem?_map, Array.getElem?_toList, hf]
  rfl
/-- a list of structs of one-cell fields -/
theorem open_structs {base : Nat} {t e : TypeId} {fs : Array Field} {v : Value} {d : DataW H} {p : List MemPlace} (ht : P.underlying t = some (.slice e)) (he : P.underlying e = some (.struct fs)) (hone : Go.Deep.oneCellFields P fs = true) (hC : P.cellsOf e = fs.size) (hp : 0 < fs.size)
    (hval : Value.okWide P W .any base t v) (h : DataW.Trod enc P W 0 (fun _ => true) true t v d p) :
    ∃ (n : Nat) (ao : Option Addr) (cap : Nat) (C : Nat → List Value) (D : Nat → DataW H), v = .slice ao n cap ∧ n ≤ cap ∧ cap ≤ 9223372036854775807 ∧
      (∀ i, i < n → (∀ j c, (C i)[j]? = some c → ∃ b off, ao = some ⟨b, off, none⟩ ∧ W.cell? ⟨b, off + (i * fs.size + j), none⟩ = some c) ∧
        ∃ (m : Nat) (xs : List (DataW H × List MemPlace)), D i = .agg (xs.map (·.1)) ∧ ∀ (j : Nat) (f : Field), fs[j]? = some f → ∃ c y, (C i)[j]? = some c ∧ xs[j]? = some y ∧ DataW.trod enc P W 0 (fun _ => true) true m f.type [c] = some y) ∧
      (n = 0 ∨ ∃ el sp, d = .slice el sp ∧ el.length = n ∧ ∀ i, i < n → el[i]? = some (D i)) := by
  obtain ⟨a0, len0, cap0, rfl⟩ := Go.WideShapes.okWide_slice ht hval
  obtain ⟨fuel, hf⟩ := h
  rcases open_slice ht hf with ⟨hcs, _⟩ | ⟨a, len, cap, m, n, D, Pl, hcs, _, hl, hm, hmm, hx, hi⟩
  · simp only [Value.cells] at hcs
    injection hcs with hcs _
    rw [hcs]
    exact ⟨0, none, 0, fun _ => [], fun _ => d, rfl, Nat.le_refl _, by omega, fun i hi => by omega, .inl rfl⟩
  · simp only [Value.cells] at hcs
    injection hcs with hcs _
    rw [hcs]
    simp only [if_true] at hmm
    subst hmm
    rw [hC] at hi
    obtain ⟨C, hCC⟩ : ∃ C : Nat → List Value, ∀ i, i < len → W.cells? 0 (a.add (i * fs.size)) fs.size = some (C i) ∧ DataW.trod enc P W 0 (fun _ => true) true n e (C i) = some (D i, Pl i) :=
      ⟨fun i => if hh : i < len then Classical.choose (hi i (by omega)) else [], fun i hh => by
        simp only [hh, dif_pos]
        exact Classical.choose_spec (hi i (by omega))⟩
    injection hx with hx1 hx2
    refine ⟨len, some a, m, C, D, rfl, hl, by simp only [maxLen] at hm; omega, fun i hil => ?_, .inr ⟨_, _, hx1, by simp, fun i hil => by rw [List.getElem?_map, List.getElem?_range hil]; rfl⟩⟩
    obtain ⟨h1, h2⟩ := hCC i hil
    obtain ⟨h3, n2, xs, h4, h5⟩ := trod_fields2 he hone hC h2
    refine ⟨fun j c hj => ?_, n2, xs, h4, h5⟩
    have hjl : j < fs.size := by
      have := (List.getElem?_eq_some_iff.1 hj).1
      omega
    have hcell := (World.cells?_some h1).2.2 j hjl
    rw [hj] at hcell
    obtain ⟨b, off, spot⟩ := a
    have hsp : spot = none := by
      cases spot with
      | none => rfl
      | some s =>
        have h0 := (World.cells?_some (hCC 0 (by omega)).1).2.2 0 hp
        rw [Nat.zero_mul, show ((⟨b, off, some s⟩ : Addr).add 0).add 0 = ⟨b, off, some s⟩ from by simp [Addr.add], List.getElem?_eq_getElem (by have := (trod_fields2 he hone hC (hCC 0 (by omega)).2).1; omega)] at h0
        unfold World.cell? at h0
        split at h0 <;> simp at h0
    subst hsp
    rw [add_lit, add_lit, Nat.add_assoc] at hcell
    exact ⟨b, off, rfl, hcell⟩
theorem bytes_cell2 {t e : TypeId} {c : Value} {n : Nat} {y : DataW H × List MemPlace} (ht : P.underlying t = some (.slice e)) (he : P.underlying e = some (.int .u8)) (hce : P.cellsOf e = 1)
    (h : DataW.trod enc P W 0 (fun _ => true) true n t [c] = some y) : ∃ l : List UInt8, Bs W c l ∧ (l = [] ∨ ∃ es sp, y.1 = .slice es sp ∧ es.length = l.length) := by
  obtain ⟨l, hl⟩ := bytes_cell ht he hce h
  refine ⟨l, hl, ?_⟩
  rcases Go.ChangeShapes.open_ints ht he hce h with ⟨hcs, _⟩ | ⟨a, len', cap', zs, hcs, _, hl2, hm, hz, hx, hcell, hwz⟩
  · injection hcs with hcs _
    obtain ⟨ao, cap, hv, _⟩ := hl.form
    rw [hcs] at hv
    injection hv with _ hv _
    exact .inl (List.eq_nil_of_length_eq_zero hv.symm)
  · injection hcs with hcs _
    obtain ⟨ao, cap, hv, _⟩ := hl.form
    rw [hcs] at hv
    injection hv with _ hv _
    simp only [if_true] at hz
    exact .inr ⟨_, _, by rw [hx], by rw [← hv]; simp [Go.ChangeShapes.lits, List.length_take]; omega⟩
end
end Go.Proofs.Ytpampcokonicfaa
/- Opening a list of bytes under the second form's bound. -/
namespace Go.Proofs.Ytpampcokonicfaa
open Go.RowKit Go.ChangeShapes Go.WideShapes Go.ChangeAt
set_option maxRecDepth 100000
theorem bulkB_one {H : Type} (d : DataW H) : 1 ≤ Rows.uptoBulk d := by
  cases d with
  | lit l => cases l <;> simp [Rows.uptoBulk]
  | nil => simp [Rows.uptoBulk]
  | ptr d => simp [Rows.uptoBulk]
  | slice e s => simp [Rows.uptoBulk]
  | agg p => simp [Rows.uptoBulk]
  | iface t d => simp [Rows.uptoBulk]
  | map e => simp [Rows.uptoBulk]
  | held h => simp [Rows.uptoBulk]
theorem bulkB_len {H : Type} : ∀ l : List (DataW H), l.length ≤ Rows.uptoBulkAll l
  | [] => by simp
  | d :: r => by
    have h1 := bulkB_one d
    have h2 := bulkB_len r
    simp only [Rows.uptoBulkAll, List.length_cons]
    omega
theorem bulkB_mem {H : Type} {d : DataW H} : ∀ {l : List (DataW H)}, d ∈ l → Rows.uptoBulk d ≤ Rows.uptoBulkAll l
  | x :: r, h => by
    simp only [Rows.uptoBulkAll]
    rcases List.mem_cons.1 h with rfl | h
    · omega
    · have := bulkB_mem h
      omega
/-- a list of bytes that came in under the second form -/
def InU (W : World) (v : Value) (l : List UInt8) : Prop := Bs W v l ∧ l.length ≤ 1048576
theorem openBytesU {H : Type} {enc : TypeId × Value → H} {W : World} {base : Nat} {v : Value} {d : DataW H} {p : List MemPlace} {ds : List (DataW H)} (hk : Rows.uptoSmall H ds = true) (hd : d ∈ ds)
    (hval : Value.okWide Try.prog W .any base 22 v) (h : DataW.Trod enc Try.prog W 0 (fun _ => true) true 22 v d p) : ∃ l : List UInt8, InU W v l := by
  obtain ⟨l, hl, hh⟩ := open_bytes_sized Try.underlying22 Try.underlying5 cellsU8 hval h
  refine ⟨l, hl, ?_⟩
  rcases hh with rfl | ⟨es, sp, rfl, hlen⟩
  · simp
  · have h1 : Rows.uptoBulkAll ds ≤ 1048576 := of_decide_eq_true hk
    have h2 := bulkB_mem hd
    have h3 := bulkB_len es
    simp only [Rows.uptoBulk] at h2
    omega
end Go.Proofs.Ytpampcokonicfaa
namespace Go.Proofs.Ytpampcokonicfaa
open Go.RowKit Go.ChangeShapes Go.WideShapes Go.ChangeAt Go.Deep
set_option maxRecDepth 100000
structure Ac13 where
  on : Int
  kd : Int
  mute : Bool
  key : List UInt8
  dat : List UInt8
def Ac13At (W : World) (ao : Option Addr) (i : Nat) (s : Ac13) : Prop := ∃ b off c d, ao = some ⟨b, off, none⟩ ∧ W.cell? ⟨b, off + i * 5, none⟩ = some (.int .i64 s.on) ∧ W.cell? ⟨b, off + i * 5 + 1, none⟩ = some (.int .i64 s.kd) ∧ W.cell? ⟨b, off + i * 5 + 2, none⟩ = some c ∧ W.cell? ⟨b, off + i * 5 + 3, none⟩ = some d ∧ W.cell? ⟨b, off + i * 5 + 4, none⟩ = some (.bool s.mute) ∧ Bs W c s.key ∧ s.key.length ≤ 1048576 ∧ Bs W d s.dat ∧ s.dat.length ≤ 1048576
def InA13 (W : World) (v : Value) (ls : List Ac13) : Prop := ∃ (ao : Option Addr) (cap : Nat), v = .slice ao ls.length cap ∧ ls.length ≤ cap ∧ cap ≤ 9223372036854775807 ∧ ls.length ≤ 1048576 ∧ ∀ i s, ls[i]? = some s → Ac13At W ao i s
theorem openActs13 {H : Type} {enc : TypeId × Value → H} {W : World} {base : Nat} {v : Value} {d : DataW H} {p : List MemPlace} {ds : List (DataW H)} (hk : Rows.uptoSmall H ds = true) (hd : d ∈ ds)
    (hval : Value.okWide Try.prog W .any base 59 v) (h : DataW.Trod enc Try.prog W 0 (fun _ => true) true 59 v d p) : ∃ ls, InA13 W v ls := by
  obtain ⟨n, ao, cap, C, D, rfl, h1, h2, h3, h4⟩ := open_structs Try.underlying59 Try.underlying72 (by kernel_rfl) (by kernel_rfl) (by decide) hval h
  have hb1 : Rows.uptoBulkAll ds ≤ 1048576 := of_decide_eq_true hk
  have hb2 := bulkB_mem hd
  have hn : n ≤ 1048576 := by
    rcases h4 with rfl | ⟨el, sp, rfl, hl, _⟩
    · omega
    · have := bulkB_len el
      simp only [Rows.uptoBulk] at hb2
      omega
  have key : ∀ i, i < n → ∃ s, Ac13At W ao i s := by
    intro i hi
    obtain ⟨hc, m, xs, hD, hf⟩ := h3 i hi
    obtain ⟨c0, y0, e0, x0, t0⟩ := hf 0 _ rfl
    obtain ⟨c1, y1, e1, x1, t1⟩ := hf 1 _ rfl
    obtain ⟨c2, y2, e2, x2, t2⟩ := hf 2 _ rfl
    obtain ⟨c3, y3, e3, x3, t3⟩ := hf 3 _ rfl
    obtain ⟨c4, y4, e4, x4, t4⟩ := hf 4 _ rfl
    obtain ⟨a0, rfl, _⟩ := int_cell Try.underlying3 t0
    obtain ⟨a1, rfl, w1⟩ := int_cell Try.underlying3 t1
    obtain ⟨l, hb, hl⟩ := bytes_cell2 Try.underlying22 Try.underlying5 cellsU8 t2
    obtain ⟨l', hb', hl'⟩ := bytes_cell2 Try.underlying22 Try.underlying5 cellsU8 t3
    obtain ⟨mu, rfl⟩ := bool_cell Try.underlying4 t4
    obtain ⟨b, off, hao, g0⟩ := hc 0 _ e0
    obtain ⟨b1, off1, hao1, g1⟩ := hc 1 _ e1
    obtain ⟨b2, off2, hao2, g2⟩ := hc 2 _ e2
    obtain ⟨b3, off3, hao3, g3⟩ := hc 3 _ e3
    obtain ⟨b4, off4, hao4, g4⟩ := hc 4 _ e4
    rw [hao] at hao1 hao2 hao3 hao4
    injection hao1 with hao1
    injection hao1 with q1 q2 _
    subst q1; subst q2
    injection hao2 with hao2
    injection hao2 with q1 q2 _
    subst q1; subst q2
    injection hao3 with hao3
    injection hao3 with q1 q2 _
    subst q1; subst q2
    injection hao4 with hao4
    injection hao4 with q1 q2 _
    subst q1; subst q2
    have hbulk : ∀ (j : Nat) (y : DataW H × List MemPlace), xs[j]? = some y → Rows.uptoBulk y.1 ≤ 1048576 := by
      intro j y hy
      rcases h4 with rfl | ⟨el, sp2, rfl, hl2, hel2⟩
      · omega
      · have q1 : Rows.uptoBulk y.1 ≤ Rows.uptoBulkAll (xs.map (·.1)) := bulkB_mem (List.mem_map.2 ⟨y, List.mem_of_getElem? hy, rfl⟩)
        have q2 : Rows.uptoBulk (D i) ≤ Rows.uptoBulkAll el := bulkB_mem (List.mem_of_getElem? (hel2 i hi))
        rw [hD] at q2
        simp only [Rows.uptoBulk] at hb2 q2
        omega
    have small : ∀ (j : Nat) (y : DataW H × List MemPlace) (l : List UInt8), xs[j]? = some y → (l = [] ∨ ∃ es sp, y.1 = .slice es sp ∧ es.length = l.length) → l.length ≤ 1048576 := by
      intro j y l hy hl
      rcases hl with rfl | ⟨es, sp, hye, hel⟩
      · simp
      · have q := hbulk j y hy
        rw [hye] at q
        have q2 := bulkB_len es
        simp only [Rows.uptoBulk] at q
        omega
    exact ⟨⟨a0, a1, mu, l, l'⟩, b, off, c2, c3, hao, g0, g1, g2, g3, g4, hb, small 2 y2 l x2 hl, hb', small 3 y3 l' x3 hl'⟩
  obtain ⟨S, hS⟩ : ∃ S : Nat → Ac13, ∀ i, i < n → Ac13At W ao i (S i) :=
    ⟨fun i => if hh : i < n then Classical.choose (key i hh) else ⟨0, 0, false, [], []⟩, fun i hh => by
      simp only [hh, dif_pos]
      exact Classical.choose_spec (key i hh)⟩
  refine ⟨(List.range n).map S, ao, cap, by simp, by simpa using h1, h2, by simpa using hn, fun i s hs => ?_⟩
  have hi : i < n := by
    have := (List.getElem?_eq_some_iff.1 hs).1
    simpa using this
  rw [List.getElem?_map, List.getElem?_range hi] at hs
  simp at hs
  subst hs
  exact hS i hi
end Go.Proofs.Ytpampcokonicfaa
