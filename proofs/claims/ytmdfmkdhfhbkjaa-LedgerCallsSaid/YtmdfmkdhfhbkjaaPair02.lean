/- The law's pair: a ledger, the document's, what was told of both; keep and near. -/
import Derived.Test.YtmdfmkdhfhbkjaaRows
import Derived.Test.YtmdfmkdhfhbkjaaWalk02
import Derived.Test.YtmdfmkdhfhbkjaaToldR
import Derived.Test.YtmdfmkdhfhbkjaaLedRuns
import Derived.Deep.DeepCutAuto
import Derived.Deep.CutBlock
namespace Go.Proofs.Ytmdfmkdhfhbkjaa
open Go.RowKit
set_option maxRecDepth 100000
set_option linter.unusedVariables false
set_option linter.unusedSimpArgs false
attribute [local go_sem] Oper.semAt_some
theorem pick_any (i n : Int) (w : World) (hn : 0 < n) (hn' : n ≤ 9223372036854775807) :
    Calls Try.prog 11 #[.int .i64 i, .int .i64 n] w fun e w' => e = .returned (.int .i64 (i % n)) ∧ w = w' := by
  have ht : i.tmod n = if i % n = 0 ∨ 0 ≤ i then i % n else i % n - n := by
    have := Int.emod_nonneg i (show n ≠ 0 by omega)
    rw [Int.tmod_eq_emod]
    have : (n.natAbs : Int) = n := by omega
    by_cases h : 0 ≤ i ∨ n ∣ i
    · rw [if_pos h]
      rcases h with h | h
      · rw [if_pos (.inr h)]; omega
      · rw [if_pos (.inl (Int.emod_eq_zero_of_dvd h))]; omega
    · rw [if_neg h]
      have : ¬ (i % n = 0 ∨ 0 ≤ i) := by
        rintro (h1 | h1)
        · exact h (.inr (Int.dvd_of_emod_eq_zero h1))
        · exact h (.inl h1)
      rw [if_neg this]
      omega
  have h1 := Int.emod_nonneg i (show n ≠ 0 by omega)
  have h2 := Int.emod_lt_of_pos i hn
  by_cases hc : i % n = 0 ∨ 0 ≤ i
  · rw [if_pos hc] at ht
    clear hc
    generalize i % n = r at ht h1 h2 ⊢
    go_enter Try.func11, Try.ntmps11
    go_wp2
    go_ret
    exact ⟨rfl, rfl⟩
  · rw [if_neg hc] at ht
    have h3 : ¬ i % n = 0 := fun e => hc (.inl e)
    clear hc
    generalize i % n = r at ht h1 h2 h3 ⊢
    have e : r - n + n = r := by omega
    go_enter Try.func11, Try.ntmps11
    go_wp2
    go_ret
    exact ⟨rfl, rfl⟩
theorem Env.swap2 {w0 w : World} {obs : List Ob} {x y : Ob} (h : Env w0 w (obs ++ [x, y])) : Env w0 w (obs ++ [y, x]) := by
  refine h.pick (fun j => if j = obs.length then obs.length + 1 else if j = obs.length + 1 then obs.length else j) (fun i j hi hj e => ?_) (fun j ob hj => ?_)
  · split at e <;> split at e <;> (try split at e) <;> (try split at e) <;> omega
  · have hl := (List.getElem?_eq_some_iff.1 hj).1
    simp only [List.length_append, List.length_cons, List.length_nil] at hl
    by_cases h1 : j = obs.length
    · rw [if_pos h1, atE obs [x, y] 1]
      rw [h1, show obs.length = obs.length + 0 from rfl, atE obs [y, x] 0] at hj
      exact hj
    · rw [if_neg h1]
      by_cases h2 : j = obs.length + 1
      · rw [if_pos h2, show obs.length = obs.length + 0 from rfl, atE obs [x, y] 0]
        rw [h2, atE obs [y, x] 1] at hj
        exact hj
      · rw [if_neg h2, List.getElem?_append_left (by omega)]
        rw [List.getElem?_append_left (by omega)] at hj
        exact hj
/-- a pair of the law's, five things from d on -/
structure PairAt (obs : List Ob) (d b : Nat) (p q u v : Value) (rs : List Rn) (ts us : List (Value × List Rn)) : Prop where
  blk : obs[d]? = some (obK b 31 #[p, q, u, v])
  lp : obs[d + 1]? = some (obP p (some rs))
  lr : obs[d + 2]? = some (obR q (some rs))
  tu : obs[d + 3]? = some (obTR u ts)
  tv : obs[d + 4]? = some (obTR v us)
/-- nothing but the pair has turned -/
def Turned (d : Nat) (obs obs' : List Ob) : Prop := obs'.length = obs.length ∧ ∀ j, j < d ∨ d + 5 ≤ j → obs'[j]? = obs[j]?
theorem Turned.refl (d : Nat) (obs : List Ob) : Turned d obs obs := ⟨rfl, fun _ _ => rfl⟩
theorem Turned.set {d : Nat} {obs obs' : List Ob} (h : Turned d obs obs') (k : Nat) (hk : d ≤ k ∧ k < d + 5) (x : Ob) : Turned d obs (obs'.set k x) :=
  ⟨by simpa using h.1, fun j hj => by rw [List.getElem?_set_ne (by omega)]; exact h.2 j hj⟩
theorem Turned.trans {d : Nat} {a b c : List Ob} (h : Turned d a b) (k : Turned d b c) : Turned d a c := ⟨k.1.trans h.1, fun j hj => (k.2 j hj).trans (h.2 j hj)⟩
theorem PairAt.more {obs : List Ob} {d b : Nat} {p q u v : Value} {rs : List Rn} {ts us : List (Value × List Rn)} (h : PairAt obs d b p q u v rs ts us) (L : List Ob) : PairAt (obs ++ L) d b p q u v rs ts us := by
  have hl := (List.getElem?_eq_some_iff.1 h.tv).1
  exact ⟨by rw [List.getElem?_append_left (by omega)]; exact h.blk, by rw [List.getElem?_append_left (by omega)]; exact h.lp, by rw [List.getElem?_append_left (by omega)]; exact h.lr, by rw [List.getElem?_append_left (by omega)]; exact h.tu, by rw [List.getElem?_append_left (by omega)]; exact h.tv⟩
set_option maxHeartbeats 8000000 in
theorem keep_env {w0 w : World} {obs : List Ob} {xo yo : Option Addr} {xc yc : Nat} {l : List Rn} (h : Env w0 w (obs ++ [obRuns (.slice xo l.length xc) l, obRuns (.slice yo l.length yc) l])) (d b : Nat) {p q u v : Value} {rs : List Rn} {ts us : List (Value × List Rn)} (hp : PairAt obs d b p q u v rs ts us)
    (h1 : ts.length ≤ 1000) (h2 : us.length ≤ 1000) :
    Calls Try.prog 38 #[.pointer (some ⟨b, 0, none⟩), .slice xo l.length xc, .slice yo l.length yc] w fun e w' => e = .returned (.bool true) ∧
      ∃ obs' u' v', Env w0 w' obs' ∧ PairAt obs' d b p q u' v' rs (ts ++ [(.slice xo l.length xc, l)]) (us ++ [(.slice yo l.length yc, l)]) ∧ Turned d obs obs' := by
  have hl := (List.getElem?_eq_some_iff.1 hp.tv).1
  have HE := Lib.hid h.swap2
  have HP := Lib.hid hp
  have e2 : w.cell? ⟨b, 2, none⟩ = some u := (h.blk d (hp.more _).blk).cellAt 2 rfl
  clear h hp
  go_enter Try.func38, Try.ntmps38
  have hE : Env w0 w ((obs ++ [obRuns (.slice yo l.length yc) l]) ++ [obRuns (.slice xo l.length xc) l]) := by rw [List.append_assoc]; exact HE.out
  have HE2 := Lib.hid hE
  clear hE HE
  go_wp2_with (at_builtin; refine wpList_append_TR HE2.out (d + 3) (HP.out.more _).tu _ _ rfl rfl rfl rfl (by omega) ?_)
  intro u' w1 h5
  rw [List.set_append_left _ _ (by omega)] at h5
  obtain ⟨uo, uc, hu', _, _⟩ := obTR_form h5 (u := u') (ts := ts ++ [(.slice xo l.length xc, l)]) (d + 3) (by rw [List.getElem?_append_left (by simp; omega)]; exact List.getElem?_set_self (by omega))
  rw [List.length_append, List.length_singleton] at hu'
  subst hu'
  obtain ⟨o1, ho1⟩ : ∃ x, obs.set (d + 3) (obTR (.slice uo (ts.length + 1) uc) (ts ++ [(.slice xo l.length xc, l)])) = x := ⟨_, rfl⟩
  rw [ho1] at h5
  have hb1 : o1[d]? = some (obK b 31 #[p, q, u, v]) := by rw [← ho1, List.getElem?_set_ne (by omega)]; exact HP.out.blk
  have hl1 : o1.length = obs.length := by rw [← ho1]; simp
  have k1 := h5.blk d (show (o1 ++ [_])[d]? = _ by rw [List.getElem?_append_left (by omega)]; exact hb1)
  have f2 := k1.unfrozen 2
  have g2 : w1.cell? ⟨b, 2, none⟩ = some u := k1.cellAt 2 rfl
  have h6 := h5.turnBlk d (show (o1 ++ [_])[d]? = _ by rw [List.getElem?_append_left (by omega)]; exact hb1) (k1.set 2 (.slice uo (ts.length + 1) uc)) ((Only.refl (fun x => x = b) w1).set (p := ⟨b, 2, none⟩) (.inl rfl) _)
  rw [List.set_append_left _ _ (by omega)] at h6
  obtain ⟨o2, ho2⟩ : ∃ x, o1.set d (obK b 31 #[p, q, .slice uo (ts.length + 1) uc, v]) = x := ⟨_, rfl⟩
  have H6 : Hid (Env w0 (w1.setCell ⟨b, 2, none⟩ (.slice uo (ts.length + 1) uc)) (o2 ++ [obRuns (.slice yo l.length yc) l])) := by rw [← ho2]; exact Lib.hid h6
  have hl2 : o2.length = obs.length := by rw [← ho2]; simpa using hl1
  have hp2 : PairAt o2 d b p q (.slice uo (ts.length + 1) uc) v rs (ts ++ [(.slice xo l.length xc, l)]) us := by
    rw [← ho2, ← ho1]
    refine ⟨List.getElem?_set_self (by simp; omega), ?_, ?_, ?_, ?_⟩
    · rw [List.getElem?_set_ne (by omega), List.getElem?_set_ne (by omega)]; exact HP.out.lp
    · rw [List.getElem?_set_ne (by omega), List.getElem?_set_ne (by omega)]; exact HP.out.lr
    · rw [List.getElem?_set_ne (by omega)]; exact List.getElem?_set_self (by omega)
    · rw [List.getElem?_set_ne (by omega), List.getElem?_set_ne (by omega)]; exact HP.out.tv
  have ht2 : Turned d obs o2 := by
    rw [← ho2, ← ho1]
    exact ((Turned.refl d obs).set _ ⟨by omega, by omega⟩ _).set _ ⟨by omega, by omega⟩ _
  have HP2 := Lib.hid hp2
  have HT2 := Lib.hid ht2
  clear k1 h6 h5 hb1 hl1 hp2 ht2 ho2 ho1 e2 HE2
  go_upto_region 2 with fail
  clear f2 g2
  obtain ⟨w2, hw2⟩ : ∃ x, w1.setCell ⟨b, 2, none⟩ (.slice uo (ts.length + 1) uc) = x := ⟨_, rfl⟩
  rw [hw2] at H6 ⊢
  clear hw2
  have e3 : w2.cell? ⟨b, 3, none⟩ = some v := (H6.out.blk d (HP2.out.more _).blk).cellAt 3 rfl
  go_wp2_with (at_builtin; refine wpList_append_TR H6.out (d + 4) HP2.out.tv _ _ rfl rfl rfl rfl (by omega) ?_)
  intro v' w3 h5
  obtain ⟨vo, vc, hv', _, _⟩ := obTR_form h5 (u := v') (ts := us ++ [(.slice yo l.length yc, l)]) (d + 4) (List.getElem?_set_self (by have := HT2.out.1; omega))
  rw [List.length_append, List.length_singleton] at hv'
  subst hv'
  have k1 := h5.blk d (show (o2.set (d + 4) _)[d]? = _ by rw [List.getElem?_set_ne (by omega)]; exact HP2.out.blk)
  have f2 := k1.unfrozen 3
  have g2 : w3.cell? ⟨b, 3, none⟩ = some v := k1.cellAt 3 rfl
  have h6 := h5.turnBlk d (show (o2.set (d + 4) _)[d]? = _ by rw [List.getElem?_set_ne (by omega)]; exact HP2.out.blk) (k1.set 3 (.slice vo (us.length + 1) vc)) ((Only.refl (fun x => x = b) w3).set (p := ⟨b, 3, none⟩) (.inl rfl) _)
  obtain ⟨o3, ho3⟩ : ∃ x, (o2.set (d + 4) (obTR (.slice vo (us.length + 1) vc) (us ++ [(.slice yo l.length yc, l)]))).set d (obK b 31 #[p, q, .slice uo (ts.length + 1) uc, .slice vo (us.length + 1) vc]) = x := ⟨_, rfl⟩
  have H7 : Hid (Env w0 (w3.setCell ⟨b, 3, none⟩ (.slice vo (us.length + 1) vc)) o3) := by rw [← ho3]; exact Lib.hid h6
  have hp3 : PairAt o3 d b p q (.slice uo (ts.length + 1) uc) (.slice vo (us.length + 1) vc) rs (ts ++ [(.slice xo l.length xc, l)]) (us ++ [(.slice yo l.length yc, l)]) := by
    rw [← ho3]
    refine ⟨List.getElem?_set_self (by simp; omega), ?_, ?_, ?_, ?_⟩
    · rw [List.getElem?_set_ne (by omega), List.getElem?_set_ne (by omega)]; exact HP2.out.lp
    · rw [List.getElem?_set_ne (by omega), List.getElem?_set_ne (by omega)]; exact HP2.out.lr
    · rw [List.getElem?_set_ne (by omega), List.getElem?_set_ne (by omega)]; exact HP2.out.tu
    · rw [List.getElem?_set_ne (by omega)]; exact List.getElem?_set_self (by omega)
  have ht3 : Turned d obs o3 := by
    rw [← ho3]
    exact (HT2.out.set _ ⟨by omega, by omega⟩ _).set _ ⟨by omega, by omega⟩ _
  have HP3 := Lib.hid hp3
  have HT3 := Lib.hid ht3
  clear k1 h6 h5 hp3 ht3 ho3 e3 H6
  go_upto_region 3 with fail
  clear f2 g2
  obtain ⟨w4, hw4⟩ : ∃ x, w3.setCell ⟨b, 3, none⟩ (.slice vo (us.length + 1) vc) = x := ⟨_, rfl⟩
  rw [hw4] at H7 ⊢
  clear hw4
  go_wp2_with fail
  have rx : RunsRd w4 (.slice xo l.length xc) l := obTR_get H7.out (d + 3) HP3.out.tu (j := ts.length) (by simp)
  have ry : RunsRd w4 (.slice yo l.length yc) l := obTR_get H7.out (d + 4) HP3.out.tv (j := us.length) (by simp)
  refine (sameRuns_env' H7.out rx ry).mono ?_
  rintro e w5 ⟨rfl, h5⟩
  have H8 := Lib.hid h5
  clear h5 H7 rx ry
  rw [decide_eq_true rfl]
  go_wp2
  go_ret
  exact ⟨rfl, o3, _, _, H8.out, HP3.out, HT3.out⟩
end Go.Proofs.Ytmdfmkdhfhbkjaa
