/- The walk of CtOrder, and its plain law: lists of one length are ordered. Conditions: each list has at most 2^47 - 4096 bytes (the form's own reach). -/
import Derived.Test.YthegjgbidhbmfaaRows
import Derived.Test.YthegjgbidhbmfaaCtLaws
namespace Go.Proofs.Ythegjgbidhbmfaa
open Go.RowKit
set_option maxRecDepth 100000
set_option linter.unusedVariables false

/-! ### plain -/
theorem ltL_self : ∀ l : List UInt8, ltL l l = false
  | [] => rfl
  | x :: xs => by rw [ltL, if_pos rfl]; exact ltL_self xs
theorem ltL_tri : ∀ xs ys : List UInt8, xs.length = ys.length → xs ≠ ys → ltL xs ys = !ltL ys xs
  | [], [], _, h => absurd rfl h
  | [], _ :: _, h, _ => by simp at h
  | _ :: _, [], h, _ => by simp at h
  | x :: xs, y :: ys, h, hn => by
    by_cases e : x = y
    · subst e
      rw [ltL, ltL, if_pos rfl, if_pos rfl]
      exact ltL_tri xs ys (by simpa using h) (fun he => hn (by rw [he]))
    · rw [ltL, ltL, if_neg e, if_neg (fun he => e he.symm)]
      have : ¬ x.toNat = y.toNat := fun he => e (UInt8.toNat_inj.1 he)
      rw [Bool.eq_iff_iff, Bool.not_eq_true', decide_eq_true_eq, decide_eq_false_iff_not]
      omega
theorem ltL_trans : ∀ xs ys zs : List UInt8, xs.length = ys.length → ys.length = zs.length → ltL xs ys = true → ltL ys zs = true → ltL xs zs = true
  | [], _, _, _, _, h, _ => by simp [ltL] at h
  | _ :: _, [], _, h, _, _, _ => by simp at h
  | _ :: _, _ :: _, [], _, h, _, _ => by simp at h
  | x :: xs, y :: ys, z :: zs, h1, h2, h3, h4 => by
    rw [ltL] at h3 h4 ⊢
    by_cases e1 : x = y
    · subst e1
      rw [if_pos rfl] at h3
      by_cases e2 : x = z
      · subst e2
        rw [if_pos rfl] at h4 ⊢
        exact ltL_trans xs ys zs (by simpa using h1) (by simpa using h2) h3 h4
      · rw [if_neg e2] at h4 ⊢
        exact h4
    · rw [if_neg e1, decide_eq_true_eq] at h3
      by_cases e2 : y = z
      · subst e2
        rw [if_neg e1, decide_eq_true_eq]
        exact h3
      · rw [if_neg e2, decide_eq_true_eq] at h4
        rw [if_neg (fun e => by rw [e] at h3; omega), decide_eq_true_eq]
        omega
/-- what holds of three lists of one length -/
theorem order_facts (P Q R : List UInt8) (h1 : P.length = Q.length) (h2 : Q.length = R.length) :
    (decide (P = Q) = true ∧ ltL P Q = false ∧ ltL Q P = false ∧ ltL Q R = ltL P R ∧ (decide (Q = R) = true → decide (P = R) = true)) ∨
    (decide (P = Q) = false ∧ ltL P Q = true ∧ ltL Q P = false ∧ (ltL Q R = true → ltL P R = true)) ∨
    (decide (P = Q) = false ∧ ltL P Q = false ∧ ltL Q P = true) := by
  by_cases h : P = Q
  · subst h
    left
    refine ⟨by simp, ltL_self P, ltL_self P, rfl, fun h => h⟩
  · right
    have ht := ltL_tri P Q h1 h
    rcases hq : ltL Q P with _ | _
    · rw [hq] at ht
      exact .inl ⟨by simpa using h, by simpa using ht, rfl, fun h3 => ltL_trans P Q R h1 h2 (by simpa using ht) h3⟩
    · rw [hq] at ht
      exact .inr ⟨by simpa using h, by simpa using ht, rfl⟩
theorem less_same {w0 w : World} {obs : List Ob} (h : Env w0 w obs) {u v : Value} {xs ys : List UInt8} (hu : Bs w u xs) (hv : Bs w v ys) (hl : xs.length = ys.length) :
    Calls Try.prog 30 #[.pointer none, u, v] w fun e w' => e = .returned (.tuple #[.bool (ltL xs ys), .int .i64 0]) ∧ Env w0 w' obs := by
  have := less_nil h hu hv
  rw [if_pos hl, if_pos hl] at this
  exact this
set_option maxHeartbeats 4000000 in
theorem ctOrder_walk (va vb vc : Value) (a b c : List UInt8) (yes : Bool) (w : World) (ha : In w va a) (hb : In w vb b) (hc : In w vc c) :
    Calls Try.prog 6 #[va, vb, vc, .bool yes] w fun e w' => e = .returned (.bool true) ∧ Below w.heap.size w w' := by
  have la := ha.2
  have lb := hb.2
  have lc := hc.2
  obtain ⟨ao, acap, rfl, a1, a2, _, _⟩ := ha.1.form
  obtain ⟨bo, bcap, rfl, b1, b2, _, _⟩ := hb.1.form
  obtain ⟨co, ccap, rfl, c1, c2, _, _⟩ := hc.1.form
  have hmn : ∃ n : Nat, n ≤ a.length ∧ n ≤ b.length ∧ n ≤ c.length ∧ (if (c.length : Int) < (if b.length < a.length then (b.length : Int) else (a.length : Int)) then (c.length : Int) else (if b.length < a.length then (b.length : Int) else (a.length : Int))) = (n : Int) := by
    by_cases h : b.length < a.length
    · rw [if_pos h]
      by_cases h2 : c.length < b.length
      · exact ⟨c.length, by omega, by omega, Nat.le_refl _, by rw [if_pos (by omega)]⟩
      · exact ⟨b.length, by omega, by omega, by omega, by rw [if_neg (by omega)]⟩
    · rw [if_neg h]
      by_cases h2 : c.length < a.length
      · exact ⟨c.length, by omega, by omega, Nat.le_refl _, by rw [if_pos (by omega)]⟩
      · exact ⟨a.length, by omega, by omega, by omega, by rw [if_neg (by omega)]⟩
  obtain ⟨n, n1, n2, n3, hn⟩ := hmn
  have HP := Lib.hid (ha.1.take n n1)
  have HQ := Lib.hid (hb.1.take n n2)
  have HR := Lib.hid (hc.1.take n n3)
  have lP : (a.take n).length = n := by simp; omega
  have lQ : (b.take n).length = n := by simp; omega
  have lR : (c.take n).length = n := by simp; omega
  have FACTS := Lib.hid (order_facts (a.take n) (b.take n) (c.take n) (by omega) (by omega))
  generalize a.take n = P at HP lP FACTS
  generalize b.take n = Q at HQ lQ FACTS
  generalize c.take n = R at HR lR FACTS
  have LP := Lib.hid lP
  have LQ := Lib.hid lQ
  have LR := Lib.hid lR
  have hP : ∃ one, Hid (decide (P = Q) = one) := ⟨_, Lib.hid rfl⟩
  obtain ⟨one, O1⟩ := hP
  have hP : ∃ two, Hid (decide (Q = R) = two) := ⟨_, Lib.hid rfl⟩
  obtain ⟨two, O2⟩ := hP
  have hP : ∃ pq, Hid (ltL P Q = pq) := ⟨_, Lib.hid rfl⟩
  obtain ⟨pq, O3⟩ := hP
  have hP : ∃ qp, Hid (ltL Q P = qp) := ⟨_, Lib.hid rfl⟩
  obtain ⟨qp, O4⟩ := hP
  have hP : ∃ qr, Hid (ltL Q R = qr) := ⟨_, Lib.hid rfl⟩
  obtain ⟨qr, O5⟩ := hP
  have hP : ∃ pr, Hid (ltL P R = pr) := ⟨_, Lib.hid rfl⟩
  obtain ⟨pr, O6⟩ := hP
  have hP : ∃ e3, Hid (decide (P = R) = e3) := ⟨_, Lib.hid rfl⟩
  obtain ⟨e3, O7⟩ := hP
  have FACTS2 : Hid ((one = true ∧ pq = false ∧ qp = false ∧ qr = pr ∧ (two = true → e3 = true)) ∨ (one = false ∧ pq = true ∧ qp = false ∧ (qr = true → pr = true)) ∨ (one = false ∧ pq = false ∧ qp = true)) := by
    have h := FACTS.out
    rw [O1.out, O2.out, O3.out, O4.out, O5.out, O6.out, O7.out] at h
    exact Lib.hid h
  have O8 : Hid (decide (Q = P) = one) := Lib.hid (by rw [← O1.out]; simp [eq_comm])
  clear FACTS ha hb hc lP lQ lR
  go_enter Try.func6, Try.ntmps6
  go_wp2_with fail
  clear hn
  have hwn : IntKind.i64.wrap (n : Int) = n := IntWalk.i64_in _ (by omega)
  have na : n ≤ acap := by omega
  have nb : n ≤ bcap := by omega
  have nc : n ≤ ccap := by omega
  go_quiet (fail)
  clear hwn
  have H0 : Hid (Env w (w.drewN nq) []) := Lib.hid ((Env.start w).draw nq)
  go_wp2_with fail
  refine (less_same H0.out (H0.out.old HP.out) (H0.out.old HQ.out) (by rw [LP.out, LQ.out])).mono ?_
  rintro e w1 ⟨he, h5⟩
  rw [O3.out] at he
  subst he
  have H1 := Lib.hid h5
  clear h5 H0
  go_wp2_with fail
  refine (less_same H1.out (H1.out.old HQ.out) (H1.out.old HP.out) (by rw [LP.out, LQ.out])).mono ?_
  rintro e w2 ⟨he, h5⟩
  rw [O4.out] at he
  subst he
  have H2 := Lib.hid h5
  clear h5 H1
  go_wp2_with fail
  refine (less_same H2.out (H2.out.old HQ.out) (H2.out.old HR.out) (by rw [LR.out, LQ.out])).mono ?_
  rintro e w3 ⟨he, h5⟩
  rw [O5.out] at he
  subst he
  have H3 := Lib.hid h5
  clear h5 H2
  go_wp2_with fail
  refine (less_same H3.out (H3.out.old HP.out) (H3.out.old HR.out) (by rw [LR.out, LP.out])).mono ?_
  rintro e w4 ⟨he, h5⟩
  rw [O6.out] at he
  subst he
  have H4 := Lib.hid h5
  clear h5 H3
  go_wp2_with fail
  refine (equal_nil H4.out (H4.out.old HP.out) (H4.out.old HQ.out)).mono ?_
  rintro e w5 ⟨he, h5⟩
  rw [O1.out] at he
  subst he
  have H5 := Lib.hid h5
  clear h5 H4
  go_wp2_with fail
  refine (equal_nil H5.out (H5.out.old HQ.out) (H5.out.old HR.out)).mono ?_
  rintro e w6 ⟨he, h5⟩
  rw [O2.out] at he
  subst he
  have H6 := Lib.hid h5
  clear h5 H5
  go_wp2_with fail
  refine (ctAwake_any _).mono ?_
  rintro e w7 ⟨rfl, hb⟩
  have H7 := Lib.hid (H6.out.below hb)
  clear hb H6
  go_wp2_with fail
  refine (equal_nil H7.out (H7.out.old HQ.out) (H7.out.old HP.out)).mono ?_
  rintro e w8 ⟨he, h5⟩
  rw [O8.out] at he
  subst he
  have H8 := Lib.hid h5
  clear h5 H7
  have HT : P.length = Q.length ∧ P.length ≤ 140737488355328 := ⟨by rw [LP.out, LQ.out], by rw [LP.out]; omega⟩
  have HT' := Lib.hid HT
  clear HT
  rcases FACTS2.out with ⟨rfl, rfl, rfl, rfl, h3⟩ | ⟨rfl, rfl, rfl, h3⟩ | ⟨rfl, rfl, rfl⟩
  · clear FACTS2
    cases two
    · clear h3
      go_wp2_with fail
      refine (choose_nil H8.out yes (H8.out.old HP.out) (H8.out.old HQ.out) HT'.out.1 HT'.out.2).mono ?_
      rintro e w9 ⟨r, rfl, h5⟩
      have H9 := Lib.hid h5
      clear h5 H8
      obtain ⟨_, _, rfl⟩ := (H9.out.bytes 0 rfl).any
      cases yes
      · go_wp2_with fail
        refine (equal_nil H9.out (H9.out.bytes 0 rfl).rd (H9.out.old HQ.out)).mono ?_
        rintro e w10 ⟨he, h5⟩
        rw [show decide (sel false P Q = Q) = true from decide_eq_true rfl] at he
        subst he
        have H10 := Lib.hid h5
        clear h5 H9
        go_wp2
        go_ret
        exact ⟨rfl, H10.out.base⟩
      · go_wp2_with fail
        refine (equal_nil H9.out (H9.out.bytes 0 rfl).rd (H9.out.old HP.out)).mono ?_
        rintro e w10 ⟨he, h5⟩
        rw [show decide (sel true P Q = P) = true from decide_eq_true rfl] at he
        subst he
        have H10 := Lib.hid h5
        clear h5 H9
        go_wp2
        go_ret
        exact ⟨rfl, H10.out.base⟩
    · obtain rfl := h3 rfl
      clear h3
      go_wp2_with fail
      refine (equal_nil H8.out (H8.out.old HP.out) (H8.out.old HR.out)).mono ?_
      rintro e w8 ⟨he, h5⟩
      rw [O7.out] at he
      subst he
      clear H8
      have H8 := Lib.hid h5
      clear h5
      go_wp2_with fail
      refine (choose_nil H8.out yes (H8.out.old HP.out) (H8.out.old HQ.out) HT'.out.1 HT'.out.2).mono ?_
      rintro e w9 ⟨r, rfl, h5⟩
      have H9 := Lib.hid h5
      clear h5 H8
      obtain ⟨_, _, rfl⟩ := (H9.out.bytes 0 rfl).any
      cases yes
      · go_wp2_with fail
        refine (equal_nil H9.out (H9.out.bytes 0 rfl).rd (H9.out.old HQ.out)).mono ?_
        rintro e w10 ⟨he, h5⟩
        rw [show decide (sel false P Q = Q) = true from decide_eq_true rfl] at he
        subst he
        have H10 := Lib.hid h5
        clear h5 H9
        go_wp2
        go_ret
        exact ⟨rfl, H10.out.base⟩
      · go_wp2_with fail
        refine (equal_nil H9.out (H9.out.bytes 0 rfl).rd (H9.out.old HP.out)).mono ?_
        rintro e w10 ⟨he, h5⟩
        rw [show decide (sel true P Q = P) = true from decide_eq_true rfl] at he
        subst he
        have H10 := Lib.hid h5
        clear h5 H9
        go_wp2
        go_ret
        exact ⟨rfl, H10.out.base⟩
  · clear FACTS2
    cases qr
    · clear h3
      go_wp2_with fail
      refine (choose_nil H8.out yes (H8.out.old HP.out) (H8.out.old HQ.out) HT'.out.1 HT'.out.2).mono ?_
      rintro e w9 ⟨r, rfl, h5⟩
      have H9 := Lib.hid h5
      clear h5 H8
      obtain ⟨_, _, rfl⟩ := (H9.out.bytes 0 rfl).any
      cases yes
      · go_wp2_with fail
        refine (equal_nil H9.out (H9.out.bytes 0 rfl).rd (H9.out.old HQ.out)).mono ?_
        rintro e w10 ⟨he, h5⟩
        rw [show decide (sel false P Q = Q) = true from decide_eq_true rfl] at he
        subst he
        have H10 := Lib.hid h5
        clear h5 H9
        go_wp2
        go_ret
        exact ⟨rfl, H10.out.base⟩
      · go_wp2_with fail
        refine (equal_nil H9.out (H9.out.bytes 0 rfl).rd (H9.out.old HP.out)).mono ?_
        rintro e w10 ⟨he, h5⟩
        rw [show decide (sel true P Q = P) = true from decide_eq_true rfl] at he
        subst he
        have H10 := Lib.hid h5
        clear h5 H9
        go_wp2
        go_ret
        exact ⟨rfl, H10.out.base⟩
    · obtain rfl := h3 rfl
      clear h3
      go_wp2_with fail
      refine (choose_nil H8.out yes (H8.out.old HP.out) (H8.out.old HQ.out) HT'.out.1 HT'.out.2).mono ?_
      rintro e w9 ⟨r, rfl, h5⟩
      have H9 := Lib.hid h5
      clear h5 H8
      obtain ⟨_, _, rfl⟩ := (H9.out.bytes 0 rfl).any
      cases yes
      · go_wp2_with fail
        refine (equal_nil H9.out (H9.out.bytes 0 rfl).rd (H9.out.old HQ.out)).mono ?_
        rintro e w10 ⟨he, h5⟩
        rw [show decide (sel false P Q = Q) = true from decide_eq_true rfl] at he
        subst he
        have H10 := Lib.hid h5
        clear h5 H9
        go_wp2
        go_ret
        exact ⟨rfl, H10.out.base⟩
      · go_wp2_with fail
        refine (equal_nil H9.out (H9.out.bytes 0 rfl).rd (H9.out.old HP.out)).mono ?_
        rintro e w10 ⟨he, h5⟩
        rw [show decide (sel true P Q = P) = true from decide_eq_true rfl] at he
        subst he
        have H10 := Lib.hid h5
        clear h5 H9
        go_wp2
        go_ret
        exact ⟨rfl, H10.out.base⟩
  · clear FACTS2
    go_wp2_with fail
    refine (choose_nil H8.out yes (H8.out.old HP.out) (H8.out.old HQ.out) HT'.out.1 HT'.out.2).mono ?_
    rintro e w9 ⟨r, rfl, h5⟩
    have H9 := Lib.hid h5
    clear h5 H8
    obtain ⟨_, _, rfl⟩ := (H9.out.bytes 0 rfl).any
    cases yes
    · go_wp2_with fail
      refine (equal_nil H9.out (H9.out.bytes 0 rfl).rd (H9.out.old HQ.out)).mono ?_
      rintro e w10 ⟨he, h5⟩
      rw [show decide (sel false P Q = Q) = true from decide_eq_true rfl] at he
      subst he
      have H10 := Lib.hid h5
      clear h5 H9
      go_wp2
      go_ret
      exact ⟨rfl, H10.out.base⟩
    · go_wp2_with fail
      refine (equal_nil H9.out (H9.out.bytes 0 rfl).rd (H9.out.old HP.out)).mono ?_
      rintro e w10 ⟨he, h5⟩
      rw [show decide (sel true P Q = P) = true from decide_eq_true rfl] at he
      subst he
      have H10 := Lib.hid h5
      clear h5 H9
      go_wp2
      go_ret
      exact ⟨rfl, H10.out.base⟩
theorem ctOrder.walk {w : World} (va : Value) (a : List UInt8) (ha : In w va a) (vb : Value) (b : List UInt8) (hb : In w vb b) (vc : Value) (c : List UInt8) (hc : In w vc c) (yes : Bool) :
    Calls Try.prog 6 #[va, vb, vc, .bool yes] w fun e w' => e = .returned (.bool true) ∧ Below w.heap.size w w' := ctOrder_walk va vb vc a b c yes w ha hb hc
end Go.Proofs.Ythegjgbidhbmfaa
