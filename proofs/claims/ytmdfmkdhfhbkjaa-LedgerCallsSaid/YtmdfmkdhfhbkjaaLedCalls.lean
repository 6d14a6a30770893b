/- LedgerCalls: two ledgers, call by call. -/
import Derived.Test.YtmdfmkdhfhbkjaaRows
import Derived.Test.YtmdfmkdhfhbkjaaEnd02
import Derived.Test.YtmdfmkdhfhbkjaaOpenAct
import Derived.Test.YtmdfmkdhfhbkjaaLives
namespace Go.Proofs.Ytmdfmkdhfhbkjaa
open Go.RowKit
set_option maxRecDepth 100000
set_option linter.unusedVariables false
set_option linter.unusedSimpArgs false
attribute [local go_sem] Oper.semAt_some
theorem Env.pushTR {w0 w : World} {obs : List Ob} (h : Env w0 w obs) : Env w0 w (obs ++ [obTR (.slice none 0 0) []]) :=
  h.llNil (st := 32) (e := 61) (sz := 3)
theorem calls_start {w0 w : World} {p0 q0 p1 q1 : Value} {b0 b1 A : Nat} {arr : Array Value} {t : TypeId} (h : Env w0 w [obP p0 (some []), obR q0 (some []), obK b0 31 #[p0, q0, .slice none 0 0, .slice none 0 0], obP p1 (some []), obR q1 (some []), obK b1 31 #[p1, q1, .slice none 0 0, .slice none 0 0], obK A t arr]) :
    Env w0 w (pObs b0 p0 q0 (.slice none 0 0) (.slice none 0 0) [] [] [] ++ pObs b1 p1 q1 (.slice none 0 0) (.slice none 0 0) [] [] [] ++ [obK A t arr]) := by
  have h3 := h.pushTR.pushTR.pushTR.pushTR
  refine h3.pick (fun j => if j = 0 then 2 else if j = 1 then 0 else if j = 2 then 1 else if j = 3 then 7 else if j = 4 then 8 else if j = 5 then 5 else if j = 6 then 3 else if j = 7 then 4 else if j = 8 then 9 else if j = 9 then 10 else 6) ?_ ?_
  · intro i j hi hj
    simp [pObs] at hi hj
    exact (by decide : ∀ i, i < 11 → ∀ j, j < 11 → (if i = 0 then 2 else if i = 1 then 0 else if i = 2 then 1 else if i = 3 then 7 else if i = 4 then 8 else if i = 5 then 5 else if i = 6 then 3 else if i = 7 then 4 else if i = 8 then 9 else if i = 9 then 10 else 6) = (if j = 0 then 2 else if j = 1 then 0 else if j = 2 then 1 else if j = 3 then 7 else if j = 4 then 8 else if j = 5 then 5 else if j = 6 then 3 else if j = 7 then 4 else if j = 8 then 9 else if j = 9 then 10 else 6) → i = j) i hi j hj
  · intro j ob hj
    match j, hj with
    | 0, hj | 1, hj | 2, hj | 3, hj | 4, hj | 5, hj | 6, hj | 7, hj | 8, hj | 9, hj | 10, hj => exact hj
    | j + 11, hj => simp [pObs] at hj
/-- the law's world after i calls -/
def CS (w wx : World) (b0 : Nat) (p0 q0 : Value) (b1 : Nat) (p1 q1 : Value) (A i : Nat) : Prop := ∃ u0 v0 r0 t0 s0 u1 v1 r1 t1 s1, Env w wx (lObs b0 p0 q0 u0 v0 r0 t0 s0 b1 p1 q1 u1 v1 r1 t1 s1 A) ∧ PS i r0 t0 s0 ∧ PS i r1 t1 s1
theorem PS.start : PS 0 [] [] [] := ⟨trivial, by simp [tot], by simp, by simp, rfl, fun x hx => by simp at hx⟩
theorem Env.pushRow {w0 w : World} {obs : List Ob} (h : Env w0 w obs) (e : TypeId) : Env w0 w (obs ++ [obE e 1 (.slice none 0 0) 0 []]) :=
  h.push (F' := fpv (.slice none 0 0)) (obE e 1 (.slice none 0 0) 0 []) ⟨⟨rfl, .inl ⟨rfl, rfl⟩⟩, rfl⟩ (Below.refl _ _) (fun x hx => by simp [fpv, Value.ownBlock] at hx)
theorem Env.same {w0 w : World} {A B : List Ob} (h : Env w0 w A) (e : ∀ (j : Nat) (ob : Ob), B[j]? = some ob → A[j]? = some ob) : Env w0 w B := h.pick id (fun _ _ _ _ e => e) e
theorem CS.pair {w wx : World} {b0 b1 A i : Nat} {p0 q0 p1 q1 : Value} (h : CS w wx b0 p0 q0 b1 p1 q1 A i) (k : Nat) (hk : k < 2) :
    ∃ obs d b p q u v rs ts us, Env w wx obs ∧ PairAt obs d b p q u v rs ts us ∧ PS i rs ts us ∧ obs[10]? = some (obK A 35 #[.pointer (some ⟨b0, 0, none⟩), .pointer (some ⟨b1, 0, none⟩)]) ∧ (#[Value.pointer (some ⟨b0, 0, none⟩), Value.pointer (some ⟨b1, 0, none⟩)])[k]? = some (Value.pointer (some ⟨b, 0, none⟩)) ∧
      ∀ w' obs' u' v' rs' ts' us', Env w w' obs' → PairAt obs' d b p q u' v' rs' ts' us' → Turned d obs obs' → PS (i + 1) rs' ts' us' → CS w w' b0 p0 q0 b1 p1 q1 A (i + 1) := by
  obtain ⟨u0, v0, r0, t0, s0, u1, v1, r1, t1, s1, hE, h0, h1⟩ := h
  rcases (by omega : k = 0 ∨ k = 1) with rfl | rfl
  · refine ⟨_, 0, b0, p0, q0, u0, v0, r0, t0, s0, hE, ⟨rfl, rfl, rfl, rfl, rfl⟩, h0, rfl, rfl, fun w' obs' u' v' rs' ts' us' hE' hp ht hs => ?_⟩
    refine ⟨u', v', rs', ts', us', u1, v1, r1, t1, s1, hE'.same (fun j ob hj => ?_), hs, h1.up⟩
    match j, hj with
    | 0, hj => exact hp.blk.trans hj
    | 1, hj => exact hp.lp.trans hj
    | 2, hj => exact hp.lr.trans hj
    | 3, hj => exact hp.tu.trans hj
    | 4, hj => exact hp.tv.trans hj
    | 5, hj | 6, hj | 7, hj | 8, hj | 9, hj | 10, hj => exact (ht.2 _ (by omega)).trans hj
    | j + 11, hj => simp [lObs, pObs] at hj
  · refine ⟨_, 5, b1, p1, q1, u1, v1, r1, t1, s1, hE, ⟨rfl, rfl, rfl, rfl, rfl⟩, h1, rfl, rfl, fun w' obs' u' v' rs' ts' us' hE' hp ht hs => ?_⟩
    refine ⟨u0, v0, r0, t0, s0, u', v', rs', ts', us', hE'.same (fun j ob hj => ?_), h0.up, hs⟩
    match j, hj with
    | 5, hj => exact hp.blk.trans hj
    | 6, hj => exact hp.lp.trans hj
    | 7, hj => exact hp.lr.trans hj
    | 8, hj => exact hp.tu.trans hj
    | 9, hj => exact hp.tv.trans hj
    | 0, hj | 1, hj | 2, hj | 3, hj | 4, hj | 10, hj => exact (ht.2 _ (by omega)).trans hj
    | j + 11, hj => simp [lObs, pObs] at hj
theorem ac5 {w : World} {ao : Option Addr} {n cap : Nat} {l : List Ac} (h : KAc.R w (.slice ao n cap) l) {i : Nat} {x : Ac} (hx : l[i]? = some x) : ∃ b off, ao = some ⟨b, off, none⟩ ∧ b < w.heap.size ∧ w.cell? ⟨b, off + i * 5, none⟩ = some (.int .i64 x.on) ∧ w.cell? ⟨b, off + i * 5 + 1, none⟩ = some (.int .i64 x.cl) ∧ w.cell? ⟨b, off + i * 5 + 2, none⟩ = some (.int .u8 x.k) ∧ w.cell? ⟨b, off + i * 5 + 3, none⟩ = some (.int .i64 x.s) ∧ w.cell? ⟨b, off + i * 5 + 4, none⟩ = some (.int .i64 x.n) := by
  obtain ⟨b, off, h1, h2, h3⟩ := Knd.R.get h hx
  exact ⟨b, off, h1, h2, h3 0 _ rfl, by rw [Nat.add_assoc]; exact h3 1 _ rfl, by rw [Nat.add_assoc]; exact h3 2 _ rfl, by rw [Nat.add_assoc]; exact h3 3 _ rfl, by rw [Nat.add_assoc]; exact h3 4 _ rfl⟩
def pick2 {α : Type} (a b : α) (k : Nat) : α := match k with | 0 => a | _ => b
/-- the values told by the first k pairs -/
def toldV (l0 l1 : List (Value × List Rn)) (k : Nat) : List Value := match k with | 0 => [] | 1 => l0.map (·.1) | _ => l0.map (·.1) ++ l1.map (·.1)
theorem toldV_len (l0 l1 : List (Value × List Rn)) (k : Nat) : (toldV l0 l1 k).length ≤ l0.length + l1.length := by
  match k with
  | 0 => simp [toldV]
  | 1 => simp [toldV]
  | k + 2 => simp [toldV]
theorem toldV_next (l0 l1 : List (Value × List Rn)) (k : Nat) (hk : k < 2) : toldV l0 l1 (k + 1) = toldV l0 l1 k ++ (pick2 l0 l1 k).map (·.1) := by
  rcases (by omega : k = 0 ∨ k = 1) with rfl | rfl
  · simp [toldV, pick2]
  · simp [toldV, pick2]
theorem lObs_pair {i : Nat} {b0 b1 A : Nat} {p0 q0 u0 v0 p1 q1 u1 v1 : Value} {r0 r1 : List Rn} {l0 s0 l1 s1 : List (Value × List Rn)} (h0 : PS i r0 l0 s0) (h1 : PS i r1 l1 s1) (k : Nat) (hk : k < 2) :
    ∃ d b p q u v rs ts us, PairAt (lObs b0 p0 q0 u0 v0 r0 l0 s0 b1 p1 q1 u1 v1 r1 l1 s1 A) d b p q u v rs ts us ∧ PS i rs ts us ∧ ts = pick2 l0 l1 k ∧ (#[Value.pointer (some ⟨b0, 0, none⟩), Value.pointer (some ⟨b1, 0, none⟩)])[k]? = some (Value.pointer (some ⟨b, 0, none⟩)) := by
  rcases (by omega : k = 0 ∨ k = 1) with rfl | rfl
  · exact ⟨0, b0, p0, q0, u0, v0, r0, l0, s0, ⟨rfl, rfl, rfl, rfl, rfl⟩, h0, rfl, rfl⟩
  · exact ⟨5, b1, p1, q1, u1, v1, r1, l1, s1, ⟨rfl, rfl, rfl, rfl, rfl⟩, h1, rfl, rfl⟩
/-- what the comparison of the told reads -/
def Tl (A k bb : Nat) (u v : Value) (gu gv j : Nat) (x y : Value) (wx : World) : Prop := wx.cell? ⟨A, k, none⟩ = some (.pointer (some ⟨bb, 0, none⟩)) ∧ wx.cell? ⟨bb, 2, none⟩ = some u ∧ wx.cell? ⟨bb, 3, none⟩ = some v ∧ wx.cell? ⟨gu, j, none⟩ = some x ∧ wx.cell? ⟨gv, j, none⟩ = some y
theorem Tl.id {A k bb : Nat} {u v : Value} {gu gv j : Nat} {x y : Value} (wx : World) (h : Tl A k bb u v gu gv j x y wx) : wx.cell? ⟨A, k, none⟩ = some (.pointer (some ⟨bb, 0, none⟩)) ∧ wx.cell? ⟨bb, 2, none⟩ = some u ∧ wx.cell? ⟨bb, 3, none⟩ = some v ∧ wx.cell? ⟨gu, j, none⟩ = some x ∧ wx.cell? ⟨gv, j, none⟩ = some y := h
set_option maxHeartbeats 8000000 in
theorem ledgerCalls.walk (v : Value) (acts : List Ac) {w : World} (hin : InAc w v acts) :
    Calls Try.prog 3 #[v] w fun e w' => e = .returned (.bool true) ∧ Below w.heap.size w w' := by
  obtain ⟨hst, hok⟩ := hin
  obtain ⟨ao, cap, rfl, hc1, hc2, _⟩ := hst.any
  have HST := Lib.hid hst
  have HOK := Lib.hid hok
  clear hst hok
  go_enter Try.func3, Try.ntmps3
  go_wp2_with fail
  refine (lives_any _).mono ?_
  rintro e w1 ⟨rfl, h1⟩
  have HB1 := Lib.hid h1
  clear h1
  by_cases hlen : 300 < acts.length
  · have t1 : decide (300 < (acts.length : Int)) = true := by rw [decide_eq_true_eq]; omega
    have t2 : decide (300 < acts.length) = true := by rw [decide_eq_true_eq]; omega
    clear hlen
    go_wp2_with fail
    go_ret
    exact ⟨rfl, HB1.out⟩
  · have t1 : decide (300 < (acts.length : Int)) = false := by rw [decide_eq_false_iff_not]; omega
    have t2 : decide (300 < acts.length) = false := by rw [decide_eq_false_iff_not]; omega
    have h0 : Env w w1 [] := (Env.start w).below HB1.out
    have H0 := Lib.hid h0
    clear h0 HB1
    go_wp2_with fail
    refine (newP_envB H0.out).mono ?_
    rintro e w2 ⟨p0, rfl, h5⟩
    have H2 := Lib.hid h5
    clear h5 H0 t1 t2
    go_wp2_with fail
    refine (newR_env' H2.out).mono ?_
    rintro e w3 ⟨q0, rfl, h5⟩
    have H3 := Lib.hid h5
    clear h5 H2
    have h5 := H3.out.newK 31 #[.pointer (some ⟨p0, 0, none⟩), .pointer (some ⟨q0, 0, none⟩), .slice none 0 0, .slice none 0 0]
    have h6 := h5.pushP (w' := (w3.alloc (.cells #[.pointer (some ⟨p0, 0, none⟩), .pointer (some ⟨q0, 0, none⟩), .slice none 0 0, .slice none 0 0] 31)).alloc (.cells #[.slice none 0 0, .int .i64 0] 34)) ⟨Blk.at rfl rfl, RunsAt.nil _, fun h => by simp [fp, Value.ownBlock] at h, Posi.nil⟩ ((Below.refl _ _).alloc (Nat.le_refl _) _)
    rw [show (w3.alloc (.cells #[.pointer (some ⟨p0, 0, none⟩), .pointer (some ⟨q0, 0, none⟩), .slice none 0 0, .slice none 0 0] 31)).heap.size = w3.heap.size + 1 by simp] at h6
    have H4 := Lib.hid h6
    clear h5 h6 H3
    go_wp2_with fail
    refine (newR_env' H4.out).mono ?_
    rintro e w5 ⟨q1, rfl, h5⟩
    have H5 := Lib.hid h5
    clear h5 H4
    go_upto_region 6 with fail
    have h6 := (H5.out.newK 31 #[.pointer (some ⟨w3.heap.size + 1, 0, none⟩), .pointer (some ⟨q1, 0, none⟩), .slice none 0 0, .slice none 0 0]).newK 35 #[.pointer (some ⟨w3.heap.size, 0, none⟩), .pointer (some ⟨w5.heap.size, 0, none⟩)]
    rw [show (w5.alloc (.cells #[.pointer (some ⟨w3.heap.size + 1, 0, none⟩), .pointer (some ⟨q1, 0, none⟩), .slice none 0 0, .slice none 0 0] 31)).heap.size = w5.heap.size + 1 by simp] at h6
    have h7 := calls_start h6
    clear h6 H5
    obtain ⟨w6, hw6⟩ : ∃ x, (w5.alloc (.cells #[.pointer (some ⟨w3.heap.size + 1, 0, none⟩), .pointer (some ⟨q1, 0, none⟩), .slice none 0 0, .slice none 0 0] 31)).alloc (.cells #[.pointer (some ⟨w3.heap.size, 0, none⟩), .pointer (some ⟨w5.heap.size, 0, none⟩)] 35) = x := ⟨_, rfl⟩
    rw [hw6] at h7 ⊢
    clear hw6
    generalize w5.heap.size + 1 = A at h7 ⊢
    generalize w5.heap.size = b1 at h7 ⊢
    generalize w3.heap.size + 1 = p1 at h7 ⊢
    generalize w3.heap.size = b0 at h7 ⊢
    have H7 : Hid (CS w w6 b0 (.pointer (some ⟨p0, 0, none⟩)) (.pointer (some ⟨q0, 0, none⟩)) b1 (.pointer (some ⟨p1, 0, none⟩)) (.pointer (some ⟨q1, 0, none⟩)) A 0) := Lib.hid ⟨_, _, _, _, _, _, _, _, _, _, h7, PS.start, PS.start⟩
    clear h7
    go_wp2_with fail
    go_loopw [4] (fun iv wx => ∃ i : Nat, i ≤ acts.length ∧ iv = .int .i64 (i : Int) ∧ Hid (CS w wx b0 (.pointer (some ⟨p0, 0, none⟩)) (.pointer (some ⟨q0, 0, none⟩)) b1 (.pointer (some ⟨p1, 0, none⟩)) (.pointer (some ⟨q1, 0, none⟩)) A i)) (fun i _ => acts.length - (intOf i).toNat)
    case atStart => exact ⟨0, Nat.zero_le _, rfl, H7⟩
    case round =>
      obtain ⟨i, hi, rfl, H⟩ := hrel
      clear H7
      by_cases hlt : i < acts.length
      · obtain ⟨x, hx⟩ : ∃ x, acts[i]? = some x := ⟨_, List.getElem?_eq_getElem hlt⟩
        have OX := Lib.hid (HOK.out x (List.mem_of_getElem? hx))
        obtain ⟨b, off, hb, hbl, c0, c1, c2, c3, c4⟩ := ac5 HST.out hx
        subst hb
        have t3 : decide ((i : Int) < (acts.length : Int)) = true := by rw [decide_eq_true_eq]; omega
        have bi : 0 ≤ (i : Int) ∧ (i : Int) < (acts.length : Int) := by omega
        obtain ⟨k, hk, hk2⟩ : ∃ k : Nat, x.on % 2 = (k : Int) ∧ k < 2 := ⟨(x.on % 2).toNat, by omega, by omega⟩
        obtain ⟨obs, d, bb, p, q, u, vv, rs, ts, us, hE, hp, hps, hA, hAk, hnext⟩ := H.out.pair k hk2
        have hbase := hE.base
        have d0 := (hbase.cell hbl).trans c0
        have d1 := (hbase.cell hbl).trans c1
        have d2 := (hbase.cell hbl).trans c2
        have d3 := (hbase.cell hbl).trans c3
        have d4 := (hbase.cell hbl).trans c4
        have eA : wr.cell? ⟨A, k, none⟩ = some (.pointer (some ⟨bb, 0, none⟩)) := (hE.blk 10 hA).cellAt k hAk
        have HE := Lib.hid hE
        have HP := Lib.hid hp
        have HPS := Lib.hid hps
        have HNX := Lib.hid hnext
        have HC := Lib.hid (And.intro hbl (And.intro c0 (And.intro c1 (And.intro c2 (And.intro c3 c4)))))
        have bk : 0 ≤ (k : Int) ∧ (k : Int) < 2 := by omega
        clear hE hp hps hnext hA hAk c0 c1 c2 c3 c4 hbl hbase H hx
        go_wp2_with fail
        refine (pick_any x.on 2 _ (by omega) (by omega)).mono ?_
        rintro e w8 ⟨he, hw⟩
        rw [hk] at he
        subst he
        subst hw
        go_wp2_with fail
        refine (near_env HE.out d bb HP.out x.on x.cl x.k x.s x.n OX.out.2.2 ⟨HPS.out.nn, by have := HPS.out.sum; omega⟩ (by have := HPS.out.len; omega)).mono ?_
        rintro e w9 ⟨far, rfl, h5, hfar⟩
        have H9 := Lib.hid h5
        have HF := Lib.hid hfar
        clear h5 hfar HE d0 d1 d2 d3 d4 eA
        cases far
        · have hbase := H9.out.base
          have d0 := (hbase.cell HC.out.1).trans HC.out.2.1
          have d1 := (hbase.cell HC.out.1).trans HC.out.2.2.1
          have d2 := (hbase.cell HC.out.1).trans HC.out.2.2.2.1
          have d3 := (hbase.cell HC.out.1).trans HC.out.2.2.2.2.1
          have d4 := (hbase.cell HC.out.1).trans HC.out.2.2.2.2.2
          clear hbase
          go_wp2_with fail
          refine (act_env H9.out d bb HP.out i HPS.out (by omega) x.on x.cl x.k x.s x.n OX.out.2.1 OX.out.2.2 (by have := HF.out; simpa using this)).mono ?_
          rintro e w10 ⟨rfl, obs', u', v', rs', ts', us', q1, q2, q3, q4⟩
          have H10 := Lib.hid (HNX.out _ _ _ _ _ _ _ q1 q2 q3 q4)
          clear q1 q2 q3 q4 d0 d1 d2 d3 d4 H9
          have hw1 : IntKind.i64.wrap ((i : Int) + 1) = ((i + 1 : Nat) : Int) := by rw [IntWalk.i64_in _ (by omega)]; omega
          go_wp2_with fail
          refine ⟨⟨i + 1, by omega, rfl, H10⟩, ?_⟩
          simp only [intOf]
          omega
        · go_wp2_with fail
          go_ret
          exact ⟨rfl, H9.out.base⟩
      · have t3 : decide ((i : Int) < (acts.length : Int)) = false := by rw [decide_eq_false_iff_not]; omega
        have t4 : decide (i < acts.length) = false := by rw [decide_eq_false_iff_not]; omega
        clear t3 t4
        obtain ⟨u0, v0, r0, l0, s0, u1, v1, r1, l1, s1, hE, hs0, hs1⟩ := H.out
        have hE2 := hE.pushRow 32
        have HE := Lib.hid hE2
        have HS := Lib.hid (And.intro hs0 hs1)
        clear hE hE2 hs0 hs1 H
        go_wp2_with fail
        obtain ⟨LO, hLO⟩ : ∃ x, lObs b0 (.pointer (some ⟨p0, 0, none⟩)) (.pointer (some ⟨q0, 0, none⟩)) u0 v0 r0 l0 s0 b1 (.pointer (some ⟨p1, 0, none⟩)) (.pointer (some ⟨q1, 0, none⟩)) u1 v1 r1 l1 s1 A = x := ⟨_, rfl⟩
        have HPR : Hid (∀ k, k < 2 → ∃ d b p q u v rs ts us, PairAt LO d b p q u v rs ts us ∧ PS i rs ts us ∧ ts = pick2 l0 l1 k ∧ (#[Value.pointer (some ⟨b0, 0, none⟩), Value.pointer (some ⟨b1, 0, none⟩)])[k]? = some (Value.pointer (some ⟨b, 0, none⟩))) := by
          rw [← hLO]
          exact Lib.hid (fun k hk => lObs_pair HS.out.1 HS.out.2 k hk)
        rw [hLO] at HE
        have hA : LO[10]? = some (obK A 35 #[.pointer (some ⟨b0, 0, none⟩), .pointer (some ⟨b1, 0, none⟩)]) := by rw [← hLO]; rfl
        have hLl : LO.length = 11 := by rw [← hLO]; rfl
        have HLA := Lib.hid hA
        have HLO := Lib.hid hLO
        clear hLO hA
        go_loopw [8, 9] (fun tv kv wx => ∃ k : Nat, k ≤ 2 ∧ kv = .int .i64 (k : Int) ∧ Hid (Env w wx (LO ++ [obE 32 1 tv (toldV l0 l1 k).length (toldV l0 l1 k)]))) (fun _ k _ => 2 - (intOf k).toNat)
        case atStart => exact ⟨0, by omega, rfl, HE⟩
        case round =>
          obtain ⟨k, hk, rfl, H⟩ := hrel
          clear HE
          by_cases hk2 : k < 2
          · have t5 : decide ((k : Int) < 2) = true := by rw [decide_eq_true_eq]; omega
            obtain ⟨d, bb, p, q, u, vv, rs, ts, us, hp, hps, hts, hAk⟩ := HPR.out k hk2
            have HPK := Lib.hid (And.intro hp (And.intro hps (And.intro hts hAk)))
            clear hp hps hts hAk
            go_wp2_with fail
            go_loopw [8, 10] (fun tv jv wx => ∃ j : Nat, j ≤ ts.length ∧ jv = .int .i64 (j : Int) ∧ Hid (Env w wx (LO ++ [obE 32 1 tv (toldV l0 l1 k ++ (ts.take j).map (·.1)).length (toldV l0 l1 k ++ (ts.take j).map (·.1))]))) (fun _ j _ => ts.length - (intOf j).toNat)
            case atStart => exact ⟨0, Nat.zero_le _, rfl, by simpa using H⟩
            case round =>
              obtain ⟨j, hj, rfl, H2⟩ := hrel
              obtain ⟨hp, hps, hts, hAk⟩ := HPK.out
              have eA := (H2.out.blk 10 (show (LO ++ [_])[10]? = _ by rw [List.getElem?_append_left (by omega)]; exact HLA.out)).cellAt k hAk
              have e2 := (H2.out.blk d (hp.more _).blk).cellAt (v := u) 2 rfl
              obtain ⟨uo, uc, hu, hu1, hu2⟩ := obTR_form H2.out (d + 3) (hp.more _).tu
              obtain ⟨vo, vc, hv, hv1, hv2⟩ := obTR_form H2.out (d + 4) (hp.more _).tv
              have hwl := hps.wl
              subst hu
              subst hv
              clear hp hps hts hAk
              by_cases hjl : j < ts.length
              · have t6 : decide ((j : Int) < (ts.length : Int)) = true := by rw [decide_eq_true_eq]; omega
                have bk : 0 ≤ (k : Int) ∧ (k : Int) < 2 := by omega
                go_upto_region 23 with fail
                clear eA e2
                obtain ⟨⟨x, l⟩, hx⟩ : ∃ z, ts[j]? = some z := ⟨_, List.getElem?_eq_getElem hjl⟩
                obtain ⟨⟨y, l'⟩, hy⟩ : ∃ z, us[j]? = some z := ⟨_, List.getElem?_eq_getElem (by omega)⟩
                have hll : l = l' := by
                  have e := congrArg (fun z => z[j]?) HPK.out.2.1.same
                  simpa [List.getElem?_map, hx, hy] using e
                subst hll
                obtain ⟨gu, cu, hgu, _, _⟩ := obTR_slice H2.out (d + 3) (HPK.out.1.more _).tu (by omega)
                obtain ⟨gv, cv, hgv, _, _⟩ := obTR_slice H2.out (d + 4) (HPK.out.1.more _).tv (by omega)
                injection hgu with hgu _ hcu
                injection hgv with hgv _ hcv
                subst hgu; subst hcu; subst hgv; subst hcv
                have rx0 : RunsRd wr x l := obTR_get H2.out (d + 3) (HPK.out.1.more _).tu hx
                obtain ⟨xo, xc, rfl, _⟩ := rx0.form
                clear rx0
                have htl : ∀ W, Env w W (LO ++ [obE 32 1 u8 (toldV l0 l1 k ++ (ts.take j).map (·.1)).length (toldV l0 l1 k ++ (ts.take j).map (·.1))]) → Tl A k bb (.slice (some ⟨gu, 0, none⟩) ts.length uc) (.slice (some ⟨gv, 0, none⟩) us.length vc) gu gv j (.slice xo l.length xc) y W := fun W hW =>
                  ⟨(hW.blk 10 (show (LO ++ [_])[10]? = _ by rw [List.getElem?_append_left (by omega)]; exact HLA.out)).cellAt k HPK.out.2.2.2, (hW.blk d (HPK.out.1.more _).blk).cellAt 2 rfl, (hW.blk d (HPK.out.1.more _).blk).cellAt 3 rfl, obTR_cell hW (d + 3) (HPK.out.1.more _).tu hx, obTR_cell hW (d + 4) (HPK.out.1.more _).tv hy⟩
                have HTL := Lib.hid htl
                clear htl
                refine hd_start (Tl A k bb (.slice (some ⟨gu, 0, none⟩) ts.length uc) (.slice (some ⟨gv, 0, none⟩) us.length vc) gu gv j (.slice xo l.length xc) y) (by kernel_rfl) ?_
                intro w3 hw'
                have H3 := Lib.hid (H2.out.draw 1)
                rw [← hw'] at H3
                clear hw' H2
                have S3 := HTL.out _ H3.out
                have bj : 0 ≤ (j : Int) ∧ (j : Int) < (ts.length : Int) := by omega
                have bu : 0 ≤ (j : Int) ∧ (j : Int) < (us.length : Int) := by omega
                have rx : RunsRd w3 (.slice xo l.length xc) l := obTR_get H3.out (d + 3) (HPK.out.1.more _).tu hx
                have ry : RunsRd w3 y l := obTR_get H3.out (d + 4) (HPK.out.1.more _).tv hy
                have HRX := Lib.hid (And.intro rx ry)
                have HXY := Lib.hid (And.intro hx hy)
                clear rx ry hx hy
                refine hd_take (v := ?_) 0 rfl (by kernel_rfl) (fun _ _ d _ _ h => (by cases d <;> exact h)) (by kernel_rfl) S3 (fun w' hS => ?_) ?_
                rotate_left
                focus (have q0 := Tl.id w' hS; clear hS; go_simp; try rfl; done)
                simp only [List.getElem_toArray, List.getElem_cons_succ, List.getElem_cons_zero, Act.put, List.setIfInBounds_toArray, List.set_cons_zero, List.set_cons_succ]
                refine hd_take (v := ?_) 1 rfl (by kernel_rfl) (fun _ _ d _ _ h => (by cases d <;> exact h)) (by kernel_rfl) S3 (fun w' hS => ?_) ?_
                rotate_left
                focus (have q0 := Tl.id w' hS; clear hS; go_simp; try rfl; done)
                simp only [List.getElem_toArray, List.getElem_cons_succ, List.getElem_cons_zero, Act.put, List.setIfInBounds_toArray, List.set_cons_zero, List.set_cons_succ]
                refine hd_take (v := ?_) 2 rfl (by kernel_rfl) (fun _ _ d _ _ h => (by cases d <;> exact h)) (by kernel_rfl) S3 (fun w' hS => ?_) ?_
                rotate_left
                focus (have q0 := Tl.id w' hS; clear hS; go_simp; try rfl; done)
                simp only [List.getElem_toArray, List.getElem_cons_succ, List.getElem_cons_zero, Act.put, List.setIfInBounds_toArray, List.set_cons_zero, List.set_cons_succ]
                refine hd_take (v := ?_) 3 rfl (by kernel_rfl) (fun _ _ d _ _ h => (by cases d <;> exact h)) (by kernel_rfl) S3 (fun w' hS => ?_) ?_
                rotate_left
                focus (have q0 := Tl.id w' hS; clear hS; go_simp; try rfl; done)
                simp only [List.getElem_toArray, List.getElem_cons_succ, List.getElem_cons_zero, Act.put, List.setIfInBounds_toArray, List.set_cons_zero, List.set_cons_succ]
                refine hd_take (v := ?_) 4 rfl (by kernel_rfl) (fun _ _ d _ _ h => (by cases d <;> exact h)) (by kernel_rfl) S3 (fun w' hS => ?_) ?_
                rotate_left
                focus (have q0 := Tl.id w' hS; clear hS; go_simp; try rfl; done)
                simp only [List.getElem_toArray, List.getElem_cons_succ, List.getElem_cons_zero, Act.put, List.setIfInBounds_toArray, List.set_cons_zero, List.set_cons_succ]
                refine hd_take (v := ?_) 5 rfl (by kernel_rfl) (fun _ _ d _ _ h => (by cases d <;> exact h)) (by kernel_rfl) S3 (fun w' hS => ?_) ?_
                rotate_left
                focus (have q0 := Tl.id w' hS; clear hS; go_simp; try rfl; done)
                simp only [List.getElem_toArray, List.getElem_cons_succ, List.getElem_cons_zero, Act.put, List.setIfInBounds_toArray, List.set_cons_zero, List.set_cons_succ]
                refine hd_take (v := ?_) 6 rfl (by kernel_rfl) (fun _ _ d _ _ h => (by cases d <;> exact h)) (by kernel_rfl) S3 (fun w' hS => ?_) ?_
                rotate_left
                focus (have q0 := Tl.id w' hS; clear hS; go_simp; try rfl; done)
                simp only [List.getElem_toArray, List.getElem_cons_succ, List.getElem_cons_zero, Act.put, List.setIfInBounds_toArray, List.set_cons_zero, List.set_cons_succ]
                refine hd_take (v := ?_) 7 rfl (by kernel_rfl) (fun _ _ d _ _ h => (by cases d <;> exact h)) (by kernel_rfl) S3 (fun w' hS => ?_) ?_
                rotate_left
                focus (have q0 := Tl.id w' hS; clear hS; go_simp; try rfl; done)
                simp only [List.getElem_toArray, List.getElem_cons_succ, List.getElem_cons_zero, Act.put, List.setIfInBounds_toArray, List.set_cons_zero, List.set_cons_succ]
                refine hd_take (v := ?_) 8 rfl (by kernel_rfl) (fun _ _ d _ _ h => (by cases d <;> exact h)) (by kernel_rfl) S3 (fun w' hS => ?_) ?_
                rotate_left
                focus (have q0 := Tl.id w' hS; clear hS; go_simp; try rfl; done)
                simp only [List.getElem_toArray, List.getElem_cons_succ, List.getElem_cons_zero, Act.put, List.setIfInBounds_toArray, List.set_cons_zero, List.set_cons_succ]
                refine hd_take (v := ?_) 9 rfl (by kernel_rfl) (fun _ _ d _ _ h => (by cases d <;> exact h)) (by kernel_rfl) S3 (fun w' hS => ?_) ?_
                rotate_left
                focus (have q0 := Tl.id w' hS; clear hS; go_simp; try rfl; done)
                simp only [List.getElem_toArray, List.getElem_cons_succ, List.getElem_cons_zero, Act.put, List.setIfInBounds_toArray, List.set_cons_zero, List.set_cons_succ]
                refine hd_take (v := ?_) 10 rfl (by kernel_rfl) (fun _ _ d _ _ h => (by cases d <;> exact h)) (by kernel_rfl) S3 (fun w' hS => ?_) ?_
                rotate_left
                focus (have q0 := Tl.id w' hS; clear hS; go_simp; try rfl; done)
                simp only [List.getElem_toArray, List.getElem_cons_succ, List.getElem_cons_zero, Act.put, List.setIfInBounds_toArray, List.set_cons_zero, List.set_cons_succ]
                refine hd_take (v := ?_) 11 rfl (by kernel_rfl) (fun _ _ d _ _ h => (by cases d <;> exact h)) (by kernel_rfl) S3 (fun w' hS => ?_) ?_
                rotate_left
                focus (have q0 := Tl.id w' hS; clear hS; go_simp; try rfl; done)
                simp only [List.getElem_toArray, List.getElem_cons_succ, List.getElem_cons_zero, Act.put, List.setIfInBounds_toArray, List.set_cons_zero, List.set_cons_succ]
                refine hd_take (v := ?_) 12 rfl (by kernel_rfl) (fun _ _ d _ _ h => (by cases d <;> exact h)) (by kernel_rfl) S3 (fun w' hS => ?_) ?_
                rotate_left
                focus (have q0 := Tl.id w' hS; clear hS; go_simp; try rfl; done)
                simp only [List.getElem_toArray, List.getElem_cons_succ, List.getElem_cons_zero, Act.put, List.setIfInBounds_toArray, List.set_cons_zero, List.set_cons_succ]
                refine hd_take (v := ?_) 13 rfl (by kernel_rfl) (fun _ _ d _ _ h => (by cases d <;> exact h)) (by kernel_rfl) S3 (fun w' hS => ?_) ?_
                rotate_left
                focus (have q0 := Tl.id w' hS; clear hS; go_simp; try rfl; done)
                simp only [List.getElem_toArray, List.getElem_cons_succ, List.getElem_cons_zero, Act.put, List.setIfInBounds_toArray, List.set_cons_zero, List.set_cons_succ]
                refine hd_take (v := ?_) 14 rfl (by kernel_rfl) (fun _ _ d _ _ h => (by cases d <;> exact h)) (by kernel_rfl) S3 (fun w' hS => ?_) ?_
                rotate_left
                focus (have q0 := Tl.id w' hS; clear hS; go_simp; try rfl; done)
                simp only [List.getElem_toArray, List.getElem_cons_succ, List.getElem_cons_zero, Act.put, List.setIfInBounds_toArray, List.set_cons_zero, List.set_cons_succ]
                refine hd_take (v := ?_) 15 rfl (by kernel_rfl) (fun _ _ d _ _ h => (by cases d <;> exact h)) (by kernel_rfl) S3 (fun w' hS => ?_) ?_
                rotate_left
                focus (have q0 := Tl.id w' hS; clear hS; go_simp; try rfl; done)
                simp only [List.getElem_toArray, List.getElem_cons_succ, List.getElem_cons_zero, Act.put, List.setIfInBounds_toArray, List.set_cons_zero, List.set_cons_succ]
                refine hd_take (v := ?_) 16 rfl (by kernel_rfl) (fun _ _ d _ _ h => (by cases d <;> exact h)) (by kernel_rfl) S3 (fun w' hS => ?_) ?_
                rotate_left
                focus (have q0 := Tl.id w' hS; clear hS; go_simp; try rfl; done)
                simp only [List.getElem_toArray, List.getElem_cons_succ, List.getElem_cons_zero, Act.put, List.setIfInBounds_toArray, List.set_cons_zero, List.set_cons_succ]
                refine hd_take (v := ?_) 17 rfl (by kernel_rfl) (fun _ _ d _ _ h => (by cases d <;> exact h)) (by kernel_rfl) S3 (fun w' hS => ?_) ?_
                rotate_left
                focus (have q0 := Tl.id w' hS; clear hS; go_simp; try rfl; done)
                simp only [List.getElem_toArray, List.getElem_cons_succ, List.getElem_cons_zero, Act.put, List.setIfInBounds_toArray, List.set_cons_zero, List.set_cons_succ]
                refine hd_one 18 (by kernel_rfl) ?_
                refine op_call rfl (by kernel_rfl) (by go_simp; first | exact ⟨rfl, rfl⟩ | rfl) ?_
                refine (sameRuns_env' H3.out HRX.out.1 HRX.out.2).mono ?_
                rintro e w4 ⟨he, h5⟩
                rw [decide_eq_true rfl] at he
                subst he
                have hS2 := HTL.out _ h5
                have S4 := hS2
                have H4 := Lib.hid h5
                clear h5
                refine ⟨_, rfl, hS2, ?_⟩
                simp only [List.getElem_toArray, List.getElem_cons_succ, List.getElem_cons_zero, Act.put, List.setIfInBounds_toArray, List.set_cons_zero, List.set_cons_succ]
                refine hd_take (v := ?_) 19 rfl (by kernel_rfl) (fun _ _ d _ _ h => (by cases d <;> exact h)) (by kernel_rfl) S4 (fun w' hS => ?_) ?_
                rotate_left
                focus (clear hS; go_simp; try rfl; done)
                simp only [List.getElem_toArray, List.getElem_cons_succ, List.getElem_cons_zero, Act.put, List.setIfInBounds_toArray, List.set_cons_zero, List.set_cons_succ]
                refine hd_done (by kernel_rfl) ?_
                clear S3
                obtain ⟨z1, z2, z3, z4, z5⟩ := S4
                have e9 : (toldV l0 l1 k ++ (ts.take j).map (·.1)) ++ [.slice xo l.length xc] = toldV l0 l1 k ++ (ts.take (j + 1)).map (·.1) := by
                  rw [List.take_add_one, HXY.out.1, List.append_assoc]
                  simp
                obtain ⟨vs, hvs⟩ : ∃ x, toldV l0 l1 k ++ (ts.take j).map (·.1) = x := ⟨_, rfl⟩
                have hvl : vs.length ≤ 2000 := by
                  rw [← hvs, List.length_append, List.length_map, List.length_take]
                  have := toldV_len l0 l1 k
                  have := HS.out.1.tl
                  have := HS.out.2.tl
                  have := HPK.out.2.1.tl
                  omega
                rw [hvs] at H4 e9
                have HE9 := Lib.hid e9
                clear hvs e9
                go_wp2_with (at_builtin; refine wpList_append_row (x := .slice xo l.length xc) rfl H4.out LO.length ((atE LO [_] 0).trans rfl) _ _ rfl rfl rfl rfl (by omega) ?_)
                intro u' w6 h6
                have H6 : Hid (Env w w6 (LO ++ [obE 32 1 u' (toldV l0 l1 k ++ (ts.take (j + 1)).map (·.1)).length (toldV l0 l1 k ++ (ts.take (j + 1)).map (·.1))])) := by
                  try rw [List.set_append_right _ _ (Nat.le_refl _), Nat.sub_self] at h6
                  rw [← HE9.out, List.length_append, List.length_singleton]
                  exact Lib.hid h6
                clear h6 HE9 hvl z1 z2 z3 z4 z5 H4 H3 H HTL
                have hw1 : IntKind.i64.wrap ((j : Int) + 1) = ((j + 1 : Nat) : Int) := by rw [IntWalk.i64_in _ (by omega)]; omega
                go_wp2_with fail
                refine ⟨⟨j + 1, by omega, rfl, H6⟩, ?_⟩
                simp only [intOf]
                omega
              · have t6 : decide ((j : Int) < (ts.length : Int)) = false := by rw [decide_eq_false_iff_not]; omega
                have bk : 0 ≤ (k : Int) ∧ (k : Int) < 2 := by omega
                have H3 : Hid (Env w wr (LO ++ [obE 32 1 u8 (toldV l0 l1 (k + 1)).length (toldV l0 l1 (k + 1))])) := by
                  have e9 : toldV l0 l1 (k + 1) = toldV l0 l1 k ++ (ts.take j).map (·.1) := by
                    rw [toldV_next l0 l1 k hk2, ← HPK.out.2.2.1, show j = ts.length from by omega, List.take_length]
                  rw [e9]
                  exact H2
                have hw1 : IntKind.i64.wrap ((k : Int) + 1) = ((k + 1 : Nat) : Int) := by rw [IntWalk.i64_in _ (by omega)]; omega
                go_wp2_with fail
                refine ⟨⟨k + 1, by omega, rfl, H3⟩, ?_⟩
                simp only [intOf]
                omega
          · have t5 : decide ((k : Int) < 2) = false := by rw [decide_eq_false_iff_not]; omega
            obtain rfl : k = 2 := by omega
            have H2 := H.out
            rw [← HLO.out] at H2
            have hlen := HS.out.1.len
            have hlen1 := HS.out.2.len
            have htl0 := HS.out.1.tl
            have htl1 := HS.out.2.tl
            have HE := Lib.hid H2
            clear H2 H
            go_wp2_with fail
            refine (calls_apart HE.out (fun p hp => by have := HS.out.1.small p hp; omega) (fun p hp => by have := HS.out.2.small p hp; omega) (by omega)).mono ?_
            rintro e w4 ⟨rfl, h5⟩
            have k0 : w4.cell? ⟨A, 0, none⟩ = some (.pointer (some ⟨b0, 0, none⟩)) := (h5.blk 10 rfl).cellAt 0 rfl
            have hw0 := HS.out.1.wl
            have hw1 := HS.out.2.wl
            have H4 := Lib.hid h5
            clear h5 HE
            go_wp2_with fail
            refine (act2_env H4.out 0 b0 (p := .pointer (some ⟨p0, 0, none⟩)) (q := .pointer (some ⟨q0, 0, none⟩)) ⟨rfl, rfl, rfl, rfl, rfl⟩ (by omega) (by rw [List.length_map]; omega) (by omega)).mono ?_
            rintro e w5 ⟨rfl, o5, h5, ht⟩
            have hp1 : PairAt2 o5 5 b1 (.pointer (some ⟨p1, 0, none⟩)) (.pointer (some ⟨q1, 0, none⟩)) u1 v1 r1 (l1.map (·.1)) s1 := ⟨(ht.2 5 (by omega)).trans rfl, (ht.2 6 (by omega)).trans rfl, (ht.2 7 (by omega)).trans rfl, (ht.2 8 (by omega)).trans rfl, (ht.2 9 (by omega)).trans rfl⟩
            have k1 : w5.cell? ⟨A, 1, none⟩ = some (.pointer (some ⟨b1, 0, none⟩)) := (h5.blk 10 ((ht.2 10 (by omega)).trans rfl)).cellAt 1 rfl
            have H5 := Lib.hid h5
            have HP1 := Lib.hid hp1
            clear h5 ht hp1 H4 k0
            go_wp2_with fail
            refine (act2_env H5.out 5 b1 HP1.out (by omega) (by rw [List.length_map]; omega) (by omega)).mono ?_
            rintro e w7 ⟨rfl, o7, h7, _⟩
            have H7 := Lib.hid h7
            clear h7 H5 k1
            go_wp2_with fail
            go_ret
            exact ⟨rfl, H7.out.base⟩
end Go.Proofs.Ytmdfmkdhfhbkjaa
