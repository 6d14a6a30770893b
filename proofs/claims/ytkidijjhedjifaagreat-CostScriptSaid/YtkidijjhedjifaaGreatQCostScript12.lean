/- CostBounds, the plain law: what each row of runs is. -/
import Derived.Deep.Slices
import Derived.ChangeSame
import Derived.OpenShut
import Derived.Test.YtkidijjhedjifaaGreatRows
import Derived.ProofKit
import Derived.Carry
import Derived.Deep.Draws
import Derived.Shelf.SortM.Plain
import Derived.Test.YtkidijjhedjifaaGreatProg
import Derived.Lib.SlKeysI
import Derived.Deep.AppendLies
import Derived.SizedLaws
import Derived.Test.YtkidijjhedjifaaGreatQCostScript0
import Derived.Test.YtkidijjhedjifaaGreatQCostScript1
import Derived.Test.YtkidijjhedjifaaGreatQCostScript11
import Derived.Test.YtkidijjhedjifaaGreatQCostScript2
import Derived.Test.YtkidijjhedjifaaGreatQCostScript8
/- Opening a list of elements of any kind. No program in sight. -/
namespace Go.Proofs.YtkidijjhedjifaaGreat
open Go.RowKit Go.ChangeShapes Go.WideShapes Go.Deep
set_option maxRecDepth 100000
theorem open_elems {H : Type} {enc : TypeId × Value → H} {P : Program} {W : World} {base : Nat} {α : Type} (K : Knd α) (Q : α → Prop) {t e : TypeId} {v : Value} {d : DataW H} {p : List MemPlace} (ht : P.underlying t = some (.slice e)) (hC : P.cellsOf e = K.sz)
    (dec : ∀ n cs y, DataW.trod enc P W 0 (fun _ => true) true n e cs = some y → ∃ x, Q x ∧ cs = K.cv x)
    (hval : Value.okWide P W .any base t v) (h : DataW.Trod enc P W 0 (fun _ => true) true t v d p) : ∃ l : List α, K.R W v l ∧ (∀ x ∈ l, Q x) ∧ (l = [] ∨ ∃ es sp, d = .slice es sp ∧ es.length = l.length) := by
  obtain ⟨a0, len0, cap0, rfl⟩ := Go.WideShapes.okWide_slice ht hval
  obtain ⟨fuel, hf⟩ := h
  rcases open_slice ht hf with ⟨hcs, _⟩ | ⟨a, len, cap, m, n, D, Pl, hcs, _, hl, hm, hmm, hx, hi⟩
  · simp only [Value.cells] at hcs
    injection hcs with hcs _
    rw [hcs]
    exact ⟨[], Knd.R.nil W, (fun _ h => by cases h), .inl rfl⟩
  · simp only [Value.cells] at hcs
    injection hcs with hcs _
    rw [hcs]
    simp only [if_true] at hmm
    subst hmm
    rw [hC] at hi
    have key : ∀ k, k ≤ len → ∃ l : List α, l.length = k ∧ (∀ x ∈ l, Q x) ∧ ∀ i x, l[i]? = some x → W.cells? 0 (a.add (i * K.sz)) K.sz = some (K.cv x) := by
      intro k
      induction k with
      | zero => exact fun _ => ⟨[], rfl, (fun _ h => by cases h), fun i x hix => by simp at hix⟩
      | succ k ih =>
        intro hk
        obtain ⟨l, hl1, hl2, hl3⟩ := ih (by omega)
        obtain ⟨cs', h1, h2⟩ := hi k (by omega)
        obtain ⟨x, hq, rfl⟩ := dec _ _ _ h2
        refine ⟨l ++ [x], by simp [hl1], fun y hy => ?_, fun i y hy => ?_⟩
        · rcases List.mem_append.1 hy with hy | hy
          · exact hl2 y hy
          · simp at hy; subst hy; exact hq
        · by_cases hik : i < k
          · rw [List.getElem?_append_left (by omega)] at hy
            exact hl3 i y hy
          · have hik2 : i = k := by
              have := (List.getElem?_eq_some_iff.1 hy).1
              simp [hl1] at this
              omega
            subst hik2
            rw [List.getElem?_append_right (by omega), hl1, Nat.sub_self] at hy
            simp at hy
            subst hy
            exact h1
    obtain ⟨l, hl1, hl2, hl3⟩ := key len (Nat.le_refl _)
    injection hx with hx1 hx2
    refine ⟨l, ⟨K.fl_len l, K.fl_cells l, some a, m, by rw [hl1], by rw [hl1]; exact hl, by simp only [maxLen] at hm; omega, (fun h => by cases h), fun j u hj => ?_⟩, hl2, .inr ⟨_, _, hx1, by simp [hl1]⟩⟩
    have hpos := K.pos
    have hjl : j < l.length * K.sz := by
      have := (List.getElem?_eq_some_iff.1 hj).1
      rwa [K.fl_len] at this
    have hil : j / K.sz < l.length := Nat.div_lt_of_lt_mul (by rw [Nat.mul_comm]; exact hjl)
    have hlx : l[j / K.sz]? = some (l[j / K.sz]) := List.getElem?_eq_getElem hil
    have hc : j % K.sz < K.sz := Nat.mod_lt _ hpos
    have hcells := (World.cells?_some (hl3 _ _ hlx)).2.2 _ hc
    have hfl := K.fl_get l (j / K.sz) (j % K.sz) _ hlx hc
    have hdm : j / K.sz * K.sz + j % K.sz = j := by rw [Nat.mul_comm]; exact Nat.div_add_mod j K.sz
    rw [hdm] at hfl
    rw [hj] at hfl
    rw [← hfl] at hcells
    obtain ⟨b, off, spot⟩ := a
    have hsp : spot = none := by
      cases spot with
      | none => rfl
      | some s =>
        have hl0 : 0 < l.length := Nat.lt_of_le_of_lt (Nat.zero_le _) hil
        have h0 := (World.cells?_some (hl3 0 _ (List.getElem?_eq_getElem hl0))).2.2 0 hpos
        rw [Nat.zero_mul, show ((⟨b, off, some s⟩ : Addr).add 0).add 0 = ⟨b, off, some s⟩ from by simp [Addr.add], List.getElem?_eq_getElem (by rw [K.len]; exact hpos)] at h0
        unfold World.cell? at h0
        split at h0 <;> simp at h0
    subst hsp
    refine ⟨b, off, rfl, ?_⟩
    rw [add_lit, add_lit, Nat.add_assoc, hdm] at hcells
    exact hcells
end Go.Proofs.YtkidijjhedjifaaGreat
/- What every law's proof ends with: a call that returned true and left all old memory as it was meets the row's post. Conditions: the parameters' types can be read, no variable is named. -/
namespace Go.Proofs.YtkidijjhedjifaaGreat
open Go.ChangeShapes Go.WideShapes Go.ChangeAt Go.RowKit

section
variable {H : Type} {enc : TypeId × Value → H} {P : Program}

theorem trodAll_stays (hl : laidOutB P = true) {base : Nat} {W W' : World} {sp' : Nat → Bool} :
    ∀ (ts : List TypeId) (vs : List Value) (ds : List (DataW H)) (ps : List MemPlace), (∀ t ∈ ts, P.readableRec t = true ∧ t < P.types.size) →
      DataW.TrodAll enc P W base (fun _ => true) true ts vs ds ps → (∀ p ∈ ps, W.sameAt W' p) → (∀ p ∈ ps, sp' p.block = true) → DataW.TrodAll enc P W' base sp' true ts vs ds ps
  | [], [], [], _, _, h, _, _ => h
  | t :: ts, v :: vs, d :: ds, ps, hts, h, hsame, hs => by
    obtain ⟨p, q, h1, h2, rfl⟩ := h
    have ht := hts t (by simp)
    exact ⟨p, q, WideElems.Trod_stays hl ht.1 ht.2 h1 (fun x hx => hsame x (by simp [hx])) (fun x hx => hs x (by simp [hx])),
      trodAll_stays hl ts vs ds q (fun t ht => hts t (by simp [ht])) h2 (fun x hx => hsame x (by simp [hx])) (fun x hx => hs x (by simp [hx])), rfl⟩
  | [], [], _ :: _, _, _, h, _, _ => h.elim
  | [], _ :: _, _, _, _, h, _, _ => h.elim
  | _ :: _, [], _, _, _, h, _, _ => h.elim
  | _ :: _, _ :: _, [], _, _, h, _, _ => h.elim

theorem law_post {f : Func} {s : ChangeSpec} {tb : TypeId} {W W' : World} {args : Array Value} {ds gs : List (DataW H)} {before : List MemPlace} (hl : laidOutB P = true)
    (hts : f.params.toList.all (fun t => P.readableRec t && decide (t < P.types.size)) = true) (hvars : s.vars = []) (hrt : f.resultTypes = #[tb]) (htb : P.underlying tb = some .bool)
    (hW : DataW.Whole enc P f.params.toList s.vars false W args.toList ds gs before) (hb : Below W.heap.size W W')
    (hs : (s.fn H (ds ++ gs)).results = [.lit (.bool true)]) (hs2 : (s.fn H (ds ++ gs)).args = ds) (hs3 : (s.fn H (ds ++ gs)).vars = []) :
    s.post enc P f false true false false W args (.bool true) W' := by
  have hlt : ∀ p ∈ before, p.block < W.heap.size := fun p hp => hW.lt p hp
  have hW0 := hW
  obtain ⟨p, q, hA, hV, rfl, hz, _⟩ := hW
  have hts' : ∀ t ∈ f.params.toList, P.readableRec t = true ∧ t < P.types.size := by
    intro t ht
    have := List.all_eq_true.1 hts t ht
    simpa using this
  have hg : gs = [] ∧ q = [] := by
    rw [hvars] at hV
    exact trodVars_none hV
  obtain ⟨rfl, rfl⟩ := hg
  refine ⟨ds, [], p ++ [], [], p, [], hW0, ?_, ?_, ?_, ?_, fun h => by cases h⟩
  · rw [hrt, hs]
    exact trodAll_mk1 (shut_bool htb _)
  · rw [hs2]
    exact trodAll_stays hl _ _ _ _ hts' hA (fun x hx => hb.same (hlt x (by simp [hx]))) (fun x hx => by simpa using hlt x (by simp [hx]))
  · rw [hvars, hs3]
    rfl
  · refine World.keptBut_mono (fun x hx => ?_) (hb.frame (· ∈ p ++ []))
    exact ⟨hx, .inr (.inl (by simpa using hx))⟩
end

theorem own : ownKnob Tryz.prog.godebug = none := by kernel_rfl
theorem laidOut : laidOutB Tryz.prog = true := by kernel_rfl

end Go.Proofs.YtkidijjhedjifaaGreat
/- Opening skeletons: one, and a list. -/
namespace Go.Proofs.YtkidijjhedjifaaGreat
open Go.RowKit Go.ChangeShapes Go.WideShapes Go.ChangeAt
set_option maxRecDepth 100000
set_option linter.unusedVariables false
theorem okU_wf {n : Int} (h : (Lit.int .u8 n).wf = true) : okU n := by
  simp [Lit.wf, IntKind.min, IntKind.max, IntKind.signed, IntKind.bits] at h
  unfold okU
  omega
theorem okI_wf {n : Int} (h : (Lit.int .i64 n).wf = true) : okI n := by
  simp [Lit.wf, IntKind.min, IntKind.max, IntKind.signed, IntKind.bits] at h
  unfold okI
  omega
theorem dec_sk {H : Type} {enc : TypeId × Value → H} {W : World} (n : Nat) (cs : List Value) (y : DataW H × List MemPlace) (h : DataW.trod enc Tryz.prog W 0 (fun _ => true) true n 40 cs = some y) :
    ∃ s : Sk, OKsk s ∧ cs = KS.cv s := by
  obtain ⟨xs, m, _, _, hl, hxs, hf⟩ := DataW.trod_struct Tryz.underlying40 h
  have hl2 : cs.length = 7 := hl.trans (by kernel_rfl)
  match cs, hl2 with
  | [c0, c1, c2, c3, c4, c5, c6], _ =>
    have hxs2 : xs.length = 7 := hxs
    match xs, hxs2 with
    | [x0, x1, x2, x3, x4, x5, x6], _ =>
      have h0 : DataW.trod enc Tryz.prog W 0 (fun _ => true) true m 37 (([c0, c1, c2, c3, c4, c5, c6].drop 0).take (Tryz.prog.cellsOf 37)) = some x0 := hf 0 _ rfl
      rw [show Tryz.prog.cellsOf 37 = 1 from by kernel_rfl] at h0
      obtain ⟨a0, g0, _, w0⟩ := DataW.trod_int (x := x0) Tryz.underlying37 h0
      have e0 : c0 = .int .u8 a0 := by simpa using g0
      have h1 : DataW.trod enc Tryz.prog W 0 (fun _ => true) true m 3 (([c0, c1, c2, c3, c4, c5, c6].drop 1).take (Tryz.prog.cellsOf 3)) = some x1 := hf 1 _ rfl
      rw [show Tryz.prog.cellsOf 3 = 1 from by kernel_rfl] at h1
      obtain ⟨a1, g1, _, w1⟩ := DataW.trod_int (x := x1) Tryz.underlying3 h1
      have e1 : c1 = .int .i64 a1 := by simpa using g1
      have h2 : DataW.trod enc Tryz.prog W 0 (fun _ => true) true m 38 (([c0, c1, c2, c3, c4, c5, c6].drop 2).take (Tryz.prog.cellsOf 38)) = some x2 := hf 2 _ rfl
      rw [show Tryz.prog.cellsOf 38 = 1 from by kernel_rfl] at h2
      obtain ⟨a2, g2, _, w2⟩ := DataW.trod_int (x := x2) Tryz.underlying38 h2
      have e2 : c2 = .int .u8 a2 := by simpa using g2
      have h3 : DataW.trod enc Tryz.prog W 0 (fun _ => true) true m 3 (([c0, c1, c2, c3, c4, c5, c6].drop 3).take (Tryz.prog.cellsOf 3)) = some x3 := hf 3 _ rfl
      rw [show Tryz.prog.cellsOf 3 = 1 from by kernel_rfl] at h3
      obtain ⟨a3, g3, _, w3⟩ := DataW.trod_int (x := x3) Tryz.underlying3 h3
      have e3 : c3 = .int .i64 a3 := by simpa using g3
      have h4 : DataW.trod enc Tryz.prog W 0 (fun _ => true) true m 3 (([c0, c1, c2, c3, c4, c5, c6].drop 4).take (Tryz.prog.cellsOf 3)) = some x4 := hf 4 _ rfl
      rw [show Tryz.prog.cellsOf 3 = 1 from by kernel_rfl] at h4
      obtain ⟨a4, g4, _, w4⟩ := DataW.trod_int (x := x4) Tryz.underlying3 h4
      have e4 : c4 = .int .i64 a4 := by simpa using g4
      have h5 : DataW.trod enc Tryz.prog W 0 (fun _ => true) true m 3 (([c0, c1, c2, c3, c4, c5, c6].drop 5).take (Tryz.prog.cellsOf 3)) = some x5 := hf 5 _ rfl
      rw [show Tryz.prog.cellsOf 3 = 1 from by kernel_rfl] at h5
      obtain ⟨a5, g5, _, w5⟩ := DataW.trod_int (x := x5) Tryz.underlying3 h5
      have e5 : c5 = .int .i64 a5 := by simpa using g5
      have h6 : DataW.trod enc Tryz.prog W 0 (fun _ => true) true m 3 (([c0, c1, c2, c3, c4, c5, c6].drop 6).take (Tryz.prog.cellsOf 3)) = some x6 := hf 6 _ rfl
      rw [show Tryz.prog.cellsOf 3 = 1 from by kernel_rfl] at h6
      obtain ⟨a6, g6, _, w6⟩ := DataW.trod_int (x := x6) Tryz.underlying3 h6
      have e6 : c6 = .int .i64 a6 := by simpa using g6
      subst e0 e1 e2 e3 e4 e5 e6
      exact ⟨⟨a0, a1, a2, a3, a4, a5, a6⟩, ⟨okU_wf w0, okI_wf w1, okU_wf w2, okI_wf w3, okI_wf w4, okI_wf w5, okI_wf w6⟩, rfl⟩
theorem cellsSk : Tryz.prog.cellsOf 40 = 7 := by kernel_rfl
def InSk (W : World) (v : Value) (l : List Sk) : Prop := KS.R W v l ∧ ∀ s ∈ l, OKsk s
theorem openSks {H : Type} {enc : TypeId × Value → H} {W : World} {base : Nat} {v : Value} {d : DataW H} {p : List MemPlace}
    (hval : Value.okWide Tryz.prog W .any base 22 v) (h : DataW.Trod enc Tryz.prog W 0 (fun _ => true) true 22 v d p) : ∃ l : List Sk, InSk W v l := by
  obtain ⟨l, hl, hq, hh⟩ := open_elems KS OKsk Tryz.underlying22 cellsSk dec_sk hval h
  exact ⟨l, hl, hq⟩
end Go.Proofs.YtkidijjhedjifaaGreat
/- The law CostNone: nil and a zero Public answer that nothing was made. -/
namespace Go.Proofs.YtkidijjhedjifaaGreat
open Go.RowKit
set_option maxRecDepth 100000
set_option linter.unusedVariables false
set_option linter.unusedSimpArgs false
attribute [local go_sem] Oper.semAt_some
theorem insNone (w : World) : Calls Tryz.prog 88 #[.slice none 0 0, .int .i64 0, .int .i64 0] w fun e w' => e = .returned (.tuple #[]) ∧ w' = w := by
  go_enter Tryz.func88, Tryz.ntmps88
  go_wp2_with fail
  go_loopw [6] (fun iv wx => iv = .int .i64 1 ∧ wx = w) (fun _ _ => 0)
  case atStart => exact ⟨rfl, rfl⟩
  case round =>
    obtain ⟨rfl, rfl⟩ := hrel
    go_wp2_with fail
    first | refine bodyPost_ret (results_none rfl _ _ _) rfl ?_ | refine bodyPost_end (results_none rfl _ _ _) rfl ?_
    exact ⟨rfl, rfl⟩
theorem len64None (w : World) : Calls Tryz.prog 98 #[.int .u64 0] w fun e w' => ∃ n, e = .returned (.int .i64 n) ∧ w' = w := by
  go_enter Tryz.func98, Tryz.ntmps98
  go_wp2_with fail
  go_ret
  exact ⟨_, rfl, rfl⟩
theorem lenNone (w : World) : Calls Tryz.prog 59 #[.int .u64 0] w fun e w' => ∃ n, e = .returned (.int .i64 n) ∧ w' = w := by
  go_enter Tryz.func59, Tryz.ntmps59
  go_wp2_with fail
  refine (len64None w).mono ?_
  rintro e w1 ⟨n, rfl, rfl⟩
  go_wp2_with fail
  go_ret
  exact ⟨n, rfl, rfl⟩
theorem pdqNone (n : Int) (w : World) : Calls Tryz.prog 58 #[.slice none 0 0, .int .i64 0, .int .i64 0, .int .i64 n] w fun e w' => e = .returned (.tuple #[]) ∧ w' = w := by
  go_enter Tryz.func58, Tryz.ntmps58
  go_wp2_with fail
  go_loopw [1, 2] (fun a b wx => a = .int .i64 0 ∧ b = .int .i64 0 ∧ wx = w) (fun _ _ _ => 0)
  case atStart => exact ⟨rfl, rfl, rfl⟩
  case round =>
    obtain ⟨rfl, rfl, rfl⟩ := hrel
    go_wp2_with fail
    refine (insNone _).mono ?_
    rintro e w1 ⟨rfl, rfl⟩
    go_wp2_with fail
    first | refine bodyPost_ret (results_none rfl _ _ _) rfl ?_ | refine bodyPost_end (results_none rfl _ _ _) rfl ?_
    exact ⟨rfl, rfl⟩
theorem sortNone (w : World) : Calls Tryz.prog 23 #[.slice none 0 0] w fun e w' => e = .returned (.tuple #[]) ∧ w' = w := by
  go_enter Tryz.func23, Tryz.ntmps23
  go_wp2_with fail
  refine (lenNone _).mono ?_
  rintro e w1 ⟨n, rfl, rfl⟩
  go_wp2_with fail
  refine (pdqNone n _).mono ?_
  rintro e w1 ⟨rfl, rfl⟩
  go_wp2_with fail
  first | refine bodyPost_ret (results_none rfl _ _ _) rfl ?_ | refine bodyPost_end (results_none rfl _ _ _) rfl ?_
  exact ⟨rfl, rfl⟩
namespace costNone
end costNone
end Go.Proofs.YtkidijjhedjifaaGreat
/- The kit's functions on lists (Ints). Conditions: a list and six more fit into 2^47 bytes. -/
namespace Go.Proofs.YtkidijjhedjifaaGreat
open Go.RowKit
set_option maxRecDepth 100000
set_option linter.unusedVariables false
set_option linter.unusedSimpArgs false
def KI : Knd Int := ⟨3, 1, fun x => [.int .i64 x], by decide, fun _ => rfl, fun x u hu => by simp at hu; subst hu; rfl⟩
theorem infoI : (Tryz.prog.info? 3).map (fun i => (i.zero, i.size, i.bytes)) = some (some (.int .i64 0), 1, 8) := by kernel_rfl
def mkI (k i : Int) : Int := -1000 * k - i - 7
theorem markI_any (k i : Int) (w : World) (hk : 0 ≤ k) (hk' : k ≤ 1000000) (hi : 0 ≤ i) (hi' : i ≤ 1000000000000000) :
    Calls Tryz.prog 25 #[.int .i64 k, .int .i64 i] w fun e w' => e = .returned (.int .i64 (mkI k i)) ∧ w = w' := by
  show Calls _ _ _ _ fun e w' => e = .returned (.int .i64 (-1000 * k - i - 7)) ∧ w = w'
  go_enter Tryz.func25, Tryz.ntmps25
  go_wp2
  go_ret
  exact ⟨rfl, rfl⟩
def eqI (x y : Int) : Bool := (x == y)
theorem eqcI (x y : Int) : ((x == y) = true ∧ eqI x y = true) ∨ ((x == y) = false ∧ eqI x y = false) := by
  unfold eqI
  cases h0 : (x == y) <;> simp
set_option maxHeartbeats 2000000 in
theorem sameI_any (u v : Value) (xs ys : List Int) (w : World) (hu : KI.R w u xs) (hv : KI.R w v ys) :
    Calls Tryz.prog 11 #[u, v] w fun e w' => e = .returned (.bool (sameL eqI xs ys)) ∧ ∃ m, w' = w.drewN m := by
  have HU := Lib.hid hu
  have HV := Lib.hid hv
  obtain ⟨ao, cap, rfl, h1, h2, _⟩ := hu.any
  obtain ⟨bo, dap, rfl, h3, h4, _⟩ := hv.any
  clear hu hv
  have hla : xs.length ≤ 9223372036854775807 := by omega
  have hlb : ys.length ≤ 9223372036854775807 := by omega
  obtain ⟨b, hb⟩ : ∃ b, sameL eqI xs ys = b := ⟨_, rfl⟩
  rw [hb]
  unfold sameL at hb
  by_cases hl : xs.length = ys.length
  · rw [if_pos hl] at hb
    have HS := Lib.hid hb
    have hlI : ((xs.length : Int) != (ys.length : Int)) = false := by rw [hl]; simp
    have HL := Lib.hid hl
    clear hl hb
    go_enter Tryz.func11, Tryz.ntmps11
    go_wp2_with fail
    go_loopw [5] (fun i w1 => ∃ k : Nat, k ≤ xs.length ∧ i = .int .i64 (k : Int) ∧ Hid (sameTo' eqI xs ys (xs.length - k) k = b) ∧ ∃ m, w1 = w.drewN m) (fun i _ => xs.length - (intOf i).toNat)
    case atStart => exact ⟨0, Nat.zero_le _, rfl, HS, 0, rfl⟩
    case round =>
      obtain ⟨k, hk, rfl, HE, m, rfl⟩ := hrel
      by_cases hlt : k < xs.length
      · have hlt2 : k < ys.length := by rw [← HL.out]; exact hlt
        obtain ⟨x, hx⟩ : ∃ x, xs[k]? = some x := ⟨_, List.getElem?_eq_getElem hlt⟩
        obtain ⟨y, hy⟩ : ∃ y, ys[k]? = some y := ⟨_, List.getElem?_eq_getElem hlt2⟩
        obtain ⟨g, off, rfl, _, dd⟩ := HU.out.get hx
        obtain ⟨g2, off2, rfl, _, ee⟩ := HV.out.get hy
        have HE2 : Hid ((if eqI x y then sameTo' eqI xs ys (xs.length - (k + 1)) (k + 1) else false) = b) := by
          have h := HE.out
          rw [show xs.length - k = (xs.length - (k + 1)) + 1 from by omega] at h
          exact Lib.hid (sameTo_step hx hy h)
        clear HE hx hy
        have d0 : w.cell? ⟨g, off + k, none⟩ = some (.int .i64 x) := by have h := dd 0 _ rfl; rw [show off + (k * KI.sz + 0) = off + k from by show off + (k * 1 + 0) = _; omega] at h; exact h
        have e0 : w.cell? ⟨g2, off2 + k, none⟩ = some (.int .i64 y) := by have h := ee 0 _ rfl; rw [show off2 + (k * KI.sz + 0) = off2 + k from by show off2 + (k * 1 + 0) = _; omega] at h; exact h
        clear dd ee
        have hq := eqcI x y
        rcases hq with ⟨h0, he⟩ | ⟨h0, he⟩
        · have HE3 : Hid (sameTo' eqI xs ys (xs.length - (k + 1)) (k + 1) = b) := by
            have h := HE2.out
            rw [if_pos he] at h
            exact Lib.hid h
          clear HE2
          go_wp2_with fail
          go_quiet ((fail))
          go_wp2_with fail
          go_roundw
          case rel => exact ⟨k + 1, by omega, by go_num, HE3, m + nq, rfl⟩
          case measure => simp [intOf]; omega
        all_goals
          have HE3 : Hid (b = false) := by
            have h := HE2.out
            rw [he] at h
            exact Lib.hid h.symm
          clear HE2
          go_wp2_with fail
          go_quiet ((fail))
          go_wp2
          go_ret
          exact ⟨by rw [HE3.out]; rfl, m + nq, by simp⟩
      · obtain rfl : k = xs.length := by omega
        have HF : Hid (b = true) := by
          have h := HE.out
          rw [Nat.sub_self] at h
          exact Lib.hid h.symm
        go_wp2
        go_ret
        exact ⟨by rw [HF.out]; rfl, m, rfl⟩
  · rw [if_neg hl] at hb
    have hlI : ((xs.length : Int) != (ys.length : Int)) = true := by simp; omega
    have HF := Lib.hid hb
    clear hl hb
    go_enter Tryz.func11, Tryz.ntmps11
    go_wp2
    go_ret
    exact ⟨by rw [← HF.out]; rfl, 0, rfl⟩
theorem infoIs : (Tryz.prog.info? 23).map (fun i => (i.zero, i.size, i.bytes)) = some (some (.slice none 0 0), 1, 24) := by kernel_rfl
def MI : Mkr := Mkr.ofK KI 23 mkI
theorem MI_get (k n i : Nat) (h : i < n) : (MI.marks k n)[i]? = some (.int .i64 (mkI ((k : Int) + 10) (i : Int))) := by
  have := MI.marks_get k 0 (by decide) n i h
  simpa [MI, Mkr.ofK, KI] using this
set_option maxHeartbeats 4000000 in
theorem apartInts_any {w0 w : World} (u : Value) (vs : List Value) (n : Nat → Nat) (c : Nat → List Value) (rest : List Ob) (h : AEnv MI w0 w u vs (fun j => obE MI.e MI.sz (Tv vs j) (n j) (c j)) rest)
    (hn : ∀ j, j < vs.length → n j ≤ 17592186044410) (hl : vs.length ≤ 900000) :
    Calls Tryz.prog 14 #[u] w fun e w' => e = .returned (.bool true) ∧ Env w0 w' rest := by
  have hc : ∀ j, j < vs.length → (c j).length = n j * MI.sz := fun j hj => (Env.row h (j + 1) (AEnv.at (w0 := w0) (w := w) j hj)).1
  have HC := Lib.hid hc
  have HN := Lib.hid hn
  obtain ⟨ao, capu, rfl, hcu, hcm, hao⟩ := header h.row
  have HAO := Lib.hid hao
  have H0 : Hid (AEnv MI w0 w (.slice ao vs.length capu) vs (T1 MI vs n c 0 0) rest) := Lib.hid (h.same fun j hj => T1_zero vs n c j)
  clear hc hn hao h
  obtain ⟨N, hN⟩ : ∃ N, N = vs.length := ⟨_, rfl⟩
  have HNN := Lib.hid hN
  rw [← hN] at hl hcu H0
  rw [← hN]
  clear hN
  go_enter Tryz.func14, Tryz.ntmps14
  go_wp2_with fail
  go_loopw [3] (fun i w1 => ∃ (k : Nat), k ≤ N ∧ i = .int .i64 (k : Int) ∧ Hid (AEnv MI w0 w1 (.slice ao N capu) vs (T1 MI vs n c k 0) rest)) (fun i _ => N - (intOf i).toNat)
  case atStart => exact ⟨0, Nat.zero_le _, rfl, H0⟩
  case round =>
    clear H0
    obtain ⟨k, hk, rfl, H1⟩ := hrel
    by_cases hlt : k < N
    · have hkv : k < vs.length := by rw [← HNN.out]; exact hlt
      have hr1 := Env.row H1.out (k + 1) (by rw [AEnv.at (w0 := w0) (w := wr) k hkv, T1_self])
      obtain ⟨m, hm⟩ : ∃ m, n k = m := ⟨_, rfl⟩
      have hnk := HN.out k hkv
      rw [hm] at hr1 hnk
      obtain ⟨ak, capk, hvk, hck, hcmk, hak⟩ := header hr1
      obtain ⟨gu, rfl⟩ := HAO.out (by rw [← HNN.out]; omega)
      have hu1 := H1.out.row
      rw [← HNN.out] at hu1
      have c0 := World.ownsRow.cellAt hu1 k (by omega)
      rw [Tv_get hkv, hvk] at c0
      have HM := Lib.hid hm
      have HVK := Lib.hid hvk
      have HAK := Lib.hid hak
      have HKV := Lib.hid hkv
      clear hr1 hu1 hm hvk hak hkv
      go_wp2_with fail
      obtain ⟨wx, hwx⟩ : ∃ x, x = wr := ⟨_, rfl⟩
      go_loopw [4] (fun i w1 => ∃ (j : Nat), j ≤ m ∧ i = .int .i64 (j : Int) ∧ Hid (AEnv MI w0 w1 (.slice (some ⟨gu, 0, none⟩) N capu) vs (T1 MI vs n c k j) rest)) (fun i _ => m - (intOf i).toNat)
      case atStart => exact ⟨0, Nat.zero_le _, rfl, H1⟩
      case round =>
        clear c0
        obtain ⟨j, hj, rfl, H2⟩ := hrel
        have hu2 := H2.out.row
        rw [← HNN.out] at hu2
        have c0 := World.ownsRow.cellAt hu2 k (by omega)
        rw [Tv_get HKV.out, HVK.out] at c0
        clear hu2
        by_cases hjn : j < m
        · obtain ⟨g, rfl⟩ := HAK.out (by omega)
          have hr2 := Env.row H2.out (k + 1) (by rw [AEnv.at (w0 := w0) (w := wr) k HKV.out, T1_self])
          rw [HM.out, HVK.out] at hr2
          have c1 := World.ownsRow.cellAt hr2 j (by show j < m * 1; omega)
          have f1 := World.ownsRow.frozenAt hr2 j
          rw [List.getElem?_eq_getElem (by rw [hr2.1]; show j < m * 1; omega)] at c1
          generalize ((MI.to k (c k) j)[j]'_) = z at c1
          clear hr2
          go_wp2_with fail
          have hwk : IntKind.i64.wrap ((k : Int) + 10) = (k : Int) + 10 := IntWalk.i64_in _ (by omega)
          refine wp_region_tame (fun w' => w' = wr.drewN 1) 0 10 (by kernel_rfl) (by kernel_rfl) (fun _ _ d _ _ h => (by cases d <;> exact h)) rfl (by decide) ?_
          simp only [List.take_succ_cons, List.take_zero, List.drop_succ_cons, List.drop_zero]
          refine wpPre_nil ?_
          refine wpTame_run (v := ?_) (by decide) rfl (fun w' hS => ?_) ?_
          rotate_left
          focus (subst hS; go_simp; try rfl; done)
          simp only [Act.put, List.setIfInBounds_toArray, List.set_cons_zero, List.set_cons_succ]
          refine wpTame_run (v := ?_) (by decide) rfl (fun w' hS => ?_) ?_
          rotate_left
          focus (subst hS; go_simp; try rfl; done)
          simp only [Act.put, List.setIfInBounds_toArray, List.set_cons_zero, List.set_cons_succ]
          refine wpTame_run (v := ?_) (by decide) rfl (fun w' hS => ?_) ?_
          rotate_left
          focus (subst hS; go_simp; try rfl; done)
          simp only [Act.put, List.setIfInBounds_toArray, List.set_cons_zero, List.set_cons_succ]
          refine wpTame_run (v := ?_) (by decide) rfl (fun w' hS => ?_) ?_
          rotate_left
          focus (subst hS; go_simp; try rfl; done)
          simp only [Act.put, List.setIfInBounds_toArray, List.set_cons_zero, List.set_cons_succ]
          refine wpTame_run (v := ?_) (by decide) rfl (fun w' hS => ?_) ?_
          rotate_left
          focus (subst hS; go_simp; try rfl; done)
          simp only [Act.put, List.setIfInBounds_toArray, List.set_cons_zero, List.set_cons_succ]
          refine wpTame_run (v := ?_) (by decide) rfl (fun w' hS => ?_) ?_
          rotate_left
          focus (subst hS; go_simp; try rfl; done)
          simp only [Act.put, List.setIfInBounds_toArray, List.set_cons_zero, List.set_cons_succ]
          refine wpTame_run (v := ?_) (by decide) rfl (fun w' hS => ?_) ?_
          rotate_left
          focus (subst hS; go_simp; try rfl; done)
          simp only [Act.put, List.setIfInBounds_toArray, List.set_cons_zero, List.set_cons_succ]
          refine wpTame_run (v := ?_) (by decide) rfl (fun w' hS => ?_) ?_
          rotate_left
          focus (subst hS; go_simp; try rfl; done)
          simp only [Act.put, List.setIfInBounds_toArray, List.set_cons_zero, List.set_cons_succ]
          refine wpTame_call (v := .int .i64 (mkI ((k : Int) + 10) (j : Int))) (by decide) rfl (fun w' h => ?_) (fun w' h => (markI_any ((k : Int) + 10) j w' (by omega) (by omega) (by omega) (by omega)).mono fun e w'' ⟨he, hw⟩ => ⟨he, by rw [← hw]; exact h⟩) ?_
          · subst h; go_simp; try rfl
          simp only [Act.put, List.setIfInBounds_toArray, List.set_cons_zero, List.set_cons_succ]
          refine wpTame_run (v := ?_) (by decide) rfl (fun w' hS => ?_) ?_
          rotate_left
          focus (subst hS; go_simp; try rfl; done)
          simp only [Act.put, List.setIfInBounds_toArray, List.set_cons_zero, List.set_cons_succ]
          refine wpTame_nil ?_
          rintro w' rfl
          go_wp2_with fail
          go_roundw
          case rel =>
            have hh := H2.out.mark HKV.out (HC.out k HKV.out) (by rw [HM.out]; exact hjn) HVK.out 1
            rw [show j * MI.sz = j from Nat.mul_one j] at hh
            exact ⟨j + 1, by omega, by go_num, Lib.hid hh⟩
          case measure => simp [intOf]; omega
        · obtain rfl : j = m := by omega
          have H3 : Hid (AEnv MI w0 wr (.slice (some ⟨gu, 0, none⟩) N capu) vs (T1 MI vs n c (k + 1) 0) rest) := by
            have h := H2.out
            rw [← HM.out] at h
            exact Lib.hid (h.next (HC.out k HKV.out))
          go_wp2_with fail
          go_roundw
          case rel => exact ⟨k + 1, by omega, by go_num, H3⟩
          case measure => simp [intOf]; omega
    · obtain rfl : k = N := by omega
      have P0 : Hid (PEnv MI w0 wr (.slice ao k capu) vs n rest 0 none (.slice none 0 0) []) := by
        have h := H1.out
        rw [HNN.out] at h ⊢
        exact Lib.hid (PEnv.start h)
      clear H1
      go_wp2_with fail
      obtain ⟨wq, hwq⟩ : ∃ x, x = wr := ⟨_, rfl⟩
      go_loopw [5, 6] (fun gsv i w1 => ∃ (p : Nat) (gs : List Value), p ≤ k ∧ i = .int .i64 (p : Int) ∧ Hid (gs.length = p) ∧ Hid (PEnv MI w0 w1 (.slice ao k capu) vs n rest p none gsv gs)) (fun _ i _ => k - (intOf i).toNat)
      case atStart => exact ⟨0, [], Nat.zero_le _, rfl, Lib.hid rfl, P0⟩
      case round =>
        clear P0
        obtain ⟨p, gs, hp, rfl, HGS, P⟩ := hrel
        by_cases hlt : p < k
        · have hkv : p < vs.length := by rw [← HNN.out]; exact hlt
          have hd := P.out.hd hkv
          have hr1 := Env.row P.out (p + 1) (by rw [AEnv.at (w0 := w0) (w := wr) p hkv, T2_self])
          obtain ⟨m, hm⟩ : ∃ m, n p = m := ⟨_, rfl⟩
          have hnk := HN.out p hkv
          rw [hm] at hr1 hnk
          obtain ⟨ak, capk, hvk, hck, hcmk, hak⟩ := header hr1
          obtain ⟨gu, rfl⟩ := HAO.out (by rw [← HNN.out]; omega)
          have hu1 := P.out.row
          rw [← HNN.out] at hu1
          have c0 := World.ownsRow.cellAt hu1 p (by omega)
          rw [Tv_get hkv, hvk] at c0
          have PT := P.out.take hkv
          rw [hvk] at PT
          have HM := Lib.hid hm
          have HVK := Lib.hid hvk
          have HKV := Lib.hid hkv
          have HD := Lib.hid hd
          have HPT := Lib.hid PT
          clear hr1 hu1 hm hvk hak hkv hd PT P
          go_wp2_with fail
          obtain ⟨wy, hwy⟩ : ∃ x, x = wr := ⟨_, rfl⟩
          go_loopw [7, 8] (fun g i w1 => ∃ (j : Nat), j ≤ 6 ∧ i = .int .i64 (j : Int) ∧ Hid (PEnv MI w0 w1 (.slice (some ⟨gu, 0, none⟩) k capu) vs n rest p (some (g, j)) u5 gs)) (fun _ i _ => 6 - (intOf i).toNat)
          case atStart => exact ⟨0, by omega, rfl, HPT⟩
          case round =>
            clear HPT c0
            obtain ⟨j, hj, rfl, PJ⟩ := hrel
            have hu1 := PJ.out.row
            rw [← HNN.out] at hu1
            have c0 := World.ownsRow.cellAt hu1 p (by omega)
            rw [Tv_get HKV.out, HVK.out] at c0
            clear hu1
            by_cases hj6 : j < 6
            · obtain ⟨x, hx⟩ : ∃ x, mkI ((p : Int) + 10) ((m : Int) + j) = x := ⟨_, rfl⟩
              have hel : MI.el p (m + j) = [.int .i64 x] := by rw [← hx]; rfl
              have PA := PJ.out.below ((Below.refl wr.heap.size wr).alloc (Nat.le_refl _) (.cells #[.int .i64 x] 3))
              have HOWN : (wr.alloc (.cells #[.int .i64 x] 3)).ownsRow 0 3 1 u7 (m + j) (MI.marks p (m + j)) := by
                have h := PA.gone HKV.out
                rw [HM.out] at h
                exact h
              have HPA := Lib.hid PA
              have HEL := Lib.hid hel
              clear PA hel
              have hwk : IntKind.i64.wrap ((p : Int) + 10) = (p : Int) + 10 := IntWalk.i64_in _ (by omega)
              go_wp2_with fail
              refine (markI_any ((p : Int) + 10) ((m : Int) + j) _ (by omega) (by omega) (by omega) (by omega)).mono ?_
              rintro e w' ⟨he, rfl⟩
              rw [hx] at he
              subst he
              clear hx
              obtain ⟨i0, hi, hz0, hz1, hz2⟩ := info_parts infoI
              go_wp2_with (at_builtin; refine wpList_append_keep _ rfl _ _ 23 rfl 3 i0 _ 1 8 Tryz.underlying23 hi hz0 hz1 hz2 rfl (by decide) u7 (m + j) (MI.marks p (m + j)) rfl HOWN ⟨wr.heap.size, 0, none⟩ 1 1 [.int .i64 x] rfl rfl (World.news_of_block (heap_alloc_new _ _)) (KI.one x) (by unfold maxLen; omega) (by omega) (by decide) ?_)
              intro v' w2 hown hgrow hat hne
              have HP2 : Hid (PEnv MI w0 w2 (.slice (some ⟨gu, 0, none⟩) k capu) vs n rest p (some (v', j + 1)) u5 gs) := by
                have hm := HM.out
                subst hm
                rw [← HEL.out] at hown
                exact Lib.hid (HPA.out.more HKV.out HD.out hown hgrow (by simpa using hat))
              clear hown hgrow hat hne HOWN hi hz0 hz1 hz2 c0
              go_wp2_with fail
              go_roundw
              case rel => exact ⟨j + 1, by omega, by go_num, HP2⟩
              case measure => simp [intOf]; omega
            · obtain rfl : j = 6 := by omega
              have hg := PJ.out.gone HKV.out
              obtain ⟨ag, capg, hug, _, _, _⟩ := header hg
              subst hug
              have HPA := Lib.hid (PJ.out.below ((Below.refl wr.heap.size wr).alloc (Nat.le_refl _) (.cells #[.slice ag (n p + 6) capg] 23)))
              have HROW : (wr.alloc (.cells #[.slice ag (n p + 6) capg] 23)).ownsRow 0 23 1 u5 p gs := by
                have h := HPA.out.gs
                rw [HGS.out] at h
                exact h
              clear hg c0
              obtain ⟨i0, hi, hz0, hz1, hz2⟩ := info_parts infoIs
              go_wp2_with (at_builtin; refine wpList_append_keep _ rfl _ _ 31 rfl 23 i0 _ 1 24 Tryz.underlying31 hi hz0 hz1 hz2 rfl (by decide) u5 p gs rfl HROW ⟨wr.heap.size, 0, none⟩ 1 1 [.slice ag (n p + 6) capg] rfl rfl (World.news_of_block (heap_alloc_new _ _)) (fun u hu => by simp at hu; subst hu; rfl) (by unfold maxLen; omega) (by omega) (by decide) ?_)
              intro v' w2 hown hgrow hat hne
              have HP2 : Hid (PEnv MI w0 w2 (.slice (some ⟨gu, 0, none⟩) k capu) vs n rest (p + 1) none v' (gs ++ [.slice ag (n p + 6) capg])) := by
                refine Lib.hid (HPA.out.kept HGS.out (by rw [HGS.out]; exact hown) hgrow ?_)
                rcases hat with hat | hat
                · exact .inl hat
                · exact .inr (by simpa using hat.1)
              clear hown hgrow hat hne HROW hi hz0 hz1 hz2
              go_wp2_with fail
              go_roundw
              case rel => exact ⟨p + 1, _, by omega, by go_num, Lib.hid (by rw [List.length_append, HGS.out]; rfl), HP2⟩
              case measure => simp [intOf]; omega
        · obtain rfl : p = k := by omega
          have hg := P.out.gs
          rw [HGS.out] at hg
          obtain ⟨ag, capg, hug, hcg, hcmg, hag⟩ := header hg
          subst hug
          have HROW := Lib.hid hg
          have HAG := Lib.hid hag
          have hu1 := P.out.row
          rw [← HNN.out] at hu1
          have HU := Lib.hid hu1
          have HR : Hid (∀ q, q < p → wr.ownsRow 0 3 1 (Tv gs q) (n q + 6) (MI.marks q (n q + 6)) ∧ Sl wr 1 (Tv vs q) (n q) (MI.marks q (n q)) ∧ n q ≤ 17592186044410) := Lib.hid (fun q hq => by
            have h := P.out
            have hq' : q < vs.length := by rw [← HNN.out]; exact hq
            have h2 := h
            rw [HNN.out] at h2
            obtain ⟨h3, h4⟩ := h2.rows q hq'
            exact ⟨h3, h4, HN.out q hq'⟩)
          have HEND : Hid (∀ m, Env w0 (wr.drewN m) rest) := Lib.hid (fun m => P.out.drop.draw m)
          clear hg hag hu1 P
          go_wp2_with fail
          obtain ⟨w3, rfl⟩ : ∃ w3 : World, w3 = wr := ⟨_, rfl⟩
          go_loopw [9] (fun i w1 => ∃ (q d : Nat), q ≤ p ∧ i = .int .i64 (q : Int) ∧ w1 = w3.drewN d) (fun i _ => p - (intOf i).toNat)
          case atStart => exact ⟨0, 0, Nat.zero_le _, rfl, rfl⟩
          case round =>
            obtain ⟨q, d, hq, rfl, rfl⟩ := hrel
            by_cases hlt : q < p
            · obtain ⟨h3, h4, hnq⟩ := HR.out q hlt
              obtain ⟨gu, rfl⟩ := HAO.out (by rw [← HNN.out]; omega)
              obtain ⟨gg, rfl⟩ := HAG.out (by omega)
              obtain ⟨m, hm⟩ : ∃ m, n q = m := ⟨_, rfl⟩
              rw [hm] at h3 h4 hnq
              obtain ⟨a1, cap1, hv1, hc1, hcm1, ha1⟩ := header h3
              obtain ⟨g1, rfl⟩ := ha1 (by omega)
              obtain ⟨a2, cap2, hv2, hc2, hcm2, ha2, ha3⟩ := h4.form
              have d1 := World.ownsRow.cellAt HROW.out q (by omega)
              rw [Tv_get (by rw [HGS.out]; exact hlt), hv1] at d1
              have d2 := World.ownsRow.cellAt HU.out q (by omega)
              rw [Tv_get (by rw [← HNN.out]; exact hlt), hv2] at d2
              rw [hv1] at h3
              have H3 := Lib.hid h3
              have HA3 := Lib.hid ha3
              clear h3 h4 hm hv1 hv2 ha1 ha2 ha3
              go_wp2_with fail
              go_loopw [10] (fun i w1 => ∃ (j d : Nat), j ≤ m + 6 ∧ i = .int .i64 (j : Int) ∧ w1 = w3.drewN d) (fun i _ => m + 6 - (intOf i).toNat)
              case atStart => exact ⟨0, d, Nat.zero_le _, rfl, rfl⟩
              case round =>
                obtain ⟨j, d, hj, rfl, rfl⟩ := hrel
                by_cases hjn : j < m + 6
                · have d3 := World.ownsRow.cellAt H3.out j (by omega)
                  rw [MI_get _ _ _ (by omega)] at d3
                  have hz : (mkI ((q : Int) + 10) (j : Int) != mkI ((q : Int) + 10) (j : Int)) = false := by simp
                  have hwk : IntKind.i64.wrap ((q : Int) + 10) = (q : Int) + 10 := IntWalk.i64_in _ (by omega)
                  by_cases hjm : j < m
                  · obtain ⟨b, off, rfl, d4⟩ := HA3.out j _ (MI_get q m j hjm)
                    go_wp2_with fail
                    go_quiet ((go_at_call 25; exact (markI_any ((q : Int) + 10) j _ (by omega) (by omega) (by omega) (by omega)).mono fun e w' ⟨he, hw⟩ => ⟨he, _, hw.symm⟩))
                    go_wp2_with fail
                    go_roundw
                    case rel => exact ⟨j + 1, _, by omega, by go_num, rfl⟩
                    case measure => simp [intOf]; omega
                  · have hd : decide ((j : Int) < (m : Int)) = false := by simpa using hjm
                    go_wp2_with fail
                    go_quiet ((go_at_call 25; exact (markI_any ((q : Int) + 10) j _ (by omega) (by omega) (by omega) (by omega)).mono fun e w' ⟨he, hw⟩ => ⟨he, _, hw.symm⟩))
                    go_wp2_with fail
                    go_roundw
                    case rel => exact ⟨j + 1, _, by omega, by go_num, rfl⟩
                    case measure => simp [intOf]; omega
                · go_wp2_with fail
                  go_roundw
                  case rel => exact ⟨q + 1, d, by omega, by go_num, rfl⟩
                  case measure => simp [intOf]; omega
            · go_wp2_with fail
              go_ret
              exact ⟨rfl, HEND.out _⟩
end Go.Proofs.YtkidijjhedjifaaGreat
/- The contract of slices.Sort at []int, laid at this dump (the shelf's plain mode). -/
namespace Go.Proofs.YtkidijjhedjifaaGreat
open Go.Shelf
def sortA_ren : Go.Shelf.Ren := ⟨fun | 5 => 23 | 8 => 59 | 7 => 58 | 19 => 97 | 20 => 98 | 10 => 88 | 11 => 89 | 12 => 90 | 13 => 91 | 14 => 92 | 15 => 93 | 16 => 94 | 17 => 95 | 18 => 96 | 30 => 102 | 31 => 103 | 32 => 104 | 33 => 105 | 34 => 106 | 35 => 107 | 40 => 108 | n => n, fun | 23 => 23 | 25 => 3 | 3 => 3 | 32 => 93 | 22 => 23 | 0 => 0 | 44 => 118 | 46 => 120 | 4 => 4 | 36 => 110 | 35 => 109 | 41 => 115 | 5 => 5 | 9 => 9 | 53 => 121 | 57 => 125 | 63 => 127 | 64 => 128 | n => n, fun | n => n⟩
theorem sortA : Go.Proofs.SlLaysM.n5 Tryz.prog sortA_ren := {
  mixed := by kernel_rfl
  f5 := ⟨Tryz.f23.name, by decide, Tryz.func23.trans (congrArg some (by kernel_rfl))⟩
  f7 := ⟨Tryz.f58.name, by decide, Tryz.func58.trans (congrArg some (by kernel_rfl))⟩
  f8 := Tryz.func59.trans (congrArg some (by kernel_rfl))
  f10 := ⟨Tryz.f88.name, by decide, Tryz.func88.trans (congrArg some (by kernel_rfl))⟩
  f11 := ⟨Tryz.f89.name, by decide, Tryz.func89.trans (congrArg some (by kernel_rfl))⟩
  f12 := ⟨Tryz.f90.name, by decide, Tryz.func90.trans (congrArg some (by kernel_rfl))⟩
  f13 := ⟨Tryz.f91.name, by decide, Tryz.func91.trans (congrArg some (by kernel_rfl))⟩
  f14 := ⟨Tryz.f92.name, by decide, Tryz.func92.trans (congrArg some (by kernel_rfl))⟩
  f15 := ⟨Tryz.f93.name, by decide, Tryz.func93.trans (congrArg some (by kernel_rfl))⟩
  f16 := ⟨Tryz.f94.name, by decide, Tryz.func94.trans (congrArg some (by kernel_rfl))⟩
  f17 := ⟨Tryz.f95.name, by decide, Tryz.func95.trans (congrArg some (by kernel_rfl))⟩
  f18 := ⟨Tryz.f96.name, by decide, Tryz.func96.trans (congrArg some (by kernel_rfl))⟩
  f19 := Tryz.func97.trans (congrArg some (by kernel_rfl))
  f20 := Tryz.func98.trans (congrArg some (by kernel_rfl))
  f30 := ⟨Tryz.f102.name, by decide, Tryz.func102.trans (congrArg some (by kernel_rfl))⟩
  f31 := Tryz.func103.trans (congrArg some (by kernel_rfl))
  f32 := Tryz.func104.trans (congrArg some (by kernel_rfl))
  f33 := ⟨Tryz.f105.name, by decide, Tryz.func105.trans (congrArg some (by kernel_rfl))⟩
  f34 := ⟨Tryz.f106.name, by decide, Tryz.func106.trans (congrArg some (by kernel_rfl))⟩
  f35 := ⟨Tryz.f107.name, by decide, Tryz.func107.trans (congrArg some (by kernel_rfl))⟩
  f40 := ⟨Tryz.f108.name, by decide, Tryz.func108.trans (congrArg some (by kernel_rfl))⟩
  t0 := Tryz.underlying0
  a0 := Tryz.isAgg0
  z0 := Tryz.sizeOf0
  v0 := Tryz.zeroValue0
  t3 := Tryz.underlying3
  a3 := Tryz.isAgg3
  z3 := Tryz.sizeOf3
  v3 := Tryz.zeroValue3
  t4 := Tryz.underlying4
  a4 := Tryz.isAgg4
  z4 := Tryz.sizeOf4
  v4 := Tryz.zeroValue4
  t5 := Tryz.underlying5
  a5 := Tryz.isAgg5
  z5 := Tryz.sizeOf5
  v5 := Tryz.zeroValue5
  t9 := Tryz.underlying9
  a9 := Tryz.isAgg9
  z9 := Tryz.sizeOf9
  v9 := Tryz.zeroValue9
  t22 := Tryz.underlying23
  a22 := Tryz.isAgg23
  z22 := Tryz.sizeOf23
  v22 := Tryz.zeroValue23
  t23 := Tryz.underlying23
  a23 := Tryz.isAgg23
  z23 := Tryz.sizeOf23
  v23 := Tryz.zeroValue23
  t25 := Tryz.underlying3
  a25 := Tryz.isAgg3
  z25 := Tryz.sizeOf3
  v25 := Tryz.zeroValue3
  t32 := Tryz.underlying93
  a32 := Tryz.isAgg93
  z32 := Tryz.sizeOf93
  v32 := Tryz.zeroValue93
  t35 := Tryz.underlying109
  a35 := Tryz.isAgg109
  z35 := Tryz.sizeOf109
  v35 := Tryz.zeroValue109
  t36 := Tryz.underlying110
  a36 := Tryz.isAgg110
  z36 := Tryz.sizeOf110
  v36 := Tryz.zeroValue110
  t41 := Tryz.underlying115
  a41 := Tryz.isAgg115
  z41 := Tryz.sizeOf115
  v41 := Tryz.zeroValue115
  t44 := Tryz.underlying118
  a44 := Tryz.isAgg118
  z44 := Tryz.sizeOf118
  v44 := Tryz.zeroValue118
  t46 := Tryz.underlying120
  a46 := Tryz.isAgg120
  z46 := Tryz.sizeOf120
  v46 := Tryz.zeroValue120
  t53 := Tryz.underlying121
  a53 := Tryz.isAgg121
  z53 := Tryz.sizeOf121
  v53 := Tryz.zeroValue121
  t57 := Tryz.underlying125
  a57 := Tryz.isAgg125
  z57 := Tryz.sizeOf125
  v57 := Tryz.zeroValue125
  t63 := Tryz.underlying127
  a63 := Tryz.isAgg127
  z63 := Tryz.sizeOf127
  v63 := Tryz.zeroValue127
  t64 := Tryz.underlying128
  a64 := Tryz.isAgg128
  z64 := Tryz.sizeOf128
  v64 := Tryz.zeroValue128 }
end Go.Proofs.YtkidijjhedjifaaGreat
/- What is held: the keys of the map, collected in whatever order, sorted. -/
namespace Go.Proofs.YtkidijjhedjifaaGreat
open Go.RowKit Go.Maps Go.Sort
set_option maxRecDepth 100000
set_option linter.unusedVariables false
set_option linter.unusedSimpArgs false
attribute [local go_sem] Oper.semAt_some
/-! ### the plain law -/
def heldL (σ : Hs) : List Int := ((List.range 64).map fun n : Nat => (n : Int)).filter fun x => (σ x).isSome
theorem heldL_mem (σ : Hs) (x : Int) : x ∈ heldL σ ↔ 0 ≤ x ∧ x < 64 ∧ (σ x).isSome = true := by
  unfold heldL
  rw [List.mem_filter, List.mem_map]
  constructor
  · rintro ⟨⟨n, hn, rfl⟩, h⟩
    rw [List.mem_range] at hn
    exact ⟨by omega, by omega, h⟩
  · rintro ⟨h1, h2, h3⟩
    exact ⟨⟨x.toNat, List.mem_range.2 (by omega), by omega⟩, h3⟩
theorem heldL_lt (σ : Hs) : (heldL σ).Pairwise (· < ·) := by
  unfold heldL
  refine List.Pairwise.filter _ (List.pairwise_map.2 ?_)
  exact List.pairwise_lt_range.imp (fun h => by omega)
theorem heldL_len (σ : Hs) : (heldL σ).length ≤ 64 := by
  unfold heldL
  refine Nat.le_trans (List.length_filter_le _ _) ?_
  simp
theorem held_perm {D : DataW Unit} {left : Lit → Bool} {ss : List Int} {σ : Hs} (h : CollectedI D left ss) (hr : Rep D σ) (hok : ∀ x ∈ ss, okI x) (hl : ∀ kl, left kl = false) : ss.Perm (heldL σ) := by
  refine (List.perm_ext_iff_of_nodup h.1 ((heldL_lt σ).imp (fun h => by omega))).2 fun x => ?_
  rw [h.2 x, hl, heldL_mem]
  constructor
  · rintro ⟨h1, _⟩
    have hx := hok x ((h.2 x).2 ⟨h1, hl _⟩)
    rw [hr.has x hx] at h1
    obtain ⟨t, ht⟩ := Option.isSome_iff_exists.1 h1
    have := hr.dom x t ht
    exact ⟨this.1, this.2, h1⟩
  · rintro ⟨h1, h2, h3⟩
    exact ⟨by rw [hr.has x ⟨by omega, by omega⟩]; exact h3, rfl⟩
theorem held_sort {ss : List Int} {σ : Hs} (h : ss.Perm (heldL σ)) : (ss.mergeSort fun x y => decide (x ≤ y)) = heldL σ := by
  rw [mergeSort_of_perm_i h]
  refine List.mergeSort_of_pairwise ?_
  exact (heldL_lt σ).imp (fun h => by simp only [leI, decide_eq_true_eq]; omega)
/-! ### slices.Sort of a row of ints -/
theorem sortI_any {base : Nat} {u : Value} {xs : List Int} {w : World} (h : w.ownsRow base 3 1 u xs.length (xs.map (Value.int .i64))) (hl : xs.length ≤ 1000000) :
    Calls Tryz.prog 23 #[u] w fun e w' => e = .returned (.tuple #[]) ∧ w'.ownsRow base 3 1 u xs.length ((xs.mergeSort fun x y => decide (x ≤ y)).map (Value.int .i64)) ∧ w.grownBy w' u.ownBlock := by
  rcases h.2 with ⟨hnil, h0⟩ | ⟨g, cap, cur, rfl, hbase, hb, h1, h2, h3, h4⟩
  · subst hnil
    have hx : xs = [] := List.length_eq_zero_iff.1 (by omega)
    subst hx
    refine (sortNone w).mono ?_
    rintro e w' ⟨rfl, rfl⟩
    exact ⟨rfl, by simpa using h, ⟨rfl, rfl, rfl, Nat.le_refl _, fun _ _ _ => rfl⟩⟩
  · have hH : Holds (Value.int .i64) w g 0 xs.toArray := holds_of_block_i hb (by simpa using h4)
    refine (AnyM.slices_Sort_int (ρ := sortA_ren) sortA g 0 cap xs w hH (Array.getElem?_eq_some_iff.1 hb).1 (by omega)).mono ?_
    rintro e w' ⟨rfl, n, os, rfl⟩
    exact ⟨rfl, ownsRow_sorted_i (by simp) hbase hb h1 h2 h3, grownBy_sorted_i _⟩
theorem ownsRow_base0 {W : World} {base : Nat} {e : TypeId} {size : Nat} {v : Value} {k : Nat} {xs : List Value} (h : W.ownsRow base e size v k xs) : W.ownsRow 0 e size v k xs := by
  refine ⟨h.1, ?_⟩
  rcases h.2 with h | ⟨g, cap, cur, h1, h2, h3⟩
  · exact .inl h
  · exact .inr ⟨g, cap, cur, h1, Nat.zero_le _, h3⟩
theorem flI (l : List Int) : KI.fl l = l.map (Value.int .i64) := by
  induction l with
  | nil => rfl
  | cons x l ih =>
    show KI.fl (x :: l) = Value.int .i64 x :: l.map (Value.int .i64)
    rw [← ih]
    rfl
theorem okI_of_wf {x : Int} (h : (Lit.int .i64 x).wf = true) : okI x := by
  simp [Lit.wf, IntKind.min, IntKind.max, IntKind.signed, IntKind.bits] at h
  unfold okI
  omega
/-! ### Held -/
set_option maxHeartbeats 4000000 in
theorem held_any {w : World} {p m k : Nat} {σ : Hs} (h : PubAt w p m k σ) :
    Calls Tryz.prog 9 #[pV p] w fun e w' => ∃ v, e = .returned v ∧ w'.ownsRow w.heap.size 3 1 v (heldL σ).length ((heldL σ).map (Value.int .i64)) ∧ Below w.heap.size w w' := by
  obtain ⟨i0, hi, hz0, hz1, hz2⟩ := info_parts infoI
  have HM := Lib.hid (made_any h)
  obtain ⟨D0, hown, hrep⟩ := h.held
  have hbl := hown.lt
  have hsz : Maps.size D0 ≤ 64 := by rw [hrep.size]; exact cntH_le _
  have c0 := h.blk.cellAt 0 rfl
  have HR := Lib.hid hrep
  clear hrep h
  unfold pV at *
  go_enter Tryz.func9, Tryz.ntmps9
  go_wp2_with fail
  refine HM.out.mono ?_
  rintro e w1 ⟨rfl, rfl⟩
  go_wp2_with (first
    | (at_range; refine wpList_range_own _ rfl _ 47 rfl 3 97 heldK Tryz.underlying47 _ m 64 _ rfl hown ?_; intro w0 hrg0 hg0 hs0)
    | fail)
  have hrow0 : w0.ownsRow w.heap.size 3 1 (.slice none 0 0) 0 [] := World.ownsRow_nil w0 _ _ _
  go_frame
  go_loopw [3] (fun v wr => ∃ (left : Lit → Bool) (cnt : Nat) (ss : List Int), wr.ranges Tryz.prog 3 thR m w.heap.size 64 D0 left cnt ∧ ss.length + cnt ≤ 64 ∧
      wr.ownsRow w.heap.size 3 1 v ss.length (ss.map (Value.int .i64)) ∧ CollectedI D0 left ss ∧ (∀ x ∈ ss, okI x) ∧ Below w.heap.size w wr)
    (fun _ wr => wr.rangeLeft m w.heap.size)
  case atStart =>
    exact ⟨_, _, [], hrg0, by simpa using hsz, by simpa using hrow0, CollectedI.start D0, fun x hx => by simp at hx, (Below.refl _ _).grown hg0 (Nat.le_refl _) (fun j hj => by cases hj)⟩
  case round =>
    obtain ⟨left, cnt, ss, hrg, hcs, hrow, hC, hok, hnx⟩ := hrel
    go_wp2_with (first
      | (at_next; refine wpList_next_ranges _ rfl _ rfl 3 heldK thR (Value.int .i64) thV (fun key kl hk => by obtain ⟨x, hx, _⟩ := Maps.keyOf_i64 Tryz.underlying3 hk; exact ⟨x, hx⟩) (fun v y hv => by obtain ⟨c, hc, _⟩ := thR_inv hv; exact ⟨c, hc⟩) m w.heap.size 64 _ _ _ rfl hrg ?_ ?_)
      | fail)
    · intro hc0 hl0
      have hP := held_perm hC HR.out hok hl0
      have hsl : ss.length ≤ 1000000 := by omega
      have HH := Lib.hid (And.intro hP (And.intro hnx hrow))
      clear hrg hcs hC hok hP
      go_wp2_with fail
      refine (sortI_any HH.out.2.2 hsl).mono ?_
      rintro e w2 ⟨rfl, h2, hg⟩
      rw [held_sort HH.out.1, HH.out.1.length_eq] at h2
      have HF := Lib.hid (And.intro h2 (HH.out.2.1.grown hg HH.out.2.1.size (fun j hj => (HH.out.2.2.lt j hj).1)))
      clear h2 hg
      go_wp2_with fail
      go_ret
      exact ⟨_, rfl, HF.out.1, HF.out.2⟩
    · intro x c kl yd yp w2 cnt2 hkey hlk hv hat hrg2 hlt hg2 hs2 hen
      obtain ⟨x', ex, rfl, hwf⟩ := Maps.keyOf_i64 Tryz.underlying3 hkey
      obtain rfl : x = x' := encZ_inj ex
      have hrow2 := hrow.kept hg2 (Or.inr (row_ne_iter hrow hrg).symm)
      clear hs2
      go_wp2_with (first
        | (at_builtin; refine wpList_append_own _ rfl _ _ 23 rfl w.heap.size 3 i0 (.int .i64 0) 1 8 Tryz.underlying23 hi hz0 hz1 hz2 rfl (by decide) _ _ _ rfl (hrow2.alloc _) ⟨w2.heap.size, 0, none⟩ 1 1 [Value.int .i64 x] rfl rfl (cell_one_new _ _ _) (by simp [Value.oneCell']) (by unfold maxLen; omega) (by omega) (by have := hnx.size; have := hg2.size; simp; omega) ?_; intro v' w3 hown' hg3 hnil3)
        | fail)
      have hrg3 := (hrg2.alloc (.cells #[Value.int .i64 x] 3)).kept hg3 (row_ne_low hrow2 hbl) (row_ne_iter hrow2 hrg2)
      go_roundw
      case rel =>
        refine ⟨_, cnt2, ss ++ [x], hrg3, by simp; omega, by simpa using hown', hC.step hlk hat, fun y hy => ?_, ?_⟩
        · rcases List.mem_append.1 hy with hy | hy
          · exact hok y hy
          · simp at hy
            subst hy
            exact okI_of_wf hwf
        · exact ((hnx.grown hg2 hnx.size (fun j hj => by cases hj; exact Nat.le_refl _)).alloc (by have := hnx.size; have := hg2.size; omega) _).grown hg3 (by have := hnx.size; have := hg2.size; simp; omega) (fun j hj => (hrow2.lt j hj).1)
      case measure => rw [hrg3.left_eq, hrg.left_eq]; exact hlt
theorem held_env {w0 w : World} {obs : List Ob} {p m k : Nat} {σ : Hs} (h : Env w0 w obs) (i : Nat) (hi : obs[i]? = some (obPub p m k σ)) :
    Calls Tryz.prog 9 #[pV p] w fun e w' => ∃ v, e = .returned v ∧ Env w0 w' (obs ++ [KI.ob v (heldL σ)]) := by
  refine (held_any (h.pub i hi)).mono ?_
  rintro e w' ⟨v, rfl, h1, h2⟩
  refine ⟨v, rfl, h.pushE (by have e : KI.fl (heldL σ) = (heldL σ).map (Value.int .i64) := flI _; rw [e]; exact ownsRow_base0 h1) h2 (fun x hx => (h1.lt x hx).1)⟩
end Go.Proofs.YtkidijjhedjifaaGreat
/- The document's Held. -/
namespace Go.Proofs.YtkidijjhedjifaaGreat
open Go.RowKit
set_option maxRecDepth 100000
set_option linter.unusedVariables false
set_option linter.unusedSimpArgs false
attribute [local go_sem] Oper.semAt_some
def heldTo (σ : Hs) (n : Nat) : List Int := ((List.range n).map fun n : Nat => (n : Int)).filter fun x => (σ x).isSome
theorem heldTo_succ (σ : Hs) (n : Nat) : heldTo σ (n + 1) = heldTo σ n ++ (if (σ (n : Int)).isSome then [(n : Int)] else []) := by
  unfold heldTo
  rw [List.range_succ, List.map_append, List.filter_append]
  congr 1
  simp only [List.map_cons, List.map_nil, List.filter_cons, List.filter_nil]
theorem heldTo_len (σ : Hs) (n : Nat) : (heldTo σ n).length ≤ n := by
  unfold heldTo
  refine Nat.le_trans (List.length_filter_le _ _) ?_
  simp
section
variable {w0 w : World} {obs : List Ob} {P : Nat} {σ : Hs}
set_option maxHeartbeats 4000000 in
theorem rheld_env (h : Env w0 w obs) (i : Nat) (hi : obs[i]? = some (obRP P σ)) :
    Calls Tryz.prog 12 #[rpV P] w fun e w' => ∃ v, e = .returned v ∧ Env w0 w' (obs ++ [KI.ob v (heldL σ)]) := by
  obtain ⟨i0, hi0, hz0, hz1, hz2⟩ := info_parts infoI
  have HII := Lib.hid (And.intro hi0 (And.intro hz0 (And.intro hz1 hz2)))
  have H := Lib.hid (h.pushNil KI)
  have hil := (List.getElem?_eq_some_iff.1 hi).1
  have HI := Lib.hid (And.intro hi hil)
  clear h hi hil hi0 hz0 hz1 hz2
  unfold rpV
  go_enter Tryz.func12, Tryz.ntmps12
  go_wp2_with fail
  go_loopw [3, 4] (fun ov iv wx => ∃ j : Nat, j ≤ 64 ∧ iv = .int .i64 (j : Int) ∧ Hid (Env w0 wx (obs ++ [KI.ob ov (heldTo σ j)]))) (fun _ iv _ => 64 - (RowKit.intOf iv).toNat)
  case atStart => exact ⟨0, Nat.zero_le _, rfl, H⟩
  case round =>
    obtain ⟨j, hj, rfl, HK⟩ := hrel
    clear H
    by_cases hlt : j < 64
    · have t3 : decide ((j : Int) < 64) = true := by rw [decide_eq_true_eq]; omega
      have bj : 0 ≤ (j : Int) ∧ (j : Int) < 64 := by omega
      have hc := (HK.out.rpub i (by rw [List.getElem?_append_left HI.out.2]; exact HI.out.1)).has (n := j) hlt
      have hw1 : IntKind.i64.wrap ((j : Int) + 1) = ((j + 1 : Nat) : Int) := by rw [IntWalk.i64_in _ (by omega)]; omega
      have hst := heldTo_succ σ j
      cases hb : (σ (j : Int)).isSome
      · rw [hb] at hc hst
        have HN : Hid (Env w0 wr (obs ++ [KI.ob u3 (heldTo σ (j + 1))])) := by
          rw [hst]
          simpa using HK
        clear hb hst HK
        go_wp2_with fail
        refine ⟨⟨j + 1, by omega, rfl, HN⟩, ?_⟩
        have q9 : 64 - ((j : Int) + 1).toNat < 64 - ((j : Int)).toNat := by omega
        exact q9
      · rw [hb] at hc hst
        have hst2 : heldTo σ (j + 1) = heldTo σ j ++ [(j : Int)] := by rw [hst]; rfl
        have HST := Lib.hid hst2
        have hln := heldTo_len σ j
        have HB := Lib.hid (HK.out.below ((Below.refl _ _).alloc (Nat.le_refl _) (.cells #[.int .i64 (j : Int)] 3)))
        have HOWN := Lib.hid (Env.row HB.out obs.length (by rw [List.getElem?_append_right (Nat.le_refl _), Nat.sub_self]; rfl))
        clear hb hst hst2
        go_wp2_with (at_builtin; refine wpList_append_lies _ rfl _ _ 23 rfl 0 3 i0 _ 1 8 Tryz.underlying23 HII.out.1 HII.out.2.1 HII.out.2.2.1 HII.out.2.2.2 rfl (by decide) u3 (heldTo σ j).length (KI.fl (heldTo σ j)) rfl HOWN.out ⟨wr.heap.size, 0, none⟩ 1 1 [.int .i64 (j : Int)] rfl rfl (World.news_of_block (heap_alloc_new _ _)) (KI.one (j : Int)) (by decide) (by unfold maxLen; omega) (by omega) (Nat.zero_le _) _ rfl ?_)
        intro g cg w7 k1 k2 k3 k4
        have h8 := HB.out.rowUp obs.length (v' := .slice (some ⟨g, 0, none⟩) ((heldTo σ j).length + 1) cg) (n' := (heldTo σ j).length + 1) (cs' := KI.fl (heldTo σ j) ++ [.int .i64 (j : Int)]) (by rw [List.getElem?_append_right (Nat.le_refl _), Nat.sub_self]; rfl) k1 k2 (by
          rcases k3 with k3 | k3
          · exact .inl k3.symm
          · exact .inr (by rw [k3]; simp [Value.ownBlock]))
        have h9 : Env w0 w7 (obs ++ [KI.ob (.slice (some ⟨g, 0, none⟩) ((heldTo σ j).length + 1) cg) (heldTo σ (j + 1))]) := by
          rw [List.set_append_right _ _ (Nat.le_refl _), Nat.sub_self] at h8
          rw [HST.out]
          have e : KI.ob (.slice (some ⟨g, 0, none⟩) ((heldTo σ j).length + 1) cg) (heldTo σ j ++ [(j : Int)]) = obE 3 1 (.slice (some ⟨g, 0, none⟩) ((heldTo σ j).length + 1) cg) ((heldTo σ j).length + 1) (KI.fl (heldTo σ j) ++ [.int .i64 (j : Int)]) := by
            show obE KI.e KI.sz _ (heldTo σ j ++ [(j : Int)]).length (KI.fl (heldTo σ j ++ [(j : Int)])) = _
            rw [KI.fl_app, KI.fl_one, List.length_append]
            rfl
          rw [e]
          exact h8
        have H9 := Lib.hid h9
        clear h8 h9 k1 k2 k3 k4 HOWN HB HK hln
        go_wp2_with fail
        refine ⟨⟨j + 1, by omega, rfl, H9⟩, ?_⟩
        have q9 : 64 - ((j : Int) + 1).toNat < 64 - ((j : Int)).toNat := by omega
        exact q9
    · have t3 : decide ((j : Int) < 64) = false := by rw [decide_eq_false_iff_not]; omega
      have hj4 : j = 64 := by omega
      rw [hj4] at HK
      go_wp2_with fail
      go_ret
      exact ⟨_, rfl, HK.out⟩
end
end Go.Proofs.YtkidijjhedjifaaGreat
/- Lists of ints that were told, kept in a list of lists: one thing of a law's world (obTI); another one behind, read one, all of them handed to ApartRuns. No statement's program in sight but the kit's ApartRuns. -/
namespace Go.Proofs.YtkidijjhedjifaaGreat
open Go.RowKit
set_option maxRecDepth 100000
set_option linter.unusedVariables false
set_option linter.unusedSimpArgs false

def mkMI2 (p : Value × List Int) : Mem1 := ⟨p.1, p.2.length, KI.fl p.2⟩
def obTI (u : Value) (ts : List (Value × List Int)) : Ob := obLL 23 3 1 u (ts.map (·.1)) (ts.map mkMI2)
/-- one list more, that was the last thing -/
theorem obTI_more {w0 w w' : World} {obs : List Ob} {v : Value} {l : List Int} (h : Env w0 w (obs ++ [KI.ob v l])) (hb : Below w.heap.size w w') (i : Nat) {u u' : Value} {ts : List (Value × List Int)} (hi : obs[i]? = some (obTI u ts)) {w2 : World}
    (hown : w2.ownsRow 0 23 1 u' (ts.length + 1) (ts.map (·.1) ++ [v])) (hg : w'.grownBy w2 u.ownBlock) (hat : u'.ownBlock = u.ownBlock ∨ u'.ownBlock = some w'.heap.size) : Env w0 w2 (obs.set i (obTI u' (ts ++ [(v, l)]))) := by
  have h1 : Env w0 w (obs.set i (obLL 23 3 1 u (ts.map (·.1)) (ts.map mkMI2 ++ [mkMI2 (v, l)]))) := Env.llIn (e := 3) (sz := 1) (v := v) (n := l.length) (cs := KI.fl l) h i hi
  have hil : i < obs.length := (List.getElem?_eq_some_iff.1 hi).1
  have h2 := (h1.below hb).llRow i (u' := u') (vs' := ts.map (·.1) ++ [v]) (List.getElem?_set_self hil) (by rw [List.length_append, List.length_map, List.length_singleton]; exact hown) hg hat
  rw [List.set_set] at h2
  unfold obTI
  rw [List.map_append, List.map_append]
  exact h2
theorem one_sliceI {ao : Option Addr} {n c : Nat} : ∀ u ∈ [Value.slice ao n c], u.oneCell' = true := by
  intro u hu
  simp at hu
  subst hu
  rfl
theorem wpList_append_TI {w0 w1 : World} {obs : List Ob} {ao : Option Addr} {c : Nat} {l : List Int} (h : Env w0 w1 (obs ++ [KI.ob (.slice ao l.length c) l])) (i : Nat) {u : Value} {ts : List (Value × List Int)} (hi : obs[i]? = some (obTI u ts)) {a : Act} {o : Oper} {Q : Exit → Act → World → Prop} {ops : Array Oper} {rest : List Oper}
    (s x : Operand) (hgd : o.guard = none) (ho : o.op = .call { callee := .builtin .append, args := #[s, x], argTypes := #[31, 31] }) (hs : a.eval s = u) (hx : a.eval x = .slice (some ⟨w1.heap.size, 0, none⟩) 1 1) (hn : ts.length ≤ 5000000000000)
    (kk : ∀ u' w', Env w0 w' (obs.set i (obTI u' (ts ++ [(.slice ao l.length c, l)]))) → wpList Tryz.prog ops Q rest (a.put o.dst u') w') : wpList Tryz.prog ops Q (o :: rest) a (w1.alloc (.cells #[.slice ao l.length c] 23)) := by
  obtain ⟨i0, hi0, hz0, hz1, hz2⟩ := info_parts infoIs
  have hb : Below w1.heap.size w1 (w1.alloc (.cells #[.slice ao l.length c] 23)) := (Below.refl _ _).alloc (Nat.le_refl _) _
  have hil : i < obs.length := (List.getElem?_eq_some_iff.1 hi).1
  have hi2 : (obs ++ [KI.ob (.slice ao l.length c) l])[i]? = some (obTI u ts) := by rw [List.getElem?_append_left hil]; exact hi
  have hrow := ((h.below hb).ll i hi2).row
  rw [List.length_map] at hrow
  refine wpList_append_lies _ hgd s x 31 ho 0 23 i0 _ 1 24 Tryz.underlying31 hi0 hz0 hz1 hz2 rfl (by decide) u ts.length (ts.map (·.1)) hs hrow ⟨w1.heap.size, 0, none⟩ 1 1 [.slice ao l.length c] hx rfl (World.news_of_block (heap_alloc_new w1 (.cells #[.slice ao l.length c] 23))) one_sliceI (by decide) (by unfold maxLen; omega) (by omega) (Nat.zero_le _) _ rfl ?_
  intro g cap w' h1 h2 h3 h4
  exact kk _ _ (obTI_more h hb i hi h1 h2 (by
    rcases h3 with h3 | h3
    · exact .inl (by rw [h3]; rfl)
    · exact .inr (by rw [h3]; rfl)))
/-- all of them lie apart, and of other things -/
theorem apart_toldI {w0 w : World} {u : Value} {ts : List (Value × List Int)} {rest : List Ob} (h : Env w0 w (obTI u ts :: rest)) (hs : ∀ p ∈ ts, p.2.length ≤ 17592186044410) (hl : ts.length ≤ 900000) :
    Calls Tryz.prog 14 #[u] w fun e w' => e = .returned (.bool true) ∧ Env w0 w' rest := by
  have h1 := h.llOut (fun j => obE 3 1 (Tv (ts.map (·.1)) j) ((ts[j]?.map (fun p => p.2.length)).getD 0) ((ts[j]?.map (fun p => KI.fl p.2)).getD [])) (by
    intro j p hp
    rw [List.getElem?_map] at hp
    rcases hq : ts[j]? with _ | q
    · rw [hq] at hp; cases hp
    · rw [hq] at hp
      injection hp with hp
      subst hp
      have e : Tv (ts.map (·.1)) j = q.1 := by unfold Tv; rw [List.getD_eq_getElem?_getD, List.getElem?_map, hq]; rfl
      rw [e]
      rfl)
  rw [show (ts.map mkMI2).length = ts.length from List.length_map _, show (ts.map (·.1)).length = ts.length from List.length_map _] at h1
  refine apartInts_any u (ts.map (·.1)) (fun j => (ts[j]?.map (fun p => p.2.length)).getD 0) (fun j => (ts[j]?.map (fun p => KI.fl p.2)).getD []) rest ?_ ?_ (by simpa using hl)
  · unfold AEnv
    have e : (ts.map (·.1)).length = ts.length := List.length_map _
    rw [e]
    exact h1
  · intro j hj
    have hj2 : j < ts.length := by simpa using hj
    have e : ts[j]? = some ts[j] := List.getElem?_eq_getElem hj2
    rw [e]
    exact hs _ (List.getElem_mem hj2)
end Go.Proofs.YtkidijjhedjifaaGreat
/- Opening a list of ints, with the form's own reach. -/
namespace Go.Proofs.YtkidijjhedjifaaGreat
open Go.RowKit Go.ChangeShapes Go.WideShapes Go.ChangeAt
set_option maxRecDepth 100000
theorem open_ints_sized {H : Type} {enc : TypeId × Value → H} {P : Program} {W : World} {base : Nat} {t e : TypeId} {v : Value} {d : DataW H} {p : List MemPlace} (ht : P.underlying t = some (.slice e)) (he : P.underlying e = some (.int .i64)) (hce : P.cellsOf e = 1)
    (hval : Value.okWide P W .any base t v) (h : DataW.Trod enc P W 0 (fun _ => true) true t v d p) : ∃ l : List Int, KI.R W v l ∧ (l = [] ∨ ∃ es sp, d = .slice es sp ∧ es.length = l.length) := by
  obtain ⟨a0, len, cap, rfl⟩ := Go.WideShapes.okWide_slice ht hval
  obtain ⟨fuel, hf⟩ := h
  rcases Go.ChangeShapes.open_ints ht he hce hf with ⟨hcs, _⟩ | ⟨a, len', cap', zs, hcs, _, hl, hm, hz, hx, hcell, hwz⟩
  · simp only [Value.cells] at hcs
    injection hcs with hcs _
    rw [hcs]
    exact ⟨[], Knd.R.nil W, .inl rfl⟩
  · simp only [Value.cells] at hcs
    injection hcs with hcs _
    rw [hcs]
    simp only [if_true] at hz
    have hlen : (zs.take len').length = len' := by rw [List.length_take]; omega
    injection hx with hx1 hx2
    have hfl : KI.fl (zs.take len') = (zs.take len').map (Value.int .i64) := (List.map_eq_flatMap ..).symm
    refine ⟨zs.take len', ⟨KI.fl_len _, KI.fl_cells _, some a, cap', by rw [hlen], by rw [hlen]; exact hl, hm, (fun h => by cases h), fun j u hj => ?_⟩, .inr ⟨_, _, hx1, by simp [Go.ChangeShapes.lits]⟩⟩
    rw [hfl] at hj
    have hjl : j < len' := by
      have := (List.getElem?_eq_some_iff.1 hj).1
      rw [List.length_map, hlen] at this
      exact this
    have hc := hcell j (by omega)
    obtain ⟨b, off, spot⟩ := a
    have hsp : spot = none := by
      cases spot with
      | none => rfl
      | some s =>
        have hc0 := hcell 0 (by omega)
        rw [show (⟨b, off, some s⟩ : Addr).add 0 = ⟨b, off, some s⟩ from by simp [Addr.add]] at hc0
        unfold World.cell? at hc0
        split at hc0 <;> simp at hc0
    subst hsp
    refine ⟨b, off, rfl, ?_⟩
    rw [add_lit] at hc
    rw [hc]
    rw [List.getElem?_map, List.getElem?_take, if_pos hjl, List.getElem?_eq_getElem (by omega : j < zs.length)] at hj
    rw [List.getD_eq_getElem?_getD, List.getElem?_eq_getElem (by omega : j < zs.length)]
    exact hj
theorem cellsI64 : Tryz.prog.cellsOf 3 = 1 := by kernel_rfl
end Go.Proofs.YtkidijjhedjifaaGreat
namespace Go.Proofs.YtkidijjhedjifaaGreat
set_option linter.unusedVariables false
set_option linter.unusedSimpArgs false
theorem noteAll_lenB : ∀ (l a : List Rn), (noteAll a l).length ≤ a.length + l.length
  | [], a => Nat.le_refl _
  | x :: l, a => by
    have h2 := noteAll_lenB l (noteT a x)
    have h1 : (noteT a x).length ≤ a.length + 1 := by
      unfold noteT
      split
      · omega
      · exact noteL_len1 a _ _ _
    show (noteAll (noteT a x) l).length ≤ _
    simp only [List.length_cons]
    omega
theorem evS_lenB (σ : Hs) (s : Sk) : (evS σ s).length ≤ 3 := by
  unfold evS beginE
  simp only
  repeat' split
  all_goals simp
theorem runsD_lenB (σ : Hs) (s : Sk) : (runsD σ s).length ≤ 5 := by
  unfold runsD
  have h1 : (if codeD σ s = 0 then evS σ s.clip else []).length ≤ 3 := by
    split
    · exact evS_lenB σ s.clip
    · simp
  have h2 := noteAll_lenB (if codeD σ s = 0 then evS σ s.clip else []) (noteL [] 11 s.kind 1)
  have h3 := noteL_len1 [] 11 s.kind 1
  have h4 := noteL_len1 (noteAll (noteL [] 11 s.kind 1) (if codeD σ s = 0 then evS σ s.clip else [])) 12 (codeD σ s) 1
  rw [foldl_times]
  simp only [List.length_nil] at h3
  omega
end Go.Proofs.YtkidijjhedjifaaGreat
