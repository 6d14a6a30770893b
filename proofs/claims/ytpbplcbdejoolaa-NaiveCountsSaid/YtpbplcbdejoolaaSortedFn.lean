/- sorted: do bytes rise, and are they the same as others? -/
import Derived.Test.YtpbplcbdejoolaaRows
import Derived.Test.YtpbplcbdejoolaaCountFns
namespace Go.Proofs.Ytpbplcbdejoolaa
open Go.RowKit
set_option maxRecDepth 100000
set_option linter.unusedVariables false
set_option linter.unusedSimpArgs false

def cellsF (f : Nat → Int) : Array Value := ((List.range 256).map fun c => Value.int .i64 (f c)).toArray
theorem cellsF_size (f : Nat → Int) : (cellsF f).size = 256 := by simp [cellsF]
theorem cellsF_get (f : Nat → Int) (c : Nat) (h : c < 256) : (cellsF f)[c]? = some (.int .i64 (f c)) := by
  unfold cellsF
  rw [List.getElem?_toArray, List.getElem?_map, List.getElem?_range h]
  rfl
theorem cellsF_set (f : Nat → Int) (c : Nat) (h : c < 256) (z : Int) : (cellsF f).setIfInBounds c (.int .i64 z) = cellsF (fun d => if d = c then z else f d) := by
  apply Array.ext
  · simp [cellsF]
  · intro i h1 h2
    have hi : i < 256 := by rw [cellsF_size] at h2; exact h2
    have e1 := cellsF_get f i hi
    have e2 := cellsF_get (fun d => if d = c then z else f d) i hi
    rw [Array.getElem?_eq_getElem (by rw [cellsF_size]; exact hi)] at e1 e2
    injection e1 with e1
    injection e2 with e2
    rw [Array.getElem_setIfInBounds (by rw [cellsF_size]; exact hi), e2, e1]
    by_cases h3 : c = i
    · simp [h3]
    · rw [if_neg h3, if_neg (fun hh => h3 hh.symm)]
/-- how often byte c is in p more than in q -/
def dif (p q : List UInt8) (c : Nat) : Int := (p.countP (fun a => decide (a.toNat = c)) : Int) - (q.countP (fun a => decide (a.toNat = c)) : Int)
theorem dif_nil : dif [] [] = fun _ => 0 := by
  funext c
  simp [dif]
theorem dif_more (p q : List UInt8) (x : UInt8) : (fun d => if d = x.toNat then dif p q x.toNat + 1 else dif p q d) = dif (p ++ [x]) q := by
  funext d
  unfold dif
  rw [List.countP_append, List.countP_cons, List.countP_nil]
  by_cases h : d = x.toNat
  · subst h
    simp
    omega
  · rw [if_neg h]
    have h2 : decide (x.toNat = d) = false := by
      rw [decide_eq_false_iff_not]
      exact fun hh => h hh.symm
    simp [h2]
theorem dif_less (p q : List UInt8) (x : UInt8) : (fun d => if d = x.toNat then dif p q x.toNat - 1 else dif p q d) = dif p (q ++ [x]) := by
  funext d
  unfold dif
  rw [List.countP_append, List.countP_cons, List.countP_nil]
  by_cases h : d = x.toNat
  · subst h
    simp
    omega
  · rw [if_neg h]
    have h2 : decide (x.toNat = d) = false := by
      rw [decide_eq_false_iff_not]
      exact fun hh => h hh.symm
    simp [h2]
theorem dif_perm (p q : List UInt8) (h : p.Perm q) : dif p q = fun _ => 0 := by
  funext c
  unfold dif
  rw [h.countP_eq]
  omega
theorem dif_bound (p q : List UInt8) (c n : Nat) (h1 : p.length ≤ n) (h2 : q.length ≤ n) : -(n : Int) ≤ dif p q c ∧ dif p q c ≤ (n : Int) := by
  unfold dif
  have := List.countP_le_length (p := fun a : UInt8 => decide (a.toNat = c)) (l := p)
  have := List.countP_le_length (p := fun a : UInt8 => decide (a.toNat = c)) (l := q)
  omega
theorem take_more (xs : List UInt8) (k : Nat) (h : k < xs.length) : xs.take (k + 1) = xs.take k ++ [xs.getD k 0] := by
  rw [List.take_add_one, List.getElem?_eq_getElem h, List.getD_eq_getElem?_getD, List.getElem?_eq_getElem h]
  rfl
theorem zero256 (w : World) : (zeroValue 70).run Try.prog w = .ok (.agg (cellsF fun _ => 0)) w := by kernel_rfl
theorem size256 : (Try.prog.info? 70).map (·.size) = some 256 := by kernel_rfl
theorem eql256 (w : World) : (Op.equalIn 10000 70 (.agg (cellsF fun _ => 0)) (.agg (cellsF fun _ => 0))).run Try.prog w = .ok true w := by kernel_rfl
theorem exec_eql_agg {P : Program} {a : Act} {w : World} {d : Option Tmp} {t ot ty : TypeId} {x y : Operand} {pos : String} {aft : Array Edge} {gd : Option (Nat × Bool)} (X Y : Array Value) (b : Bool) (hx : a.eval x = .agg X) (hy : a.eval y = .agg Y) (hg : P.eqGuardType P.depth ty = false)
    (he : ∀ w, (Op.equalIn 10000 ty (.agg X) (.agg Y)).run P w = .ok b w) : (execOp a.eval ⟨d, .binOp .eql ty x y t, ot, pos, aft, gd⟩).run P w = .ok (.value (.bool b)) w := by
  simp only [execOp, Sem.run_bind, hx, hy, run_eqGuard_agg w .eql ty x y _ _ hg, Result.andThen_ok, run_eql_struct, he, Sem.run_pure]
set_option maxHeartbeats 4000000 in
theorem sorted_any (u v : Value) (xs ys : List UInt8) (w : World) (hu : Bs w u xs) (hv : Bs w v ys) (hx : xs.length ≤ 200) (hs : xs.Pairwise (· ≤ ·)) (hp : xs.Perm ys) :
    Calls Try.prog 22 #[u, v] w fun e w' => e = .returned (.bool true) ∧ Below w.heap.size w w' := by
  have hl : ys.length = xs.length := hp.length_eq.symm
  have HU := Lib.hid hu
  have HV := Lib.hid hv
  have HS := Lib.hid hs
  have HP := Lib.hid hp
  have HL := Lib.hid hl
  obtain ⟨ao, cap, rfl, h1, h2, _, _⟩ := hu.form
  obtain ⟨bo, dap, rfl, h3, h4, _, _⟩ := hv.form
  have hla : xs.length ≤ 9223372036854775807 := by omega
  have hlb : ys.length ≤ 9223372036854775807 := by omega
  have hlI : ((xs.length : Int) != (ys.length : Int)) = false := by rw [hl]; simp
  clear hu hv hs hp hl
  obtain ⟨Z, hZ⟩ : ∃ Z, Z = cellsF (fun _ => 0) := ⟨_, rfl⟩
  have hz : ∀ w, (zeroValue 70).run Try.prog w = .ok (.agg Z) w := by rw [hZ]; exact zero256
  have heq : ∀ w, (Op.equalIn 10000 70 (.agg Z) (.agg Z)).run Try.prog w = .ok true w := by rw [hZ]; exact eql256
  have HZ := Lib.hid hZ
  clear hZ
  go_enter Try.func22, Try.ntmps22
  go_wp2_with fail
  have B0 : Hid (Blk (w.alloc (.cells Z 70)) w.heap.size 70 (cellsF (dif (xs.take 0) (ys.take 0)))) := by
    rw [List.take_zero, List.take_zero, dif_nil, ← HZ.out]
    exact Lib.hid (Blk.new w _ _)
  have O0 : Hid (Only (fun _ => False) w (w.alloc (.cells Z 70))) := Lib.hid ((Only.refl _ w).alloc _)
  go_loopw [6] (fun iv w2 => ∃ k : Nat, k ≤ xs.length ∧ iv = .int .i64 (k : Int) ∧ Hid (Blk w2 w.heap.size 70 (cellsF (dif (xs.take k) (ys.take k)))) ∧ Hid (Only (fun _ => False) w w2)) (fun i _ => xs.length - (intOf i).toNat)
  case atStart => exact ⟨0, Nat.zero_le _, rfl, B0, O0⟩
  case round =>
    obtain ⟨k, hk, rfl, HB, HO⟩ := hrel
    by_cases hlt : k < xs.length
    · have hlt2 : k < ys.length := by rw [HL.out]; exact hlt
      have hbw : Below w.heap.size w wr := HO.out.below0 (fun _ _ h => h) (Nat.le_refl _)
      have U := HU.out.grow hbw
      have V := HV.out.grow hbw
      obtain ⟨ao', cap', hv1, _, _, _, C1⟩ := U.form
      injection hv1 with e2 _ e3
      subst e2; subst e3
      obtain ⟨bo', dap', hv2, _, _, _, C2⟩ := V.form
      injection hv2 with e2 _ e3
      subst e2; subst e3
      obtain ⟨g1, off1, rfl, d1⟩ := C1 k hlt
      obtain ⟨g2, off2, rfl, d2⟩ := C2 k hlt2
      obtain ⟨x, hx1⟩ : ∃ x, xs.getD k 0 = x := ⟨_, rfl⟩
      obtain ⟨y, hy1⟩ : ∃ y, ys.getD k 0 = y := ⟨_, rfl⟩
      rw [hx1] at d1
      rw [hy1] at d2
      have HXY := Lib.hid (And.intro hx1 hy1)
      have bg1 : g1 < w.heap.size := HU.out.inside (by intro h0; rw [h0] at hlt; simp at hlt) g1 rfl
      have bg2 : g2 < w.heap.size := HV.out.inside (by intro h0; rw [h0] at hlt2; simp at hlt2) g2 rfl
      have HG := Lib.hid (And.intro bg1 bg2)
      have bk : 0 ≤ (k : Int) ∧ (k : Int) < (xs.length : Int) := by omega
      have bk2 : 0 ≤ (k : Int) ∧ (k : Int) < (ys.length : Int) := by omega
      go_upto_region 7 with fail
      go_cut [31] from 18 to 31 (fun c wx => c = .bool false ∧ ∃ m, wx = wr.drewN m)
      case first =>
        rcases k with _ | j
        · have t1 : decide ((0 : Int) < ((0 : Nat) : Int)) = false := by decide
          clear hx1 hy1 C1 C2 U V
          go_quiet (fail)
          go_wp2_with fail
          go_meet
          exact ⟨rfl, _, rfl⟩
        · obtain ⟨g3, off3, hg, d3⟩ := C1 j (by omega)
          injection hg with hg
          injection hg with hg1 hg2 _
          subst hg1; subst hg2
          have hle : xs.getD j 0 ≤ x := by
            have h1 := List.pairwise_iff_getElem.1 HS.out j (j + 1) (by omega) (by omega) (by omega)
            rw [← hx1, List.getD_eq_getElem?_getD, List.getD_eq_getElem?_getD, List.getElem?_eq_getElem (by omega), List.getElem?_eq_getElem (by omega)]
            exact h1
          have t2 : decide (x.toNat < (xs.getD j 0).toNat) = false := by
            rw [decide_eq_false_iff_not]
            have := UInt8.le_iff_toNat_le.1 hle
            omega
          generalize xs.getD j 0 = z at d3 t2
          clear hx1 hy1 hle C1 C2 U V
          have ej : ((j + 1 : Nat) : Int) = (j : Int) + 1 := by omega
          rw [ej] at *
          have t1 : decide ((0 : Int) < (j : Int) + 1) = true := by rw [decide_eq_true_eq]; omega
          have t3 : IntKind.i64.wrap (j : Int) = (j : Int) := by rw [IntKind.wrap_i64]; omega
          have bj : 0 ≤ (j : Int) ∧ (j : Int) < (xs.length : Int) := by omega
          go_quiet (fail)
          go_wp2_with fail
          go_meet
          exact ⟨rfl, _, rfl⟩
      case rest =>
        obtain ⟨rfl, m, hm⟩ := hcut
        have B1 : Blk wc w.heap.size 70 (cellsF (dif (xs.take k) (ys.take k))) := by rw [hm]; exact HB.out.draw m
        have O1 : Only (fun _ => False) w wc := by rw [hm]; exact HO.out.draw m
        have d1' : wc.cell? ⟨g1, off1 + k, none⟩ = some (.int .u8 (x.toNat : Int)) := by rw [hm]; exact d1
        have d2' : wc.cell? ⟨g2, off2 + k, none⟩ = some (.int .u8 (y.toNat : Int)) := by rw [hm]; exact d2
        have px := dif_bound (xs.take k) (ys.take k) x.toNat 200 (by rw [List.length_take]; omega) (by rw [List.length_take]; omega)
        have lx : x.toNat < 256 := x.toNat_lt
        have ly : y.toNat < 256 := y.toNat_lt
        have cx := B1.cellAt x.toNat (cellsF_get _ x.toNat lx)
        have fx := B1.unfrozen x.toNat
        have B2 := B1.set x.toNat (.int .i64 (dif (xs.take k) (ys.take k) x.toNat + 1))
        rw [cellsF_set _ _ lx, dif_more] at B2
        have O2 : Only (fun _ => False) w (wc.setCell ⟨w.heap.size, x.toNat, none⟩ (.int .i64 (dif (xs.take k) (ys.take k) x.toNat + 1))) := O1.set (p := ⟨w.heap.size, x.toNat, none⟩) (Or.inr (Nat.le_refl _)) _
        have d3 : (wc.setCell ⟨w.heap.size, x.toNat, none⟩ (.int .i64 (dif (xs.take k) (ys.take k) x.toNat + 1))).cell? ⟨g2, off2 + k, none⟩ = some (.int .u8 (y.toNat : Int)) := by
          have o3 : Only (fun z => z = w.heap.size) wc (wc.setCell ⟨w.heap.size, x.toNat, none⟩ (.int .i64 (dif (xs.take k) (ys.take k) x.toNat + 1))) := (Only.refl (fun z => z = w.heap.size) wc).set (p := ⟨w.heap.size, x.toNat, none⟩) (Or.inl rfl) _
          rw [o3.cell (a := ⟨g2, off2 + k, none⟩) (Nat.lt_of_lt_of_le HG.out.2 O1.size) (by have := HG.out.2; show ¬ g2 = w.heap.size; omega)]
          exact d2'
        have B2H := Lib.hid B2
        have O2H := Lib.hid O2
        have D3H := Lib.hid d3
        have e1 : IntKind.i64.wrap (dif (xs.take k) (ys.take k) x.toNat + 1) = dif (xs.take k) (ys.take k) x.toNat + 1 := by rw [IntKind.wrap_i64]; omega
        clear d1 d2 d2' hm B1 O1 B2 O2 d3 hx1 hy1 C1 C2 U V HB HO hbw
        generalize dif (xs.take k) (ys.take k) x.toNat = q at *
        have bx : 0 ≤ (x.toNat : Int) ∧ (x.toNat : Int) < 256 := by omega
        go_upto_region 10 with fail
        generalize wc.setCell ⟨w.heap.size, x.toNat, none⟩ (.int .i64 (q + 1)) = w6 at B2H O2H D3H
        clear cx fx d1' e1 px bx
        have py := dif_bound (xs.take k ++ [x]) (ys.take k) y.toNat 201 (by rw [List.length_append, List.length_take, List.length_singleton]; omega) (by rw [List.length_take]; omega)
        have cy := B2H.out.cellAt y.toNat (cellsF_get _ y.toNat ly)
        have fy := B2H.out.unfrozen y.toNat
        have B3 := B2H.out.set y.toNat (.int .i64 (dif (xs.take k ++ [x]) (ys.take k) y.toNat - 1))
        rw [cellsF_set _ _ ly, dif_less] at B3
        have O3 : Only (fun _ => False) w (w6.setCell ⟨w.heap.size, y.toNat, none⟩ (.int .i64 (dif (xs.take k ++ [x]) (ys.take k) y.toNat - 1))) := O2H.out.set (p := ⟨w.heap.size, y.toNat, none⟩) (Or.inr (Nat.le_refl _)) _
        have e1 : IntKind.i64.wrap (dif (xs.take k ++ [x]) (ys.take k) y.toNat - 1) = dif (xs.take k ++ [x]) (ys.take k) y.toNat - 1 := by rw [IntKind.wrap_i64]; omega
        have B3H : Hid (Blk (w6.setCell ⟨w.heap.size, y.toNat, none⟩ (.int .i64 (dif (xs.take k ++ [x]) (ys.take k) y.toNat - 1))) w.heap.size 70 (cellsF (dif (xs.take (k + 1)) (ys.take (k + 1))))) := by
          rw [take_more xs k hlt, take_more ys k hlt2, HXY.out.1, HXY.out.2]
          exact Lib.hid B3
        have O3H := Lib.hid O3
        have d2' := D3H.out
        have by' : 0 ≤ (y.toNat : Int) ∧ (y.toNat : Int) < 256 := by omega
        clear B3 O3 B2H O2H D3H
        generalize dif (xs.take k ++ [x]) (ys.take k) y.toNat = q2 at *
        go_upto_region 6 with fail
        generalize w6.setCell ⟨w.heap.size, y.toNat, none⟩ (.int .i64 (q2 - 1)) = w7 at B3H O3H
        clear cy fy d2' e1 by'
        go_wp2_with fail
        go_roundw
        case rel => exact ⟨k + 1, by omega, by go_num, B3H, O3H⟩
        case measure => simp [intOf]; omega
    · obtain rfl : k = xs.length := by omega
      have hb := HB.out
      rw [List.take_length, show xs.length = ys.length from HL.out.symm, List.take_length, dif_perm _ _ HP.out, ← HZ.out] at hb
      have hzs : Z.size = 256 := by rw [HZ.out]; exact cellsF_size _
      have HBL : Hid (Below w.heap.size w wr) := Lib.hid (HO.out.below0 (fun _ _ h => h) (Nat.le_refl _))
      clear HB HO B0 O0
      have hbuild : ∀ (a : Act) (w : World) (d : Option Tmp) (pos : String) (aft : Array Edge), (execOp a.eval ⟨d, .build 70 #[], 70, pos, aft, none⟩).run Try.prog w = .ok (.value (.agg Z)) w := by
        rw [HZ.out]
        intro a w d pos aft
        kernel_rfl
      have HBU := Lib.hid hbuild
      have HEQ := Lib.hid heq
      have HBB := Lib.hid hb
      clear hbuild heq hb hz
      go_wp2_with (first | ((with_reducible change wpList _ _ _ (Oper.mk _ (Op.load 70 _) _ _ _ _ :: _) _ _); refine wpList_load_blk (ty := 70) w.heap.size rfl HBB.out Try.underlying70 rfl size256 hzs ?_) | ((with_reducible change wpList _ _ _ (Oper.mk _ (Op.build 70 _) _ _ _ _ :: _) _ _); refine wpList_value (.agg Z) rfl (HBU.out _ _ _ _ _) ?_) | ((with_reducible change wpList _ _ _ (Oper.mk _ (Op.binOp BinOp.eql 70 _ _ _) _ _ _ _ :: _) _ _); refine wpList_value (.bool true) rfl (exec_eql_agg Z Z true rfl rfl (by kernel_rfl) HEQ.out) ?_))
      go_ret
      exact ⟨rfl, HBL.out⟩
end Go.Proofs.Ytpbplcbdejoolaa
