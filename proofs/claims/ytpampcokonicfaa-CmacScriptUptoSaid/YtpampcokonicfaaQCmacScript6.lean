/- The document's CMAC (turnkeyref13): Blocks, block, xored, chain. Conditions: the round keys are there; the message lies in memory and is not long. -/
import Derived.Test.YtpampcokonicfaaRows
import Derived.Deep.AppendLies
import Derived.Deep.DeepCutAuto
import Derived.Deep.CutBlock
import Derived.Test.YtpampcokonicfaaQCmacScript2
import Derived.Test.YtpampcokonicfaaQCmacScript4
import Derived.Test.YtpampcokonicfaaQCmacScript5
/- A store of a whole block within a region that draws its order. No program in sight. -/
namespace Go.Proofs.Ytpampcokonicfaa
open Go.RowKit
set_option maxRecDepth 100000
set_option linter.unusedVariables false
set_option linter.unusedSimpArgs false
theorem atApp (obs L : List Ob) (j : Nat) : (obs ++ L)[obs.length + j]? = L[j]? := by rw [List.getElem?_append_right (by omega), Nat.add_sub_cancel_left]
theorem Blk.setPart2 {b : Nat} {t : TypeId} : ∀ (vs mid pre post : List Value) (w : World), vs.length = mid.length → Blk w b t (pre ++ (mid ++ post)).toArray → Blk (w.setCells b pre.length vs) b t (pre ++ (vs ++ post)).toArray
  | [], [], _, _, _, _, h => h
  | [], _ :: _, _, _, _, hl, _ => by simp at hl
  | _ :: _, [], _, _, _, hl, _ => by simp at hl
  | x :: r, y :: mid, pre, post, w, hl, h => by
    rw [World.setCells]
    have h1 := h.set pre.length x
    have e : (pre ++ (y :: mid ++ post)).toArray.setIfInBounds pre.length x = ((pre ++ [x]) ++ (mid ++ post)).toArray := by
      rw [List.setIfInBounds_toArray, List.set_append_right _ _ (Nat.le_refl _), Nat.sub_self]
      simp
    rw [e] at h1
    have h2 := Blk.setPart2 r mid (pre ++ [x]) post _ (by simpa using hl) h1
    rw [show (pre ++ [x]).length = pre.length + 1 from by simp] at h2
    simpa using h2
section
variable {P : Program} {ops : Array Oper} {md : Region.Mode} {Q : Exit → Act → World → Prop} {S : World → Prop} {fuel : Nat} {listed : Array Bool} {a : Act} {w : World} {o : Oper} {i j : Nat} {v : Value}
/-- a store into a block, in a region that draws -/
theorem exec_store_part2 {ty : TypeId} {x y : Operand} {d : Option Tmp} {ot : TypeId} {pos : String} {aft : Array Edge} {gd : Option (Nat × Bool)} (g o : Nat) (cells : Array Value) (hx : a.eval x = .pointer (some ⟨g, o, none⟩)) (hy : a.eval y = .agg cells)
    (ht : w.there g o cells.size) (hi : (P.info? ty).map (·.size) = some cells.size) (h1 : cells.all (·.oneCell') = true) :
    (execOp a.eval ⟨d, .store ty x y, ot, pos, aft, gd⟩).run P w = .ok .skip (w.setCells g o cells.toList) := by
  unfold execOp
  simp only [hx, hy, Instr.storeAt, Instr.sureAddr, Sem.run_bind, Sem.run_pure, Result.andThen_ok, run_storeVar_mid w g o ty cells ht hi h1]
theorem op_store_blk2 {K : Act → World → Prop} {ty : TypeId} {x y : Operand} {d : Option Tmp} {ot : TypeId} {pos : String} {aft : Array Edge} (g : Nat) (cells : Array Value) {bt : TypeId} {old : Array Value} {n : Nat} (ho : ops[i]? = some ⟨d, .store ty x y, ot, pos, aft, none⟩) (hw : Region.wanted ⟨d, .store ty x y, ot, pos, aft, none⟩ (yielded ops a.tmps) = true)
    (hx : a.eval x = .pointer (some ⟨g, 0, none⟩)) (hy : a.eval y = .agg cells) (hg : Blk w g bt old) (hi : (P.info? ty).map (·.size) = some n) (hn : cells.size = n) (hos : old.size = n) (h1 : ∀ v ∈ cells.toList, v.oneCell' = true)
    (kk : ∀ w', Blk w' g bt cells → Only (fun x => x = g) w w' → K (a.put d undef) w') : wpOp P ops Q i K a w := by
  refine op_skip ho hw (exec_store_part2 g 0 cells hx hy (hg.there _ _ (by omega)) (by rw [hi, hn]) (by rw [Array.all_eq_true_iff_forall_mem]; intro v hv; exact h1 v (by simpa using hv))) ?_
  have h := Blk.setPart2 cells.toList old.toList [] [] w (by simp [hn, hos]) (by simpa using hg)
  exact kk _ (by simpa using h) (Only.sets (S := fun x => x = g) (.inl rfl) _ _ _ (Only.refl _ _))
end
end Go.Proofs.Ytpampcokonicfaa
/- The document's answer for AES: Decrypt. Conditions: a block has sixteen bytes; the round keys are there. -/
namespace Go.Proofs.Ytpampcokonicfaa
open Go.RowKit
set_option maxRecDepth 100000
set_option linter.unusedVariables false
set_option linter.unusedSimpArgs false
def backs : Nat → List UInt8
  | 0 => List.replicate 256 0
  | i + 1 => (backs i).set (boxU (UInt8.ofNat i)).toNat (UInt8.ofNat i)
theorem backs_len : ∀ i, (backs i).length = 256
  | 0 => by simp [backs]
  | i + 1 => by rw [backs, List.length_set, backs_len i]
theorem backs_get : ∀ (i : Nat), i ≤ 256 → ∀ y : UInt8, (backs i).getD y.toNat 0 = if (backU y).toNat < i then backU y else 0
  | 0, _, y => by
    have hy := y.toNat_lt
    rw [if_neg (by omega), backs, List.getD_eq_getElem?_getD, List.getElem?_replicate, if_pos (by omega)]
    rfl
  | i + 1, hi, y => by
    have ih := backs_get i (by omega) y
    rw [backs]
    by_cases h : (boxU (UInt8.ofNat i)).toNat = y.toNat
    · have e : boxU (UInt8.ofNat i) = y := UInt8.toNat_inj.1 h
      have e2 : backU y = UInt8.ofNat i := by rw [← e, back_boxU]
      rw [h, List.getD_eq_getElem?_getD, List.getElem?_set_self (by rw [backs_len]; have := y.toNat_lt; omega), e2, if_pos (by rw [tU i (by omega)]; omega)]
      rfl
    · rw [List.getD_eq_getElem?_getD, List.getElem?_set_ne h, ← List.getD_eq_getElem?_getD, ih]
      by_cases h2 : (backU y).toNat < i
      · rw [if_pos h2, if_pos (by omega)]
      · rw [if_neg h2]
        have hne : (backU y).toNat ≠ i := by
          intro e
          apply h
          have e3 : UInt8.ofNat i = backU y := by apply UInt8.toNat_inj.1; rw [tU i (by omega), e]
          rw [e3, box_backU]
        rw [if_neg (by omega)]
theorem backs_all (y : UInt8) : (backs 256).getD y.toNat 0 = backU y := by
  rw [backs_get 256 (Nat.le_refl _), if_pos (backU y).toNat_lt]
theorem zero256 (w : World) : (zeroValue 126).run Try.prog w = .ok (.agg (barr (List.replicate 256 0))) w := by kernel_rfl
theorem size256 : (Try.prog.info? 126).map (·.size) = some 256 := by kernel_rfl
structure RDW (w w1 : World) (st tb : List UInt8) : Prop where
  ew : REW w w1 st
  tb : Blk w1 (w.heap.size + 1 + 1) 126 (barr tb)
theorem RDW.below {w w1 w2 : World} {st tb : List UInt8} (h : RDW w w1 st tb) (hb : Below w1.heap.size w1 w2) : RDW w w2 st tb := ⟨h.ew.below hb, h.tb.below hb h.tb.lt⟩
theorem RDW.put {w w1 : World} {st tb : List UInt8} (h : RDW w w1 st tb) (st' : List UInt8) : RDW w (w1.setRow w.heap.size (barr st')) st' tb := ⟨h.ew.put st', h.tb.row_ne (by omega) _⟩
end Go.Proofs.Ytpampcokonicfaa
/- The document's S-box table: turnkeyref04.Boxes. -/
namespace Go.Proofs.Ytpampcokonicfaa
open Go.RowKit
set_option maxRecDepth 100000
set_option linter.unusedVariables false
set_option linter.unusedSimpArgs false
/-- the inverses that are found behind the first A bytes -/
def invL (A : Nat) : List UInt8 := tab 256 fun y => if y < A ∨ gi y < A then UInt8.ofNat (gi y) else 0
theorem invL_len (A : Nat) : (invL A).length = 256 := tab_length _ _
theorem invL_at (A y : Nat) (hy : y < 256) : (invL A).getD y 0 = if y < A ∨ gi y < A then UInt8.ofNat (gi y) else 0 := by
  unfold invL tab
  rw [List.getD_eq_getElem?_getD, List.getElem?_map, List.getElem?_range hy]
  rfl
theorem gi_ne (y : Nat) (hy : y < 256) (h0 : y ≠ 0) : gi y ≠ 0 := by
  intro h
  have h1 := gi_mul y hy h0
  rw [h, gm_zero y hy] at h1
  omega
theorem invL_one : invL 1 = List.replicate 256 0 := by
  rw [← tab_zero 256]
  unfold invL
  refine tab_ext _ _ _ fun y hy => ?_
  by_cases h0 : y = 0
  · subst h0
    simp [gi_zero]
  · have := gi_ne y hy h0
    rw [if_neg (by omega)]
theorem invL_skip (A : Nat) (hA : A < 256) (h : gi A < A) : invL A = invL (A + 1) := by
  unfold invL
  refine tab_ext _ _ _ fun y hy => ?_
  by_cases h1 : y < A ∨ gi y < A
  · rw [if_pos h1, if_pos (by omega)]
  · rw [if_neg h1]
    by_cases h2 : y < A + 1 ∨ gi y < A + 1
    · exfalso
      have e : y = A ∨ gi y = A := by omega
      rcases e with e | e
      · subst e; omega
      · have := gi_gi y hy
        rw [e] at this
        omega
    · rw [if_neg h2]
theorem invL_set (A : Nat) (hA : A < 256) (h0 : A ≠ 0) (h : ¬ gi A < A) : ((invL A).set A (UInt8.ofNat (gi A))).set (gi A) (UInt8.ofNat A) = invL (A + 1) := by
  have hg := gi_lt A
  have hgg := gi_gi A hA
  apply List.ext_getElem?
  intro y
  by_cases hy : y < 256
  · have e : ∀ B, (invL B)[y]? = some (if y < B ∨ gi y < B then UInt8.ofNat (gi y) else 0) := fun B => by
      unfold invL tab
      rw [List.getElem?_map, List.getElem?_range hy]
      rfl
    rw [e]
    by_cases h1 : y = gi A
    · subst h1
      rw [List.getElem?_set_self (by rw [List.length_set, invL_len]; exact hg), if_pos (by omega), hgg]
    · rw [List.getElem?_set_ne (by omega)]
      by_cases h2 : y = A
      · subst h2
        rw [List.getElem?_set_self (by rw [invL_len]; exact hy), if_pos (by omega)]
      · rw [List.getElem?_set_ne (by omega), e]
        have h3 : gi y ≠ A := by
          intro h3
          have := gi_gi y hy
          rw [h3] at this
          omega
        by_cases h4 : y < A ∨ gi y < A
        · rw [if_pos h4, if_pos (by omega)]
        · rw [if_neg h4, if_neg (by omega)]
  · rw [List.getElem?_eq_none (by rw [List.length_set, List.length_set, invL_len]; omega), List.getElem?_eq_none (by rw [invL_len]; omega)]
theorem invL_end (y : Nat) (hy : y < 256) : (invL 256).getD y 0 = UInt8.ofNat (gi y) := by
  rw [invL_at 256 y hy, if_pos (.inl hy)]
/-- the worlds between -/
structure BXW (w w1 : World) (t : List UInt8) : Prop where
  res : Blk w1 w.heap.size 126 (barr (List.replicate 256 0))
  tb : Blk w1 (w.heap.size + 1) 126 (barr t)
  bel : Below w.heap.size w w1
structure BX2 (w w1 : World) (G : Nat) (t : List UInt8) : Prop where
  b : BXW w w1 (invL 256)
  ge : w.heap.size + 1 < G
  out : Blk w1 G 126 (barr t)
theorem BX2.put {w w1 : World} {G : Nat} {t : List UInt8} (h : BX2 w w1 G t) (j : Nat) (x : UInt8) : BX2 w (w1.setCell ⟨G, j, none⟩ (.int .u8 (x.toNat : Int))) G (t.set j x) := by
  have hg := h.ge
  refine ⟨⟨h.b.res.set_ne (by simp; omega) _, h.b.tb.set_ne (by simp; omega) _, h.b.bel.setCell (by simp; omega) _⟩, h.ge, ?_⟩
  rw [← barr_set]
  exact h.out.set j _
theorem BX2.draw {w w1 : World} {G : Nat} {t : List UInt8} (h : BX2 w w1 G t) (m : Nat) : BX2 w (w1.drewN m) G t :=
  ⟨⟨h.b.res.draw m, h.b.tb.draw m, ⟨h.b.bel.os, h.b.bel.tape, h.b.bel.output, h.b.bel.size, h.b.bel.block⟩⟩, h.ge, h.out.draw m⟩
theorem rboxN_box (a : Nat) (ha : a < 256) : rboxN (gi a) 8 0 0 = gbox a := by
  have h := rbox_eq a ha
  unfold rbox at h
  rw [rinv_eq a ha] at h
  exact h
set_option maxHeartbeats 2000000 in
theorem rboxes_any (w : World) : Calls Try.prog 86 #[] w fun e w' => e = .returned (.agg (barr box256)) ∧ Below w.heap.size w w' := by
  have hz := zero256
  generalize hZ : barr (List.replicate 256 0) = Z at hz
  have HZ := Lib.hid hZ
  have HZ2 := Lib.hid hz
  clear hZ
  go_enter Try.func86, Try.ntmps86
  go_upto_region 2 with fail
  obtain ⟨w0, hw0⟩ : ∃ x, (w.alloc (.cells Z 126)).alloc (.cells Z 126) = x := ⟨_, rfl⟩
  have H0 : Hid (BXW w w0 (invL 1)) := by
    rw [← hw0, invL_one]
    refine Lib.hid ⟨?_, ?_, ((Below.refl _ _).alloc (Nat.le_refl _) _).alloc (by simp) _⟩
    · rw [HZ.out]; exact (Blk.at rfl rfl).alloc _
    · rw [HZ.out]; exact Blk.at (by simp) rfl
  rw [hw0]
  clear hw0 hz
  go_wp2_with fail
  go_loopw [2] (fun i w1 => ∃ A : Nat, 1 ≤ A ∧ A ≤ 256 ∧ i = .int .i64 (A : Int) ∧ Hid (BXW w w1 (invL A))) (fun i _ => 256 - (intOf i).toNat)
  case atStart => exact ⟨1, by omega, by omega, rfl, H0⟩
  case round =>
    obtain ⟨A, hA1, hA, rfl, H⟩ := hrel
    clear H0
    by_cases hAt : A < 256
    · have tA : decide ((A : Int) < 256) = true := by rw [decide_eq_true_eq]; omega
      go_wp2_with fail
      go_loopw [3] (fun i w1 => ∃ x : Nat, 1 ≤ x ∧ x ≤ 256 ∧ i = .int .i64 (x : Int) ∧ Hid ((x ≤ gi A ∧ ¬ gi A < A ∧ BXW w w1 (invL A)) ∨ BXW w w1 (invL (A + 1)))) (fun i _ => 256 - (intOf i).toNat)
      case atStart =>
        refine ⟨1, by omega, by omega, rfl, ?_⟩
        by_cases hg : gi A < A
        · rw [invL_skip A hAt hg] at H
          exact Lib.hid (.inr H.out)
        · exact Lib.hid (.inl ⟨by have := gi_ne A hAt (by omega); omega, hg, H.out⟩)
      case round =>
        obtain ⟨x, hx1, hx, rfl, HX⟩ := hrel
        clear H
        rcases HX.out with ⟨hxg, hg, hb⟩ | hb
        · have hg2 := gi_lt A
          have hx256 : x < 256 := by omega
          have tX : decide ((x : Int) < 256) = true := by rw [decide_eq_true_eq]; omega
          have c1 : wr.cell? ⟨w.heap.size + 1, A, none⟩ = some (.int .u8 0) := by
            have h := hb.tb.cellAt A (barr_getD _ A (by rw [invL_len]; exact hAt))
            rw [invL_at A A hAt, if_neg (by omega)] at h
            exact h
          have hlt := hb.tb.lt
          have HB := Lib.hid hb
          have HXG := Lib.hid (And.intro hxg (And.intro hg hg2))
          clear hb hxg hg hg2 HX
          go_wp2_with fail
          refine (rmul_nat A x wr hAt hx256).mono ?_
          rintro e w' ⟨rfl, n, rfl⟩
          obtain ⟨m, hm⟩ : ∃ m, rm A x = m := ⟨_, rfl⟩
          rw [hm]
          by_cases hm1 : m = 1
          · have hxe : x = gi A := by
              rw [rm_eq A x hAt hx256, hm1] at hm
              exact gi_only A x hAt hx256 hm
            have t1 : ((m : Int) == 1) = true := by rw [hm1]; rfl
            have f1 := (HB.out.tb.draw n).unfrozen A
            have f2 := (HB.out.tb.draw n).unfrozen x
            have c2 := HB.out.tb.cellAt x (barr_getD _ x (by rw [invL_len]; exact hx256))
            have HXE := Lib.hid hxe
            have hx256I : (x : Int) < 256 := by omega
            have hAI : (A : Int) < 256 := by omega
            have e1 : Value.int .u8 (x : Int) = .int .u8 ((UInt8.ofNat x).toNat : Int) := by rw [tU x hx256]
            have hs1 : Blk ((wr.drewN n).setCell ⟨w.heap.size + 1, A, none⟩ (.int .u8 (x : Int))) (w.heap.size + 1) 126 (barr ((invL A).set A (UInt8.ofNat x))) := by
              rw [← barr_set, ← e1]
              exact (HB.out.tb.draw n).set A _
            have c3 := hs1.cellAt x (barr_getD _ x (by rw [List.length_set, invL_len]; exact hx256))
            have f3 := hs1.unfrozen x
            generalize (((invL A).set A (UInt8.ofNat x)).getD x 0) = c3v at c3
            have E1 := Lib.hid e1
            clear hxe hm hs1 e1
            go_wp2_with fail
            go_roundw
            case rel =>
              have e1 := E1.out
              have h := ((HB.out.tb.draw n).set A (.int .u8 (x : Int))).set x (.int .u8 (A : Int))
              have e2 : Value.int .u8 (A : Int) = .int .u8 ((UInt8.ofNat A).toNat : Int) := by rw [tU A hAt]
              have e3 : ((invL A).set A (UInt8.ofNat x)).set x (UInt8.ofNat A) = invL (A + 1) := by rw [HXE.out]; exact invL_set A hAt (by omega) HXG.out.2.1
              have h2 : Blk (((wr.drewN n).setCell ⟨w.heap.size + 1, A, none⟩ (.int .u8 (x : Int))).setCell ⟨w.heap.size + 1, x, none⟩ (.int .u8 (A : Int))) (w.heap.size + 1) 126 (barr (invL (A + 1))) := by
                rw [← e3, ← barr_set, ← barr_set, ← e1, ← e2]
                exact h
              have hbd : Below w.heap.size w (wr.drewN n) := ⟨HB.out.bel.os, HB.out.bel.tape, HB.out.bel.output, HB.out.bel.size, HB.out.bel.block⟩
              exact ⟨x + 1, by omega, by omega, by go_num, Lib.hid (.inr ⟨((HB.out.res.draw n).set_ne (by simp) _).set_ne (by simp) _, h2, (hbd.setCell (by simp) _).setCell (by simp) _⟩)⟩
            case measure => simp [intOf]; omega
          · have t1 : ((m : Int) == 1) = false := by rw [beq_eq_false_iff_ne]; omega
            have hxe : x ≠ gi A := by
              intro e
              rw [rm_eq A x hAt hx256, e, gi_mul A hAt (by omega)] at hm
              omega
            have hbd : Below w.heap.size w (wr.drewN n) := ⟨HB.out.bel.os, HB.out.bel.tape, HB.out.bel.output, HB.out.bel.size, HB.out.bel.block⟩
            have HN : Hid ((x + 1 ≤ gi A ∧ ¬ gi A < A ∧ BXW w (wr.drewN n) (invL A)) ∨ BXW w (wr.drewN n) (invL (A + 1))) := Lib.hid (.inl ⟨by have := HXG.out.1; omega, HXG.out.2.1, ⟨HB.out.res.draw n, HB.out.tb.draw n, hbd⟩⟩)
            clear hxe hm hbd
            go_wp2_with fail
            go_roundw
            case rel => exact ⟨x + 1, by omega, by omega, by go_num, HN⟩
            case measure => simp [intOf]; omega
        · have HB := Lib.hid hb
          have c1 : ∃ v : Nat, v ≠ 0 ∧ wr.cell? ⟨w.heap.size + 1, A, none⟩ = some (.int .u8 (v : Int)) := by
            have h := hb.tb.cellAt A (barr_getD _ A (by rw [invL_len]; exact hAt))
            rw [invL_at (A + 1) A hAt, if_pos (by omega), tU _ (gi_lt A)] at h
            exact ⟨gi A, gi_ne A hAt (by omega), h⟩
          obtain ⟨v, hv, c1⟩ := c1
          have t1 : ((v : Int) == 0) = false := by rw [beq_eq_false_iff_ne]; omega
          have hlt := hb.tb.lt
          clear hb HX
          by_cases hx256 : x < 256
          · go_wp2_with fail
            go_roundw
            case rel => exact ⟨A + 1, by omega, by omega, by go_num, HB.out⟩
            case measure => simp [intOf]; omega
          · obtain rfl : x = 256 := by omega
            go_wp2_with fail
            go_roundw
            case rel => exact ⟨A + 1, by omega, by omega, by go_num, HB.out⟩
            case measure => simp [intOf]; omega
    · have tA0 : decide ((A : Int) < 256) = false := by rw [decide_eq_false_iff_not]; omega
      have hz := HZ2.out
      rw [show A = 256 from by omega] at H
      go_upto_region 12 with fail
      obtain ⟨w2, hw2⟩ : ∃ x, wr.alloc (.cells Z 126) = x := ⟨_, rfl⟩
      obtain ⟨G, hG⟩ : ∃ x, wr.heap.size = x := ⟨_, rfl⟩
      have H2 : Hid (BX2 w w2 G (mixT 256 (fun y => boxU (UInt8.ofNat y)) (fun _ => 0) 0)) := by
        rw [← hw2, ← hG, mixT_zero, tab_zero, ← HZ.out]
        have hlt := H.out.tb.lt
        exact Lib.hid ⟨⟨H.out.res.alloc _, H.out.tb.alloc _, H.out.bel.alloc H.out.bel.size _⟩, hlt, Blk.at rfl rfl⟩
      rw [hw2, hG]
      clear hw2 hG hz H
      go_wp2_with fail
      go_loopw [5] (fun i w1 => ∃ a : Nat, a ≤ 256 ∧ i = .int .i64 (a : Int) ∧ Hid (BX2 w w1 G (mixT 256 (fun y => boxU (UInt8.ofNat y)) (fun _ => 0) a))) (fun i _ => 256 - (intOf i).toNat)
      case atStart => exact ⟨0, by omega, rfl, H2⟩
      case round =>
        obtain ⟨a, ha, rfl, H⟩ := hrel
        clear H2
        by_cases hat : a < 256
        · have tA : decide ((a : Int) < 256) = true := by rw [decide_eq_true_eq]; omega
          obtain ⟨Y, hY⟩ : ∃ Y, gi a = Y := ⟨_, rfl⟩
          have hY2 : Y < 256 := by rw [← hY]; exact gi_lt a
          have c1 : wr.cell? ⟨w.heap.size + 1, a, none⟩ = some (.int .u8 (Y : Int)) := by
            have h := H.out.b.tb.cellAt a (barr_getD _ a (by rw [invL_len]; exact hat))
            rw [invL_end a hat, tU _ (gi_lt a), hY] at h
            exact h
          have hlt := H.out.b.tb.lt
          have HY := Lib.hid hY
          clear hY
          go_wp2_with fail
          go_loopw [7] (fun i w1 => ∃ k q : Nat, k ≤ 8 ∧ i = .int .i64 (k : Int) ∧ Hid (q < 2 ^ k) ∧ Hid (rboxN Y (8 - k) k q = gbox a) ∧ Hid (BX2 w w1 G ((mixT 256 (fun y => boxU (UInt8.ofNat y)) (fun _ => 0) a).set a (UInt8.ofNat q)))) (fun i _ => 8 - (intOf i).toNat)
          case atStart =>
            refine ⟨0, 0, by omega, rfl, Lib.hid (by omega), Lib.hid (by rw [← HY.out]; exact rboxN_box a hat), ?_⟩
            have e : (mixT 256 (fun y => boxU (UInt8.ofNat y)) (fun _ => 0) a).set a (UInt8.ofNat 0) = mixT 256 (fun y => boxU (UInt8.ofNat y)) (fun _ => 0) a := by
              refine set_same _ _ _ ?_
              unfold mixT tab
              rw [List.getElem?_map, List.getElem?_range hat, Option.map_some, if_neg (by omega)]
              rfl
            rw [e]
            exact H
          case round =>
            obtain ⟨k, q, hk, rfl, hq, HQ, H3⟩ := hrel
            clear H c1
            by_cases hk8 : k < 8
            · have tK : decide ((k : Int) < 8) = true := by rw [decide_eq_true_eq]; omega
              go_wp2_with fail
              refine (bit_ex _ _ _ (by omega) (by omega) (by omega) (by omega)).mono ?_
              rintro e w' ⟨v1, b1, V1, rfl, rfl⟩
              go_wp2_with fail
              refine (bit_ex _ _ _ (by omega) (by omega) (by omega) (by omega)).mono ?_
              rintro e w' ⟨v2, b2, V2, rfl, rfl⟩
              go_wp2_with fail
              refine (bit_ex _ _ _ (by omega) (by omega) (by omega) (by omega)).mono ?_
              rintro e w' ⟨v3, b3, V3, rfl, rfl⟩
              go_wp2_with fail
              refine (bit_ex _ _ _ (by omega) (by omega) (by omega) (by omega)).mono ?_
              rintro e w' ⟨v4, b4, V4, rfl, rfl⟩
              go_wp2_with fail
              refine (bit_ex _ _ _ (by omega) (by omega) (by omega) (by omega)).mono ?_
              rintro e w' ⟨v5, b5, V5, rfl, rfl⟩
              go_wp2_with fail
              refine (bit_ex _ _ _ (by omega) (by omega) (by omega) (by omega)).mono ?_
              rintro e w' ⟨v6, b6, V6, rfl, rfl⟩
              obtain ⟨s, hs⟩ : ∃ s, v1 + v2 + v3 + v4 + v5 + v6 = s := ⟨_, rfl⟩
              have hsI : (v1 : Int) + (v2 : Int) + (v3 : Int) + (v4 : Int) + (v5 : Int) + (v6 : Int) = (s : Int) := by omega
              have hs6 : s ≤ 6 := by omega
              have es : s = rsum Y k := by
                rw [← hs]
                unfold rsum
                rw [V1.out, V2.out, V3.out, V4.out, V5.out, V6.out]
                rw [show ((k : Int) + 4).toNat = k + 4 from by omega, show ((k : Int) + 5).toNat = k + 5 from by omega, show ((k : Int) + 6).toNat = k + 6 from by omega, show ((k : Int) + 7).toNat = k + 7 from by omega]
                rfl
              have hq256 : q < 256 := by
                have := hq.out
                have h2 : 2 ^ k ≤ 2 ^ 7 := Nat.pow_le_pow_right (by omega) (by omega)
                omega
              have c0 := H3.out.out.cellAt a (barr_getD _ a (by rw [List.length_set, mixT_len]; exact hat))
              rw [set_getD _ _ _ (by rw [mixT_len]; exact hat), tU _ hq256] at c0
              have f0 := H3.out.out.unfrozen a
              have hlt2 := H3.out.out.lt
              have ES := Lib.hid es
              clear hs es
              obtain ⟨m, hm⟩ : ∃ m, s % 2 = m := ⟨_, rfl⟩
              have hmI : (s : Int) % 2 = (m : Int) := by omega
              have hm2 : m < 2 := by omega
              have HM := Lib.hid hm
              clear hm
              obtain ⟨p, hp⟩ : ∃ p, m * 2 ^ k = p := ⟨_, rfl⟩
              have hp2 : p ≤ 128 := by
                rw [← hp]
                have h2 : 2 ^ k ≤ 2 ^ 7 := Nat.pow_le_pow_right (by omega) (by omega)
                have h3 : m * 2 ^ k ≤ 1 * 2 ^ 7 := Nat.mul_le_mul (by omega) h2
                omega
              have hpI : (m : Int) * 2 ^ k = (p : Int) := by rw [← hp, pow_cast, Int.natCast_mul]
              have hqp : q + p < 2 ^ (k + 1) := by rw [← hp, ← HM.out]; exact sum_form s k q hq.out
              have hqp2 : q + p < 256 := by
                have h2 : 2 ^ (k + 1) ≤ 2 ^ 8 := Nat.pow_le_pow_right (by omega) (by omega)
                omega
              have HP := Lib.hid hp
              clear hp
              go_wp2_with fail
              go_region
              all_goals go_wp2_with fail
              all_goals go_roundw
              case rel =>
                have e : (mixT 256 (fun y => boxU (UInt8.ofNat y)) (fun _ => 0) a).set a (UInt8.ofNat (q + p)) = ((mixT 256 (fun y => boxU (UInt8.ofNat y)) (fun _ => 0) a).set a (UInt8.ofNat q)).set a (UInt8.ofNat (q + p)) := by rw [List.set_set]
                have h := (H3.out.put a (UInt8.ofNat (q + p))).draw 1
                rw [← e, tU _ hqp2] at h
                refine ⟨k + 1, q + p, by omega, by go_num, Lib.hid hqp, ?_, Lib.hid h⟩
                have hr := HQ.out
                rw [show 8 - k = (8 - (k + 1)) + 1 from by omega, rboxN, ← ES.out, HM.out, HP.out] at hr
                exact Lib.hid hr
              case measure => simp [intOf]; omega
            · have tK : decide ((k : Int) < 8) = false := by rw [decide_eq_false_iff_not]; omega
              have hqg : q = gbox a := by
                have h := HQ.out
                rw [show k = 8 from by omega] at h
                exact h
              have h4 := H3.out
              have e : UInt8.ofNat q = boxU (UInt8.ofNat a) := by
                unfold boxU
                rw [tU a hat, hqg]
              rw [e, mixT_succ] at h4
              have H4 := Lib.hid h4
              clear h4 e hqg
              go_wp2_with fail
              go_roundw
              case rel => exact ⟨a + 1, by omega, by go_num, H4⟩
              case measure => simp [intOf]; omega
        · have tA : decide ((a : Int) < 256) = false := by rw [decide_eq_false_iff_not]; omega
          rw [show a = 256 from by omega, mixT_end] at H
          have hs : (barr box256).size = 256 := by rw [barr_size, box256_len]
          have g3 : Blk wr G 126 (barr box256) := H.out.out
          have g1 := H.out.b.res
          have hb := H.out.b.bel

          go_wp2_with (first | ((with_reducible change wpList _ _ _ (Oper.mk _ (Op.load 126 _) _ _ _ _ :: _) _ _); refine wpList_load_blk (ty := 126) G rfl g3 Try.underlying126 rfl size256 hs ?_) | ((with_reducible change wpList _ _ _ (Oper.mk _ (Op.store 126 _ _) _ _ _ _ :: _) _ _); refine wpList_store_blk (ty := 126) w.heap.size (barr box256) rfl rfl g1 size256 hs (barr_size _) (barr_one _) ?_))
          refine bodyPost_ret (results_cell_blk rfl _ _ w.heap.size rfl (g1.row _) Try.underlying126 rfl size256 hs) rfl ⟨rfl, below_row hb (by omega) _⟩
end Go.Proofs.Ytpampcokonicfaa
/- The document's answer for AES: Form. -/
namespace Go.Proofs.Ytpampcokonicfaa
open Go.RowKit
set_option maxRecDepth 100000
set_option linter.unusedVariables false
set_option linter.unusedSimpArgs false
theorem op_wp {P : Program} {ops : Array Oper} {o : Oper} {i : Nat} {a : Act} {w : World} {K : Act → World → Prop} {Q : Exit → Act → World → Prop} (ho : ops[i]? = some o) (hw : Region.wanted o (yielded ops a.tmps) = true) (h : o.wp P a w K Q) : wpOp P ops Q i K a w := by
  unfold Go.wpOp
  simp only [ho, hw, if_true]
  exact .inl h
theorem take_four (K : List UInt8) (j : Nat) (h : 4 * j + 4 ≤ K.length) : K.take (4 * (j + 1)) = K.take (4 * j) ++ [K.getD (4 * j) 0, K.getD (4 * j + 1) 0, K.getD (4 * j + 2) 0, K.getD (4 * j + 3) 0] := by
  have e : ∀ i, i < K.length → K[i]? = some (K.getD i 0) := fun i hi => by rw [List.getElem?_eq_getElem hi, List.getD_eq_getElem?_getD, List.getElem?_eq_getElem hi]; rfl
  rw [show 4 * (j + 1) = 4 * j + 1 + 1 + 1 + 1 from by omega, List.take_add_one, List.take_add_one, List.take_add_one, List.take_add_one, e _ (by omega), e _ (by omega), e _ (by omega), e _ (by omega)]
  simp
set_option maxHeartbeats 2000000 in
theorem rform_any (a g n cap : Nat) (K : List UInt8) (w : World) (h : RA w a g n cap K) (hn : n ≤ 60) :
    Calls Try.prog 85 #[.pointer (some ⟨a, 0, none⟩)] w (NewBytes (K.take (4 * n)) w) := by
  obtain ⟨i0, hi, hz0, hz1, hz2⟩ := info_parts info8
  have HI := Lib.hid (And.intro hi (And.intro hz0 (And.intro hz1 hz2)))
  have HR := Lib.hid h
  have hra := h.lt
  have hrg := h.glt
  have hcap := h.capB.1
  have hcap2 := h.capB.2
  have hle := h.le
  clear hi hz0 hz1 hz2 h
  go_enter Try.func85, Try.ntmps85
  go_wp2_with fail
  go_loopw [3, 4] (fun v i w1 => ∃ j : Nat, j ≤ n ∧ i = .int .i64 (j : Int) ∧ Hid (OB w1 v (K.take (4 * j)) ∧ Below w.heap.size w w1 ∧ (∀ x, fpv v x → w.heap.size ≤ x))) (fun _ i _ => n - (intOf i).toNat)
  case atStart => exact ⟨0, by omega, rfl, Lib.hid ⟨by rw [show 4 * 0 = 0 from rfl, List.take_zero]; exact OB.nil w, Below.refl _ _, fun x hx => by simp [fpv, Value.ownBlock] at hx⟩⟩
  case round =>
    obtain ⟨j, hj, rfl, HV⟩ := hrel
    have c0 := (HR.out.below HV.out.2.1).head
    by_cases hlt : j < n
    · have ht := take_four K j (by omega)
      have y0 : ∀ W, RA W a g n cap K → W.cell? ⟨g, j * 4, none⟩ = some (.int .u8 ((K.getD (4 * j) 0).toNat : Int)) := fun W h => by rw [Nat.mul_comm 4 j]; exact h.word _ (by omega)
      have y1 : ∀ W, RA W a g n cap K → W.cell? ⟨g, j * 4 + 1, none⟩ = some (.int .u8 ((K.getD (4 * j + 1) 0).toNat : Int)) := fun W h => by rw [Nat.mul_comm 4 j]; exact h.word _ (by omega)
      have y2 : ∀ W, RA W a g n cap K → W.cell? ⟨g, j * 4 + 2, none⟩ = some (.int .u8 ((K.getD (4 * j + 2) 0).toNat : Int)) := fun W h => by rw [Nat.mul_comm 4 j]; exact h.word _ (by omega)
      have y3 : ∀ W, RA W a g n cap K → W.cell? ⟨g, j * 4 + 3, none⟩ = some (.int .u8 ((K.getD (4 * j + 3) 0).toNat : Int)) := fun W h => by rw [Nat.mul_comm 4 j]; exact h.word _ (by omega)
      have f0 : ∀ W, RA W a g n cap K → W.cell? ⟨a, 0, none⟩ = some (.slice (some ⟨g, 0, none⟩) n cap) := fun _ h => h.head
      generalize K.getD (4 * j) 0 = x0 at y0 ht
      generalize K.getD (4 * j + 1) 0 = x1 at y1 ht
      generalize K.getD (4 * j + 2) 0 = x2 at y2 ht
      generalize K.getD (4 * j + 3) 0 = x3 at y3 ht
      have HT := Lib.hid ht
      clear ht
      have hkl : (K.take (4 * j)).length = 4 * j := by rw [List.length_take]; omega
      have hown : ((wr.drewN 1).alloc (.cells #[.int .u8 (x0.toNat : Int), .int .u8 (x1.toNat : Int), .int .u8 (x2.toNat : Int), .int .u8 (x3.toNat : Int)] 5)).ownsRow 0 5 1 u3 (4 * j) ((K.take (4 * j)).map B) := by
        have h1 := (HV.out.1.keep (Only.nothing (drew_below wr 1)) (fun _ _ h => h)).keep ((Only.refl (fun _ => False) (wr.drewN 1)).alloc (.cells #[.int .u8 (x0.toNat : Int), .int .u8 (x1.toNat : Int), .int .u8 (x2.toNat : Int), .int .u8 (x3.toNat : Int)] 5)) (fun _ _ h => h)
        unfold OB at h1
        rw [hkl] at h1
        exact h1
      have bj : 0 ≤ (j : Int) ∧ (j : Int) < (n : Int) := by omega
      go_wp2_with fail
      clear c0
      refine hd_start (fun wx => RA wx a g n cap K) (by kernel_rfl) ?_
      intro w5 hw'
      subst hw'
      have S5 : RA (wr.drewN 1) a g n cap K := (HR.out.below HV.out.2.1).draw 1
      have S6 : RA ((wr.drewN 1).alloc (.cells #[.int .u8 (x0.toNat : Int), .int .u8 (x1.toNat : Int), .int .u8 (x2.toNat : Int), .int .u8 (x3.toNat : Int)] 5)) a g n cap K := S5.below ((Below.refl _ _).alloc (Nat.le_refl _) _)
      refine hd_take (v := ?_) 0 rfl (by kernel_rfl) (fun _ _ d _ _ h => (by cases d <;> exact h)) (by kernel_rfl) S5 (fun w' hS => ?_) ?_
      rotate_left
      focus (have q0 := f0 w' hS; have q1 := y0 w' hS; have q2 := y1 w' hS; have q3 := y2 w' hS; have q4 := y3 w' hS; clear hS; go_simp; try rfl; done)
      simp only [List.getElem_toArray, List.getElem_cons_succ, List.getElem_cons_zero, Act.put, List.setIfInBounds_toArray, List.set_cons_zero, List.set_cons_succ]
      refine hd_take (v := ?_) 1 rfl (by kernel_rfl) (fun _ _ d _ _ h => (by cases d <;> exact h)) (by kernel_rfl) S5 (fun w' hS => ?_) ?_
      rotate_left
      focus (have q0 := f0 w' hS; have q1 := y0 w' hS; have q2 := y1 w' hS; have q3 := y2 w' hS; have q4 := y3 w' hS; clear hS; go_simp; try rfl; done)
      simp only [List.getElem_toArray, List.getElem_cons_succ, List.getElem_cons_zero, Act.put, List.setIfInBounds_toArray, List.set_cons_zero, List.set_cons_succ]
      refine hd_take (v := ?_) 2 rfl (by kernel_rfl) (fun _ _ d _ _ h => (by cases d <;> exact h)) (by kernel_rfl) S5 (fun w' hS => ?_) ?_
      rotate_left
      focus (have q0 := f0 w' hS; have q1 := y0 w' hS; have q2 := y1 w' hS; have q3 := y2 w' hS; have q4 := y3 w' hS; clear hS; go_simp; try rfl; done)
      simp only [List.getElem_toArray, List.getElem_cons_succ, List.getElem_cons_zero, Act.put, List.setIfInBounds_toArray, List.set_cons_zero, List.set_cons_succ]
      refine hd_take (v := ?_) 3 rfl (by kernel_rfl) (fun _ _ d _ _ h => (by cases d <;> exact h)) (by kernel_rfl) S5 (fun w' hS => ?_) ?_
      rotate_left
      focus (have q0 := f0 w' hS; have q1 := y0 w' hS; have q2 := y1 w' hS; have q3 := y2 w' hS; have q4 := y3 w' hS; clear hS; go_simp; try rfl; done)
      simp only [List.getElem_toArray, List.getElem_cons_succ, List.getElem_cons_zero, Act.put, List.setIfInBounds_toArray, List.set_cons_zero, List.set_cons_succ]
      refine hd_take (v := ?_) 4 rfl (by kernel_rfl) (fun _ _ d _ _ h => (by cases d <;> exact h)) (by kernel_rfl) S5 (fun w' hS => ?_) ?_
      rotate_left
      focus (have q0 := f0 w' hS; have q1 := y0 w' hS; have q2 := y1 w' hS; have q3 := y2 w' hS; have q4 := y3 w' hS; clear hS; go_simp; try rfl; done)
      simp only [List.getElem_toArray, List.getElem_cons_succ, List.getElem_cons_zero, Act.put, List.setIfInBounds_toArray, List.set_cons_zero, List.set_cons_succ]
      refine hd_take (v := ?_) 5 rfl (by kernel_rfl) (fun _ _ d _ _ h => (by cases d <;> exact h)) (by kernel_rfl) S5 (fun w' hS => ?_) ?_
      rotate_left
      focus (have q0 := f0 w' hS; have q1 := y0 w' hS; have q2 := y1 w' hS; have q3 := y2 w' hS; have q4 := y3 w' hS; clear hS; go_simp; try rfl; done)
      simp only [List.getElem_toArray, List.getElem_cons_succ, List.getElem_cons_zero, Act.put, List.setIfInBounds_toArray, List.set_cons_zero, List.set_cons_succ]
      refine hd_take (v := ?_) 6 rfl (by kernel_rfl) (fun _ _ d _ _ h => (by cases d <;> exact h)) (by kernel_rfl) S5 (fun w' hS => ?_) ?_
      rotate_left
      focus (have q0 := f0 w' hS; have q1 := y0 w' hS; have q2 := y1 w' hS; have q3 := y2 w' hS; have q4 := y3 w' hS; clear hS; go_simp; try rfl; done)
      simp only [List.getElem_toArray, List.getElem_cons_succ, List.getElem_cons_zero, Act.put, List.setIfInBounds_toArray, List.set_cons_zero, List.set_cons_succ]
      refine hd_take (v := ?_) 7 rfl (by kernel_rfl) (fun _ _ d _ _ h => (by cases d <;> exact h)) (by kernel_rfl) S5 (fun w' hS => ?_) ?_
      rotate_left
      focus (have q0 := f0 w' hS; have q1 := y0 w' hS; have q2 := y1 w' hS; have q3 := y2 w' hS; have q4 := y3 w' hS; clear hS; go_simp; try rfl; done)
      simp only [List.getElem_toArray, List.getElem_cons_succ, List.getElem_cons_zero, Act.put, List.setIfInBounds_toArray, List.set_cons_zero, List.set_cons_succ]
      refine hd_take (v := ?_) 8 rfl (by kernel_rfl) (fun _ _ d _ _ h => (by cases d <;> exact h)) (by kernel_rfl) S5 (fun w' hS => ?_) ?_
      rotate_left
      focus (have q0 := f0 w' hS; have q1 := y0 w' hS; have q2 := y1 w' hS; have q3 := y2 w' hS; have q4 := y3 w' hS; clear hS; go_simp; try rfl; done)
      simp only [List.getElem_toArray, List.getElem_cons_succ, List.getElem_cons_zero, Act.put, List.setIfInBounds_toArray, List.set_cons_zero, List.set_cons_succ]
      refine hd_take (v := ?_) 9 rfl (by kernel_rfl) (fun _ _ d _ _ h => (by cases d <;> exact h)) (by kernel_rfl) S5 (fun w' hS => ?_) ?_
      rotate_left
      focus (have q0 := f0 w' hS; have q1 := y0 w' hS; have q2 := y1 w' hS; have q3 := y2 w' hS; have q4 := y3 w' hS; clear hS; go_simp; try rfl; done)
      simp only [List.getElem_toArray, List.getElem_cons_succ, List.getElem_cons_zero, Act.put, List.setIfInBounds_toArray, List.set_cons_zero, List.set_cons_succ]
      refine hd_take (v := ?_) 10 rfl (by kernel_rfl) (fun _ _ d _ _ h => (by cases d <;> exact h)) (by kernel_rfl) S5 (fun w' hS => ?_) ?_
      rotate_left
      focus (have q0 := f0 w' hS; have q1 := y0 w' hS; have q2 := y1 w' hS; have q3 := y2 w' hS; have q4 := y3 w' hS; clear hS; go_simp; try rfl; done)
      simp only [List.getElem_toArray, List.getElem_cons_succ, List.getElem_cons_zero, Act.put, List.setIfInBounds_toArray, List.set_cons_zero, List.set_cons_succ]
      refine hd_take (v := ?_) 11 rfl (by kernel_rfl) (fun _ _ d _ _ h => (by cases d <;> exact h)) (by kernel_rfl) S5 (fun w' hS => ?_) ?_
      rotate_left
      focus (have q0 := f0 w' hS; have q1 := y0 w' hS; have q2 := y1 w' hS; have q3 := y2 w' hS; have q4 := y3 w' hS; clear hS; go_simp; try rfl; done)
      simp only [List.getElem_toArray, List.getElem_cons_succ, List.getElem_cons_zero, Act.put, List.setIfInBounds_toArray, List.set_cons_zero, List.set_cons_succ]
      refine hd_take (v := ?_) 12 rfl (by kernel_rfl) (fun _ _ d _ _ h => (by cases d <;> exact h)) (by kernel_rfl) S5 (fun w' hS => ?_) ?_
      rotate_left
      focus (have q0 := f0 w' hS; have q1 := y0 w' hS; have q2 := y1 w' hS; have q3 := y2 w' hS; have q4 := y3 w' hS; clear hS; go_simp; try rfl; done)
      simp only [List.getElem_toArray, List.getElem_cons_succ, List.getElem_cons_zero, Act.put, List.setIfInBounds_toArray, List.set_cons_zero, List.set_cons_succ]
      refine hd_take (v := ?_) 13 rfl (by kernel_rfl) (fun _ _ d _ _ h => (by cases d <;> exact h)) (by kernel_rfl) S5 (fun w' hS => ?_) ?_
      rotate_left
      focus (have q0 := f0 w' hS; have q1 := y0 w' hS; have q2 := y1 w' hS; have q3 := y2 w' hS; have q4 := y3 w' hS; clear hS; go_simp; try rfl; done)
      simp only [List.getElem_toArray, List.getElem_cons_succ, List.getElem_cons_zero, Act.put, List.setIfInBounds_toArray, List.set_cons_zero, List.set_cons_succ]
      refine hd_take (v := ?_) 14 rfl (by kernel_rfl) (fun _ _ d _ _ h => (by cases d <;> exact h)) (by kernel_rfl) S5 (fun w' hS => ?_) ?_
      rotate_left
      focus (have q0 := f0 w' hS; have q1 := y0 w' hS; have q2 := y1 w' hS; have q3 := y2 w' hS; have q4 := y3 w' hS; clear hS; go_simp; try rfl; done)
      simp only [List.getElem_toArray, List.getElem_cons_succ, List.getElem_cons_zero, Act.put, List.setIfInBounds_toArray, List.set_cons_zero, List.set_cons_succ]
      refine hd_take (v := ?_) 15 rfl (by kernel_rfl) (fun _ _ d _ _ h => (by cases d <;> exact h)) (by kernel_rfl) S5 (fun w' hS => ?_) ?_
      rotate_left
      focus (have q0 := f0 w' hS; have q1 := y0 w' hS; have q2 := y1 w' hS; have q3 := y2 w' hS; have q4 := y3 w' hS; clear hS; go_simp; try rfl; done)
      simp only [List.getElem_toArray, List.getElem_cons_succ, List.getElem_cons_zero, Act.put, List.setIfInBounds_toArray, List.set_cons_zero, List.set_cons_succ]
      refine hd_take (v := ?_) 16 rfl (by kernel_rfl) (fun _ _ d _ _ h => (by cases d <;> exact h)) (by kernel_rfl) S5 (fun w' hS => ?_) ?_
      rotate_left
      focus (have q0 := f0 w' hS; have q1 := y0 w' hS; have q2 := y1 w' hS; have q3 := y2 w' hS; have q4 := y3 w' hS; clear hS; go_simp; try rfl; done)
      simp only [List.getElem_toArray, List.getElem_cons_succ, List.getElem_cons_zero, Act.put, List.setIfInBounds_toArray, List.set_cons_zero, List.set_cons_succ]
      refine hd_take (v := ?_) 17 rfl (by kernel_rfl) (fun _ _ d _ _ h => (by cases d <;> exact h)) (by kernel_rfl) S5 (fun w' hS => ?_) ?_
      rotate_left
      focus (have q0 := f0 w' hS; have q1 := y0 w' hS; have q2 := y1 w' hS; have q3 := y2 w' hS; have q4 := y3 w' hS; clear hS; go_simp; try rfl; done)
      simp only [List.getElem_toArray, List.getElem_cons_succ, List.getElem_cons_zero, Act.put, List.setIfInBounds_toArray, List.set_cons_zero, List.set_cons_succ]
      refine hd_take (v := ?_) 18 rfl (by kernel_rfl) (fun _ _ d _ _ h => (by cases d <;> exact h)) (by kernel_rfl) S5 (fun w' hS => ?_) ?_
      rotate_left
      focus (have q0 := f0 w' hS; have q1 := y0 w' hS; have q2 := y1 w' hS; have q3 := y2 w' hS; have q4 := y3 w' hS; clear hS; go_simp; try rfl; done)
      simp only [List.getElem_toArray, List.getElem_cons_succ, List.getElem_cons_zero, Act.put, List.setIfInBounds_toArray, List.set_cons_zero, List.set_cons_succ]
      refine hd_take (v := ?_) 19 rfl (by kernel_rfl) (fun _ _ d _ _ h => (by cases d <;> exact h)) (by kernel_rfl) S5 (fun w' hS => ?_) ?_
      rotate_left
      focus (have q0 := f0 w' hS; have q1 := y0 w' hS; have q2 := y1 w' hS; have q3 := y2 w' hS; have q4 := y3 w' hS; clear hS; go_simp; try rfl; done)
      simp only [List.getElem_toArray, List.getElem_cons_succ, List.getElem_cons_zero, Act.put, List.setIfInBounds_toArray, List.set_cons_zero, List.set_cons_succ]
      refine hd_take (v := ?_) 20 rfl (by kernel_rfl) (fun _ _ d _ _ h => (by cases d <;> exact h)) (by kernel_rfl) S5 (fun w' hS => ?_) ?_
      rotate_left
      focus (have q0 := f0 w' hS; have q1 := y0 w' hS; have q2 := y1 w' hS; have q3 := y2 w' hS; have q4 := y3 w' hS; clear hS; go_simp; try rfl; done)
      simp only [List.getElem_toArray, List.getElem_cons_succ, List.getElem_cons_zero, Act.put, List.setIfInBounds_toArray, List.set_cons_zero, List.set_cons_succ]
      refine hd_take (v := ?_) 21 rfl (by kernel_rfl) (fun _ _ d _ _ h => (by cases d <;> exact h)) (by kernel_rfl) S5 (fun w' hS => ?_) ?_
      rotate_left
      focus (have q0 := f0 w' hS; have q1 := y0 w' hS; have q2 := y1 w' hS; have q3 := y2 w' hS; have q4 := y3 w' hS; clear hS; go_simp; try rfl; done)
      simp only [List.getElem_toArray, List.getElem_cons_succ, List.getElem_cons_zero, Act.put, List.setIfInBounds_toArray, List.set_cons_zero, List.set_cons_succ]
      refine hd_take (v := ?_) 22 rfl (by kernel_rfl) (fun _ _ d _ _ h => (by cases d <;> exact h)) (by kernel_rfl) S5 (fun w' hS => ?_) ?_
      rotate_left
      focus (have q0 := f0 w' hS; have q1 := y0 w' hS; have q2 := y1 w' hS; have q3 := y2 w' hS; have q4 := y3 w' hS; clear hS; go_simp; try rfl; done)
      simp only [List.getElem_toArray, List.getElem_cons_succ, List.getElem_cons_zero, Act.put, List.setIfInBounds_toArray, List.set_cons_zero, List.set_cons_succ]
      refine hd_take (v := ?_) 23 rfl (by kernel_rfl) (fun _ _ d _ _ h => (by cases d <;> exact h)) (by kernel_rfl) S5 (fun w' hS => ?_) ?_
      rotate_left
      focus (have q0 := f0 w' hS; have q1 := y0 w' hS; have q2 := y1 w' hS; have q3 := y2 w' hS; have q4 := y3 w' hS; clear hS; go_simp; try rfl; done)
      simp only [List.getElem_toArray, List.getElem_cons_succ, List.getElem_cons_zero, Act.put, List.setIfInBounds_toArray, List.set_cons_zero, List.set_cons_succ]
      refine hd_take (v := ?_) 24 rfl (by kernel_rfl) (fun _ _ d _ _ h => (by cases d <;> exact h)) (by kernel_rfl) S5 (fun w' hS => ?_) ?_
      rotate_left
      focus (have q0 := f0 w' hS; have q1 := y0 w' hS; have q2 := y1 w' hS; have q3 := y2 w' hS; have q4 := y3 w' hS; clear hS; go_simp; try rfl; done)
      simp only [List.getElem_toArray, List.getElem_cons_succ, List.getElem_cons_zero, Act.put, List.setIfInBounds_toArray, List.set_cons_zero, List.set_cons_succ]
      refine hd_take (v := ?_) 25 rfl (by kernel_rfl) (fun _ _ d _ _ h => (by cases d <;> exact h)) (by kernel_rfl) S5 (fun w' hS => ?_) ?_
      rotate_left
      focus (have q0 := f0 w' hS; have q1 := y0 w' hS; have q2 := y1 w' hS; have q3 := y2 w' hS; have q4 := y3 w' hS; clear hS; go_simp; try rfl; done)
      simp only [List.getElem_toArray, List.getElem_cons_succ, List.getElem_cons_zero, Act.put, List.setIfInBounds_toArray, List.set_cons_zero, List.set_cons_succ]
      refine hd_take (v := ?_) 26 rfl (by kernel_rfl) (fun _ _ d _ _ h => (by cases d <;> exact h)) (by kernel_rfl) S5 (fun w' hS => ?_) ?_
      rotate_left
      focus (have q0 := f0 w' hS; have q1 := y0 w' hS; have q2 := y1 w' hS; have q3 := y2 w' hS; have q4 := y3 w' hS; clear hS; go_simp; try rfl; done)
      simp only [List.getElem_toArray, List.getElem_cons_succ, List.getElem_cons_zero, Act.put, List.setIfInBounds_toArray, List.set_cons_zero, List.set_cons_succ]
      refine hd_take (v := ?_) 27 rfl (by kernel_rfl) (fun _ _ d _ _ h => (by cases d <;> exact h)) (by kernel_rfl) S5 (fun w' hS => ?_) ?_
      rotate_left
      focus (have q0 := f0 w' hS; have q1 := y0 w' hS; have q2 := y1 w' hS; have q3 := y2 w' hS; have q4 := y3 w' hS; clear hS; go_simp; try rfl; done)
      simp only [List.getElem_toArray, List.getElem_cons_succ, List.getElem_cons_zero, Act.put, List.setIfInBounds_toArray, List.set_cons_zero, List.set_cons_succ]
      refine hd_take (v := ?_) 28 rfl (by kernel_rfl) (fun _ _ d _ _ h => (by cases d <;> exact h)) (by kernel_rfl) S5 (fun w' hS => ?_) ?_
      rotate_left
      focus (have q0 := f0 w' hS; have q1 := y0 w' hS; have q2 := y1 w' hS; have q3 := y2 w' hS; have q4 := y3 w' hS; clear hS; go_simp; try rfl; done)
      simp only [List.getElem_toArray, List.getElem_cons_succ, List.getElem_cons_zero, Act.put, List.setIfInBounds_toArray, List.set_cons_zero, List.set_cons_succ]
      refine hd_take (v := ?_) 29 rfl (by kernel_rfl) (fun _ _ d _ _ h => (by cases d <;> exact h)) (by kernel_rfl) S5 (fun w' hS => ?_) ?_
      rotate_left
      focus (have q0 := f0 w' hS; have q1 := y0 w' hS; have q2 := y1 w' hS; have q3 := y2 w' hS; have q4 := y3 w' hS; clear hS; go_simp; try rfl; done)
      simp only [List.getElem_toArray, List.getElem_cons_succ, List.getElem_cons_zero, Act.put, List.setIfInBounds_toArray, List.set_cons_zero, List.set_cons_succ]
      refine hd_take (v := ?_) 30 rfl (by kernel_rfl) (fun _ _ d _ _ h => (by cases d <;> exact h)) (by kernel_rfl) S5 (fun w' hS => ?_) ?_
      rotate_left
      focus (have q0 := f0 w' hS; have q1 := y0 w' hS; have q2 := y1 w' hS; have q3 := y2 w' hS; have q4 := y3 w' hS; clear hS; go_simp; try rfl; done)
      simp only [List.getElem_toArray, List.getElem_cons_succ, List.getElem_cons_zero, Act.put, List.setIfInBounds_toArray, List.set_cons_zero, List.set_cons_succ]
      refine hd_take (v := ?_) 31 rfl (by kernel_rfl) (fun _ _ d _ _ h => (by cases d <;> exact h)) (by kernel_rfl) S5 (fun w' hS => ?_) ?_
      rotate_left
      focus (have q0 := f0 w' hS; have q1 := y0 w' hS; have q2 := y1 w' hS; have q3 := y2 w' hS; have q4 := y3 w' hS; clear hS; go_simp; try rfl; done)
      simp only [List.getElem_toArray, List.getElem_cons_succ, List.getElem_cons_zero, Act.put, List.setIfInBounds_toArray, List.set_cons_zero, List.set_cons_succ]
      refine hd_take (v := ?_) 32 rfl (by kernel_rfl) (fun _ _ d _ _ h => (by cases d <;> exact h)) (by kernel_rfl) S5 (fun w' hS => ?_) ?_
      rotate_left
      focus (have q0 := f0 w' hS; have q1 := y0 w' hS; have q2 := y1 w' hS; have q3 := y2 w' hS; have q4 := y3 w' hS; clear hS; go_simp; try rfl; done)
      simp only [List.getElem_toArray, List.getElem_cons_succ, List.getElem_cons_zero, Act.put, List.setIfInBounds_toArray, List.set_cons_zero, List.set_cons_succ]
      clear f0 y0 y1 y2 y3
      refine hd_one 33 (by kernel_rfl) ?_
      refine op_run rfl (by kernel_rfl) (by go_simp; first | done | exact ⟨rfl, rfl⟩ | rfl) ?_
      refine ⟨S6, ?_⟩
      simp only [List.getElem_toArray, List.getElem_cons_succ, List.getElem_cons_zero, Act.put, List.setIfInBounds_toArray, List.set_cons_zero, List.set_cons_succ]
      refine hd_one 34 (by kernel_rfl) ?_
      obtain ⟨hi, hz0, hz1, hz2⟩ := HI.out
      refine op_wp rfl (by kernel_rfl) ?_
      refine wp_append_lies _ _ _ 22 rfl 0 5 i0 _ 1 1 Try.underlying22 hi hz0 hz1 hz2 rfl (by decide) u3 (4 * j) ((K.take (4 * j)).map B) rfl hown ⟨wr.heap.size, 0, none⟩ 4 4 [.int .u8 (x0.toNat : Int), .int .u8 (x1.toNat : Int), .int .u8 (x2.toNat : Int), .int .u8 (x3.toNat : Int)] rfl rfl (World.news_of_block (heap_alloc_new _ _)) (fun u hu => by simp at hu; rcases hu with rfl | rfl | rfl | rfl <;> rfl) (by decide) (by unfold maxLen; omega) (by omega) (Nat.zero_le _) _ rfl ?_
      intro g' cap' w2 hown2 hgrow hat hlt2
      have hb1 : Below w.heap.size w (wr.drewN 1) := HV.out.2.1.trans ((drew_below wr 1).mono HV.out.2.1.size)
      have HN : Hid (OB w2 (.slice (some ⟨g', 0, none⟩) (4 * j + 4) cap') (K.take (4 * (j + 1))) ∧ Below w.heap.size w w2 ∧ (∀ x, fpv (.slice (some ⟨g', 0, none⟩) (4 * j + 4) cap') x → w.heap.size ≤ x)) := by
        refine Lib.hid ⟨?_, (hb1.alloc hb1.size _).grown hgrow (by simp; have := hb1.size; simp at this; omega) (fun x hx => HV.out.2.2 x hx), fun z hz => ?_⟩
        · unfold OB
          rw [HT.out, List.length_append, hkl, List.map_append]
          simpa [B] using hown2
        · have e : g' = z := by simpa [fpv, Value.ownBlock] using hz
          subst e
          rcases hat with hat | hat
          · exact HV.out.2.2 g' hat
          · rw [hat]; simp; have := hb1.size; simp at this; omega
      clear hown2 hgrow hat hlt2 hown hi hz0 hz1 hz2 hb1
      simp only [List.getElem_toArray, List.getElem_cons_succ, List.getElem_cons_zero, Act.put, List.setIfInBounds_toArray, List.set_cons_zero, List.set_cons_succ]
      have S7 := HR.out.below HN.out.2.1
      refine ⟨S7, ?_⟩
      refine hd_take (v := ?_) 35 rfl (by kernel_rfl) (fun _ _ d _ _ h => (by cases d <;> exact h)) (by kernel_rfl) S7 (fun w' hS => ?_) ?_
      rotate_left
      focus (clear hS; go_simp; try rfl; done)
      simp only [List.getElem_toArray, List.getElem_cons_succ, List.getElem_cons_zero, Act.put, List.setIfInBounds_toArray, List.set_cons_zero, List.set_cons_succ]
      refine hd_done (by kernel_rfl) ?_
      go_wp2
      go_roundw
      case rel => exact ⟨j + 1, by omega, by go_num, HN⟩
      case measure => simp [intOf]; omega
    · obtain rfl : j = n := by omega
      go_wp2
      go_ret
      exact ⟨_, rfl, HV.out.1, HV.out.2.1, HV.out.2.2⟩
end Go.Proofs.Ytpampcokonicfaa
/- What turnkeyref10.Of keeps on its way: the words' row grows in the Aes block. No walk here. -/
namespace Go.Proofs.Ytpampcokonicfaa
open Go.RowKit
set_option maxRecDepth 100000
set_option linter.unusedVariables false
set_option linter.unusedSimpArgs false
theorem hd_part2 {P : Program} {ops : Array Oper} {md : Region.Mode} {Q : Exit → Act → World → Prop} {S : World → Prop} {fuel : Nat} {listed : Array Bool} {a : Act} {w : World} {o : Oper} {v : Value} (i : Nat) (ho : ops[i]? = some o) (hs : (Region.noSelect ops && Region.free md ops listed i && (Region.ready md ops listed).contains i) = true) (hQ : ∀ c (a : Act) (d : Option Tmp) (v : Value) w, Q (.panic c) (a.put d v) w → Q (.panic c) a w)
    (hy : YieldsIf P ops S o v a) (hS : S w) (kk : wpAnyH P md ops Q S fuel (listed.setIfInBounds i true) (a.put o.dst v) w) : wpAnyH P md ops Q S (fuel + 1) listed a w := by
  simp only [Bool.and_eq_true] at hs
  exact wpAnyH_take ho hs.1.1 hs.1.2 hs.2 (fun c a w => hQ c a _ v w) hy hS kk
theorem put4 (W t : List UInt8) (k i b : Nat) (hk : 1 ≤ k) (hi : k ≤ i) (hl : 4 * i + 4 ≤ W.length) (hb : b < 4) : (putTo W t k i 4)[4 * i + b]? = some (W.getD (4 * (i - k) + b) 0 ^^^ t.getD b 0) := by
  have low : ∀ n m, m < 4 * i → (putTo W t k i n).getD m 0 = W.getD m 0 := fun n m hm => by
    rw [List.getD_eq_getElem?_getD, List.getD_eq_getElem?_getD, putTo_low W t k i n m hm]
  have hlen : ∀ n, (putTo W t k i n).length = W.length := fun n => putTo_len W t k i n
  have step : ∀ n, putTo W t k i (n + 1) = (putTo W t k i n).set (4 * i + n) (W.getD (4 * (i - k) + n) 0 ^^^ t.getD n 0) ∨ ¬ 4 * (i - k) + n < 4 * i := fun n => by
    by_cases h : 4 * (i - k) + n < 4 * i
    · left; rw [putTo, low n _ h]
    · exact .inr h
  have s0 := (step 0).resolve_right (by omega)
  have s1 := (step 1).resolve_right (by omega)
  have s2 := (step 2).resolve_right (by omega)
  have s3 := (step 3).resolve_right (by omega)
  rcases (by omega : b = 0 ∨ b = 1 ∨ b = 2 ∨ b = 3) with rfl | rfl | rfl | rfl
  · rw [s3, List.getElem?_set_ne (by omega), s2, List.getElem?_set_ne (by omega), s1, List.getElem?_set_ne (by omega), s0, List.getElem?_set_self (by rw [hlen]; omega)]
  · rw [s3, List.getElem?_set_ne (by omega), s2, List.getElem?_set_ne (by omega), s1, List.getElem?_set_self (by rw [hlen]; omega)]
  · rw [s3, List.getElem?_set_ne (by omega), s2, List.getElem?_set_self (by rw [hlen]; omega)]
  · rw [s3, List.getElem?_set_self (by rw [hlen]; omega)]
/-- the word that is put behind -/
def xorW (W t : List UInt8) (k i : Nat) : List UInt8 := tab 4 fun j => t.getD j 0 ^^^ W.getD (4 * (i - k) + j) 0
theorem xorW_len (W t : List UInt8) (k i : Nat) : (xorW W t k i).length = 4 := tab_length _ _
theorem put_take (W t : List UInt8) (k i : Nat) (hk : 1 ≤ k) (hi : k ≤ i) (hl : 4 * i + 4 ≤ W.length) : (putTo W t k i 4).take (4 * (i + 1)) = W.take (4 * i) ++ xorW W t k i := by
  have hlen := putTo_len W t k i 4
  have hg : ∀ b, b < 4 → (putTo W t k i 4).getD (4 * i + b) 0 = t.getD b 0 ^^^ W.getD (4 * (i - k) + b) 0 := fun b hb => by
    rw [List.getD_eq_getElem?_getD, put4 W t k i b hk hi hl hb, UInt8.xor_comm]
    rfl
  rw [take_four _ i (by rw [hlen]; exact hl)]
  congr 1
  · apply List.ext_getElem?
    intro j
    by_cases hj : j < 4 * i
    · rw [List.getElem?_take_of_lt hj, List.getElem?_take_of_lt hj, putTo_low W t k i 4 j hj]
    · rw [List.getElem?_eq_none (by rw [List.length_take]; omega), List.getElem?_eq_none (by rw [List.length_take]; omega)]
  · rw [show 4 * i = 4 * i + 0 from rfl, hg 0 (by omega), show 4 * i + 0 + 1 = 4 * i + 1 from rfl, hg 1 (by omega), show 4 * i + 0 + 2 = 4 * i + 2 from rfl, hg 2 (by omega), show 4 * i + 0 + 3 = 4 * i + 3 from rfl, hg 3 (by omega)]
    rfl
theorem info4 : (Try.prog.info? 89).map (fun i => (i.zero, i.size, i.bytes)) = some (some (.agg #[.int .u8 0, .int .u8 0, .int .u8 0, .int .u8 0]), 4, 4) := by kernel_rfl
/-- the worlds between: the Aes block a, its words v (i of them, out of W) -/
structure OfW (w wx : World) (a : Nat) (v : Value) (i : Nat) (W : List UInt8) : Prop where
  blk : Blk wx a 130 (raC v)
  row : wx.ownsRow 0 89 4 v i ((W.take (4 * i)).map B)
  bel : Below w.heap.size w wx
  age : w.heap.size ≤ a
  vge : ∀ x, fpv v x → w.heap.size ≤ x ∧ x ≠ a
theorem OfW.only {w wx wy : World} {a i : Nat} {v : Value} {W : List UInt8} (h : OfW w wx a v i W) {S : Nat → Prop} (ho : Only S wx wy) (ha : ¬ S a) (hv : ∀ x, fpv v x → ¬ S x) (hS : ∀ x, S x → w.heap.size ≤ x) : OfW w wy a v i W :=
  ⟨h.blk.only ho ha, ownsRow_keep h.row ho hv, h.bel.trans (ho.below0 (fun x hx hs => absurd (hS x hs) (by omega)) h.bel.size), h.age, h.vge⟩
theorem OfW.below {w wx wy : World} {a i : Nat} {v : Value} {W : List UInt8} (h : OfW w wx a v i W) (hb : Below wx.heap.size wx wy) : OfW w wy a v i W :=
  h.only (Only.nothing hb) (fun h => h) (fun _ _ h => h) (fun _ h => h.elim)
theorem OfW.head {w wx : World} {a i : Nat} {v : Value} {W : List UInt8} (h : OfW w wx a v i W) : wx.cell? ⟨a, 0, none⟩ = some v := h.blk.cellAt 0 rfl
theorem raC_set (v v' : Value) : (raC v).set! 0 v' = raC v' := by
  unfold raC
  rfl
theorem OfW.form {w wx : World} {a i : Nat} {v : Value} {W : List UInt8} (h : OfW w wx a v i W) (hi : 0 < i) : ∃ g cap, v = .slice (some ⟨g, 0, none⟩) i cap ∧ i ≤ cap ∧ cap ≤ 9223372036854775807 := by
  rcases h.row.2 with ⟨_, h0⟩ | ⟨g, cap, cur, hv, _, _, h1, h2, _⟩
  · omega
  · exact ⟨g, cap, hv, h1, h2⟩
theorem OfW.ra {w wx : World} {a g n cap : Nat} {W : List UInt8} (h : OfW w wx a (.slice (some ⟨g, 0, none⟩) n cap) n W) (hl : 4 * n ≤ W.length) : RA wx a g n cap W :=
  ⟨h.blk, h.row, (h.vge g rfl).2, hl⟩
/-- a word more -/
theorem OfW.push {w w1 w2 : World} {a i : Nat} {v v' : Value} {W W' xs : List UInt8} (h : OfW w w1 a v i W) (hown : w2.ownsRow 0 89 4 v' (i + 1) ((W.take (4 * i)).map B ++ xs.map B)) (hg : w1.grownBy w2 v.ownBlock) (hat : v.ownBlock = v'.ownBlock ∨ v'.ownBlock = some w1.heap.size)
    (e : W'.take (4 * (i + 1)) = W.take (4 * i) ++ xs) : w2.cell? ⟨a, 0, none⟩ = some v ∧ w2.frozen? ⟨a, 0, none⟩ = false ∧ OfW w (w2.setCell ⟨a, 0, none⟩ v') a v' (i + 1) W' := by
  have ho : Only (fpv v) w1 w2 := Only.grown (Only.refl _ w1) hg (fun k hk => .inl hk)
  have hva : ¬ fpv v a := fun hx => (h.vge a hx).2 rfl
  have hb := h.blk.only ho hva
  have halt := h.blk.lt
  have hv' : ∀ x, fpv v' x → fpv v x ∨ x = w1.heap.size := fun x hx => by
    have hx' : v'.ownBlock = some x := hx
    rcases hat with hat | hat
    · exact .inl (by rw [← hat] at hx'; exact hx')
    · rw [hat] at hx'
      injection hx' with hx'
      exact .inr hx'.symm
  have hbel : Below w.heap.size w w2 := h.bel.trans (ho.below0 (fun x hx hs => absurd (h.vge x hs).1 (by omega)) h.bel.size)
  refine ⟨hb.cellAt 0 rfl, hb.unfrozen 0, ?_, ?_, hbel.setCell h.age _, h.age, fun x hx => ?_⟩
  · exact hb.set 0 v'
  · rw [e, List.map_append]
    refine ownsRow_keep hown ((Only.refl (fun x => x = a) w2).set (p := ⟨a, 0, none⟩) (.inl rfl) _) (fun x hx hs => ?_)
    subst hs
    rcases hv' x hx with hh | hh
    · exact hva hh
    · omega
  · rcases hv' x hx with hh | hh
    · exact h.vge x hh
    · have := h.bel.size
      exact ⟨by omega, by omega⟩
/-- and a box t of four bytes -/
structure OfT (w wx : World) (a : Nat) (v : Value) (i : Nat) (W : List UInt8) (T : Nat) (t : List UInt8) : Prop where
  o : OfW w wx a v i W
  tb : Blk wx T 89 (barr t)
  tge : w.heap.size ≤ T
  ta : T ≠ a
  tv : ¬ fpv v T
section
variable {w wx wy : World} {a i T : Nat} {v : Value} {W t : List UInt8}
theorem OfT.below (h : OfT w wx a v i W T t) (hb : Below wx.heap.size wx wy) : OfT w wy a v i W T t := ⟨h.o.below hb, h.tb.below hb h.tb.lt, h.tge, h.ta, h.tv⟩
theorem OfT.draw (h : OfT w wx a v i W T t) (m : Nat) : OfT w (wx.drewN m) a v i W T t := h.below (drew_below wx m)
theorem OfT.only' (h : OfT w wx a v i W T t) (ho : Only (fun x => x = T) wx wy) : OfW w wy a v i W :=
  h.o.only ho (fun e => h.ta e.symm) (fun x hx e => h.tv (by rw [← e]; exact hx)) (fun x e => by rw [e]; exact h.tge)
theorem OfT.row (h : OfT w wx a v i W T t) (t' : List UInt8) : OfT w (wx.setRow T (barr t')) a v i W T t' :=
  ⟨h.only' (Only.row (S := fun x => x = T) (Only.refl _ _) (.inl rfl) _), h.tb.row _, h.tge, h.ta, h.tv⟩
theorem OfT.set (h : OfT w wx a v i W T t) (j : Nat) (x : UInt8) : OfT w (wx.setCell ⟨T, j, none⟩ (.int .u8 (x.toNat : Int))) a v i W T (t.set j x) :=
  ⟨h.only' (Only.set (S := fun x => x = T) (p := ⟨T, j, none⟩) (Only.refl _ _) (.inl rfl) _), by rw [← barr_set]; exact h.tb.set j _, h.tge, h.ta, h.tv⟩
theorem OfW.boxed (h : OfW w wx a v i W) (t : List UInt8) : OfT w ((wx.alloc (.cells (barr (List.replicate 4 0)) 89)).setRow wx.heap.size (barr t)) a v i W wx.heap.size t := by
  have h2 := h.below ((Below.refl _ wx).alloc (Nat.le_refl _) (.cells (barr (List.replicate 4 0)) 89))
  have hT : OfT w (wx.alloc (.cells (barr (List.replicate 4 0)) 89)) a v i W wx.heap.size (List.replicate 4 0) :=
    ⟨h2, Blk.at rfl rfl, h.bel.size, fun e => absurd h.blk.lt (by omega), fun hx => by
      have := (World.ownsRow.lt h.row wx.heap.size hx).2
      omega⟩
  exact hT.row t
end
theorem wordAt_at {wx : World} {a g n cap : Nat} {W : List UInt8} (h : RA wx a g n cap W) (j : Nat) (hj : j < n) : wx.rangeAt g (j * 4) ((wordAt W j).map B) := by
  intro b u hb
  have hl := h.le
  have hb4 : b < 4 := by
    have := (List.getElem?_eq_some_iff.1 hb).1
    simpa [wordAt] using this
  have e := h.word (j * 4 + b) (by omega)
  rw [e]
  rw [← hb, show j * 4 + b = 4 * j + b from by omega]
  rcases (by omega : b = 0 ∨ b = 1 ∨ b = 2 ∨ b = 3) with rfl | rfl | rfl | rfl <;> rfl
end Go.Proofs.Ytpampcokonicfaa
namespace Go.Proofs.Ytpampcokonicfaa
open Go.RowKit
set_option maxRecDepth 100000
set_option linter.unusedVariables false
set_option linter.unusedSimpArgs false
theorem rangeAt_blk13 {w : World} {b : Nat} {t : TypeId} {l : List UInt8} (h : Blk w b t (barr l)) : w.rangeAt b 0 (l.map B) := fun j u hu => by
  rw [Nat.zero_add]
  exact h.cellAt j (by simpa [barr] using hu)
theorem op_yields {P : Program} {ops : Array Oper} {S : World → Prop} {o : Oper} {v : Value} {i : Nat} {a : Act} {w : World} {K : Act → World → Prop} {Q : Exit → Act → World → Prop} (ho : ops[i]? = some o) (hy : YieldsIf P ops S o v a) (hS : S w) (h : K (a.put o.dst v) w) : wpOp P ops Q i K a w := hy.wpOp ho hS h
theorem rblocks_any (n : Nat) (w : World) (hn : n ≤ 140737488355328) : Calls Try.prog 75 #[.int .i64 (n : Int)] w fun e w' => e = .returned (.int .i64 (nBlk n : Int)) ∧ w = w' := by
  unfold nBlk
  by_cases h0 : n = 0
  · subst h0
    rw [if_pos rfl]
    go_enter Try.func75, Try.ntmps75
    go_wp2
    go_ret
    exact ⟨rfl, rfl⟩
  · have t0 : ((n : Int) == 0) = false := by rw [beq_eq_false_iff_ne]; omega
    obtain ⟨q, hq⟩ : ∃ q, (n + 15) / 16 = q := ⟨_, rfl⟩
    have hqI : ((n : Int) + 15) / 16 = (q : Int) := by omega
    have hq2 : q ≤ 140737488355328 := by omega
    rw [if_neg h0, hq]
    clear h0 hq
    go_enter Try.func75, Try.ntmps75
    go_wp2
    go_ret
    refine ⟨?_, rfl⟩
    show Ending.returned (.int .i64 (((n : Int) + 15) / 16)) = _
    rw [hqI]
set_option maxHeartbeats 1000000 in
theorem rxored_any (l m : List UInt8) (hl : l.length = 16) (hm : m.length = 16) (w : World) :
    Calls Try.prog 83 #[.agg (barr l), .agg (barr m)] w fun e w' => e = .returned (.agg (barr (xorB l m))) ∧ Below w.heap.size w w' := by
  have HL := Lib.hid hl
  have HM := Lib.hid hm
  clear hl hm
  go_enter Try.func83, Try.ntmps83
  go_wp2_with fail
  go_loopw [5] (fun i w1 => ∃ k : Nat, k ≤ 16 ∧ i = .int .i64 (k : Int) ∧ Blk w1 w.heap.size 31 (barr (mixT 16 (fun j => l.getD j 0 ^^^ m.getD j 0) (fun j => l.getD j 0) k)) ∧ Blk w1 (w.heap.size + 1) 31 (barr m) ∧ Blk w1 (w.heap.size + 1 + 1) 31 (barr (List.replicate 16 0)) ∧ Below w.heap.size w w1) (fun i _ => 16 - (intOf i).toNat)
  case atStart =>
    refine ⟨0, by omega, rfl, ?_, ?_, ?_, ?_⟩
    · rw [mixT_zero, tab_self l HL.out]
      exact ((Blk.at rfl rfl).alloc _).alloc _
    · exact (Blk.at (by simp) rfl).alloc _
    · exact Blk.at (by simp) rfl
    · exact (((Below.refl _ _).alloc (Nat.le_refl _) _).alloc (by simp) _).alloc (by simp; omega) _
  case round =>
    obtain ⟨k, hk, rfl, h0, h1, h2, hb⟩ := hrel
    by_cases hlt : k < 16
    · have c0 := h0.cellAt k (barr_getD _ k (by rw [mixT_len]; exact hlt))
      rw [mixT_at _ _ _ _ hlt] at c0
      have f0 := h0.unfrozen k
      have c1 := h1.cellAt k (barr_getD m k (by rw [HM.out]; exact hlt))
      have f1 := h1.unfrozen k
      generalize hx : l.getD k 0 = x at c0
      generalize hy : m.getD k 0 = y at c1
      have x0 := u8_hi x
      have y0 := u8_hi y
      have HX := Lib.hid hx
      have HY := Lib.hid hy
      clear hx hy
      go_wp2_with fail
      go_region
      all_goals go_wp2_with fail
      all_goals go_roundw
      case rel =>
        refine ⟨k + 1, by omega, by go_num, ?_, ?_, ?_, ?_⟩
        · have h := (h0.set k (.int .u8 ((x ^^^ y).toNat : Int))).drew
          have e : mixT 16 (fun j => l.getD j 0 ^^^ m.getD j 0) (fun j => l.getD j 0) (k + 1) = (mixT 16 (fun j => l.getD j 0 ^^^ m.getD j 0) (fun j => l.getD j 0) k).set k (x ^^^ y) := by
            rw [← mixT_succ, HX.out, HY.out]
          rw [e, ← barr_set, xorU]
          exact h
        · exact (h1.set_ne (by simp) _).drew
        · exact (h2.set_ne (by simp; omega) _).drew
        · exact (hb.setCell (by simp) _).drew
      case measure => simp [intOf]; omega
    · have h0' : Blk wr w.heap.size 31 (barr (xorB l m)) := by
        have e : k = 16 := by omega
        rw [e, mixT_end] at h0
        exact h0
      clear h0
      go_wp2_with (first | ((with_reducible change wpList _ _ _ (Oper.mk _ (Op.load 31 _) _ _ _ _ :: _) _ _); refine wpList_load_blk (ty := 31) w.heap.size rfl h0' Try.underlying31 rfl size16 (by rw [barr_size, xorB_len]) ?_) | ((with_reducible change wpList _ _ _ (Oper.mk _ (Op.store 31 _ _) _ _ _ _ :: _) _ _); refine wpList_store_blk (ty := 31) (w.heap.size + 1 + 1) (barr (xorB l m)) rfl rfl h2 size16 (by rw [barr_size, xorB_len]) (barr_size _) (barr_one _) ?_))
      refine bodyPost_ret (results_cell_blk rfl _ _ (w.heap.size + 1 + 1) rfl (h2.row _) Try.underlying31 rfl size16 (by rw [barr_size, xorB_len])) rfl ⟨rfl, ?_⟩
      exact below_row hb (by omega) _
set_option maxHeartbeats 1000000 in
theorem rblock13_any (v : Value) (p : List UInt8) (i : Nat) (w : World) (hv : Bs w v p) (hl : p.length ≤ 140737488355328) (hi : i ≤ 8796093022208) :
    Calls Try.prog 82 #[v, .int .i64 (i : Int)] w fun e w' => e = .returned (.agg (barr (blkAt p i))) ∧ Below w.heap.size w w' := by
  obtain ⟨ao, cap, rfl, h1, h2, _, hc⟩ := hv.form
  have hcell : ∀ j, j < p.length → ∃ g off, ao = some ⟨g, off, none⟩ ∧ g < w.heap.size ∧ w.cell? ⟨g, off + j, none⟩ = some (.int .u8 ((p.getD j 0).toNat : Int)) := fun j hj => by
    obtain ⟨g, off, ha, hx⟩ := hc j hj
    exact ⟨g, off, ha, World.block_lt_of_cell? w _ hx, hx⟩
  have HCELL := Lib.hid hcell
  clear hv hc hcell
  go_enter Try.func82, Try.ntmps82
  go_wp2_with fail
  go_loopw [6] (fun iv w1 => ∃ k : Nat, k ≤ 16 ∧ iv = .int .i64 (k : Int) ∧ Blk w1 w.heap.size 31 (barr (List.replicate 16 0)) ∧ Blk w1 (w.heap.size + 1) 31 (barr (mixT 16 (fun j => p.getD (16 * i + j) 0) (fun _ => 0) k)) ∧ Below w.heap.size w w1) (fun iv _ => 16 - (intOf iv).toNat)
  case atStart =>
    refine ⟨0, by omega, rfl, (Blk.at rfl rfl).alloc _, ?_, ((Below.refl _ _).alloc (Nat.le_refl _) _).alloc (by simp) _⟩
    rw [mixT_zero, tab_zero]
    exact Blk.at (by simp) rfl
  case round =>
    obtain ⟨k, hk, rfl, g0, g1, hb⟩ := hrel
    obtain ⟨s, hs⟩ : ∃ s, 16 * i + k = s := ⟨_, rfl⟩
    have hsI : 16 * (i : Int) + (k : Int) = (s : Int) := by omega
    have hs2 : s ≤ 140737488355400 := by omega
    have HS := Lib.hid hs
    clear hs
    by_cases hlt : k < 16
    · have t1 : decide ((k : Int) < 16) = true := by rw [decide_eq_true_eq]; omega
      by_cases hin : s < p.length
      · have t2 : decide ((s : Int) < (p.length : Int)) = true := by rw [decide_eq_true_eq]; omega
        obtain ⟨g, off, rfl, hg, c0'⟩ := HCELL.out s hin
        have c0 := (hb.cell hg).trans c0'
        have c1 := g1.cellAt k (barr_getD _ k (by rw [mixT_len]; exact hlt))
        have f1 := g1.unfrozen k
        have hbl := g1.lt
        generalize hx : p.getD s 0 = x at c0
        have HX := Lib.hid hx
        have bs : 0 ≤ (s : Int) ∧ (s : Int) < (p.length : Int) := by omega
        clear hx c0'
        go_wp2_with fail
        go_roundw
        case rel =>
          refine ⟨k + 1, by omega, by go_num, g0.set_ne (by simp) _, ?_, hb.setCell (by simp) _⟩
          have h := g1.set k (.int .u8 (x.toNat : Int))
          have e : mixT 16 (fun j => p.getD (16 * i + j) 0) (fun _ => 0) (k + 1) = (mixT 16 (fun j => p.getD (16 * i + j) 0) (fun _ => 0) k).set k x := by
            rw [← mixT_succ, HS.out, HX.out]
          rw [barr_set, ← e] at h
          exact h
        case measure => simp [intOf]; omega
      · have t2 : decide ((s : Int) < (p.length : Int)) = false := by rw [decide_eq_false_iff_not]; omega
        have e : mixT 16 (fun j => p.getD (16 * i + j) 0) (fun _ => 0) k = blkAt p i := tab_ext _ _ _ fun j hj => by
          by_cases hjk : j < k
          · rw [if_pos hjk]
          · rw [if_neg hjk, List.getD_eq_getElem?_getD, List.getElem?_eq_none (by have := HS.out; omega)]
            rfl
        rw [e] at g1
        have hs16 : (barr (blkAt p i)).size = 16 := by rw [barr_size, blkAt_len]
        clear e
        go_wp2_with (first | ((with_reducible change wpList _ _ _ (Oper.mk _ (Op.load 31 _) _ _ _ _ :: _) _ _); refine wpList_load_blk (ty := 31) (w.heap.size + 1) rfl g1 Try.underlying31 rfl size16 hs16 ?_) | ((with_reducible change wpList _ _ _ (Oper.mk _ (Op.store 31 _ _) _ _ _ _ :: _) _ _); refine wpList_store_blk (ty := 31) w.heap.size (barr (blkAt p i)) rfl rfl g0 size16 hs16 (barr_size _) (barr_one _) ?_))
        refine bodyPost_ret (results_cell_blk rfl _ _ w.heap.size rfl (g0.row _) Try.underlying31 rfl size16 hs16) rfl ⟨rfl, below_row hb (Nat.le_refl _) _⟩
    · have t1 : decide ((k : Int) < 16) = false := by rw [decide_eq_false_iff_not]; omega
      have e : mixT 16 (fun j => p.getD (16 * i + j) 0) (fun _ => 0) k = blkAt p i := by
        rw [show k = 16 from by omega, mixT_end]
        rfl
      rw [e] at g1
      have hs16 : (barr (blkAt p i)).size = 16 := by rw [barr_size, blkAt_len]
      clear e
      go_wp2_with (first | ((with_reducible change wpList _ _ _ (Oper.mk _ (Op.load 31 _) _ _ _ _ :: _) _ _); refine wpList_load_blk (ty := 31) (w.heap.size + 1) rfl g1 Try.underlying31 rfl size16 hs16 ?_) | ((with_reducible change wpList _ _ _ (Oper.mk _ (Op.store 31 _ _) _ _ _ _ :: _) _ _); refine wpList_store_blk (ty := 31) w.heap.size (barr (blkAt p i)) rfl rfl g0 size16 hs16 (barr_size _) (barr_one _) ?_))
      refine bodyPost_ret (results_cell_blk rfl _ _ w.heap.size rfl (g0.row _) Try.underlying31 rfl size16 hs16) rfl ⟨rfl, below_row hb (Nat.le_refl _) _⟩
theorem chainN_len {E : List UInt8 → List UInt8} (hE : ∀ b, (E b).length = 16) (p : List UInt8) : ∀ i, (chainN E p i).length = 16
  | 0 => by simp [chainN, zB]
  | i + 1 => hE _
set_option maxHeartbeats 2000000 in
theorem rchain_any (a g n cap : Nat) (K p : List UInt8) (v : Value) (w : World) (h : RA w a g n cap K) (R : Nat) (hn : n = 4 * (R + 1)) (hR : R ≤ 14) (hv : Bs w v p) (hl : p.length ≤ 140737488350000) :
    Calls Try.prog 84 #[.pointer (some ⟨a, 0, none⟩), v] w fun e w' => e = .returned (.agg (barr (chainN (enc K R) p (lastB p.length)))) ∧ Below w.heap.size w w' := by
  have HR := Lib.hid h
  have HV := Lib.hid hv
  have HN := Lib.hid hn
  obtain ⟨ao, vc, rfl, h1, h2, _, _⟩ := hv.form
  clear h hv hn
  have hE : ∀ i, (chainN (enc K R) p i).length = 16 := chainN_len (fun b => enc_len _ _ _) p
  have HE := Lib.hid hE
  clear hE
  have hlB : lastB p.length ≤ 8796093022208 := by unfold lastB nBlk; split <;> omega
  have hnB : (nBlk p.length : Int) - 1 = (lastB p.length : Int) := by unfold lastB nBlk; split <;> omega
  have HBL : Hid (∀ W : World, Calls Try.prog 75 #[.int .i64 (p.length : Int)] W fun e w' => e = .returned (.int .i64 (nBlk p.length : Int)) ∧ W = w') := Lib.hid (fun W => rblocks_any p.length W (by omega))
  obtain ⟨Bn, hBn⟩ : ∃ y, lastB p.length = y := ⟨_, rfl⟩
  rw [hBn] at hlB hnB ⊢
  clear hBn
  generalize nBlk p.length = NB at hnB HBL
  obtain ⟨n0, hn0⟩ : ∃ y, w.heap.size = y := ⟨_, rfl⟩
  have HN0 := Lib.hid hn0
  have hz16 : (barr (List.replicate 16 (0 : UInt8))).size = 16 := by rw [barr_size]; rfl
  go_enter Try.func84, Try.ntmps84
  go_upto_region 2 with fail
  obtain ⟨w1, hw1⟩ : ∃ y, (w.alloc (.cells (barr (List.replicate 16 0)) 31)).alloc (.cells (barr (List.replicate 16 0)) 31) = y := ⟨_, rfl⟩
  have H1 : Hid (Blk w1 n0 31 (barr (List.replicate 16 0)) ∧ Blk w1 (n0 + 1) 31 (barr (chainN (enc K R) p 0)) ∧ Below w.heap.size w w1) := by
    rw [← hw1, ← hn0]
    exact Lib.hid ⟨(Blk.at rfl rfl).alloc _, Blk.at (by simp) rfl, ((Below.refl _ _).alloc (Nat.le_refl _) _).alloc (by simp) _⟩
  change Code.wp _ _ _ _ ((w.alloc (.cells (barr (List.replicate 16 0)) 31)).alloc (.cells (barr (List.replicate 16 0)) 31))
  rw [hw1]
  try rw [hn0]
  clear hw1 hn0
  go_wp2_with fail
  go_loopw [6] (fun iv wx => ∃ i : Nat, i ≤ Bn ∧ iv = .int .i64 (i : Int) ∧ Hid (Blk wx n0 31 (barr (List.replicate 16 0)) ∧ Blk wx (n0 + 1) 31 (barr (chainN (enc K R) p i)) ∧ Below w.heap.size w wx)) (fun iv _ => Bn - (intOf iv).toNat)
  case atStart => exact ⟨0, by omega, rfl, H1⟩
  case round =>
    obtain ⟨i, hi, rfl, H⟩ := hrel
    clear H1
    go_wp2_with fail
    refine (HBL.out wr).mono ?_
    rintro e w' ⟨rfl, rfl⟩
    by_cases hlt : i < Bn
    · have t1 : decide ((i : Int) < (Bn : Int)) = true := by rw [decide_eq_true_eq]; omega
      go_upto_region 5 with fail
      refine hd_start (fun _ => True) (by kernel_rfl) ?_
      intro w4 hw'
      subst hw'
      have hx4 : Blk (wr.drewN 1) (n0 + 1) 31 (barr (chainN (enc K R) p i)) := H.out.2.1
      have hr4 : Blk (wr.drewN 1) n0 31 (barr (List.replicate 16 0)) := H.out.1
      have HB4 : Hid (Below w.heap.size w (wr.drewN 1)) := Lib.hid (H.out.2.2.trans ((drew_below wr 1).mono H.out.2.2.size))
      have S4 := trivial
      refine hd_take (v := ?_) 0 rfl (by kernel_rfl) (fun _ _ d _ _ h => (by cases d <;> exact h)) (by kernel_rfl) S4 (fun w' hS => ?_) ?_
      rotate_left
      focus (clear hS; go_simp; try rfl; done)
      simp only [List.getElem_toArray, List.getElem_cons_succ, List.getElem_cons_zero, Act.put, List.setIfInBounds_toArray, List.set_cons_zero, List.set_cons_succ]
      refine hd_take (v := ?_) 2 rfl (by kernel_rfl) (fun _ _ d _ _ h => (by cases d <;> exact h)) (by kernel_rfl) S4 (fun w' hS => ?_) ?_
      rotate_left
      focus (clear hS; go_simp; try rfl; done)
      simp only [List.getElem_toArray, List.getElem_cons_succ, List.getElem_cons_zero, Act.put, List.setIfInBounds_toArray, List.set_cons_zero, List.set_cons_succ]
      refine hd_take (v := ?_) 3 rfl (by kernel_rfl) (fun _ _ d _ _ h => (by cases d <;> exact h)) (by kernel_rfl) S4 (fun w' hS => ?_) ?_
      rotate_left
      focus (clear hS; go_simp; try rfl; done)
      simp only [List.getElem_toArray, List.getElem_cons_succ, List.getElem_cons_zero, Act.put, List.setIfInBounds_toArray, List.set_cons_zero, List.set_cons_succ]
      refine hd_two 1 4 (by kernel_rfl) ?_ ?_
      · skip
        refine op_yields rfl (yieldsIf_load_mid (S := fun W => W = wr.drewN 1) (by kernel_rfl) 31 _ rfl (n0 + 1) 0 rfl ((chainN (enc K R) p i).map B) _ (fun W hW => by rw [hW]; exact rangeAt_blk13 hx4) Try.underlying31 rfl (size16.trans (by rw [List.length_map, HE.out i]))) rfl ⟨trivial, ?_⟩
        simp only [List.getElem_toArray, List.getElem_cons_succ, List.getElem_cons_zero, Act.put, List.setIfInBounds_toArray, List.set_cons_zero, List.set_cons_succ]
        refine hd_one 4 (by kernel_rfl) ?_
        refine op_call rfl (by kernel_rfl) (by go_simp; first | exact ⟨rfl, rfl⟩ | rfl) ?_
        refine (rblock13_any _ p i (wr.drewN 1) (HV.out.grow HB4.out) (by omega) (by omega)).mono ?_
        rintro e w5 ⟨he, hb5⟩
        subst he
        have HB5 := Lib.hid (HB4.out.trans (hb5.mono HB4.out.size))
        have hx5 := hx4.below hb5 hx4.lt
        have hr5 := hr4.below hb5 hr4.lt
        have hS2 := trivial
        refine ⟨_, rfl, hS2, ?_⟩
        simp only [List.getElem_toArray, List.getElem_cons_succ, List.getElem_cons_zero, Act.put, List.setIfInBounds_toArray, List.set_cons_zero, List.set_cons_succ]
        refine hd_one 5 (by kernel_rfl) ?_
        refine op_call rfl (by kernel_rfl) (by go_simp; first | exact ⟨rfl, rfl⟩ | rfl) ?_
        refine (rxored_any (chainN (enc K R) p i) (blkAt p i) (HE.out i) (blkAt_len p i) w5).mono ?_
        rintro e w6 ⟨he, hb6⟩
        subst he
        have HB6 := Lib.hid (HB5.out.trans (hb6.mono HB5.out.size))
        have hx6 := hx5.below hb6 hx5.lt
        have hr6 := hr5.below hb6 hr5.lt
        have hS2 := trivial
        refine ⟨_, rfl, hS2, ?_⟩
        simp only [List.getElem_toArray, List.getElem_cons_succ, List.getElem_cons_zero, Act.put, List.setIfInBounds_toArray, List.set_cons_zero, List.set_cons_succ]
        refine hd_one 6 (by kernel_rfl) ?_
        refine op_call rfl (by kernel_rfl) (by go_simp; first | exact ⟨rfl, rfl⟩ | rfl) ?_
        refine (rencrypt_any a g n cap K (xorB (chainN (enc K R) p i) (blkAt p i)) w6 (HR.out.below HB6.out) (xorB_len _ _) R HN.out hR).mono ?_
        rintro e w7 ⟨he, hb7⟩
        subst he
        have HB7 := Lib.hid (HB6.out.trans (hb7.mono HB6.out.size))
        have hx7 := hx6.below hb7 hx6.lt
        have hr7 := hr6.below hb7 hr6.lt
        have hS2 := trivial
        refine ⟨_, rfl, hS2, ?_⟩
        simp only [List.getElem_toArray, List.getElem_cons_succ, List.getElem_cons_zero, Act.put, List.setIfInBounds_toArray, List.set_cons_zero, List.set_cons_succ]
        refine hd_one 7 (by kernel_rfl) ?_
        refine op_store_blk2 (n0 + 1) (barr (enc K R (xorB (chainN (enc K R) p i) (blkAt p i)))) rfl (by kernel_rfl) rfl rfl hx7 size16 (by rw [barr_size, enc_len]) (by rw [barr_size]; exact HE.out i) (barr_one _) ?_
        intro w9 B9 O9
        have HF : Hid (Blk w9 n0 31 (barr (List.replicate 16 0)) ∧ Blk w9 (n0 + 1) 31 (barr (chainN (enc K R) p (i + 1))) ∧ Below w.heap.size w w9) :=
          Lib.hid ⟨hr7.only O9 (by omega), B9, HB7.out.trans (O9.below0 (fun x hx hs => by have := HN0.out; omega) HB7.out.size)⟩
        simp only [List.getElem_toArray, List.getElem_cons_succ, List.getElem_cons_zero, Act.put, List.setIfInBounds_toArray, List.set_cons_zero, List.set_cons_succ]
        refine ⟨trivial, ?_⟩
        refine hd_done (by kernel_rfl) ?_
        clear hx5 hr5 hx6 hr6 hx7 hr7 B9 O9
        go_wp2_with fail
        go_roundw
        case rel => exact ⟨i + 1, by omega, by go_num, HF⟩
        case measure => simp [intOf]; omega
      · skip
        refine op_call rfl (by kernel_rfl) (by go_simp; first | exact ⟨rfl, rfl⟩ | rfl) ?_
        refine (rblock13_any _ p i (wr.drewN 1) (HV.out.grow HB4.out) (by omega) (by omega)).mono ?_
        rintro e w5 ⟨he, hb5⟩
        subst he
        have HB5 := Lib.hid (HB4.out.trans (hb5.mono HB4.out.size))
        have hx5 := hx4.below hb5 hx4.lt
        have hr5 := hr4.below hb5 hr4.lt
        have hS2 := trivial
        refine ⟨_, rfl, hS2, ?_⟩
        simp only [List.getElem_toArray, List.getElem_cons_succ, List.getElem_cons_zero, Act.put, List.setIfInBounds_toArray, List.set_cons_zero, List.set_cons_succ]
        refine hd_one 1 (by kernel_rfl) ?_
        refine op_yields rfl (yieldsIf_load_mid (S := fun W => W = w5) (by kernel_rfl) 31 _ rfl (n0 + 1) 0 rfl ((chainN (enc K R) p i).map B) _ (fun W hW => by rw [hW]; exact rangeAt_blk13 hx5) Try.underlying31 rfl (size16.trans (by rw [List.length_map, HE.out i]))) rfl ⟨trivial, ?_⟩
        simp only [List.getElem_toArray, List.getElem_cons_succ, List.getElem_cons_zero, Act.put, List.setIfInBounds_toArray, List.set_cons_zero, List.set_cons_succ]
        refine hd_one 5 (by kernel_rfl) ?_
        refine op_call rfl (by kernel_rfl) (by go_simp; first | exact ⟨rfl, rfl⟩ | rfl) ?_
        refine (rxored_any (chainN (enc K R) p i) (blkAt p i) (HE.out i) (blkAt_len p i) w5).mono ?_
        rintro e w6 ⟨he, hb6⟩
        subst he
        have HB6 := Lib.hid (HB5.out.trans (hb6.mono HB5.out.size))
        have hx6 := hx5.below hb6 hx5.lt
        have hr6 := hr5.below hb6 hr5.lt
        have hS2 := trivial
        refine ⟨_, rfl, hS2, ?_⟩
        simp only [List.getElem_toArray, List.getElem_cons_succ, List.getElem_cons_zero, Act.put, List.setIfInBounds_toArray, List.set_cons_zero, List.set_cons_succ]
        refine hd_one 6 (by kernel_rfl) ?_
        refine op_call rfl (by kernel_rfl) (by go_simp; first | exact ⟨rfl, rfl⟩ | rfl) ?_
        refine (rencrypt_any a g n cap K (xorB (chainN (enc K R) p i) (blkAt p i)) w6 (HR.out.below HB6.out) (xorB_len _ _) R HN.out hR).mono ?_
        rintro e w7 ⟨he, hb7⟩
        subst he
        have HB7 := Lib.hid (HB6.out.trans (hb7.mono HB6.out.size))
        have hx7 := hx6.below hb7 hx6.lt
        have hr7 := hr6.below hb7 hr6.lt
        have hS2 := trivial
        refine ⟨_, rfl, hS2, ?_⟩
        simp only [List.getElem_toArray, List.getElem_cons_succ, List.getElem_cons_zero, Act.put, List.setIfInBounds_toArray, List.set_cons_zero, List.set_cons_succ]
        refine hd_one 7 (by kernel_rfl) ?_
        refine op_store_blk2 (n0 + 1) (barr (enc K R (xorB (chainN (enc K R) p i) (blkAt p i)))) rfl (by kernel_rfl) rfl rfl hx7 size16 (by rw [barr_size, enc_len]) (by rw [barr_size]; exact HE.out i) (barr_one _) ?_
        intro w9 B9 O9
        have HF : Hid (Blk w9 n0 31 (barr (List.replicate 16 0)) ∧ Blk w9 (n0 + 1) 31 (barr (chainN (enc K R) p (i + 1))) ∧ Below w.heap.size w w9) :=
          Lib.hid ⟨hr7.only O9 (by omega), B9, HB7.out.trans (O9.below0 (fun x hx hs => by have := HN0.out; omega) HB7.out.size)⟩
        simp only [List.getElem_toArray, List.getElem_cons_succ, List.getElem_cons_zero, Act.put, List.setIfInBounds_toArray, List.set_cons_zero, List.set_cons_succ]
        refine ⟨trivial, ?_⟩
        refine hd_done (by kernel_rfl) ?_
        clear hx5 hr5 hx6 hr6 hx7 hr7 B9 O9
        go_wp2_with fail
        go_roundw
        case rel => exact ⟨i + 1, by omega, by go_num, HF⟩
        case measure => simp [intOf]; omega
    · have t1 : decide ((i : Int) < (Bn : Int)) = false := by rw [decide_eq_false_iff_not]; omega
      have hiB : i = Bn := by omega
      have g1 := H.out.2.1
      rw [hiB] at g1
      have g0 := H.out.1
      have hs16 : (barr (chainN (enc K R) p Bn)).size = 16 := by rw [barr_size]; exact HE.out Bn
      go_wp2_with (first | ((with_reducible change wpList _ _ _ (Oper.mk _ (Op.load 31 _) _ _ _ _ :: _) _ _); refine wpList_load_blk (ty := 31) (n0 + 1) rfl g1 Try.underlying31 rfl size16 hs16 ?_) | ((with_reducible change wpList _ _ _ (Oper.mk _ (Op.store 31 _ _) _ _ _ _ :: _) _ _); refine wpList_store_blk (ty := 31) n0 (barr (chainN (enc K R) p Bn)) rfl rfl g0 size16 hs16 hz16 (barr_one _) ?_))
      refine bodyPost_ret (results_cell_blk rfl _ _ n0 rfl (g0.row _) Try.underlying31 rfl size16 hs16) rfl ⟨rfl, below_row H.out.2.2 (by have := HN0.out; omega) _⟩
end Go.Proofs.Ytpampcokonicfaa
