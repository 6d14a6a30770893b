/- The walk of SlotLast. -/
import Derived.Test.YtaphjdfpffhpfaaRows
import Derived.Test.YtaphjdfpffhpfaaSlotNil
import Derived.Test.YtaphjdfpffhpfaaSlotNames
import Derived.Test.YtaphjdfpffhpfaaCtMem
import Derived.Test.YtaphjdfpffhpfaaOpenL
import Derived.Test.YtaphjdfpffhpfaaHeld
import Derived.Deep.DeepCutAuto
import Derived.Deep.CutBlock
namespace Go.Proofs.Ytaphjdfpffhpfaa
open Go.RowKit
set_option maxRecDepth 100000
set_option linter.unusedVariables false
set_option linter.unusedSimpArgs false

theorem exec_load_blk {P : Program} {a : Act} {w : World} {d : Option Tmp} {ty ot : TypeId} {x : Operand} {pos : String} {aft : Array Edge} {gd : Option (Nat × Bool)} (g : Nat) (hx : a.eval x = .pointer (some ⟨g, 0, none⟩)) {t : TypeId} {cs : Array Value} {de : TypeDesc} {n : Nat} (hg : Blk w g t cs)
    (hu : P.underlying ty = some de) (hd : (match de with | .struct _ | .array _ _ => true | _ => false) = true) (hi : (P.info? ty).map (·.size) = some n) (hn : cs.size = n) :
    (execOp a.eval ⟨d, .load ty x, ot, pos, aft, gd⟩).run P w = .ok (.value (.agg cs)) w := by
  simp only [execOp, hx, Instr.loadAt, Instr.sureAddr, Sem.run_bind, Sem.run_pure, Result.andThen_ok, run_loadVar_row w g t ty cs (0, 0) de hg hu hd (by rw [hi, hn])]
theorem fill_end (l : List UInt8) (h : l.length ≤ 1024) : fillTo (pad l) l.length = pad l := by
  unfold fillTo
  rw [pad_take, pad_len l h]
  rfl
theorem fill_zero (l : List UInt8) (h : l.length ≤ 1024) : fillTo (pad l) 0 = List.replicate 1024 0 := by
  rw [fillTo_zero, pad_len l h]
theorem fill_succ (l : List UInt8) (h : l.length ≤ 1024) (k : Nat) (hk : k < l.length) : (fillTo (pad l) k).set k (l.getD k 0) = fillTo (pad l) (k + 1) := by
  have e : l.getD k 0 = (pad l).getD k 0 := by
    unfold pad
    rw [List.getD_eq_getElem?_getD, List.getD_eq_getElem?_getD, List.getElem?_append_left hk]
  rw [e]
  exact fillTo_succ (pad l) k (by rw [pad_len l h]; omega)
set_option maxHeartbeats 8000000 in
theorem slotLast.walk {w : World} (v0 : Value) (puts : List (List UInt8)) (h0 : InL w v0 puts) (v1 : Value) (wipes : List Bool) (h1 : InBo w v1 wipes) (v2 : Value) (other : List UInt8) (h2 : Bs w v2 other) :
    Calls Try.prog 6 #[v0, v1, v2] w fun e w' => e = .returned (.bool true) ∧ Below w.heap.size w w' := by
  obtain ⟨ao, cap, rfl, k1, k2, hp⟩ := h0
  obtain ⟨bo, dap, rfl, k3, k4, hw⟩ := h1
  obtain ⟨co, eap, rfl, _⟩ := h2.form
  have HP := Lib.hid hp
  have HW := Lib.hid hw
  have HO := Lib.hid h2
  have hla : puts.length ≤ 9223372036854775807 := by omega
  have hlb : wipes.length ≤ 9223372036854775807 := by omega
  clear hp hw h2
  go_enter Try.func6, Try.ntmps6
  go_wp2_with fail
  refine (newM_env (Env.start w)).mono ?_
  rintro e w1 ⟨m, rfl, h5⟩
  have H1 := Lib.hid h5
  clear h5
  go_wp2_with fail
  refine (newM_env H1.out).mono ?_
  rintro e w2 ⟨q, rfl, h5⟩
  have H2 := Lib.hid h5
  clear h5 H1
  go_wp2_with fail
  refine (slotAwake_any w2).mono ?_
  rintro e w3 ⟨rfl, hb⟩
  have H3 : Hid (Env w w3 [obM (.pointer (some ⟨m, 0, none⟩)) (.is []), obM (.pointer (some ⟨q, 0, none⟩)) (.is [])]) := Lib.hid (H2.out.below hb)
  clear hb H2
  go_wp2_with fail
  go_loopw [9, 10] (fun lv iv wx => ∃ (i : Nat) (L : List UInt8) (lo : Option Addr) (lc : Nat), i ≤ puts.length ∧ iv = .int .i64 (i : Int) ∧ lv = .slice lo L.length lc ∧ L.length ≤ 1024 ∧ Hid (Bs w (.slice lo L.length lc) L) ∧ Hid (Env w wx [obM (.pointer (some ⟨m, 0, none⟩)) (.is L), obM (.pointer (some ⟨q, 0, none⟩)) (.is [])])) (fun _ i _ => puts.length - (intOf i).toNat)
  case atStart => exact ⟨0, [], none, 0, Nat.zero_le _, rfl, rfl, by simp, Lib.hid (Bs.nil w), H3⟩
  case round =>
    obtain ⟨i, L, lo, lc, hi, rfl, rfl, hL, HL, H⟩ := hrel
    clear H3
    by_cases hlt : i < puts.length
    · obtain ⟨l, hl⟩ : ∃ l, puts[i]? = some l := ⟨_, List.getElem?_eq_getElem hlt⟩
      obtain ⟨b, off, c, rfl, hc, hcl⟩ := HP.out i l hl
      obtain ⟨xo, xc, rfl, k5, k6, _, _⟩ := hcl.form
      have hxl : l.length ≤ 9223372036854775807 := by omega
      have HC := Lib.hid hcl
      have HCE := Lib.hid hc
      have d1 : wr.cell? ⟨b, off + i, none⟩ = some (.slice xo l.length xc) := (H.out.base.cell (World.block_lt_of_cell? w _ hc)).trans hc
      clear hl hcl hc
      go_wp2_with fail
      refine (putM_env H.out 0 rfl (Src.old H.out 0 HC.out)).mono ?_
      rintro e w5 ⟨rfl, h5⟩
      have H5 := Lib.hid h5
      clear h5 d1 H
      have d1 : w5.cell? ⟨b, off + i, none⟩ = some (.slice xo l.length xc) := (H5.out.base.cell (World.block_lt_of_cell? w _ HCE.out)).trans HCE.out
      obtain ⟨E, hE⟩ : ∃ E, putC (.is L) l = E := ⟨_, rfl⟩
      rw [hE]
      have HEE := Lib.hid hE
      clear hE
      go_upto_region 9 with fail
      go_cut [56] from 40 to 56 (fun v wx => v = .bool false ∧ wx = w5)
      case first =>
        by_cases hl : l.length ≤ 1024
        · have hE : E = 0 := by rw [← HEE.out, putC_fit (.is L) l rfl hl]
          subst hE
          have t1 : decide ((l.length : Int) ≤ 1024) = true := by rw [decide_eq_true_eq]; omega
          clear hl
          go_wp2_with fail
          go_meet
          exact ⟨rfl, rfl⟩
        · have hE : E = 9 := by rw [← HEE.out, putC_long (.is L) l rfl (by omega)]
          subst hE
          have t1 : decide ((l.length : Int) ≤ 1024) = false := by rw [decide_eq_false_iff_not]; omega
          clear hl
          go_wp2_with fail
          go_meet
          exact ⟨rfl, rfl⟩
      case rest =>
        obtain ⟨rfl, rfl⟩ := hcut
        obtain ⟨be, hbe⟩ : ∃ b : Bool, (E == 0) = b := ⟨_, rfl⟩
        go_upto_if 58 with fail
        go_cut [9] from 57 to 62 (fun v wx => wx = wc ∧ ∃ (L2 : List UInt8) (lo2 : Option Addr) (lc2 : Nat), v = .slice lo2 L2.length lc2 ∧ L2.length ≤ 1024 ∧ Bs w (.slice lo2 L2.length lc2) L2 ∧ putS (.is L) l = .is L2)
        case first =>
          by_cases hl : l.length ≤ 1024
          · have hE : E = 0 := by rw [← HEE.out, putC_fit (.is L) l rfl hl]
            obtain rfl : be = true := by rw [← hbe, hE]; rfl
            have hput := putS_fit (.is L) l rfl hl
            have HPUT := Lib.hid hput
            have HLL := Lib.hid hl
            clear hE hl hput hbe
            go_wp2_with fail
            go_meet
            exact ⟨rfl, l, xo, xc, rfl, HLL.out, HC.out, HPUT.out⟩
          · have hE : E = 9 := by rw [← HEE.out, putC_long (.is L) l rfl (by omega)]
            obtain rfl : be = false := by rw [← hbe, hE]; rfl
            have hput := putS_long (.is L) l rfl (by omega)
            have HPUT := Lib.hid hput
            clear hE hl hput hbe
            go_wp2_with fail
            go_meet
            exact ⟨rfl, L, lo, lc, rfl, hL, HL.out, HPUT.out⟩
        case rest =>
          obtain ⟨rfl, L2, lo2, lc2, rfl, hL2, hB2, hput⟩ := hcut
          have HB2 := Lib.hid hB2
          have H6 : Hid (Env w wc [obM (.pointer (some ⟨m, 0, none⟩)) (.is L2), obM (.pointer (some ⟨q, 0, none⟩)) (.is [])]) := by
            have h := H5.out
            rw [hput] at h
            exact Lib.hid h
          clear hB2 hput H5 hbe HEE HC HCE d1 HL hL
          go_upto_region 13 with fail
          go_cut [72] from 63 to 72 (fun v wx => wx = wc ∧ ∃ b : Bool, v = .bool b)
          case first =>
            by_cases hw2 : i < wipes.length
            · obtain ⟨x, hx⟩ : ∃ x, wipes[i]? = some x := ⟨_, List.getElem?_eq_getElem hw2⟩
              obtain ⟨g2, off2, c2, rfl, hc2, rfl⟩ := HW.out i x hx
              have d2 : wc.cell? ⟨g2, off2 + i, none⟩ = some (.bool x) := (H6.out.base.cell (World.block_lt_of_cell? w _ hc2)).trans hc2
              have t1 : decide ((i : Int) < (wipes.length : Int)) = true := by rw [decide_eq_true_eq]; omega
              clear hx hc2
              go_wp2_with fail
              go_meet
              exact ⟨rfl, _, rfl⟩
            · have t1 : decide ((i : Int) < (wipes.length : Int)) = false := by rw [decide_eq_false_iff_not]; omega
              go_wp2_with fail
              go_meet
              exact ⟨rfl, _, rfl⟩
          case rest =>
            obtain ⟨rfl, bw, rfl⟩ := hcut
            go_upto_if 72 with fail
            go_cut [9] from 73 to 75 (fun v wx => ∃ (L3 : List UInt8) (lo3 : Option Addr) (lc3 : Nat), v = .slice lo3 L3.length lc3 ∧ L3.length ≤ 1024 ∧ Bs w (.slice lo3 L3.length lc3) L3 ∧ Env w wx [obM (.pointer (some ⟨m, 0, none⟩)) (.is L3), obM (.pointer (some ⟨q, 0, none⟩)) (.is [])])
            case first =>
              cases bw with
              | true =>
                go_wp2_with fail
                refine (wipeM_nil H6.out 0 rfl).mono ?_
                rintro e w7 ⟨rfl, h5⟩
                have H7 : Hid (Env w w7 [obM (.pointer (some ⟨m, 0, none⟩)) (.is []), obM (.pointer (some ⟨q, 0, none⟩)) (.is [])]) := Lib.hid h5
                clear h5
                rw [show wipeC (.is L2) = 0 from rfl]
                go_wp2_with fail
                go_meet
                exact ⟨[], none, 0, rfl, by simp, Bs.nil w, H7.out⟩
              | false =>
                go_wp2_with fail
                go_meet
                exact ⟨L2, lo2, lc2, rfl, hL2, HB2.out, H6.out⟩
            case rest =>
              obtain ⟨L3, lo3, lc3, rfl, hL3, hB3, h7⟩ := hcut
              have HB3 := Lib.hid hB3
              have H7 := Lib.hid h7
              clear hB3 h7 H6 HB2 hL2
              obtain ⟨Z, hZ⟩ : ∃ Z, Z = barr (List.replicate 1024 0) := ⟨_, rfl⟩
              have hz : ∀ w, (zeroValue 49).run Try.prog w = .ok (.agg Z) w := by rw [hZ]; exact zero1024
              have HZ := Lib.hid hZ
              clear hZ
              go_wp2_with fail
              have h8 := H7.out.newK 49 Z
              obtain ⟨w8, hw8⟩ : ∃ w8, w8 = wc.alloc (.cells Z 49) := ⟨_, rfl⟩
              rw [← hw8] at h8 ⊢
              obtain ⟨G, hG⟩ : ∃ G, wc.heap.size = G := ⟨_, rfl⟩
              rw [hG] at h8 ⊢
              have H8 : Hid (Env w w8 [obM (.pointer (some ⟨m, 0, none⟩)) (.is L3), obM (.pointer (some ⟨q, 0, none⟩)) (.is []), obK G 49 (barr (fillTo (pad L3) 0))]) := by
                rw [fill_zero L3 hL3, ← HZ.out]
                exact Lib.hid h8
              clear h8 hw8 hG H7 hz HZ
              go_loopw [13] (fun kv wx => ∃ k : Nat, k ≤ L3.length ∧ kv = .int .i64 (k : Int) ∧ Hid (Env w wx [obM (.pointer (some ⟨m, 0, none⟩)) (.is L3), obM (.pointer (some ⟨q, 0, none⟩)) (.is []), obK G 49 (barr (fillTo (pad L3) k))])) (fun k _ => L3.length - (intOf k).toNat)
              case atStart => exact ⟨0, Nat.zero_le _, rfl, H8⟩
              case round =>
                obtain ⟨k, hk, rfl, H9⟩ := hrel
                clear H8
                by_cases hk2 : k < L3.length
                · have U := H9.out.old HB3.out
                  obtain ⟨ao', cap', hv1, _, _, _, C1⟩ := U.form
                  injection hv1 with e2 _ e3
                  subst e2; subst e3
                  obtain ⟨g1, off1, rfl, d1⟩ := C1 k hk2
                  have B1 := H9.out.blk 2 rfl
                  have hfl : (fillTo (pad L3) k).length = 1024 := by rw [fillTo_len _ _ (by rw [pad_len L3 hL3]; omega), pad_len L3 hL3]
                  have f1 := B1.unfrozen k
                  obtain ⟨ov, co1⟩ : ∃ ov, wr.cell? ⟨G, k, none⟩ = some ov := by
                    refine ⟨_, B1.cellAt k (Array.getElem?_eq_getElem (by rw [barr_size, hfl]; omega))⟩
                  have B2 := B1.set k (.int .u8 ((L3.getD k 0).toNat : Int))
                  rw [barr_set, fill_succ L3 hL3 k hk2] at B2
                  have H10 := Lib.hid (H9.out.turnBlk 2 rfl B2 ((Only.refl (fun x => x = G) wr).set (p := ⟨G, k, none⟩) (Or.inl rfl) _))
                  generalize L3.getD k 0 = z at d1 H10
                  have bk : 0 ≤ (k : Int) ∧ (k : Int) < (L3.length : Int) := by omega
                  have bk2 : 0 ≤ (k : Int) ∧ (k : Int) < 1024 := by omega
                  clear U C1 B1 B2 hfl H9
                  go_upto_region 20 with fail
                  generalize wr.setCell ⟨G, k, none⟩ (.int .u8 (z.toNat : Int)) = w9 at H10
                  clear d1 co1 f1
                  go_wp2_with fail
                  go_roundw
                  case rel => exact ⟨k + 1, by omega, by go_num, H10⟩
                  case measure => simp [intOf]; omega
                · obtain rfl : k = L3.length := by omega
                  have h9 := H9.out
                  rw [fill_end L3 hL3] at h9
                  have H10 := Lib.hid h9
                  clear h9 H9
                  obtain ⟨S, hS⟩ : ∃ S : World → Prop, S = fun wx => Blk wx G 49 (barr (pad L3)) := ⟨_, rfl⟩
                  have HS : Hid (∀ w', Blk w' G 49 (barr (pad L3)) → S w') := Lib.hid (fun w' h => by rw [hS]; exact h)
                  have HS2 : Hid (∀ w', S w' → Blk w' G 49 (barr (pad L3))) := Lib.hid (fun w' h => by rw [hS] at h; exact h)
                  clear hS
                  have t1 : ((L3.length : Int) != (L3.length : Int)) = false := by simp
                  go_upto_region 22 with fail
                  refine hd_start S (by kernel_rfl) ?_
                  intro w11 hw'
                  have H11 := Lib.hid (H10.out.draw 1)
                  rw [← hw'] at H11
                  clear hw' H10
                  have S11 : S w11 := HS.out w11 (H11.out.blk 2 rfl)
                  refine hd_take (v := ?_) 0 rfl (by kernel_rfl) (fun _ _ d _ _ h => (by cases d <;> exact h)) (by kernel_rfl) S11 (fun w' hS => ?_) ?_
                  rotate_left
                  focus (clear hS; go_simp; try rfl; done)
                  simp only [List.getElem_toArray, List.getElem_cons_succ, List.getElem_cons_zero, Act.put, List.setIfInBounds_toArray, List.set_cons_zero, List.set_cons_succ]
                  refine hd_take (v := .agg (barr (pad L3))) 2 rfl (by kernel_rfl) (fun _ _ d _ _ h => (by cases d <;> exact h)) (by kernel_rfl) S11 (fun w' hS => exec_load_blk G rfl (HS2.out w' hS) Try.underlying49 rfl size1024 (barr1024 L3 hL3)) ?_
                  simp only [List.getElem_toArray, List.getElem_cons_succ, List.getElem_cons_zero, Act.put, List.setIfInBounds_toArray, List.set_cons_zero, List.set_cons_succ]
                  refine hd_one 1 (by kernel_rfl) ?_
                  refine op_call rfl (by kernel_rfl) (by go_simp; first | exact ⟨rfl, rfl⟩ | rfl) ?_
                  refine (lookM_env H11.out 0 rfl).mono ?_
                  rintro e w12 ⟨he, h5⟩
                  have he' : e = .returned (.agg (barr (pad L3))) := he
                  subst he'
                  clear he
                  have H12 := Lib.hid h5
                  have hS2 : S w12 := HS.out w12 (h5.blk 2 rfl)
                  have S12 := hS2
                  clear h5 H11
                  refine ⟨_, rfl, hS2, ?_⟩
                  simp only [List.getElem_toArray, List.getElem_cons_succ, List.getElem_cons_zero, Act.put, List.setIfInBounds_toArray, List.set_cons_zero, List.set_cons_succ]
                  refine hd_take (v := .bool false) 3 rfl (by kernel_rfl) (fun _ _ d _ _ h => (by cases d <;> exact h)) (by kernel_rfl) S12 (fun w' hS => exec_neq_arr (pad L3) (pad L3) true rfl rfl slotGuard (eqPad L3 hL3)) ?_
                  simp only [List.getElem_toArray, List.getElem_cons_succ, List.getElem_cons_zero, Act.put, List.setIfInBounds_toArray, List.set_cons_zero, List.set_cons_succ]
                  refine hd_take (v := ?_) 4 rfl (by kernel_rfl) (fun _ _ d _ _ h => (by cases d <;> exact h)) (by kernel_rfl) S12 (fun w' hS => ?_) ?_
                  rotate_left
                  focus (clear hS; go_simp; try rfl; done)
                  simp only [List.getElem_toArray, List.getElem_cons_succ, List.getElem_cons_zero, Act.put, List.setIfInBounds_toArray, List.set_cons_zero, List.set_cons_succ]
                  refine hd_take (v := ?_) 5 rfl (by kernel_rfl) (fun _ _ d _ _ h => (by cases d <;> exact h)) (by kernel_rfl) S12 (fun w' hS => ?_) ?_
                  rotate_left
                  focus (clear hS; go_simp; try rfl; done)
                  simp only [List.getElem_toArray, List.getElem_cons_succ, List.getElem_cons_zero, Act.put, List.setIfInBounds_toArray, List.set_cons_zero, List.set_cons_succ]
                  refine hd_take (v := ?_) 7 rfl (by kernel_rfl) (fun _ _ d _ _ h => (by cases d <;> exact h)) (by kernel_rfl) S12 (fun w' hS => ?_) ?_
                  rotate_left
                  focus (clear hS; go_simp; try rfl; done)
                  simp only [List.getElem_toArray, List.getElem_cons_succ, List.getElem_cons_zero, Act.put, List.setIfInBounds_toArray, List.set_cons_zero, List.set_cons_succ]
                  refine hd_take (v := ?_) 8 rfl (by kernel_rfl) (fun _ _ d _ _ h => (by cases d <;> exact h)) (by kernel_rfl) S12 (fun w' hS => ?_) ?_
                  rotate_left
                  focus (clear hS; go_simp; try rfl; done)
                  simp only [List.getElem_toArray, List.getElem_cons_succ, List.getElem_cons_zero, Act.put, List.setIfInBounds_toArray, List.set_cons_zero, List.set_cons_succ]
                  refine hd_one 6 (by kernel_rfl) ?_
                  refine op_call rfl (by kernel_rfl) (by go_simp; first | exact ⟨rfl, rfl⟩ | rfl) ?_
                  refine (lenM_env H12.out 0 rfl).mono ?_
                  rintro e w13 ⟨he, hw⟩
                  have he' : e = .returned (.int .i64 (L3.length : Int)) := he
                  subst he'
                  clear he
                  have H13 : Hid (Env w w13 [obM (.pointer (some ⟨m, 0, none⟩)) (.is L3), obM (.pointer (some ⟨q, 0, none⟩)) (.is []), obK G 49 (barr (pad L3))]) := by rw [← hw]; exact H12
                  have hS2 : S w13 := HS.out w13 (H13.out.blk 2 rfl)
                  have S13 := hS2
                  clear hw H12
                  refine ⟨_, rfl, hS2, ?_⟩
                  simp only [List.getElem_toArray, List.getElem_cons_succ, List.getElem_cons_zero, Act.put, List.setIfInBounds_toArray, List.set_cons_zero, List.set_cons_succ]
                  refine hd_take (v := ?_) 9 rfl (by kernel_rfl) (fun _ _ d _ _ h => (by cases d <;> exact h)) (by kernel_rfl) S13 (fun w' hS => ?_) ?_
                  rotate_left
                  focus (clear hS; go_simp; try rfl; done)
                  simp only [List.getElem_toArray, List.getElem_cons_succ, List.getElem_cons_zero, Act.put, List.setIfInBounds_toArray, List.set_cons_zero, List.set_cons_succ]
                  refine hd_take (v := ?_) 10 rfl (by kernel_rfl) (fun _ _ d _ _ h => (by cases d <;> exact h)) (by kernel_rfl) S13 (fun w' hS => ?_) ?_
                  rotate_left
                  focus (clear hS; go_simp; try rfl; done)
                  simp only [List.getElem_toArray, List.getElem_cons_succ, List.getElem_cons_zero, Act.put, List.setIfInBounds_toArray, List.set_cons_zero, List.set_cons_succ]
                  refine hd_take (v := ?_) 11 rfl (by kernel_rfl) (fun _ _ d _ _ h => (by cases d <;> exact h)) (by kernel_rfl) S13 (fun w' hS => ?_) ?_
                  rotate_left
                  focus (clear hS; go_simp; try rfl; done)
                  simp only [List.getElem_toArray, List.getElem_cons_succ, List.getElem_cons_zero, Act.put, List.setIfInBounds_toArray, List.set_cons_zero, List.set_cons_succ]
                  refine hd_take (v := ?_) 12 rfl (by kernel_rfl) (fun _ _ d _ _ h => (by cases d <;> exact h)) (by kernel_rfl) S13 (fun w' hS => ?_) ?_
                  rotate_left
                  focus (clear hS; go_simp; try rfl; done)
                  simp only [List.getElem_toArray, List.getElem_cons_succ, List.getElem_cons_zero, Act.put, List.setIfInBounds_toArray, List.set_cons_zero, List.set_cons_succ]
                  refine hd_take (v := ?_) 14 rfl (by kernel_rfl) (fun _ _ d _ _ h => (by cases d <;> exact h)) (by kernel_rfl) S13 (fun w' hS => ?_) ?_
                  rotate_left
                  focus (clear hS; go_simp; try rfl; done)
                  simp only [List.getElem_toArray, List.getElem_cons_succ, List.getElem_cons_zero, Act.put, List.setIfInBounds_toArray, List.set_cons_zero, List.set_cons_succ]
                  refine hd_one 13 (by kernel_rfl) ?_
                  refine op_call rfl (by kernel_rfl) (by go_simp; first | exact ⟨rfl, rfl⟩ | rfl) ?_
                  refine (bytesM_env H13.out 0 rfl).mono ?_
                  rintro e w14 ⟨bv, rfl, h5⟩
                  have H14 : Hid (Env w w14 [obM (.pointer (some ⟨m, 0, none⟩)) (.is L3), obM (.pointer (some ⟨q, 0, none⟩)) (.is []), obK G 49 (barr (pad L3)), obB bv L3]) := Lib.hid h5
                  have hS2 : S w14 := HS.out w14 (H14.out.blk 2 rfl)
                  have S14 := hS2
                  clear h5 H13
                  refine ⟨_, rfl, hS2, ?_⟩
                  simp only [List.getElem_toArray, List.getElem_cons_succ, List.getElem_cons_zero, Act.put, List.setIfInBounds_toArray, List.set_cons_zero, List.set_cons_succ]
                  refine hd_one 15 (by kernel_rfl) ?_
                  refine op_call rfl (by kernel_rfl) (by go_simp; first | exact ⟨rfl, rfl⟩ | rfl) ?_
                  refine (sameBytes_env H14.out (H14.out.bytes 3 rfl).rd (H14.out.old HB3.out)).mono ?_
                  rintro e w15 ⟨he, h5⟩
                  rw [decide_eq_true rfl] at he
                  subst he
                  have H15 := Lib.hid h5
                  have hS2 : S w15 := HS.out w15 (h5.blk 2 rfl)
                  have S15 := hS2
                  clear h5 H14
                  refine ⟨_, rfl, hS2, ?_⟩
                  simp only [List.getElem_toArray, List.getElem_cons_succ, List.getElem_cons_zero, Act.put, List.setIfInBounds_toArray, List.set_cons_zero, List.set_cons_succ]
                  refine hd_take (v := ?_) 16 rfl (by kernel_rfl) (fun _ _ d _ _ h => (by cases d <;> exact h)) (by kernel_rfl) S15 (fun w' hS => ?_) ?_
                  rotate_left
                  focus (clear hS; go_simp; try rfl; done)
                  simp only [List.getElem_toArray, List.getElem_cons_succ, List.getElem_cons_zero, Act.put, List.setIfInBounds_toArray, List.set_cons_zero, List.set_cons_succ]
                  refine hd_take (v := ?_) 17 rfl (by kernel_rfl) (fun _ _ d _ _ h => (by cases d <;> exact h)) (by kernel_rfl) S15 (fun w' hS => ?_) ?_
                  rotate_left
                  focus (clear hS; go_simp; try rfl; done)
                  simp only [List.getElem_toArray, List.getElem_cons_succ, List.getElem_cons_zero, Act.put, List.setIfInBounds_toArray, List.set_cons_zero, List.set_cons_succ]
                  refine hd_done (by kernel_rfl) ?_
                  have H16 : Hid (Env w w15 [obM (.pointer (some ⟨m, 0, none⟩)) (.is L3), obM (.pointer (some ⟨q, 0, none⟩)) (.is [])]) := Lib.hid (Env.drop (obs := [_, _]) (Env.drop (obs := [_, _, _]) H15.out))
                  clear H15 S11 S12 S13 S14 S15 hS2
                  go_wp2_with fail
                  go_roundw
                  case rel => exact ⟨i + 1, L3, lo3, lc3, by omega, by go_num, rfl, hL3, HB3, H16⟩
                  case measure => simp [intOf]; omega
    · obtain rfl : i = puts.length := by omega
      go_wp2_with fail
      refine (putM_env H.out 1 rfl (Src.old H.out 1 HO.out)).mono ?_
      rintro e w5 ⟨rfl, h5⟩
      obtain ⟨M, hM⟩ : ∃ M, putS (.is []) other = .is M := by
        unfold putS
        by_cases hh : other.length ≤ 1024
        · exact ⟨other, by simp [Mst.made, hh]⟩
        · exact ⟨[], by simp [Mst.made, hh]⟩
      rw [hM] at h5
      have H5 : Hid (Env w w5 [obM (.pointer (some ⟨m, 0, none⟩)) (.is L), obM (.pointer (some ⟨q, 0, none⟩)) (.is M)]) := Lib.hid h5
      clear h5 hM H
      go_wp2_with fail
      refine (putM_env H5.out 1 rfl (Src.old H5.out 1 HL.out)).mono ?_
      rintro e w6 ⟨he, h5⟩
      rw [putC_fit (.is M) L rfl hL] at he
      rw [putS_fit (.is M) L rfl hL] at h5
      subst he
      have H6 : Hid (Env w w6 [obM (.pointer (some ⟨m, 0, none⟩)) (.is L), obM (.pointer (some ⟨q, 0, none⟩)) (.is L)]) := Lib.hid h5
      clear h5 H5
      go_wp2_with fail
      refine (newP_env H6.out).mono ?_
      rintro e w7 ⟨lg, rfl, h5⟩
      have H7 := Lib.hid h5
      clear h5 H6
      have hsame : sameC (.is L) (.is L) = true := by unfold sameC; simp [Mst.made]
      have HSA := Lib.hid hsame
      clear hsame
      go_wp2_with fail
      refine (sameM_env H7.out 0 1 2 (by decide) (by decide) rfl rfl rfl (Few.nil.room (by omega))).mono ?_
      rintro e w8 ⟨he, h5⟩
      rw [HSA.out] at he
      subst he
      have H8 : Hid (Env w w8 [obM (.pointer (some ⟨m, 0, none⟩)) (.is L), obM (.pointer (some ⟨q, 0, none⟩)) (.is L), obP lg (some [⟨6, 1024, 1⟩])]) := Lib.hid h5
      clear h5 H7
      go_wp2_with fail
      refine (lenP_env H8.out 2 rfl).mono ?_
      rintro e w9 ⟨he, hw⟩
      have he' : e = .returned (.int .i64 1) := he
      subst hw
      subst he'
      clear he
      go_wp2_with fail
      refine (sameM_nil H8.out 0 0 rfl rfl).mono ?_
      rintro e w10 ⟨he, h5⟩
      rw [HSA.out] at he
      subst he
      have H10 := Lib.hid h5
      clear h5
      go_wp2_with fail
      go_ret
      exact ⟨rfl, H10.out.base⟩
end Go.Proofs.Ytaphjdfpffhpfaa
