/- A region that draws its order, step by step under a condition S that every operation keeps: what yields one value in every world that meets S is taken first; the others come alone, or two in either order. No program in sight. -/
import Derived.Test.YtihmgkjmebdioaaRows
import Derived.Deep.DeepCutAuto
import Derived.Deep.CutBlock
import Derived.OrdersHeld
import Derived.Test.YtihmgkjmebdioaaQAesScript0
import Derived.Test.YtihmgkjmebdioaaQAesScript1
import Derived.Test.YtihmgkjmebdioaaQAesScript2
/- The contract of package aes: expanded. Condition: the key has 16, 24 or 32 bytes. -/
namespace Go.Proofs.Ytihmgkjmebdioaa
open Go.RowKit
set_option maxRecDepth 100000
set_option linter.unusedVariables false
set_option linter.unusedSimpArgs false

/-! ### several bytes put one behind the other -/
def setsU : List UInt8 → Nat → List UInt8 → List UInt8
  | l, _, [] => l
  | l, o, x :: r => setsU (l.set o x) (o + 1) r
theorem setsU_app : ∀ (xs a b : List UInt8), xs.length ≤ b.length → setsU (a ++ b) a.length xs = a ++ xs ++ b.drop xs.length
  | [], a, b, _ => by simp [setsU]
  | x :: r, a, y :: b, h => by
    have h1 : (a ++ y :: b).set a.length x = (a ++ [x]) ++ b := by
      rw [List.set_append_right _ _ (Nat.le_refl _), Nat.sub_self, List.set_cons_zero, List.append_assoc]
      rfl
    have h2 := setsU_app r (a ++ [x]) b (by simpa using h)
    rw [setsU, h1, show a.length + 1 = (a ++ [x]).length from by simp, h2]
    simp
  | x :: r, a, [], h => by simp at h
theorem Blk.sets {b : Nat} {t : TypeId} : ∀ (xs : List UInt8) (o : Nat) (w : World) (l : List UInt8), Blk w b t (barr l) → Blk (w.setCells b o (xs.map B)) b t (barr (setsU l o xs))
  | [], _, _, _, h => h
  | x :: r, o, w, l, h => by
    rw [List.map_cons, World.setCells, setsU]
    have h1 := h.set o (.int .u8 (x.toNat : Int))
    rw [barr_set] at h1
    exact Blk.sets r (o + 1) _ _ h1
theorem wordAt_range {w : World} {b : Nat} {t : TypeId} {W : List UInt8} (h : Blk w b t (barr W)) (i : Nat) (hi : 4 * i + 4 ≤ W.length) : w.rangeAt b (i * 4) ((wordAt W i).map B) := by
  intro j v hv
  refine h.cellAt _ ?_
  have hj : j < 4 := by
    have := (List.getElem?_eq_some_iff.1 hv).1
    simpa [wordAt] using this
  rw [barr_getD W _ (by omega), ← hv]
  rcases j with _ | _ | _ | _ | j
  · show some (Value.int .u8 ((W.getD (i * 4 + 0) 0).toNat : Int)) = some (Value.int .u8 ((W.getD (4 * i) 0).toNat : Int))
    rw [Nat.mul_comm i 4]; rfl
  · show some (Value.int .u8 ((W.getD (i * 4 + 1) 0).toNat : Int)) = some (Value.int .u8 ((W.getD (4 * i + 1) 0).toNat : Int))
    rw [Nat.mul_comm i 4]
  · show some (Value.int .u8 ((W.getD (i * 4 + 2) 0).toNat : Int)) = some (Value.int .u8 ((W.getD (4 * i + 2) 0).toNat : Int))
    rw [Nat.mul_comm i 4]
  · show some (Value.int .u8 ((W.getD (i * 4 + 3) 0).toNat : Int)) = some (Value.int .u8 ((W.getD (4 * i + 3) 0).toNat : Int))
    rw [Nat.mul_comm i 4]
  · omega
theorem wordAt_len (W : List UInt8) (i : Nat) : (wordAt W i).length = 4 := rfl
theorem zero240 (w : World) : (zeroValue 66).run Try.prog w = .ok (.agg (barr (List.replicate 240 0))) w := by kernel_rfl
theorem zero240w (w : World) : (zeroValue 94).run Try.prog w = .ok (.agg (barr (List.replicate 240 0))) w := by kernel_rfl
theorem size240 : (Try.prog.info? 66).map (·.size) = some 240 := by kernel_rfl
theorem size240w : (Try.prog.info? 94).map (·.size) = some 240 := by kernel_rfl
/-- the worlds of the expansion -/
structure ExpW (w : World) (n0 : Nat) (W : List UInt8) (w1 : World) : Prop where
  res : Blk w1 n0 66 (barr (List.replicate 240 0))
  row : Blk w1 (n0 + 1) 94 (barr W)
  len : W.length = 240
  at0 : n0 = w.heap.size
  below : Below w.heap.size w w1
theorem ExpW.next {w w1 w' : World} {n0 : Nat} {W : List UInt8} (h : ExpW w n0 W w1) (hb : Below w1.heap.size w1 w') : ExpW w n0 W w' :=
  ⟨h.res.below hb h.res.lt, h.row.below hb h.row.lt, h.len, h.at0, h.below.trans (hb.mono h.below.size)⟩
theorem ExpW.only {w w1 w' : World} {n0 g : Nat} {W : List UInt8} (h : ExpW w n0 W w1) (hg : n0 + 1 < g) (ho : Only (fun x => x = g) w1 w') : ExpW w n0 W w' :=
  ⟨h.res.only ho (by omega), h.row.only ho (by omega), h.len, h.at0, h.below.trans (ho.below0 (fun x hx hh => by have := h.at0; omega) h.below.size)⟩
theorem ExpW.word {w w1 : World} {n0 : Nat} {W : List UInt8} (h : ExpW w n0 W w1) (o : Nat) (xs : List UInt8) (hl : (setsU W o xs).length = 240) : ExpW w n0 (setsU W o xs) (w1.setCells (n0 + 1) o (xs.map B)) := by
  have ho : Only (fun x => x = n0 + 1) w1 (w1.setCells (n0 + 1) o (xs.map B)) := Only.sets (S := fun x => x = n0 + 1) (.inl rfl) _ _ _ (Only.refl _ _)
  exact ⟨h.res.only ho (by omega), Blk.sets xs o w1 W h.row, hl, h.at0, h.below.trans (ho.below0 (fun x hx hh => by have := h.at0; omega) h.below.size)⟩
theorem ExpW.set {w w1 : World} {n0 : Nat} {W : List UInt8} (h : ExpW w n0 W w1) (o : Nat) (x : UInt8) : ExpW w n0 (W.set o x) (w1.setCell ⟨n0 + 1, o, none⟩ (.int .u8 (x.toNat : Int))) :=
  ⟨h.res.set_ne (by simp) _, by rw [← barr_set]; exact h.row.set o _, by rw [List.length_set]; exact h.len, h.at0, h.below.setCell (by have := h.at0; simp; omega) _⟩
/-- the key's words, one by one -/
def keyTo (key : List UInt8) (i : Nat) : List UInt8 := key.take (4 * i) ++ List.replicate (240 - 4 * i) 0
theorem keyTo_len (key : List UInt8) (i : Nat) (h : 4 * i ≤ key.length) (h2 : key.length ≤ 240) : (keyTo key i).length = 240 := by simp [keyTo]; omega
theorem keyTo_zero (key : List UInt8) : keyTo key 0 = List.replicate 240 0 := by simp [keyTo]
theorem keyTo_succ (key : List UInt8) (i : Nat) (h : 4 * i + 4 ≤ key.length) (h2 : key.length ≤ 240) : setsU (keyTo key i) (i * 4) (wordAt key i) = keyTo key (i + 1) := by
  have e := setsU_app (wordAt key i) (key.take (4 * i)) (List.replicate (240 - 4 * i) 0) (by rw [wordAt_len, List.length_replicate]; omega)
  have hl : (key.take (4 * i)).length = i * 4 := by rw [List.length_take]; omega
  rw [hl] at e
  unfold keyTo
  rw [e, wordAt_len, List.drop_replicate, show 240 - 4 * i - 4 = 240 - 4 * (i + 1) from by omega]
  congr 1
  have hw : wordAt key i = (key.drop (4 * i)).take 4 := by
    apply List.ext_getElem?
    intro j
    by_cases hj : j < 4
    · rw [List.getElem?_take_of_lt hj, List.getElem?_drop]
      rcases j with _ | _ | _ | _ | j
      · simp [wordAt, List.getD_eq_getElem?_getD]; rw [List.getElem?_eq_getElem (by omega)]; rfl
      · simp [wordAt, List.getD_eq_getElem?_getD]; rw [List.getElem?_eq_getElem (by omega)]; rfl
      · simp [wordAt, List.getD_eq_getElem?_getD]; rw [List.getElem?_eq_getElem (by omega)]; rfl
      · simp [wordAt, List.getD_eq_getElem?_getD]; rw [List.getElem?_eq_getElem (by omega)]; rfl
      · omega
    · rw [List.getElem?_eq_none (by rw [wordAt_len]; omega), List.getElem?_eq_none (by rw [List.length_take]; omega)]
  rw [hw, show 4 * (i + 1) = 4 * i + 4 from by omega, List.take_add]
theorem barr_extract (W : List UInt8) (i : Nat) (h : 4 * i + 4 ≤ W.length) : (barr W).extract (i * 4) (i * 4 + 4) = barr (wordAt W i) := by
  apply Array.ext
  · rw [Array.size_extract, barr_size, barr_size, wordAt_len]; omega
  · intro j h1 h2
    have hj : j < 4 := by rw [barr_size, wordAt_len] at h2; exact h2
    rw [Array.getElem_extract]
    have e1 : (barr W)[i * 4 + j]? = some (.int .u8 ((W.getD (i * 4 + j) 0).toNat : Int)) := barr_getD W _ (by omega)
    have e2 : (barr (wordAt W i))[j]? = some (.int .u8 (((wordAt W i).getD j 0).toNat : Int)) := barr_getD _ _ (by rw [wordAt_len]; exact hj)
    have e3 : (wordAt W i).getD j 0 = W.getD (i * 4 + j) 0 := by
      rw [Nat.mul_comm i 4]
      rcases j with _ | _ | _ | _ | j
      · rfl
      · rfl
      · rfl
      · rfl
      · omega
    rw [e3] at e2
    rw [Array.getElem?_eq_getElem (by rw [barr_size]; omega)] at e1
    rw [Array.getElem?_eq_getElem h2] at e2
    injection e1 with e1
    injection e2 with e2
    rw [e1, e2]
theorem run_index_words {P : Program} {ty e : TypeId} {n : Nat} {de : TypeDesc} (hu : P.underlying ty = some (.array n e)) (hue : P.underlying e = some de) (hd : de.isRow = true) (hs : (P.info? e).map (·.size) = some 4) (W : List UInt8) (k : Nat) (hl : 4 * k + 4 ≤ W.length) (hn : k < n) (w : World) :
    (Instr.index ty (.agg (barr W)) (.int .i64 (k : Int))).run P w = .ok (.agg (barr (wordAt W k))) w := by
  cases hq : P.info? e with
  | none => simp [hq] at hs
  | some i =>
    have hi : i.size = 4 := by simpa [hq] using hs
    have hc : (0 : Int) ≤ (k : Int) ∧ (k : Int) < (n : Int) := by omega
    have hagg : (isAgg e).run P w = .ok true w := by
      unfold isAgg
      rw [Sem.run_bind, run_underlying hue w]
      cases de <;> simp_all
    simp only [Instr.index, asIntOf, Sem.run_bind, Sem.run_pure, Result.andThen_ok, run_underlying hu]
    rw [if_pos hc]
    have hsz : (sizeOf e).run P w = .ok 4 w := by simp [sizeOf, typeInfo, hq, hi]
    simp only [Sem.run_bind, hsz, Result.andThen_ok, part, hagg, if_true, Sem.run_pure, Int.toNat_natCast]
    rw [barr_extract W k hl]
theorem Blk.there {w : World} {b : Nat} {t : TypeId} {cs : Array Value} (h : Blk w b t cs) (o n : Nat) (hn : o + n ≤ cs.size) : w.there b o n := fun j hj => by
  refine ⟨?_, h.unfrozen _⟩
  rw [h.cell, Array.getElem?_eq_getElem (by omega)]
  rfl
theorem barr_toList2 (l : List UInt8) : (barr l).toList = l.map B := by simp [barr]
/-- the first words, noughts behind them -/
def outTo (W : List UInt8) (c : Nat) : List UInt8 := W.take (4 * c) ++ List.replicate (240 - 4 * c) 0
theorem outTo_zero (W : List UInt8) : outTo W 0 = List.replicate 240 0 := by simp [outTo]
theorem outTo_end (W : List UInt8) (h : W.length = 240) : outTo W 60 = W := by
  unfold outTo
  rw [List.take_of_length_le (by omega)]
  simp
theorem outTo_len (W : List UInt8) (c : Nat) (h : W.length = 240) (hc : c ≤ 60) : (outTo W c).length = 240 := by simp [outTo]; omega
theorem outTo_splice (W : List UInt8) (c : Nat) (h : W.length = 240) (hc : c < 60) : splice ((outTo W c).map B) (4 * c) ((wordAt W c).map B) = (outTo W (c + 1)).map B := by
  have e := keyTo_succ W c (by omega) (by omega)
  have e2 := setsU_app (wordAt W c) (W.take (4 * c)) (List.replicate (240 - 4 * c) 0) (by rw [wordAt_len, List.length_replicate]; omega)
  have hl : (W.take (4 * c)).length = c * 4 := by rw [List.length_take]; omega
  rw [hl] at e2
  unfold keyTo at e
  rw [e2] at e
  unfold outTo
  rw [← e]
  unfold splice
  have hl2 : (W.take (4 * c)).length = 4 * c := by rw [hl]; omega
  have hd : (W.take (4 * c) ++ List.replicate (240 - 4 * c) 0).drop (4 * c + 4) = (List.replicate (240 - 4 * c) (0 : UInt8)).drop 4 := by
    rw [List.drop_append, List.drop_of_length_le (by omega), hl2, List.nil_append, show 4 * c + 4 - 4 * c = 4 from by omega]
  rw [← List.map_take, ← List.map_drop, List.length_map, wordAt_len, hd, List.take_append_of_le_length (by omega), List.take_of_length_le (by omega), ← List.map_append, ← List.map_append, List.append_assoc]
theorem boxL_of (a b c d : UInt8) : boxL [a, b, c, d] = [boxU a, boxU b, boxU c, boxU d] := rfl
end Go.Proofs.Ytihmgkjmebdioaa
/- The document's answer for AES (turnkeyref10): turned, add, box, rounds. Conditions: a block has sixteen bytes; the round keys are there. -/
namespace Go.Proofs.Ytihmgkjmebdioaa
open Go.RowKit
set_option maxRecDepth 100000
set_option linter.unusedVariables false
set_option linter.unusedSimpArgs false
/-- the rows, each by so many places as its number -/
def turnB (d : Nat) (l : List UInt8) : List UInt8 := tab 16 fun i => l.getD (4 * ((i / 4 + i % 4 * d) % 4) + i % 4) 0
theorem turnB_len (d : Nat) (l : List UInt8) : (turnB d l).length = 16 := tab_length _ _
theorem shift_turn (l : List UInt8) (h : l.length = 16) : turnB 1 (l.map boxU) = shiftB l := by
  obtain ⟨b0, b1, b2, b3, b4, b5, b6, b7, b8, b9, b10, b11, b12, b13, b14, b15, rfl⟩ := list16 l h
  unfold turnB tab shiftB
  rw [range16]
  rfl
theorem un_turn (s c : List UInt8) (hs : s.length = 16) (hc : c.length = 16) : (turnB 3 s).map backU = unTo s c 16 := by
  obtain ⟨b0, b1, b2, b3, b4, b5, b6, b7, b8, b9, b10, b11, b12, b13, b14, b15, rfl⟩ := list16 s hs
  obtain ⟨c0, c1, c2, c3, c4, c5, c6, c7, c8, c9, c10, c11, c12, c13, c14, c15, rfl⟩ := list16 c hc
  unfold turnB tab
  rw [range16]
  rfl
set_option maxHeartbeats 1000000 in
theorem rturned_any (l : List UInt8) (d : Nat) (w : World) (hl : l.length = 16) (hd : d = 1 ∨ d = 3) :
    Calls Try.prog 68 #[.agg (barr l), .int .i64 (d : Int)] w fun e w' => e = .returned (.agg (barr (turnB d l))) ∧ Below w.heap.size w w' := by
  have HL := Lib.hid hl
  have HD := Lib.hid hd
  clear hl hd
  go_enter Try.func68, Try.ntmps68
  go_wp2_with fail
  go_loopw [6] (fun i w1 => ∃ c : Nat, c ≤ 4 ∧ i = .int .i64 (c : Int) ∧ Blk w1 w.heap.size 31 (barr l) ∧ Blk w1 (w.heap.size + 1) 31 (barr (List.replicate 16 0)) ∧ Blk w1 (w.heap.size + 1 + 1) 31 (barr (mixT 16 (fun i => l.getD (4 * ((i / 4 + i % 4 * d) % 4) + i % 4) 0) (fun _ => 0) (4 * c))) ∧ Below w.heap.size w w1) (fun i _ => 4 - (intOf i).toNat)
  case atStart =>
    refine ⟨0, by omega, rfl, ?_, ?_, ?_, ?_⟩
    · exact ((Blk.at rfl rfl).alloc _).alloc _
    · exact (Blk.at (by simp) rfl).alloc _
    · rw [mixT_zero, tab_zero]
      exact Blk.at (by simp) rfl
    · exact (((Below.refl _ _).alloc (Nat.le_refl _) _).alloc (by simp) _).alloc (by simp; omega) _
  case round =>
    obtain ⟨c, hc, rfl, g0, g1, g2, hbl⟩ := hrel
    by_cases hlt : c < 4
    · have G0 := Lib.hid g0
      have G1 := Lib.hid g1
      have G2 := Lib.hid g2
      have HB := Lib.hid hbl
      clear g0 g1 g2 hbl
      go_wp2_with fail
      go_loopw [7] (fun i w1 => ∃ r : Nat, r ≤ 4 ∧ i = .int .i64 (r : Int) ∧ Blk w1 w.heap.size 31 (barr l) ∧ Blk w1 (w.heap.size + 1) 31 (barr (List.replicate 16 0)) ∧ Blk w1 (w.heap.size + 1 + 1) 31 (barr (mixT 16 (fun i => l.getD (4 * ((i / 4 + i % 4 * d) % 4) + i % 4) 0) (fun _ => 0) (4 * c + r))) ∧ Below w.heap.size w w1) (fun i _ => 4 - (intOf i).toNat)
      case atStart => exact ⟨0, by omega, rfl, G0.out, G1.out, G2.out, HB.out⟩
      case round =>
        obtain ⟨r, hr, rfl, h0, h1, h2, hb2⟩ := hrel
        by_cases hrt : r < 4
        · obtain ⟨p, hp⟩ : ∃ p, 4 * c + r = p := ⟨_, rfl⟩
          obtain ⟨m, hm⟩ : ∃ m, r * d = m := ⟨_, rfl⟩
          have hm9 : m ≤ 9 := by rcases HD.out with h | h <;> rw [h] at hm <;> omega
          have hmI : (r : Int) * (d : Int) = (m : Int) := by rw [← hm, Int.natCast_mul]
          obtain ⟨s, hs⟩ : ∃ s, c + m = s := ⟨_, rfl⟩
          obtain ⟨q, hq⟩ : ∃ q, s % 4 = q := ⟨_, rfl⟩
          obtain ⟨u, hu⟩ : ∃ u, 4 * q + r = u := ⟨_, rfl⟩
          have hpI : 4 * (c : Int) + (r : Int) = (p : Int) := by omega
          have hsI : (c : Int) + (m : Int) = (s : Int) := by omega
          have hqI : (s : Int) % 4 = (q : Int) := by omega
          have huI : 4 * (q : Int) + (r : Int) = (u : Int) := by omega
          have hp16 : p < 16 := by omega
          have hu16 : u < 16 := by omega
          have hs13 : s ≤ 13 := by omega
          have hq4 : q < 4 := by omega
          have HP : Hid (4 * ((p / 4 + p % 4 * d) % 4) + p % 4 = u) := Lib.hid (by
            rw [show p / 4 = c from by omega, show p % 4 = r from by omega, hm, hs, hq, hu])
          have HPP : Hid (4 * c + r = p) := Lib.hid hp
          have HPN : Hid (4 * c + (r + 1) = p + 1) := Lib.hid (by omega)
          have c0 := h0.cellAt u (barr_getD l u (by rw [HL.out]; exact hu16))
          rw [hp] at h2
          have f2 := h2.unfrozen p
          have c2 := h2.cellAt p (barr_getD _ p (by rw [mixT_len]; exact hp16))
          have b0 := h0.lt
          have b2 := h2.lt
          generalize hx : l.getD u 0 = x at c0
          have HX := Lib.hid hx
          clear hx hp hm hs hq hu
          go_wp2_with fail
          go_roundw
          case rel =>
            refine ⟨r + 1, by omega, by go_num, h0.set_ne (by simp; omega) _, h1.set_ne (by simp) _, ?_, hb2.setCell (by simp; omega) _⟩
            have h := h2.set p (.int .u8 (x.toNat : Int))
            have e : mixT 16 (fun i => l.getD (4 * ((i / 4 + i % 4 * d) % 4) + i % 4) 0) (fun _ => 0) (p + 1) = (mixT 16 (fun i => l.getD (4 * ((i / 4 + i % 4 * d) % 4) + i % 4) 0) (fun _ => 0) p).set p x := by
              rw [← mixT_succ, HP.out, HX.out]
            rw [HPN.out, e, ← barr_set]
            exact h
          case measure => simp [intOf]; omega
        · obtain rfl : r = 4 := by omega
          have HN : Hid (Blk wr (w.heap.size + 1 + 1) 31 (barr (mixT 16 (fun i => l.getD (4 * ((i / 4 + i % 4 * d) % 4) + i % 4) 0) (fun _ => 0) (4 * (c + 1))))) := Lib.hid h2
          clear h2
          go_wp2_with fail
          go_roundw
          case rel => exact ⟨c + 1, by omega, by go_num, h0, h1, HN.out, hb2⟩
          case measure => simp [intOf]; omega
    · obtain rfl : c = 4 := by omega
      rw [show 4 * 4 = 16 from rfl, mixT_end] at g2
      have hs : (barr (turnB d l)).size = 16 := by rw [barr_size, turnB_len]
      have g3 : Blk wr (w.heap.size + 1 + 1) 31 (barr (turnB d l)) := g2
      clear g2
      go_wp2_with (first | ((with_reducible change wpList _ _ _ (Oper.mk _ (Op.load 31 _) _ _ _ _ :: _) _ _); refine wpList_load_blk (ty := 31) (w.heap.size + 1 + 1) rfl g3 Try.underlying31 rfl size16 hs ?_) | ((with_reducible change wpList _ _ _ (Oper.mk _ (Op.store 31 _ _) _ _ _ _ :: _) _ _); refine wpList_store_blk (ty := 31) (w.heap.size + 1) (barr (turnB d l)) rfl rfl g1 size16 hs (barr_size _) (barr_one _) ?_))
      refine bodyPost_ret (results_cell_blk rfl _ _ (w.heap.size + 1) rfl (g1.row _) Try.underlying31 rfl size16 hs) rfl ⟨rfl, below_row hbl (by omega) _⟩
/-! ### the document's Aes -/
def box256 : List UInt8 := tab 256 fun i => boxU (UInt8.ofNat i)
theorem box256_len : box256.length = 256 := tab_length _ _
def raC (v : Value) : Array Value := (v :: box256.map B).toArray
theorem raC_size (v : Value) : (raC v).size = 257 := by simp [raC, box256_len]
theorem raC_box (v : Value) (x : UInt8) : (raC v)[1 + x.toNat]? = some (.int .u8 ((boxU x).toNat : Int)) := by
  have hx := x.toNat_lt
  unfold raC
  rw [List.getElem?_toArray, Nat.add_comm, List.getElem?_cons_succ, List.getElem?_map]
  unfold box256 tab
  rw [List.getElem?_map, List.getElem?_range (by omega)]
  simp [B]
/-- the document's Aes: its words' row (the first 4 n bytes of K), the boxes -/
structure RA (w : World) (a g n cap : Nat) (K : List UInt8) : Prop where
  blk : Blk w a 109 (raC (.slice (some ⟨g, 0, none⟩) n cap))
  row : w.ownsRow 0 79 4 (.slice (some ⟨g, 0, none⟩) n cap) n ((K.take (4 * n)).map B)
  ne : g ≠ a
  le : 4 * n ≤ K.length
section
variable {w w' : World} {a g n cap : Nat} {K : List UInt8}
theorem RA.only (h : RA w a g n cap K) {S : Nat → Prop} (ho : Only S w w') (ha : ¬ S a) (hg : ¬ S g) : RA w' a g n cap K :=
  ⟨h.blk.only ho ha, ownsRow_keep h.row ho (fun x hx => by
    have e : some g = some x := hx
    injection e with e
    rw [← e]; exact hg), h.ne, h.le⟩
theorem RA.below (h : RA w a g n cap K) (hb : Below w.heap.size w w') : RA w' a g n cap K := h.only (Only.nothing hb) (fun h => h) (fun h => h)
theorem RA.draw (h : RA w a g n cap K) (m : Nat) : RA (w.drewN m) a g n cap K := h.below (drew_below w m)
theorem RA.head (h : RA w a g n cap K) : w.cell? ⟨a, 0, none⟩ = some (.slice (some ⟨g, 0, none⟩) n cap) := h.blk.cellAt 0 rfl
theorem RA.box (h : RA w a g n cap K) (x : UInt8) : w.cell? ⟨a, 1 + x.toNat, none⟩ = some (.int .u8 ((boxU x).toNat : Int)) := h.blk.cellAt _ (raC_box _ x)
theorem RA.word (h : RA w a g n cap K) (j : Nat) (hj : j < 4 * n) : w.cell? ⟨g, j, none⟩ = some (.int .u8 ((K.getD j 0).toNat : Int)) := by
  have hl := h.le
  rw [World.ownsRow.cellAt h.row j (by omega), List.getElem?_map, List.getElem?_take_of_lt hj, List.getElem?_eq_getElem (by omega), List.getD_eq_getElem?_getD, List.getElem?_eq_getElem (by omega)]
  rfl
theorem RA.lt (h : RA w a g n cap K) : a < w.heap.size := h.blk.lt
theorem RA.glt (h : RA w a g n cap K) : g < w.heap.size := (World.ownsRow.lt h.row g rfl).2
theorem RA.capB (h : RA w a g n cap K) : n ≤ cap ∧ cap ≤ 9223372036854775807 := by
  rcases h.row.2 with ⟨h1, _⟩ | ⟨g', cap', cur, h1, _, _, h2, h3, _⟩
  · cases h1
  · injection h1 with _ _ h1
    subst h1
    exact ⟨h2, h3⟩
end
theorem rrounds_any (a g n cap : Nat) (K : List UInt8) (w : World) (h : RA w a g n cap K) (R : Nat) (hn : n = 4 * (R + 1)) (hR : R ≤ 14) :
    Calls Try.prog 67 #[.pointer (some ⟨a, 0, none⟩)] w fun e w' => e = .returned (.int .i64 (R : Int)) ∧ w = w' := by
  have c0 := h.head
  have hb := h.lt
  have hI : (n : Int) / 4 - 1 = (R : Int) := by omega
  clear h hn
  go_enter Try.func67, Try.ntmps67
  go_wp2
  go_ret
  refine ⟨?_, rfl⟩
  first | rfl | (congr 2)
set_option maxHeartbeats 1000000 in
theorem radd_any (a g n cap : Nat) (K l : List UInt8) (r : Nat) (w : World) (h : RA w a g n cap K) (hl : l.length = 16) (hr : 4 * (r + 1) ≤ n) (hn : n ≤ 60) :
    Calls Try.prog 66 #[.pointer (some ⟨a, 0, none⟩), .agg (barr l), .int .i64 (r : Int)] w fun e w' => e = .returned (.agg (barr (withK K l r))) ∧ Below w.heap.size w w' := by
  have HL := Lib.hid hl
  have hcap := h.capB.1
  have hcap2 := h.capB.2
  have hra := h.lt
  have hrg := h.glt
  have HR := Lib.hid h
  clear hl h
  go_enter Try.func66, Try.ntmps66
  go_wp2_with fail
  go_loopw [7] (fun i w1 => ∃ k : Nat, k ≤ 16 ∧ i = .int .i64 (k : Int) ∧ Blk w1 w.heap.size 31 (barr (mixT 16 (fun j => l.getD j 0 ^^^ K.getD (16 * r + j) 0) (fun j => l.getD j 0) k)) ∧ Blk w1 (w.heap.size + 1) 31 (barr (List.replicate 16 0)) ∧ Below w.heap.size w w1) (fun i _ => 16 - (intOf i).toNat)
  case atStart =>
    refine ⟨0, by omega, rfl, ?_, ?_, ?_⟩
    · rw [mixT_zero, tab_self l HL.out]
      exact (Blk.at rfl rfl).alloc _
    · exact Blk.at (by simp) rfl
    · exact ((Below.refl _ _).alloc (Nat.le_refl _) _).alloc (by simp) _
  case round =>
    obtain ⟨k, hk, rfl, h0, h1, hb⟩ := hrel
    by_cases hlt : k < 16
    · have c0 := h0.cellAt k (barr_getD _ k (by rw [mixT_len]; exact hlt))
      rw [mixT_at _ _ _ _ hlt] at c0
      have f0 := h0.unfrozen k
      obtain ⟨q, hq⟩ : ∃ q, k / 4 = q := ⟨_, rfl⟩
      obtain ⟨m, hm⟩ : ∃ m, k % 4 = m := ⟨_, rfl⟩
      obtain ⟨s, hs⟩ : ∃ s, 4 * r + q = s := ⟨_, rfl⟩
      have hqI : (k : Int) / 4 = (q : Int) := by omega
      have hmI : (k : Int) % 4 = (m : Int) := by omega
      have hsI : 4 * (r : Int) + (q : Int) = (s : Int) := by omega
      have hsn : s < n := by omega
      have hm4 : m < 4 := by omega
      have c1 := (HR.out.below hb).word (s * 4 + m) (by omega)
      have ch := (HR.out.below hb).head
      rw [show s * 4 + m = 16 * r + k from by omega] at c1
      generalize hx : l.getD k 0 = x at c0
      generalize hy : K.getD (16 * r + k) 0 = y at c1
      rw [show 16 * r + k = s * 4 + m from by omega] at c1
      have HX := Lib.hid hx
      have HY := Lib.hid hy
      have hlt' : w.heap.size < wr.heap.size := h0.lt
      clear hx hy hq hm hs
      go_wp2_with fail
      go_region
      all_goals go_wp2_with fail
      all_goals go_roundw
      case rel =>
        refine ⟨k + 1, by omega, by go_num, ?_, ?_, ?_⟩
        · have h := (h0.set k (.int .u8 ((x ^^^ y).toNat : Int))).drew
          have e : mixT 16 (fun j => l.getD j 0 ^^^ K.getD (16 * r + j) 0) (fun j => l.getD j 0) (k + 1) = (mixT 16 (fun j => l.getD j 0 ^^^ K.getD (16 * r + j) 0) (fun j => l.getD j 0) k).set k (x ^^^ y) := by
            rw [← mixT_succ, HX.out, HY.out]
          rw [e, ← barr_set, xorU]
          exact h
        · exact (h1.set_ne (by simp) _).drew
        · exact (hb.setCell (by simp) _).drew
      case measure => simp [intOf]; omega
    · obtain rfl : k = 16 := by omega
      rw [mixT_end, ← withK_tab] at h0
      have hs : (barr (withK K l r)).size = 16 := by rw [barr_size, withK_len]
      go_wp2_with (first | ((with_reducible change wpList _ _ _ (Oper.mk _ (Op.load 31 _) _ _ _ _ :: _) _ _); refine wpList_load_blk (ty := 31) w.heap.size rfl h0 Try.underlying31 rfl size16 hs ?_) | ((with_reducible change wpList _ _ _ (Oper.mk _ (Op.store 31 _ _) _ _ _ _ :: _) _ _); refine wpList_store_blk (ty := 31) (w.heap.size + 1) (barr (withK K l r)) rfl rfl h1 size16 hs (barr_size _) (barr_one _) ?_))
      refine bodyPost_ret (results_cell_blk rfl _ _ (w.heap.size + 1) rfl (h1.row _) Try.underlying31 rfl size16 hs) rfl ⟨rfl, below_row hb (by simp) _⟩
set_option maxHeartbeats 1000000 in
theorem rbox4_any (a g n cap : Nat) (K l : List UInt8) (w : World) (h : RA w a g n cap K) (hl : l.length = 4) :
    Calls Try.prog 64 #[.pointer (some ⟨a, 0, none⟩), .agg (barr l)] w fun e w' => e = .returned (.agg (barr (boxL l))) ∧ Below w.heap.size w w' := by
  have HL := Lib.hid hl
  have hra := h.lt
  have HR := Lib.hid h
  clear hl h
  go_enter Try.func64, Try.ntmps64
  go_wp2_with fail
  go_loopw [5] (fun i w1 => ∃ k : Nat, k ≤ 4 ∧ i = .int .i64 (k : Int) ∧ Blk w1 w.heap.size 79 (barr (mixT 4 (fun j => boxU (l.getD j 0)) (fun j => l.getD j 0) k)) ∧ Blk w1 (w.heap.size + 1) 79 (barr (List.replicate 4 0)) ∧ Below w.heap.size w w1) (fun i _ => 4 - (intOf i).toNat)
  case atStart =>
    refine ⟨0, by omega, rfl, ?_, ?_, ?_⟩
    · rw [mixT_zero, tab_self l HL.out]
      exact (Blk.at rfl rfl).alloc _
    · exact Blk.at (by simp) rfl
    · exact ((Below.refl _ _).alloc (Nat.le_refl _) _).alloc (by simp) _
  case round =>
    obtain ⟨k, hk, rfl, h0, h1, hbl⟩ := hrel
    by_cases hlt : k < 4
    · have c0 := h0.cellAt k (barr_getD _ k (by rw [mixT_len]; exact hlt))
      rw [mixT_at _ _ _ _ hlt] at c0
      have f0 := h0.unfrozen k
      have hb := h0.lt
      generalize hx : l.getD k 0 = x at c0
      have c1 := (HR.out.below hbl).box x
      have hx2 := x.toNat_lt
      have HX := Lib.hid hx
      clear hx
      go_wp2_with fail
      go_region
      all_goals go_wp2_with fail
      all_goals go_roundw
      case rel =>
        refine ⟨k + 1, by omega, by go_num, ?_, (h1.set_ne (by simp) _).drew, (hbl.setCell (by simp) _).drew⟩
        have h := (h0.set k (.int .u8 ((boxU x).toNat : Int))).drew
        have e : mixT 4 (fun j => boxU (l.getD j 0)) (fun j => l.getD j 0) (k + 1) = (mixT 4 (fun j => boxU (l.getD j 0)) (fun j => l.getD j 0) k).set k (boxU x) := by
          rw [← mixT_succ, HX.out]
        rw [barr_set, ← e] at h
        exact h
      case measure => simp [intOf]; omega
    · obtain rfl : k = 4 := by omega
      rw [mixT_end] at h0
      have hs : (barr (boxL l)).size = 4 := by rw [barr_size, boxL_len]
      go_wp2_with (first | ((with_reducible change wpList _ _ _ (Oper.mk _ (Op.load 79 _) _ _ _ _ :: _) _ _); refine wpList_load_blk (ty := 79) w.heap.size rfl h0 Try.underlying79 rfl size4 hs ?_) | ((with_reducible change wpList _ _ _ (Oper.mk _ (Op.store 79 _ _) _ _ _ _ :: _) _ _); refine wpList_store_blk (ty := 79) (w.heap.size + 1) (barr (boxL l)) rfl rfl h1 size4 hs (barr_size _) (barr_one _) ?_))
      refine bodyPost_ret (results_cell_blk rfl _ _ (w.heap.size + 1) rfl (h1.row _) Try.underlying79 rfl size4 hs) rfl ⟨rfl, below_row hbl (by omega) _⟩
end Go.Proofs.Ytihmgkjmebdioaa
/- The document's answer for AES: mixed. Conditions: a block has sixteen bytes, a row four. -/
namespace Go.Proofs.Ytihmgkjmebdioaa
open Go.RowKit
set_option maxRecDepth 100000
set_option linter.unusedVariables false
set_option linter.unusedSimpArgs false
theorem rmulU_any (x y : UInt8) (w : World) : Calls Try.prog 65 #[.int .u8 (x.toNat : Int), .int .u8 (y.toNat : Int)] w fun e w' => e = .returned (.int .u8 ((gmU x y).toNat : Int)) ∧ ∃ m, w' = w.drewN m := by
  have h := rmul_nat x.toNat y.toNat w x.toNat_lt y.toNat_lt
  rw [rm_eq x.toNat y.toNat x.toNat_lt y.toNat_lt, ← gmU_nat] at h
  exact h
/-- the worlds that were only drawn from -/
def Dr (w w' : World) : Prop := ∃ m, w' = w.drewN m
theorem Dr.cell {w : World} {p : Addr} {v : Value} (h : w.cell? p = some v) : ∀ w', Dr w w' → w'.cell? p = some v := by
  rintro w' ⟨m, rfl⟩
  exact h
set_option maxHeartbeats 2000000 in
theorem rmixed_any (l m : List UInt8) (w : World) (hl : l.length = 16) (hm : m.length = 4) :
    Calls Try.prog 69 #[.agg (barr l), .agg (barr m)] w fun e w' => e = .returned (.agg (barr (mixB m l))) ∧ Below w.heap.size w w' := by
  have HL := Lib.hid hl
  have HM := Lib.hid hm
  clear hl hm
  go_enter Try.func69, Try.ntmps69
  go_wp2_with fail
  go_loopw [6] (fun i w1 => ∃ c : Nat, c ≤ 4 ∧ i = .int .i64 (c : Int) ∧ Blk w1 w.heap.size 31 (barr l) ∧ Blk w1 (w.heap.size + 1) 79 (barr m) ∧ Blk w1 (w.heap.size + 1 + 1) 31 (barr (List.replicate 16 0)) ∧ Blk w1 (w.heap.size + 1 + 1 + 1) 31 (barr (mixT 16 (mixAt m l) (fun _ => 0) (4 * c))) ∧ Below w.heap.size w w1) (fun i _ => 4 - (intOf i).toNat)
  case atStart =>
    refine ⟨0, by omega, rfl, ?_, ?_, ?_, ?_, ?_⟩
    · exact (((Blk.at rfl rfl).alloc _).alloc _).alloc _
    · exact ((Blk.at (by simp) rfl).alloc _).alloc _
    · exact (Blk.at (by simp) rfl).alloc _
    · rw [mixT_zero, tab_zero]
      exact Blk.at (by simp) rfl
    · exact ((((Below.refl _ _).alloc (Nat.le_refl _) _).alloc (by simp) _).alloc (by simp; omega) _).alloc (by simp; omega) _
  case round =>
    obtain ⟨c, hc, rfl, g0, g1, g2, g3, hbl⟩ := hrel
    by_cases hlt : c < 4
    · have G0 := Lib.hid g0
      have G1 := Lib.hid g1
      have G2 := Lib.hid g2
      have G3 := Lib.hid g3
      have HB := Lib.hid hbl
      clear g0 g1 g2 g3 hbl
      go_wp2_with fail
      go_loopw [7] (fun i w1 => ∃ j : Nat, j ≤ 4 ∧ i = .int .i64 (j : Int) ∧ Hid (Blk w1 w.heap.size 31 (barr l) ∧ Blk w1 (w.heap.size + 1) 79 (barr m) ∧ Blk w1 (w.heap.size + 1 + 1) 31 (barr (List.replicate 16 0)) ∧ Blk w1 (w.heap.size + 1 + 1 + 1) 31 (barr (mixT 16 (mixAt m l) (fun _ => 0) (4 * c + j))) ∧ Below w.heap.size w w1)) (fun i _ => 4 - (intOf i).toNat)
      case atStart => exact ⟨0, by omega, rfl, Lib.hid ⟨G0.out, G1.out, G2.out, G3.out, HB.out⟩⟩
      case round =>
        obtain ⟨j, hj, rfl, HG⟩ := hrel
        by_cases hjt : j < 4
        · obtain ⟨k, hk⟩ : ∃ k, 4 * c + j = k := ⟨_, rfl⟩
          have hk16 : k < 16 := by omega
          have hkI : 4 * (c : Int) + (j : Int) = (k : Int) := by omega
          have HJ : Hid (k % 4 = j) := Lib.hid (by omega)
          have HC : Hid (k - j = 4 * c) := Lib.hid (by omega)
          rw [hk] at HG
          have HK := Lib.hid hk
          clear hk
          go_wp2_with fail
          go_loopw [8] (fun i w1 => ∃ r : Nat, r ≤ 4 ∧ i = .int .i64 (r : Int) ∧ Blk w1 w.heap.size 31 (barr l) ∧ Blk w1 (w.heap.size + 1) 79 (barr m) ∧ Blk w1 (w.heap.size + 1 + 1) 31 (barr (List.replicate 16 0)) ∧ Blk w1 (w.heap.size + 1 + 1 + 1) 31 (barr ((mixT 16 (mixAt m l) (fun _ => 0) k).set k (dotP m l k r))) ∧ Below w.heap.size w w1) (fun i _ => 4 - (intOf i).toNat)
          case atStart =>
            refine ⟨0, by omega, rfl, HG.out.1, HG.out.2.1, HG.out.2.2.1, ?_, HG.out.2.2.2.2⟩
            have h := HG.out.2.2.2.1
            have e : (mixT 16 (mixAt m l) (fun _ => 0) k).set k (dotP m l k 0) = mixT 16 (mixAt m l) (fun _ => 0) k := by
              refine set_same _ _ _ ?_
              unfold mixT tab
              rw [List.getElem?_map, List.getElem?_range hk16, Option.map_some, if_neg (by omega)]
              rfl
            rw [e]
            exact h
          case round =>
            obtain ⟨r, hr, rfl, h0, h1, h2, h3, hb2⟩ := hrel
            by_cases hrt : r < 4
            · obtain ⟨d, hd⟩ : ∃ d, r + 4 - j = d := ⟨_, rfl⟩
              have hdI : (r : Int) + 4 - (j : Int) = (d : Int) := by omega
              have hd7 : d < 8 := by omega
              have HD := Lib.hid hd
              obtain ⟨q, hq⟩ : ∃ q, d % 4 = q := ⟨_, rfl⟩
              have hq4 : q < 4 := by omega
              have HQ := Lib.hid hq
              obtain ⟨s, hs⟩ : ∃ s, 4 * c + r = s := ⟨_, rfl⟩
              have hsI : 4 * (c : Int) + (r : Int) = (s : Int) := by omega
              have hs16 : s < 16 := by omega
              have HS := Lib.hid hs
              have hT2 : (d : Int).tmod 4 = (q : Int) := by rw [Int.tmod_eq_emod_of_nonneg (by omega)]; omega
              have hq4I : (q : Int) < 4 := by omega
              have hs16I : (s : Int) < 16 := by omega
              have hk16I : (k : Int) < 16 := by omega
              have hW0 : IntKind.i64.wrap (4 * (c : Int)) = 4 * (c : Int) := IntWalk.i64_in _ (by omega)
              have hW1 : IntKind.i64.wrap ((r : Int) + 4) = (r : Int) + 4 := IntWalk.i64_in _ (by omega)
              have hW2 : IntKind.i64.wrap (d : Int) = (d : Int) := IntWalk.i64_in _ (by omega)
              have hW3 : IntKind.i64.wrap (s : Int) = (s : Int) := IntWalk.i64_in _ (by omega)
              have hW4 : IntKind.i64.wrap (k : Int) = (k : Int) := IntWalk.i64_in _ (by omega)
              have c0 := Dr.cell (h0.cellAt s (barr_getD l s (by rw [HL.out]; exact hs16)))
              have c1 := Dr.cell (h1.cellAt q (barr_getD m q (by rw [HM.out]; exact hq4)))
              have c3' := h3.cellAt k (barr_getD _ k (by rw [List.length_set, mixT_len]; exact hk16))
              rw [set_getD _ _ _ (by rw [mixT_len]; exact hk16)] at c3'
              have c3 := Dr.cell c3'
              clear c3'
              have f3 := h3.unfrozen k
              have b0 := h0.lt
              have b1 := h1.lt
              have b3 := h3.lt
              have K0 := Lib.hid h0
              have K1 := Lib.hid h1
              have K2 := Lib.hid h2
              have K3 := Lib.hid h3
              have KB := Lib.hid hb2
              generalize hx : l.getD s 0 = x at c0
              generalize hy : m.getD q 0 = y at c1
              generalize hz : dotP m l k r = z at c3
              have HX := Lib.hid hx
              have HY := Lib.hid hy
              have HZ := Lib.hid hz
              clear hx hy hz h0 h1 h2 h3 hb2 hd hq hs
              go_wp2_with fail
              refine wp_region_tame (Dr wr) 0 26 (by kernel_rfl) (by kernel_rfl) (fun _ _ d _ _ h => (by cases d <;> exact h)) ⟨1, rfl⟩ (by decide) ?_
              simp only [List.take_succ_cons, List.take_zero, List.drop_succ_cons, List.drop_zero]
              refine wpPre_nil ?_
              refine wpTame_run (v := ?_) (by decide) rfl (fun w' hS => ?_) ?_
              rotate_left
              focus (have q0 := c0 w' hS; have q1 := c1 w' hS; have q2 := c3 w' hS; clear hS; go_simp; try rfl; done)
              simp only [Act.put, List.setIfInBounds_toArray, List.set_cons_zero, List.set_cons_succ]
              refine wpTame_run (v := ?_) (by decide) rfl (fun w' hS => ?_) ?_
              rotate_left
              focus (have q0 := c0 w' hS; have q1 := c1 w' hS; have q2 := c3 w' hS; clear hS; go_simp; try rfl; done)
              simp only [Act.put, List.setIfInBounds_toArray, List.set_cons_zero, List.set_cons_succ]
              refine wpTame_run (v := ?_) (by decide) rfl (fun w' hS => ?_) ?_
              rotate_left
              focus (have q0 := c0 w' hS; have q1 := c1 w' hS; have q2 := c3 w' hS; clear hS; go_simp; try rfl; done)
              simp only [Act.put, List.setIfInBounds_toArray, List.set_cons_zero, List.set_cons_succ]
              refine wpTame_run (v := ?_) (by decide) rfl (fun w' hS => ?_) ?_
              rotate_left
              focus (have q0 := c0 w' hS; have q1 := c1 w' hS; have q2 := c3 w' hS; clear hS; go_simp; try rfl; done)
              simp only [Act.put, List.setIfInBounds_toArray, List.set_cons_zero, List.set_cons_succ]
              refine wpTame_run (v := ?_) (by decide) rfl (fun w' hS => ?_) ?_
              rotate_left
              focus (have q0 := c0 w' hS; have q1 := c1 w' hS; have q2 := c3 w' hS; clear hS; go_simp; try rfl; done)
              simp only [Act.put, List.setIfInBounds_toArray, List.set_cons_zero, List.set_cons_succ]
              refine wpTame_run (v := ?_) (by decide) rfl (fun w' hS => ?_) ?_
              rotate_left
              focus (have q0 := c0 w' hS; have q1 := c1 w' hS; have q2 := c3 w' hS; clear hS; go_simp; try rfl; done)
              simp only [Act.put, List.setIfInBounds_toArray, List.set_cons_zero, List.set_cons_succ]
              refine wpTame_run (v := ?_) (by decide) rfl (fun w' hS => ?_) ?_
              rotate_left
              focus (have q0 := c0 w' hS; have q1 := c1 w' hS; have q2 := c3 w' hS; clear hS; go_simp; try rfl; done)
              simp only [Act.put, List.setIfInBounds_toArray, List.set_cons_zero, List.set_cons_succ]
              refine wpTame_run (v := ?_) (by decide) rfl (fun w' hS => ?_) ?_
              rotate_left
              focus (have q0 := c0 w' hS; have q1 := c1 w' hS; have q2 := c3 w' hS; clear hS; go_simp; try rfl; done)
              simp only [Act.put, List.setIfInBounds_toArray, List.set_cons_zero, List.set_cons_succ]
              refine wpTame_run (v := ?_) (by decide) rfl (fun w' hS => ?_) ?_
              rotate_left
              focus (have q0 := c0 w' hS; have q1 := c1 w' hS; have q2 := c3 w' hS; clear hS; go_simp; try rfl; done)
              simp only [Act.put, List.setIfInBounds_toArray, List.set_cons_zero, List.set_cons_succ]
              refine wpTame_run (v := ?_) (by decide) rfl (fun w' hS => ?_) ?_
              rotate_left
              focus (have q0 := c0 w' hS; have q1 := c1 w' hS; have q2 := c3 w' hS; clear hS; go_simp; try rfl; done)
              simp only [Act.put, List.setIfInBounds_toArray, List.set_cons_zero, List.set_cons_succ]
              refine wpTame_run (v := ?_) (by decide) rfl (fun w' hS => ?_) ?_
              rotate_left
              focus (have q0 := c0 w' hS; have q1 := c1 w' hS; have q2 := c3 w' hS; clear hS; go_simp; try rfl; done)
              simp only [Act.put, List.setIfInBounds_toArray, List.set_cons_zero, List.set_cons_succ]
              refine wpTame_run (v := ?_) (by decide) rfl (fun w' hS => ?_) ?_
              rotate_left
              focus (have q0 := c0 w' hS; have q1 := c1 w' hS; have q2 := c3 w' hS; clear hS; go_simp; try rfl; done)
              simp only [Act.put, List.setIfInBounds_toArray, List.set_cons_zero, List.set_cons_succ]
              refine wpTame_run (v := ?_) (by decide) rfl (fun w' hS => ?_) ?_
              rotate_left
              focus (have q0 := c0 w' hS; have q1 := c1 w' hS; have q2 := c3 w' hS; clear hS; go_simp; try rfl; done)
              simp only [Act.put, List.setIfInBounds_toArray, List.set_cons_zero, List.set_cons_succ]
              refine wpTame_run (v := ?_) (by decide) rfl (fun w' hS => ?_) ?_
              rotate_left
              focus (have q0 := c0 w' hS; have q1 := c1 w' hS; have q2 := c3 w' hS; clear hS; go_simp; try rfl; done)
              simp only [Act.put, List.setIfInBounds_toArray, List.set_cons_zero, List.set_cons_succ]
              refine wpTame_run (v := ?_) (by decide) rfl (fun w' hS => ?_) ?_
              rotate_left
              focus (have q0 := c0 w' hS; have q1 := c1 w' hS; have q2 := c3 w' hS; clear hS; go_simp; try rfl; done)
              simp only [Act.put, List.setIfInBounds_toArray, List.set_cons_zero, List.set_cons_succ]
              refine wpTame_run (v := ?_) (by decide) rfl (fun w' hS => ?_) ?_
              rotate_left
              focus (have q0 := c0 w' hS; have q1 := c1 w' hS; have q2 := c3 w' hS; clear hS; go_simp; try rfl; done)
              simp only [Act.put, List.setIfInBounds_toArray, List.set_cons_zero, List.set_cons_succ]
              refine wpTame_run (v := ?_) (by decide) rfl (fun w' hS => ?_) ?_
              rotate_left
              focus (have q0 := c0 w' hS; have q1 := c1 w' hS; have q2 := c3 w' hS; clear hS; go_simp; try rfl; done)
              simp only [Act.put, List.setIfInBounds_toArray, List.set_cons_zero, List.set_cons_succ]
              refine wpTame_run (v := ?_) (by decide) rfl (fun w' hS => ?_) ?_
              rotate_left
              focus (have q0 := c0 w' hS; have q1 := c1 w' hS; have q2 := c3 w' hS; clear hS; go_simp; try rfl; done)
              simp only [Act.put, List.setIfInBounds_toArray, List.set_cons_zero, List.set_cons_succ]
              refine wpTame_run (v := ?_) (by decide) rfl (fun w' hS => ?_) ?_
              rotate_left
              focus (have q0 := c0 w' hS; have q1 := c1 w' hS; have q2 := c3 w' hS; clear hS; go_simp; try rfl; done)
              simp only [Act.put, List.setIfInBounds_toArray, List.set_cons_zero, List.set_cons_succ]
              refine wpTame_run (v := ?_) (by decide) rfl (fun w' hS => ?_) ?_
              rotate_left
              focus (have q0 := c0 w' hS; have q1 := c1 w' hS; have q2 := c3 w' hS; clear hS; go_simp; try rfl; done)
              simp only [Act.put, List.setIfInBounds_toArray, List.set_cons_zero, List.set_cons_succ]
              refine wpTame_run (v := ?_) (by decide) rfl (fun w' hS => ?_) ?_
              rotate_left
              focus (have q0 := c0 w' hS; have q1 := c1 w' hS; have q2 := c3 w' hS; clear hS; go_simp; try rfl; done)
              simp only [Act.put, List.setIfInBounds_toArray, List.set_cons_zero, List.set_cons_succ]
              refine wpTame_run (v := ?_) (by decide) rfl (fun w' hS => ?_) ?_
              rotate_left
              focus (have q0 := c0 w' hS; have q1 := c1 w' hS; have q2 := c3 w' hS; clear hS; go_simp; try rfl; done)
              simp only [Act.put, List.setIfInBounds_toArray, List.set_cons_zero, List.set_cons_succ]
              refine wpTame_run (v := ?_) (by decide) rfl (fun w' hS => ?_) ?_
              rotate_left
              focus (have q0 := c0 w' hS; have q1 := c1 w' hS; have q2 := c3 w' hS; clear hS; go_simp; try rfl; done)
              simp only [Act.put, List.setIfInBounds_toArray, List.set_cons_zero, List.set_cons_succ]
              refine wpTame_call (by decide) rfl (fun w' hS => by go_simp; all_goals first | exact ⟨rfl, rfl⟩ | rfl) (fun w' hS => (rmulU_any y x w').mono fun e w'' ⟨he, n, hw⟩ => ⟨he, by obtain ⟨n0, rfl⟩ := hS; exact ⟨n0 + n, by rw [hw, World.drewN_drewN]⟩⟩) ?_
              simp only [Act.put, List.setIfInBounds_toArray, List.set_cons_zero, List.set_cons_succ]
              refine wpTame_run (v := ?_) (by decide) rfl (fun w' hS => ?_) ?_
              rotate_left
              focus (clear hS; go_simp; try rfl; done)
              simp only [Act.put, List.setIfInBounds_toArray, List.set_cons_zero, List.set_cons_succ]
              refine wpTame_run (v := ?_) (by decide) rfl (fun w' hS => ?_) ?_
              rotate_left
              focus (clear hS; go_simp; try rfl; done)
              simp only [Act.put, List.setIfInBounds_toArray, List.set_cons_zero, List.set_cons_succ]
              refine wpTame_nil ?_
              rintro w5 ⟨n5, rfl⟩
              have cz : wr.cell? ⟨w.heap.size + 1 + 1 + 1, k, none⟩ = some (.int .u8 (z.toNat : Int)) := c3 (wr.drewN n5) ⟨n5, rfl⟩
              clear c0 c1 c3
              go_wp2
              go_roundw
              case rel =>
                refine ⟨r + 1, by omega, by go_num, (K0.out.draw _).set_ne (by simp; omega) _, (K1.out.draw _).set_ne (by simp) _, (K2.out.draw _).set_ne (by simp) _, ?_, (Below.mk KB.out.os KB.out.tape KB.out.output KB.out.size KB.out.block : Below w.heap.size w (wr.drewN n5)).setCell (by simp; omega) _⟩
                have h := (K3.out.draw n5).set k (.int .u8 ((z ^^^ gmU y x).toNat : Int))
                have e : dotP m l k (r + 1) = z ^^^ gmU y x := by
                  rw [dotP, HJ.out, HD.out, HQ.out, HC.out, HS.out, HX.out, HY.out, HZ.out]
                rw [barr_set, ← e, List.set_set] at h
                rw [xorU, ← e]
                exact h
              case measure => simp [intOf]; omega
            · obtain rfl : r = 4 := by omega
              rw [dotP_mix, mixT_succ] at h3
              have HN : Hid (4 * c + (j + 1) = k + 1) := Lib.hid (by have := HK.out; omega)
              go_wp2
              go_roundw
              case rel =>
                refine ⟨j + 1, by omega, by go_num, ?_⟩
                rw [HN.out]
                exact Lib.hid ⟨h0, h1, h2, h3, hb2⟩
              case measure => simp [intOf]; omega
        · obtain rfl : j = 4 := by omega
          go_wp2
          go_roundw
          case rel => exact ⟨c + 1, by omega, by go_num, HG.out⟩
          case measure => simp [intOf]; omega
    · obtain rfl : c = 4 := by omega
      rw [show 4 * 4 = 16 from rfl, mixT_end] at g3
      have hs : (barr (mixB m l)).size = 16 := by rw [barr_size, mixB_len]
      go_wp2_with (first | ((with_reducible change wpList _ _ _ (Oper.mk _ (Op.load 31 _) _ _ _ _ :: _) _ _); refine wpList_load_blk (ty := 31) (w.heap.size + 1 + 1 + 1) rfl g3 Try.underlying31 rfl size16 hs ?_) | ((with_reducible change wpList _ _ _ (Oper.mk _ (Op.store 31 _ _) _ _ _ _ :: _) _ _); refine wpList_store_blk (ty := 31) (w.heap.size + 1 + 1) (barr (mixB m l)) rfl rfl g2 size16 hs (barr_size _) (barr_one _) ?_))
      refine bodyPost_ret (results_cell_blk rfl _ _ (w.heap.size + 1 + 1) rfl (g2.row _) Try.underlying31 rfl size16 hs) rfl ⟨rfl, below_row hbl (by omega) _⟩
end Go.Proofs.Ytihmgkjmebdioaa
/- The document's answer for AES: Encrypt, Decrypt, Form. Conditions: a block has sixteen bytes; the round keys are there. -/
namespace Go.Proofs.Ytihmgkjmebdioaa
open Go.RowKit
set_option maxRecDepth 100000
set_option linter.unusedVariables false
set_option linter.unusedSimpArgs false
theorem map_tab (f : UInt8 → UInt8) (l : List UInt8) (n : Nat) (h : l.length = n) : l.map f = tab n (fun j => f (l.getD j 0)) := by
  have e := tab_self l h
  conv => lhs; rw [← e]
  unfold tab
  rw [List.map_map]
  rfl
/-- the worlds between -/
structure REW (w w1 : World) (st : List UInt8) : Prop where
  st : Blk w1 w.heap.size 31 (barr st)
  res : Blk w1 (w.heap.size + 1) 31 (barr (List.replicate 16 0))
  bel : Below w.heap.size w w1
theorem REW.below {w w1 w2 : World} {st : List UInt8} (h : REW w w1 st) (hb : Below w1.heap.size w1 w2) : REW w w2 st :=
  ⟨h.st.below hb h.st.lt, h.res.below hb h.res.lt, h.bel.trans (hb.mono h.bel.size)⟩
theorem REW.put {w w1 : World} {st : List UInt8} (h : REW w w1 st) (st' : List UInt8) : REW w (w1.setRow w.heap.size (barr st')) st' :=
  ⟨h.st.row _, h.res.row_ne (by omega) _, below_row h.bel (Nat.le_refl _) _⟩
set_option maxHeartbeats 2000000 in
theorem rencrypt_any (a g n cap : Nat) (K l : List UInt8) (w : World) (h : RA w a g n cap K) (hl : l.length = 16) (R : Nat) (hn : n = 4 * (R + 1)) (hR : R ≤ 14) :
    Calls Try.prog 59 #[.pointer (some ⟨a, 0, none⟩), .agg (barr l)] w fun e w' => e = .returned (.agg (barr (enc K R l))) ∧ Below w.heap.size w w' := by
  have HR := Lib.hid h
  have HN := Lib.hid hn
  have hra := h.lt
  clear h hn
  go_enter Try.func59, Try.ntmps59
  obtain ⟨w0, hw0⟩ : ∃ x, (w.alloc (.cells (barr l) 31)).alloc (.cells (barr (List.replicate 16 0)) 31) = x := ⟨_, rfl⟩
  have H0 : Hid (REW w w0 l) := by
    rw [← hw0]
    exact Lib.hid ⟨(Blk.at rfl rfl).alloc _, Blk.at (by simp) rfl, ((Below.refl _ _).alloc (Nat.le_refl _) _).alloc (by simp) _⟩
  have hll : (barr l).size = 16 := by rw [barr_size, hl]
  go_upto_region 1 with fail
  change Code.wp _ _ _ _ ((w.alloc (.cells (barr l) 31)).alloc (.cells (barr (List.replicate 16 0)) 31))
  rw [hw0]
  clear hw0
  go_wp2_with ((with_reducible change wpList _ _ _ (Oper.mk _ (Op.load 31 _) _ _ _ _ :: _) _ _); refine wpList_load_blk (ty := 31) w.heap.size rfl H0.out.st Try.underlying31 rfl size16 hll ?_)
  refine (radd_any a g n cap K l 0 w0 (HR.out.below H0.out.bel) hl (by have := HN.out; omega) (by have := HN.out; omega)).mono ?_
  rintro e w3 ⟨rfl, h3⟩
  have H3 := Lib.hid (H0.out.below h3)
  clear h3
  have hs3 : (barr (withK K l 0)).size = 16 := by rw [barr_size, withK_len]
  go_wp2_with ((with_reducible change wpList _ _ _ (Oper.mk _ (Op.store 31 _ _) _ _ _ _ :: _) _ _); refine wpList_store_blk (ty := 31) w.heap.size (barr (withK K l 0)) rfl rfl H3.out.st size16 hs3 hll (barr_one _) ?_)
  have H4 := Lib.hid (H3.out.put (withK K l 0))
  clear H3
  go_loopw [5] (fun i w1 => ∃ r : Nat, r ≤ R ∧ i = .int .i64 ((r : Int) + 1) ∧ Hid (REW w w1 (encS K R l r))) (fun i _ => R + 1 - (intOf i).toNat)
  case atStart => exact ⟨0, by omega, rfl, H4⟩
  case round =>
    obtain ⟨r, hrr, rfl, H⟩ := hrel
    clear H4 H0
    go_wp2_with fail
    refine (rrounds_any a g n cap K wr (HR.out.below H.out.bel) R HN.out hR).mono ?_
    rintro e w' ⟨rfl, rfl⟩
    have hst : (encS K R l r).length = 16 := encS_len _ _ _ _
    obtain ⟨st, hstt⟩ : ∃ st, st = encS K R l r := ⟨_, rfl⟩
    rw [← hstt] at H hst
    have HST := Lib.hid hstt
    clear hstt
    have hb16 : (barr st).size = 16 := by rw [barr_size, hst]
    by_cases hlt : r < R
    · have hle : decide ((r : Int) + 1 ≤ (R : Int)) = true := by simp; omega
      go_wp2_with fail
      go_loopw [6] (fun i w1 => ∃ j : Nat, j ≤ 16 ∧ i = .int .i64 (j : Int) ∧ REW w w1 (mixT 16 (fun i => boxU (st.getD i 0)) (fun i => st.getD i 0) j)) (fun i _ => 16 - (intOf i).toNat)
      case atStart =>
        refine ⟨0, by omega, rfl, ?_⟩
        rw [mixT_zero, tab_self st hst]
        exact H.out
      case round =>
        obtain ⟨j, hj, rfl, h5⟩ := hrel
        by_cases hjt : j < 16
        · have c0 := h5.st.cellAt j (barr_getD _ j (by rw [mixT_len]; exact hjt))
          rw [mixT_at _ _ _ _ hjt] at c0
          have f0 := h5.st.unfrozen j
          have hb := h5.st.lt
          generalize hx : st.getD j 0 = x at c0
          have c1 := (HR.out.below h5.bel).box x
          have hx2 := x.toNat_lt
          have HX := Lib.hid hx
          clear hx
          go_wp2_with fail
          go_region
          all_goals go_wp2_with fail
          all_goals go_roundw
          case rel =>
            refine ⟨j + 1, by omega, by go_num, ?_, (h5.res.set_ne (by simp) _).drew, (h5.bel.setCell (by simp) _).drew⟩
            have h := (h5.st.set j (.int .u8 ((boxU x).toNat : Int))).drew
            have e : mixT 16 (fun j => boxU (st.getD j 0)) (fun j => st.getD j 0) (j + 1) = (mixT 16 (fun j => boxU (st.getD j 0)) (fun j => st.getD j 0) j).set j (boxU x) := by
              rw [← mixT_succ, HX.out]
            rw [barr_set, ← e] at h
            exact h
          case measure => simp [intOf]; omega
        · obtain rfl : j = 16 := by omega
          rw [mixT_end, ← map_tab boxU st 16 hst] at h5
          have H5 := Lib.hid h5
          clear h5
          have hm : (st.map boxU).length = 16 := by rw [List.length_map]; exact hst
          have hms : (barr (st.map boxU)).size = 16 := by rw [barr_size]; exact hm
          go_wp2_with ((with_reducible change wpList _ _ _ (Oper.mk _ (Op.load 31 _) _ _ _ _ :: _) _ _); refine wpList_load_blk (ty := 31) w.heap.size rfl H5.out.st Try.underlying31 rfl size16 hms ?_)
          refine (rturned_any (st.map boxU) 1 wr hm (.inl rfl)).mono ?_
          rw [shift_turn st hst]
          rintro e w6 ⟨rfl, h6⟩
          have H6 := Lib.hid (H5.out.below h6)
          clear h6 H5
          have hss : (barr (shiftB st)).size = 16 := by rw [barr_size, shiftB_len]
          go_wp2_with ((with_reducible change wpList _ _ _ (Oper.mk _ (Op.store 31 _ _) _ _ _ _ :: _) _ _); refine wpList_store_blk (ty := 31) w.heap.size (barr (shiftB st)) rfl rfl H6.out.st size16 hss hms (barr_one _) ?_)
          have H7 := Lib.hid (H6.out.put (shiftB st))
          clear H6
          obtain ⟨w7, hw7⟩ : ∃ x, w6.setRow w.heap.size (barr (shiftB st)) = x := ⟨_, rfl⟩
          rw [hw7] at H7 ⊢
          clear hw7
          refine (rrounds_any a g n cap K w7 (HR.out.below H7.out.bel) R HN.out hR).mono ?_
          rintro e w' ⟨rfl, rfl⟩
          by_cases hlt2 : r + 1 < R
          · have hle2 : decide ((r : Int) + 1 < (R : Int)) = true := by simp; omega
            go_wp2_with ((with_reducible change wpList _ _ _ (Oper.mk _ (Op.load 31 _) _ _ _ _ :: _) _ _); refine wpList_load_blk (ty := 31) w.heap.size rfl H7.out.st Try.underlying31 rfl size16 hss ?_)
            refine (rmixed_any (shiftB st) m2 _ (shiftB_len st) rfl).mono ?_
            rintro e w8 ⟨rfl, h8⟩
            have H8 := Lib.hid (H7.out.below h8)
            clear h8 H7
            have hsm : (barr (mixB m2 (shiftB st))).size = 16 := by rw [barr_size, mixB_len]
            have H9 := Lib.hid (H8.out.put (mixB m2 (shiftB st)))
            go_wp2_with (first | ((with_reducible change wpList _ _ _ (Oper.mk _ (Op.store 31 _ _) _ _ _ _ :: _) _ _); refine wpList_store_blk (ty := 31) w.heap.size (barr (mixB m2 (shiftB st))) rfl rfl H8.out.st size16 hsm hss (barr_one _) ?_) | ((with_reducible change wpList _ _ _ (Oper.mk _ (Op.load 31 _) _ _ _ _ :: _) _ _); refine wpList_load_blk (ty := 31) w.heap.size rfl H9.out.st Try.underlying31 rfl size16 hsm ?_))
            rw [show (r : Int) + 1 = ((r + 1 : Nat) : Int) from by omega]
            refine (radd_any a g n cap K (mixB m2 (shiftB st)) (r + 1) _ (HR.out.below H9.out.bel) (mixB_len _ _) (by have := HN.out; omega) (by have := HN.out; omega)).mono ?_
            rintro e w10 ⟨rfl, h10⟩
            have H10 := Lib.hid (H9.out.below h10)
            clear h10 H9 H8
            have hs6 : (barr (withK K (mixB m2 (shiftB st)) (r + 1))).size = 16 := by rw [barr_size, withK_len]
            go_wp2_with ((with_reducible change wpList _ _ _ (Oper.mk _ (Op.store 31 _ _) _ _ _ _ :: _) _ _); refine wpList_store_blk (ty := 31) w.heap.size (barr (withK K (mixB m2 (shiftB st)) (r + 1))) rfl rfl H10.out.st size16 hs6 hsm (barr_one _) ?_)
            go_roundw
            case rel =>
              refine ⟨r + 1, by omega, by go_num, ?_⟩
              have e : encS K R l (r + 1) = withK K (mixB m2 (shiftB st)) (r + 1) := by
                rw [encS, ← HST.out]
                unfold rnd mid
                rw [if_pos hlt2]
              rw [e]
              exact Lib.hid (H10.out.put _)
            case measure => simp [intOf]; omega
          · have hle2 : decide ((r : Int) + 1 < (R : Int)) = false := by simp; omega
            go_wp2_with ((with_reducible change wpList _ _ _ (Oper.mk _ (Op.load 31 _) _ _ _ _ :: _) _ _); refine wpList_load_blk (ty := 31) w.heap.size rfl H7.out.st Try.underlying31 rfl size16 hss ?_)
            rw [show (r : Int) + 1 = ((r + 1 : Nat) : Int) from by omega]
            refine (radd_any a g n cap K (shiftB st) (r + 1) _ (HR.out.below H7.out.bel) (shiftB_len _) (by have := HN.out; omega) (by have := HN.out; omega)).mono ?_
            rintro e w10 ⟨rfl, h10⟩
            have H10 := Lib.hid (H7.out.below h10)
            clear h10 H7
            have hs6 : (barr (withK K (shiftB st) (r + 1))).size = 16 := by rw [barr_size, withK_len]
            go_wp2_with ((with_reducible change wpList _ _ _ (Oper.mk _ (Op.store 31 _ _) _ _ _ _ :: _) _ _); refine wpList_store_blk (ty := 31) w.heap.size (barr (withK K (shiftB st) (r + 1))) rfl rfl H10.out.st size16 hs6 hss (barr_one _) ?_)
            go_roundw
            case rel =>
              refine ⟨r + 1, by omega, by go_num, ?_⟩
              have e : encS K R l (r + 1) = withK K (shiftB st) (r + 1) := by
                rw [encS, ← HST.out]
                unfold rnd mid
                rw [if_neg hlt2]
              rw [e]
              exact Lib.hid (H10.out.put _)
            case measure => simp [intOf]; omega
    · have hrR : r = R := by omega
      have hle : decide ((r : Int) + 1 ≤ (R : Int)) = false := by simp; omega
      go_wp2_with (first | ((with_reducible change wpList _ _ _ (Oper.mk _ (Op.load 31 _) _ _ _ _ :: _) _ _); refine wpList_load_blk (ty := 31) w.heap.size rfl H.out.st Try.underlying31 rfl size16 hb16 ?_) | ((with_reducible change wpList _ _ _ (Oper.mk _ (Op.store 31 _ _) _ _ _ _ :: _) _ _); refine wpList_store_blk (ty := 31) (w.heap.size + 1) (barr st) rfl rfl H.out.res size16 hb16 (by rw [barr_size]; rfl) (barr_one _) ?_))
      refine bodyPost_ret (results_cell_blk rfl _ _ (w.heap.size + 1) rfl (H.out.res.row _) Try.underlying31 rfl size16 hb16) rfl ⟨?_, below_row H.out.bel (by omega) _⟩
      have e : enc K R l = st := by rw [enc_S, HST.out, hrR]
      rw [e]
end Go.Proofs.Ytihmgkjmebdioaa
/- The document's answer for AES: Decrypt. Conditions: a block has sixteen bytes; the round keys are there. -/
namespace Go.Proofs.Ytihmgkjmebdioaa
open Go.RowKit
set_option maxRecDepth 100000
set_option linter.unusedVariables false
set_option linter.unusedSimpArgs false
def backs : Nat → List UInt8
  | 0 => List.replicate 256 0
  | i + 1 => (backs i).set (boxU (UInt8.ofNat i)).toNat (UInt8.ofNat i)
theorem backs_len : ∀ i, (backs i).length = 256
  | 0 => by simp [backs]
  | i + 1 => by rw [backs, List.length_set, backs_len i]
theorem backs_get : ∀ (i : Nat), i ≤ 256 → ∀ y : UInt8, (backs i).getD y.toNat 0 = if (backU y).toNat < i then backU y else 0
  | 0, _, y => by
    have hy := y.toNat_lt
    rw [if_neg (by omega), backs, List.getD_eq_getElem?_getD, List.getElem?_replicate, if_pos (by omega)]
    rfl
  | i + 1, hi, y => by
    have ih := backs_get i (by omega) y
    rw [backs]
    by_cases h : (boxU (UInt8.ofNat i)).toNat = y.toNat
    · have e : boxU (UInt8.ofNat i) = y := UInt8.toNat_inj.1 h
      have e2 : backU y = UInt8.ofNat i := by rw [← e, back_boxU]
      rw [h, List.getD_eq_getElem?_getD, List.getElem?_set_self (by rw [backs_len]; have := y.toNat_lt; omega), e2, if_pos (by rw [tU i (by omega)]; omega)]
      rfl
    · rw [List.getD_eq_getElem?_getD, List.getElem?_set_ne h, ← List.getD_eq_getElem?_getD, ih]
      by_cases h2 : (backU y).toNat < i
      · rw [if_pos h2, if_pos (by omega)]
      · rw [if_neg h2]
        have hne : (backU y).toNat ≠ i := by
          intro e
          apply h
          have e3 : UInt8.ofNat i = backU y := by apply UInt8.toNat_inj.1; rw [tU i (by omega), e]
          rw [e3, box_backU]
        rw [if_neg (by omega)]
theorem backs_all (y : UInt8) : (backs 256).getD y.toNat 0 = backU y := by
  rw [backs_get 256 (Nat.le_refl _), if_pos (backU y).toNat_lt]
theorem zero256 (w : World) : (zeroValue 105).run Try.prog w = .ok (.agg (barr (List.replicate 256 0))) w := by kernel_rfl
theorem size256 : (Try.prog.info? 105).map (·.size) = some 256 := by kernel_rfl
structure RDW (w w1 : World) (st tb : List UInt8) : Prop where
  ew : REW w w1 st
  tb : Blk w1 (w.heap.size + 1 + 1) 105 (barr tb)
theorem RDW.below {w w1 w2 : World} {st tb : List UInt8} (h : RDW w w1 st tb) (hb : Below w1.heap.size w1 w2) : RDW w w2 st tb := ⟨h.ew.below hb, h.tb.below hb h.tb.lt⟩
theorem RDW.put {w w1 : World} {st tb : List UInt8} (h : RDW w w1 st tb) (st' : List UInt8) : RDW w (w1.setRow w.heap.size (barr st')) st' tb := ⟨h.ew.put st', h.tb.row_ne (by omega) _⟩
set_option maxHeartbeats 2000000 in
theorem rdecrypt_any (a g n cap : Nat) (K l : List UInt8) (w : World) (h : RA w a g n cap K) (hl : l.length = 16) (R : Nat) (hn : n = 4 * (R + 1)) (hR : R ≤ 14) :
    Calls Try.prog 60 #[.pointer (some ⟨a, 0, none⟩), .agg (barr l)] w fun e w' => e = .returned (.agg (barr (dec K R l))) ∧ Below w.heap.size w w' := by
  have HR := Lib.hid h
  have HN := Lib.hid hn
  have hra := h.lt
  have hz := zero256
  generalize hZ : barr (List.replicate 256 0) = Z at hz
  have HZ := Lib.hid hZ
  clear h hn hZ
  go_enter Try.func60, Try.ntmps60
  have hll : (barr l).size = 16 := by rw [barr_size, hl]
  go_upto_region 2 with fail
  obtain ⟨w0, hw0⟩ : ∃ x, ((w.alloc (.cells (barr l) 31)).alloc (.cells (barr (List.replicate 16 0)) 31)).alloc (.cells Z 105) = x := ⟨_, rfl⟩
  have H0 : Hid (RDW w w0 l (backs 0)) := by
    rw [← hw0, ← HZ.out]
    exact Lib.hid ⟨⟨((Blk.at rfl rfl).alloc _).alloc _, (Blk.at (by simp) rfl).alloc _, (((Below.refl _ _).alloc (Nat.le_refl _) _).alloc (by simp) _).alloc (by simp; omega) _⟩, Blk.at (by simp) rfl⟩
  change Code.wp _ _ _ _ (((w.alloc (.cells (barr l) 31)).alloc (.cells (barr (List.replicate 16 0)) 31)).alloc (.cells Z 105))
  rw [hw0]
  clear hw0 hz HZ
  go_wp2_with fail
  go_loopw [6] (fun i w1 => ∃ j : Nat, j ≤ 256 ∧ i = .int .i64 (j : Int) ∧ Hid (RDW w w1 l (backs j))) (fun i _ => 256 - (intOf i).toNat)
  case atStart => exact ⟨0, by omega, rfl, H0⟩
  case round =>
    obtain ⟨j, hj, rfl, H⟩ := hrel
    clear H0
    by_cases hjt : j < 256
    · obtain ⟨x, hx⟩ : ∃ x, x = UInt8.ofNat j := ⟨_, rfl⟩
      have hxj : x.toNat = j := by rw [hx, tU j hjt]
      have c1 := (HR.out.below H.out.ew.bel).box x
      have HX := Lib.hid hx
      rw [hxj] at c1
      obtain ⟨y, hy⟩ : ∃ y, y = boxU x := ⟨_, rfl⟩
      rw [← hy] at c1
      have HY := Lib.hid hy
      have hy2 := y.toNat_lt
      have f2 := H.out.tb.unfrozen y.toNat
      have c2 := H.out.tb.cellAt y.toNat (barr_getD _ y.toNat (by rw [backs_len]; exact hy2))
      have hb := H.out.tb.lt
      have HXJ : Hid ((x.toNat : Int) = (j : Int)) := Lib.hid (by omega)
      clear hx hy hxj
      go_wp2_with fail
      go_roundw
      case rel =>
        refine ⟨j + 1, by omega, by go_num, Lib.hid ⟨⟨H.out.ew.st.set_ne (by simp; omega) _, H.out.ew.res.set_ne (by simp) _, H.out.ew.bel.setCell (by simp; omega) _⟩, ?_⟩⟩
        have e : backs (j + 1) = (backs j).set y.toNat x := by rw [backs, ← HX.out, ← HY.out]
        have h := H.out.tb.set y.toNat (.int .u8 (x.toNat : Int))
        rw [barr_set, ← e, HXJ.out] at h
        exact h
      case measure => simp [intOf]; omega
    · obtain rfl : j = 256 := by omega
      go_wp2_with fail
      refine (rrounds_any a g n cap K wr (HR.out.below H.out.ew.bel) R HN.out hR).mono ?_
      rintro e w' ⟨rfl, rfl⟩
      go_wp2_with fail
      go_loopw [7] (fun i w1 => ∃ r : Nat, r ≤ R ∧ i = .int .i64 (r : Int) ∧ ∃ st, Hid (st.length = 16 ∧ decN K R r st = dec K R l ∧ RDW w w1 st (backs 256))) (fun i _ => (intOf i).toNat)
      case atStart => exact ⟨R, Nat.le_refl _, rfl, l, Lib.hid ⟨hl, rfl, H.out⟩⟩
      case round =>
        obtain ⟨r, hr, rfl, st, HS⟩ := hrel
        clear H
        have hst := HS.out.1
        have hb16 : (barr st).size = 16 := by rw [barr_size, hst]
        by_cases h1 : 1 ≤ r
        · have hge : decide ((r : Int) ≥ 1) = true := by simp; omega
          have hge2 : decide (1 ≤ (r : Int)) = true := by simp; omega
          go_wp2_with ((with_reducible change wpList _ _ _ (Oper.mk _ (Op.load 31 _) _ _ _ _ :: _) _ _); refine wpList_load_blk (ty := 31) w.heap.size rfl HS.out.2.2.ew.st Try.underlying31 rfl size16 hb16 ?_)
          refine (radd_any a g n cap K st r wr (HR.out.below HS.out.2.2.ew.bel) hst (by have := HN.out; omega) (by have := HN.out; omega)).mono ?_
          rintro e w3 ⟨rfl, h3⟩
          have hs3 : (barr (withK K st r)).size = 16 := by rw [barr_size, withK_len]
          have H3 := Lib.hid (HS.out.2.2.below h3)
          have H4 := Lib.hid (H3.out.put (withK K st r))
          clear h3
          go_wp2_with ((with_reducible change wpList _ _ _ (Oper.mk _ (Op.store 31 _ _) _ _ _ _ :: _) _ _); refine wpList_store_blk (ty := 31) w.heap.size (barr (withK K st r)) rfl rfl H3.out.ew.st size16 hs3 hb16 (barr_one _) ?_)
          obtain ⟨w4, hw4⟩ : ∃ x, w3.setRow w.heap.size (barr (withK K st r)) = x := ⟨_, rfl⟩
          rw [hw4] at H4 ⊢
          clear hw4 H3
          refine (rrounds_any a g n cap K w4 (HR.out.below H4.out.ew.bel) R HN.out hR).mono ?_
          rintro e w' ⟨rfl, rfl⟩
          obtain ⟨s2, hs2⟩ : ∃ s2, s2 = dim R r (withK K st r) := ⟨_, rfl⟩
          have hs2l : s2.length = 16 := by rw [hs2]; exact dim_len _ _ _ (withK_len _ _ _)
          have hs2s : (barr s2).size = 16 := by rw [barr_size, hs2l]
          have HS2 := Lib.hid hs2
          clear hs2
          go_upto_if 35 with fail
          go_cut [] from 35 to 38 (fun wx => Hid (RDW w wx s2 (backs 256)))
          case first =>
            by_cases hlt : r < R
            · have hlt2 : decide ((r : Int) < (R : Int)) = true := by simp; omega
              have es : s2 = mixB m14 (withK K st r) := by rw [HS2.out]; unfold dim; rw [if_pos hlt]
              go_wp2_with ((with_reducible change wpList _ _ _ (Oper.mk _ (Op.load 31 _) _ _ _ _ :: _) _ _); refine wpList_load_blk (ty := 31) w.heap.size rfl H4.out.ew.st Try.underlying31 rfl size16 hs3 ?_)
              refine (rmixed_any (withK K st r) m14 _ (withK_len _ _ _) rfl).mono ?_
              rw [← es]
              rintro e w5 ⟨rfl, h5⟩
              have H5 := Lib.hid (H4.out.below h5)
              clear h5 es
              have H6 := Lib.hid (H5.out.put s2)
              go_wp2_with ((with_reducible change wpList _ _ _ (Oper.mk _ (Op.store 31 _ _) _ _ _ _ :: _) _ _); refine wpList_store_blk (ty := 31) w.heap.size (barr s2) rfl rfl H5.out.ew.st size16 hs2s hs3 (barr_one _) ?_)
              simp only [Act.put]
              go_meet
              exact H6
            · have hlt2 : decide ((r : Int) < (R : Int)) = false := by simp; omega
              have es : s2 = withK K st r := by rw [HS2.out]; unfold dim; rw [if_neg hlt]
              have H6 : Hid (RDW w w4 s2 (backs 256)) := by rw [es]; exact H4
              go_wp2_with fail
              go_meet
              exact H6
          case rest =>
            have H6 := hcut
            clear hcut
            clear H4
            go_wp2_with ((with_reducible change wpList _ _ _ (Oper.mk _ (Op.load 31 _) _ _ _ _ :: _) _ _); refine wpList_load_blk (ty := 31) w.heap.size rfl H6.out.ew.st Try.underlying31 rfl size16 hs2s ?_)
            refine (rturned_any s2 3 _ hs2l (.inr rfl)).mono ?_
            rintro e w7 ⟨rfl, h7⟩
            have H7 := Lib.hid (H6.out.below h7)
            clear h7 H6
            obtain ⟨t, ht⟩ : ∃ t, t = turnB 3 s2 := ⟨_, rfl⟩
            have htl : t.length = 16 := by rw [ht]; exact turnB_len _ _
            have hts : (barr t).size = 16 := by rw [barr_size, htl]
            rw [← ht]
            have HT := Lib.hid ht
            have H8 := Lib.hid (H7.out.put t)
            clear ht
            go_wp2_with ((with_reducible change wpList _ _ _ (Oper.mk _ (Op.store 31 _ _) _ _ _ _ :: _) _ _); refine wpList_store_blk (ty := 31) w.heap.size (barr t) rfl rfl H7.out.ew.st size16 hts hs2s (barr_one _) ?_)
            obtain ⟨w8, hw8⟩ : ∃ x, w7.setRow w.heap.size (barr t) = x := ⟨_, rfl⟩
            rw [hw8] at H8 ⊢
            clear hw8 H7
            go_wp2_with fail
            go_loopw [8] (fun i w1 => ∃ j : Nat, j ≤ 16 ∧ i = .int .i64 (j : Int) ∧ RDW w w1 (mixT 16 (fun i => backU (t.getD i 0)) (fun i => t.getD i 0) j) (backs 256)) (fun i _ => 16 - (intOf i).toNat)
            case atStart =>
              refine ⟨0, by omega, rfl, ?_⟩
              rw [mixT_zero, tab_self t htl]
              exact H8.out
            case round =>
              obtain ⟨j, hj, rfl, h5⟩ := hrel
              by_cases hjt : j < 16
              · have c0 := h5.ew.st.cellAt j (barr_getD _ j (by rw [mixT_len]; exact hjt))
                rw [mixT_at _ _ _ _ hjt] at c0
                have f0 := h5.ew.st.unfrozen j
                have hb := h5.ew.st.lt
                have hb2 := h5.tb.lt
                generalize hx : t.getD j 0 = x at c0
                have hx2 := x.toNat_lt
                have c1 := h5.tb.cellAt x.toNat (barr_getD _ x.toNat (by rw [backs_len]; exact hx2))
                rw [backs_all] at c1
                have HX := Lib.hid hx
                clear hx
                go_wp2_with fail
                go_roundw
                case rel =>
                  refine ⟨j + 1, by omega, by go_num, ⟨?_, h5.ew.res.set_ne (by simp) _, h5.ew.bel.setCell (by simp) _⟩, h5.tb.set_ne (by simp; omega) _⟩
                  have h := h5.ew.st.set j (.int .u8 ((backU x).toNat : Int))
                  have e : mixT 16 (fun j => backU (t.getD j 0)) (fun j => t.getD j 0) (j + 1) = (mixT 16 (fun j => backU (t.getD j 0)) (fun j => t.getD j 0) j).set j (backU x) := by
                    rw [← mixT_succ, HX.out]
                  rw [barr_set, ← e] at h
                  exact h
                case measure => simp [intOf]; omega
              · obtain rfl : j = 16 := by omega
                rw [mixT_end, ← map_tab backU t 16 htl, HT.out, un_turn s2 st hs2l hst] at h5
                have H5 := Lib.hid h5
                clear h5
                obtain ⟨r', rfl⟩ : ∃ r', r = r' + 1 := ⟨r - 1, by omega⟩
                have hwr : IntKind.i64.wrap (((r' + 1 : Nat) : Int) - 1) = (r' : Int) := by rw [IntWalk.i64_in _ (by omega)]; omega
                have hwr2 : ((r' + 1 : Nat) : Int) - 1 = (r' : Int) := by omega
                have hd := HS.out.2.1
                rw [decN, ← HS2.out] at hd
                have HD := Lib.hid hd
                clear hd
                go_wp2_with fail
                go_roundw
                case rel =>
                  refine ⟨r', by omega, by first | rfl | exact congrArg _ hwr2, _, Lib.hid ⟨?_, HD.out, H5.out⟩⟩
                  rw [unTo_len]; exact hst
                case measure => simp [intOf]
        · obtain rfl : r = 0 := by omega
          have hge : decide (((0 : Nat) : Int) ≥ 1) = false := by decide
          have hge2 : decide (1 ≤ ((0 : Nat) : Int)) = false := by decide
          go_wp2_with ((with_reducible change wpList _ _ _ (Oper.mk _ (Op.load 31 _) _ _ _ _ :: _) _ _); refine wpList_load_blk (ty := 31) w.heap.size rfl HS.out.2.2.ew.st Try.underlying31 rfl size16 hb16 ?_)
          refine (radd_any a g n cap K st 0 wr (HR.out.below HS.out.2.2.ew.bel) hst (by have := HN.out; omega) (by have := HN.out; omega)).mono ?_
          rintro e w3 ⟨rfl, h3⟩
          have hd : withK K st 0 = dec K R l := HS.out.2.1
          rw [hd]
          have hs3 : (barr (dec K R l)).size = 16 := by rw [barr_size, dec_len]
          have H3 := Lib.hid (HS.out.2.2.below h3)
          clear h3
          go_wp2_with ((with_reducible change wpList _ _ _ (Oper.mk _ (Op.store 31 _ _) _ _ _ _ :: _) _ _); refine wpList_store_blk (ty := 31) (w.heap.size + 1) (barr (dec K R l)) rfl rfl H3.out.ew.res size16 hs3 (by rw [barr_size]; rfl) (barr_one _) ?_)
          refine bodyPost_ret (results_cell_blk rfl _ _ (w.heap.size + 1) rfl (H3.out.ew.res.row _) Try.underlying31 rfl size16 hs3) rfl ⟨rfl, below_row H3.out.ew.bel (by omega) _⟩
end Go.Proofs.Ytihmgkjmebdioaa
/- The document's S-box table: turnkeyref04.Boxes. -/
namespace Go.Proofs.Ytihmgkjmebdioaa
open Go.RowKit
set_option maxRecDepth 100000
set_option linter.unusedVariables false
set_option linter.unusedSimpArgs false
/-- the inverses that are found behind the first A bytes -/
def invL (A : Nat) : List UInt8 := tab 256 fun y => if y < A ∨ gi y < A then UInt8.ofNat (gi y) else 0
theorem invL_len (A : Nat) : (invL A).length = 256 := tab_length _ _
theorem invL_at (A y : Nat) (hy : y < 256) : (invL A).getD y 0 = if y < A ∨ gi y < A then UInt8.ofNat (gi y) else 0 := by
  unfold invL tab
  rw [List.getD_eq_getElem?_getD, List.getElem?_map, List.getElem?_range hy]
  rfl
theorem gi_ne (y : Nat) (hy : y < 256) (h0 : y ≠ 0) : gi y ≠ 0 := by
  intro h
  have h1 := gi_mul y hy h0
  rw [h, gm_zero y hy] at h1
  omega
theorem invL_one : invL 1 = List.replicate 256 0 := by
  rw [← tab_zero 256]
  unfold invL
  refine tab_ext _ _ _ fun y hy => ?_
  by_cases h0 : y = 0
  · subst h0
    simp [gi_zero]
  · have := gi_ne y hy h0
    rw [if_neg (by omega)]
theorem invL_skip (A : Nat) (hA : A < 256) (h : gi A < A) : invL A = invL (A + 1) := by
  unfold invL
  refine tab_ext _ _ _ fun y hy => ?_
  by_cases h1 : y < A ∨ gi y < A
  · rw [if_pos h1, if_pos (by omega)]
  · rw [if_neg h1]
    by_cases h2 : y < A + 1 ∨ gi y < A + 1
    · exfalso
      have e : y = A ∨ gi y = A := by omega
      rcases e with e | e
      · subst e; omega
      · have := gi_gi y hy
        rw [e] at this
        omega
    · rw [if_neg h2]
theorem invL_set (A : Nat) (hA : A < 256) (h0 : A ≠ 0) (h : ¬ gi A < A) : ((invL A).set A (UInt8.ofNat (gi A))).set (gi A) (UInt8.ofNat A) = invL (A + 1) := by
  have hg := gi_lt A
  have hgg := gi_gi A hA
  apply List.ext_getElem?
  intro y
  by_cases hy : y < 256
  · have e : ∀ B, (invL B)[y]? = some (if y < B ∨ gi y < B then UInt8.ofNat (gi y) else 0) := fun B => by
      unfold invL tab
      rw [List.getElem?_map, List.getElem?_range hy]
      rfl
    rw [e]
    by_cases h1 : y = gi A
    · subst h1
      rw [List.getElem?_set_self (by rw [List.length_set, invL_len]; exact hg), if_pos (by omega), hgg]
    · rw [List.getElem?_set_ne (by omega)]
      by_cases h2 : y = A
      · subst h2
        rw [List.getElem?_set_self (by rw [invL_len]; exact hy), if_pos (by omega)]
      · rw [List.getElem?_set_ne (by omega), e]
        have h3 : gi y ≠ A := by
          intro h3
          have := gi_gi y hy
          rw [h3] at this
          omega
        by_cases h4 : y < A ∨ gi y < A
        · rw [if_pos h4, if_pos (by omega)]
        · rw [if_neg h4, if_neg (by omega)]
  · rw [List.getElem?_eq_none (by rw [List.length_set, List.length_set, invL_len]; omega), List.getElem?_eq_none (by rw [invL_len]; omega)]
theorem invL_end (y : Nat) (hy : y < 256) : (invL 256).getD y 0 = UInt8.ofNat (gi y) := by
  rw [invL_at 256 y hy, if_pos (.inl hy)]
/-- the worlds between -/
structure BXW (w w1 : World) (t : List UInt8) : Prop where
  res : Blk w1 w.heap.size 105 (barr (List.replicate 256 0))
  tb : Blk w1 (w.heap.size + 1) 105 (barr t)
  bel : Below w.heap.size w w1
structure BX2 (w w1 : World) (G : Nat) (t : List UInt8) : Prop where
  b : BXW w w1 (invL 256)
  ge : w.heap.size + 1 < G
  out : Blk w1 G 105 (barr t)
theorem BX2.put {w w1 : World} {G : Nat} {t : List UInt8} (h : BX2 w w1 G t) (j : Nat) (x : UInt8) : BX2 w (w1.setCell ⟨G, j, none⟩ (.int .u8 (x.toNat : Int))) G (t.set j x) := by
  have hg := h.ge
  refine ⟨⟨h.b.res.set_ne (by simp; omega) _, h.b.tb.set_ne (by simp; omega) _, h.b.bel.setCell (by simp; omega) _⟩, h.ge, ?_⟩
  rw [← barr_set]
  exact h.out.set j _
theorem BX2.draw {w w1 : World} {G : Nat} {t : List UInt8} (h : BX2 w w1 G t) (m : Nat) : BX2 w (w1.drewN m) G t :=
  ⟨⟨h.b.res.draw m, h.b.tb.draw m, ⟨h.b.bel.os, h.b.bel.tape, h.b.bel.output, h.b.bel.size, h.b.bel.block⟩⟩, h.ge, h.out.draw m⟩
theorem rboxN_box (a : Nat) (ha : a < 256) : rboxN (gi a) 8 0 0 = gbox a := by
  have h := rbox_eq a ha
  unfold rbox at h
  rw [rinv_eq a ha] at h
  exact h
set_option maxHeartbeats 2000000 in
theorem rboxes_any (w : World) : Calls Try.prog 63 #[] w fun e w' => e = .returned (.agg (barr box256)) ∧ Below w.heap.size w w' := by
  have hz := zero256
  generalize hZ : barr (List.replicate 256 0) = Z at hz
  have HZ := Lib.hid hZ
  have HZ2 := Lib.hid hz
  clear hZ
  go_enter Try.func63, Try.ntmps63
  go_upto_region 2 with fail
  obtain ⟨w0, hw0⟩ : ∃ x, (w.alloc (.cells Z 105)).alloc (.cells Z 105) = x := ⟨_, rfl⟩
  have H0 : Hid (BXW w w0 (invL 1)) := by
    rw [← hw0, invL_one]
    refine Lib.hid ⟨?_, ?_, ((Below.refl _ _).alloc (Nat.le_refl _) _).alloc (by simp) _⟩
    · rw [HZ.out]; exact (Blk.at rfl rfl).alloc _
    · rw [HZ.out]; exact Blk.at (by simp) rfl
  rw [hw0]
  clear hw0 hz
  go_wp2_with fail
  go_loopw [2] (fun i w1 => ∃ A : Nat, 1 ≤ A ∧ A ≤ 256 ∧ i = .int .i64 (A : Int) ∧ Hid (BXW w w1 (invL A))) (fun i _ => 256 - (intOf i).toNat)
  case atStart => exact ⟨1, by omega, by omega, rfl, H0⟩
  case round =>
    obtain ⟨A, hA1, hA, rfl, H⟩ := hrel
    clear H0
    by_cases hAt : A < 256
    · have tA : decide ((A : Int) < 256) = true := by rw [decide_eq_true_eq]; omega
      go_wp2_with fail
      go_loopw [3] (fun i w1 => ∃ x : Nat, 1 ≤ x ∧ x ≤ 256 ∧ i = .int .i64 (x : Int) ∧ Hid ((x ≤ gi A ∧ ¬ gi A < A ∧ BXW w w1 (invL A)) ∨ BXW w w1 (invL (A + 1)))) (fun i _ => 256 - (intOf i).toNat)
      case atStart =>
        refine ⟨1, by omega, by omega, rfl, ?_⟩
        by_cases hg : gi A < A
        · rw [invL_skip A hAt hg] at H
          exact Lib.hid (.inr H.out)
        · exact Lib.hid (.inl ⟨by have := gi_ne A hAt (by omega); omega, hg, H.out⟩)
      case round =>
        obtain ⟨x, hx1, hx, rfl, HX⟩ := hrel
        clear H
        rcases HX.out with ⟨hxg, hg, hb⟩ | hb
        · have hg2 := gi_lt A
          have hx256 : x < 256 := by omega
          have tX : decide ((x : Int) < 256) = true := by rw [decide_eq_true_eq]; omega
          have c1 : wr.cell? ⟨w.heap.size + 1, A, none⟩ = some (.int .u8 0) := by
            have h := hb.tb.cellAt A (barr_getD _ A (by rw [invL_len]; exact hAt))
            rw [invL_at A A hAt, if_neg (by omega)] at h
            exact h
          have hlt := hb.tb.lt
          have HB := Lib.hid hb
          have HXG := Lib.hid (And.intro hxg (And.intro hg hg2))
          clear hb hxg hg hg2 HX
          go_wp2_with fail
          refine (rmul_nat A x wr hAt hx256).mono ?_
          rintro e w' ⟨rfl, n, rfl⟩
          obtain ⟨m, hm⟩ : ∃ m, rm A x = m := ⟨_, rfl⟩
          rw [hm]
          by_cases hm1 : m = 1
          · have hxe : x = gi A := by
              rw [rm_eq A x hAt hx256, hm1] at hm
              exact gi_only A x hAt hx256 hm
            have t1 : ((m : Int) == 1) = true := by rw [hm1]; rfl
            have f1 := (HB.out.tb.draw n).unfrozen A
            have f2 := (HB.out.tb.draw n).unfrozen x
            have c2 := HB.out.tb.cellAt x (barr_getD _ x (by rw [invL_len]; exact hx256))
            have HXE := Lib.hid hxe
            have hx256I : (x : Int) < 256 := by omega
            have hAI : (A : Int) < 256 := by omega
            have e1 : Value.int .u8 (x : Int) = .int .u8 ((UInt8.ofNat x).toNat : Int) := by rw [tU x hx256]
            have hs1 : Blk ((wr.drewN n).setCell ⟨w.heap.size + 1, A, none⟩ (.int .u8 (x : Int))) (w.heap.size + 1) 105 (barr ((invL A).set A (UInt8.ofNat x))) := by
              rw [← barr_set, ← e1]
              exact (HB.out.tb.draw n).set A _
            have c3 := hs1.cellAt x (barr_getD _ x (by rw [List.length_set, invL_len]; exact hx256))
            have f3 := hs1.unfrozen x
            generalize (((invL A).set A (UInt8.ofNat x)).getD x 0) = c3v at c3
            have E1 := Lib.hid e1
            clear hxe hm hs1 e1
            go_wp2_with fail
            go_roundw
            case rel =>
              have e1 := E1.out
              have h := ((HB.out.tb.draw n).set A (.int .u8 (x : Int))).set x (.int .u8 (A : Int))
              have e2 : Value.int .u8 (A : Int) = .int .u8 ((UInt8.ofNat A).toNat : Int) := by rw [tU A hAt]
              have e3 : ((invL A).set A (UInt8.ofNat x)).set x (UInt8.ofNat A) = invL (A + 1) := by rw [HXE.out]; exact invL_set A hAt (by omega) HXG.out.2.1
              have h2 : Blk (((wr.drewN n).setCell ⟨w.heap.size + 1, A, none⟩ (.int .u8 (x : Int))).setCell ⟨w.heap.size + 1, x, none⟩ (.int .u8 (A : Int))) (w.heap.size + 1) 105 (barr (invL (A + 1))) := by
                rw [← e3, ← barr_set, ← barr_set, ← e1, ← e2]
                exact h
              have hbd : Below w.heap.size w (wr.drewN n) := ⟨HB.out.bel.os, HB.out.bel.tape, HB.out.bel.output, HB.out.bel.size, HB.out.bel.block⟩
              exact ⟨x + 1, by omega, by omega, by go_num, Lib.hid (.inr ⟨((HB.out.res.draw n).set_ne (by simp) _).set_ne (by simp) _, h2, (hbd.setCell (by simp) _).setCell (by simp) _⟩)⟩
            case measure => simp [intOf]; omega
          · have t1 : ((m : Int) == 1) = false := by rw [beq_eq_false_iff_ne]; omega
            have hxe : x ≠ gi A := by
              intro e
              rw [rm_eq A x hAt hx256, e, gi_mul A hAt (by omega)] at hm
              omega
            have hbd : Below w.heap.size w (wr.drewN n) := ⟨HB.out.bel.os, HB.out.bel.tape, HB.out.bel.output, HB.out.bel.size, HB.out.bel.block⟩
            have HN : Hid ((x + 1 ≤ gi A ∧ ¬ gi A < A ∧ BXW w (wr.drewN n) (invL A)) ∨ BXW w (wr.drewN n) (invL (A + 1))) := Lib.hid (.inl ⟨by have := HXG.out.1; omega, HXG.out.2.1, ⟨HB.out.res.draw n, HB.out.tb.draw n, hbd⟩⟩)
            clear hxe hm hbd
            go_wp2_with fail
            go_roundw
            case rel => exact ⟨x + 1, by omega, by omega, by go_num, HN⟩
            case measure => simp [intOf]; omega
        · have HB := Lib.hid hb
          have c1 : ∃ v : Nat, v ≠ 0 ∧ wr.cell? ⟨w.heap.size + 1, A, none⟩ = some (.int .u8 (v : Int)) := by
            have h := hb.tb.cellAt A (barr_getD _ A (by rw [invL_len]; exact hAt))
            rw [invL_at (A + 1) A hAt, if_pos (by omega), tU _ (gi_lt A)] at h
            exact ⟨gi A, gi_ne A hAt (by omega), h⟩
          obtain ⟨v, hv, c1⟩ := c1
          have t1 : ((v : Int) == 0) = false := by rw [beq_eq_false_iff_ne]; omega
          have hlt := hb.tb.lt
          clear hb HX
          by_cases hx256 : x < 256
          · go_wp2_with fail
            go_roundw
            case rel => exact ⟨A + 1, by omega, by omega, by go_num, HB.out⟩
            case measure => simp [intOf]; omega
          · obtain rfl : x = 256 := by omega
            go_wp2_with fail
            go_roundw
            case rel => exact ⟨A + 1, by omega, by omega, by go_num, HB.out⟩
            case measure => simp [intOf]; omega
    · have tA0 : decide ((A : Int) < 256) = false := by rw [decide_eq_false_iff_not]; omega
      have hz := HZ2.out
      rw [show A = 256 from by omega] at H
      go_upto_region 12 with fail
      obtain ⟨w2, hw2⟩ : ∃ x, wr.alloc (.cells Z 105) = x := ⟨_, rfl⟩
      obtain ⟨G, hG⟩ : ∃ x, wr.heap.size = x := ⟨_, rfl⟩
      have H2 : Hid (BX2 w w2 G (mixT 256 (fun y => boxU (UInt8.ofNat y)) (fun _ => 0) 0)) := by
        rw [← hw2, ← hG, mixT_zero, tab_zero, ← HZ.out]
        have hlt := H.out.tb.lt
        exact Lib.hid ⟨⟨H.out.res.alloc _, H.out.tb.alloc _, H.out.bel.alloc H.out.bel.size _⟩, hlt, Blk.at rfl rfl⟩
      rw [hw2, hG]
      clear hw2 hG hz H
      go_wp2_with fail
      go_loopw [5] (fun i w1 => ∃ a : Nat, a ≤ 256 ∧ i = .int .i64 (a : Int) ∧ Hid (BX2 w w1 G (mixT 256 (fun y => boxU (UInt8.ofNat y)) (fun _ => 0) a))) (fun i _ => 256 - (intOf i).toNat)
      case atStart => exact ⟨0, by omega, rfl, H2⟩
      case round =>
        obtain ⟨a, ha, rfl, H⟩ := hrel
        clear H2
        by_cases hat : a < 256
        · have tA : decide ((a : Int) < 256) = true := by rw [decide_eq_true_eq]; omega
          obtain ⟨Y, hY⟩ : ∃ Y, gi a = Y := ⟨_, rfl⟩
          have hY2 : Y < 256 := by rw [← hY]; exact gi_lt a
          have c1 : wr.cell? ⟨w.heap.size + 1, a, none⟩ = some (.int .u8 (Y : Int)) := by
            have h := H.out.b.tb.cellAt a (barr_getD _ a (by rw [invL_len]; exact hat))
            rw [invL_end a hat, tU _ (gi_lt a), hY] at h
            exact h
          have hlt := H.out.b.tb.lt
          have HY := Lib.hid hY
          clear hY
          go_wp2_with fail
          go_loopw [7] (fun i w1 => ∃ k q : Nat, k ≤ 8 ∧ i = .int .i64 (k : Int) ∧ Hid (q < 2 ^ k) ∧ Hid (rboxN Y (8 - k) k q = gbox a) ∧ Hid (BX2 w w1 G ((mixT 256 (fun y => boxU (UInt8.ofNat y)) (fun _ => 0) a).set a (UInt8.ofNat q)))) (fun i _ => 8 - (intOf i).toNat)
          case atStart =>
            refine ⟨0, 0, by omega, rfl, Lib.hid (by omega), Lib.hid (by rw [← HY.out]; exact rboxN_box a hat), ?_⟩
            have e : (mixT 256 (fun y => boxU (UInt8.ofNat y)) (fun _ => 0) a).set a (UInt8.ofNat 0) = mixT 256 (fun y => boxU (UInt8.ofNat y)) (fun _ => 0) a := by
              refine set_same _ _ _ ?_
              unfold mixT tab
              rw [List.getElem?_map, List.getElem?_range hat, Option.map_some, if_neg (by omega)]
              rfl
            rw [e]
            exact H
          case round =>
            obtain ⟨k, q, hk, rfl, hq, HQ, H3⟩ := hrel
            clear H c1
            by_cases hk8 : k < 8
            · have tK : decide ((k : Int) < 8) = true := by rw [decide_eq_true_eq]; omega
              go_wp2_with fail
              refine (bit_ex _ _ _ (by omega) (by omega) (by omega) (by omega)).mono ?_
              rintro e w' ⟨v1, b1, V1, rfl, rfl⟩
              go_wp2_with fail
              refine (bit_ex _ _ _ (by omega) (by omega) (by omega) (by omega)).mono ?_
              rintro e w' ⟨v2, b2, V2, rfl, rfl⟩
              go_wp2_with fail
              refine (bit_ex _ _ _ (by omega) (by omega) (by omega) (by omega)).mono ?_
              rintro e w' ⟨v3, b3, V3, rfl, rfl⟩
              go_wp2_with fail
              refine (bit_ex _ _ _ (by omega) (by omega) (by omega) (by omega)).mono ?_
              rintro e w' ⟨v4, b4, V4, rfl, rfl⟩
              go_wp2_with fail
              refine (bit_ex _ _ _ (by omega) (by omega) (by omega) (by omega)).mono ?_
              rintro e w' ⟨v5, b5, V5, rfl, rfl⟩
              go_wp2_with fail
              refine (bit_ex _ _ _ (by omega) (by omega) (by omega) (by omega)).mono ?_
              rintro e w' ⟨v6, b6, V6, rfl, rfl⟩
              obtain ⟨s, hs⟩ : ∃ s, v1 + v2 + v3 + v4 + v5 + v6 = s := ⟨_, rfl⟩
              have hsI : (v1 : Int) + (v2 : Int) + (v3 : Int) + (v4 : Int) + (v5 : Int) + (v6 : Int) = (s : Int) := by omega
              have hs6 : s ≤ 6 := by omega
              have es : s = rsum Y k := by
                rw [← hs]
                unfold rsum
                rw [V1.out, V2.out, V3.out, V4.out, V5.out, V6.out]
                rw [show ((k : Int) + 4).toNat = k + 4 from by omega, show ((k : Int) + 5).toNat = k + 5 from by omega, show ((k : Int) + 6).toNat = k + 6 from by omega, show ((k : Int) + 7).toNat = k + 7 from by omega]
                rfl
              have hq256 : q < 256 := by
                have := hq.out
                have h2 : 2 ^ k ≤ 2 ^ 7 := Nat.pow_le_pow_right (by omega) (by omega)
                omega
              have c0 := H3.out.out.cellAt a (barr_getD _ a (by rw [List.length_set, mixT_len]; exact hat))
              rw [set_getD _ _ _ (by rw [mixT_len]; exact hat), tU _ hq256] at c0
              have f0 := H3.out.out.unfrozen a
              have hlt2 := H3.out.out.lt
              have ES := Lib.hid es
              clear hs es
              obtain ⟨m, hm⟩ : ∃ m, s % 2 = m := ⟨_, rfl⟩
              have hmI : (s : Int) % 2 = (m : Int) := by omega
              have hm2 : m < 2 := by omega
              have HM := Lib.hid hm
              clear hm
              obtain ⟨p, hp⟩ : ∃ p, m * 2 ^ k = p := ⟨_, rfl⟩
              have hp2 : p ≤ 128 := by
                rw [← hp]
                have h2 : 2 ^ k ≤ 2 ^ 7 := Nat.pow_le_pow_right (by omega) (by omega)
                have h3 : m * 2 ^ k ≤ 1 * 2 ^ 7 := Nat.mul_le_mul (by omega) h2
                omega
              have hpI : (m : Int) * 2 ^ k = (p : Int) := by rw [← hp, pow_cast, Int.natCast_mul]
              have hqp : q + p < 2 ^ (k + 1) := by rw [← hp, ← HM.out]; exact sum_form s k q hq.out
              have hqp2 : q + p < 256 := by
                have h2 : 2 ^ (k + 1) ≤ 2 ^ 8 := Nat.pow_le_pow_right (by omega) (by omega)
                omega
              have HP := Lib.hid hp
              clear hp
              go_wp2_with fail
              go_region
              all_goals go_wp2_with fail
              all_goals go_roundw
              case rel =>
                have e : (mixT 256 (fun y => boxU (UInt8.ofNat y)) (fun _ => 0) a).set a (UInt8.ofNat (q + p)) = ((mixT 256 (fun y => boxU (UInt8.ofNat y)) (fun _ => 0) a).set a (UInt8.ofNat q)).set a (UInt8.ofNat (q + p)) := by rw [List.set_set]
                have h := (H3.out.put a (UInt8.ofNat (q + p))).draw 1
                rw [← e, tU _ hqp2] at h
                refine ⟨k + 1, q + p, by omega, by go_num, Lib.hid hqp, ?_, Lib.hid h⟩
                have hr := HQ.out
                rw [show 8 - k = (8 - (k + 1)) + 1 from by omega, rboxN, ← ES.out, HM.out, HP.out] at hr
                exact Lib.hid hr
              case measure => simp [intOf]; omega
            · have tK : decide ((k : Int) < 8) = false := by rw [decide_eq_false_iff_not]; omega
              have hqg : q = gbox a := by
                have h := HQ.out
                rw [show k = 8 from by omega] at h
                exact h
              have h4 := H3.out
              have e : UInt8.ofNat q = boxU (UInt8.ofNat a) := by
                unfold boxU
                rw [tU a hat, hqg]
              rw [e, mixT_succ] at h4
              have H4 := Lib.hid h4
              clear h4 e hqg
              go_wp2_with fail
              go_roundw
              case rel => exact ⟨a + 1, by omega, by go_num, H4⟩
              case measure => simp [intOf]; omega
        · have tA : decide ((a : Int) < 256) = false := by rw [decide_eq_false_iff_not]; omega
          rw [show a = 256 from by omega, mixT_end] at H
          have hs : (barr box256).size = 256 := by rw [barr_size, box256_len]
          have g3 : Blk wr G 105 (barr box256) := H.out.out
          have g1 := H.out.b.res
          have hb := H.out.b.bel

          go_wp2_with (first | ((with_reducible change wpList _ _ _ (Oper.mk _ (Op.load 105 _) _ _ _ _ :: _) _ _); refine wpList_load_blk (ty := 105) G rfl g3 Try.underlying105 rfl size256 hs ?_) | ((with_reducible change wpList _ _ _ (Oper.mk _ (Op.store 105 _ _) _ _ _ _ :: _) _ _); refine wpList_store_blk (ty := 105) w.heap.size (barr box256) rfl rfl g1 size256 hs (barr_size _) (barr_one _) ?_))
          refine bodyPost_ret (results_cell_blk rfl _ _ w.heap.size rfl (g1.row _) Try.underlying105 rfl size256 hs) rfl ⟨rfl, below_row hb (by omega) _⟩
end Go.Proofs.Ytihmgkjmebdioaa
/- A region that draws its order, walked by a script: each operation is either taken first (it yields one value in whatever world, and stands apart from all that is left), or it is the only one that may come. No program in sight. -/
namespace Go.Proofs.Ytihmgkjmebdioaa
open Go
section
variable {P : Program} {ops : Array Oper} {md : Region.Mode} {Q : Exit → Act → World → Prop}
def scriptB (md : Region.Mode) (ops : Array Oper) : List (Nat × Bool) → Array Bool → Bool
  | [], listed => (Region.ready md ops listed).isEmpty
  | (i, true) :: r, listed => (Region.ready md ops listed).contains i && Region.free md ops listed i && scriptB md ops r (listed.setIfInBounds i true)
  | (i, false) :: r, listed => decide (Region.ready md ops listed = [i]) && scriptB md ops r (listed.setIfInBounds i true)
def wpScript (P : Program) (ops : Array Oper) (Q : Exit → Act → World → Prop) : List (Nat × Bool) → Act → World → Prop
  | [], a, w => wpList P ops Q [] a w
  | (i, true) :: r, a, w => ∃ o v, ops[i]? = some o ∧ Yields P ops o v a ∧ wpScript P ops Q r (a.put o.dst v) w
  | (i, false) :: r, a, w => ∃ o, ops[i]? = some o ∧ ((Region.wanted o (yielded ops a.tmps) = true ∧ o.wp P a w (wpScript P ops Q r) Q) ∨ (Region.wanted o (yielded ops a.tmps) = false ∧ wpScript P ops Q r (a.put o.dst undef) w))
theorem wpAny_script (hsel : Region.noSelect ops = true) (hQ : ∀ c (a : Act) (d : Option Tmp) (v : Value) w, Q (.panic c) (a.put d v) w → Q (.panic c) a w) :
    ∀ (s : List (Nat × Bool)) (listed : Array Bool) (a : Act) (w : World), scriptB md ops s listed = true → wpScript P ops Q s a w → wpAny P md ops Q s.length listed a w
  | [], listed, a, w, hB, h => ⟨by simpa [scriptB] using hB, h⟩
  | (i, true) :: r, listed, a, w, hB, h => by
    simp only [scriptB, Bool.and_eq_true] at hB
    obtain ⟨⟨hr, hf⟩, hB'⟩ := hB
    obtain ⟨o, v, ho, hy, hK⟩ := h
    exact wpAny_take ho hsel hf hr (fun c a w => hQ c a _ v w) hy (wpAny_script hsel hQ r _ _ w hB' hK)
  | (i, false) :: r, listed, a, w, hB, h => by
    simp only [scriptB, Bool.and_eq_true, decide_eq_true_eq] at hB
    obtain ⟨hr, hB'⟩ := hB
    obtain ⟨o, ho, h⟩ := h
    refine ⟨fun h0 => (by rw [hr] at h0; cases h0), fun j hj => ?_⟩
    rw [hr] at hj
    obtain rfl : j = i := by simpa using hj
    unfold Go.wpOp
    simp only [ho]
    rcases h with ⟨hw, h⟩ | ⟨hw, h⟩
    · simp only [hw, if_true]
      exact .inl (Oper.wp_mono (fun a2 w2 h2 => wpAny_script hsel hQ r _ a2 w2 hB' h2) h)
    · simp only [hw, Bool.false_eq_true, if_false]
      exact wpAny_script hsel hQ r _ _ w hB' h
theorem wp_region_script {id : Nat} {a : Act} {w : World} {l : List Oper} (s : List (Nat × Bool)) (hm : P.follows .mixedOrders = true) (hB : (Region.noSelect l.toArray && decide (s.length = l.toArray.size) && scriptB .any l.toArray s (Array.replicate l.toArray.size false)) = true)
    (hQ : ∀ c (a : Act) (d : Option Tmp) (v : Value) w, Q (.panic c) (a.put d v) w → Q (.panic c) a w)
    (h : ∀ w', w' = w.drewN 1 → wpScript P l.toArray Q s a w') : (Code.region id l.toArray true).wp P Q a w := by
  simp only [Bool.and_eq_true, decide_eq_true_eq] at hB
  obtain ⟨⟨hsel, hl⟩, hB⟩ := hB
  refine wp_region_any hm ?_
  have := wpAny_script (md := .any) hsel hQ s _ a _ hB (h _ rfl)
  rw [hl] at this
  exact this

variable {r : List (Nat × Bool)} {a : Act} {w : World} {o : Oper} {i : Nat} {v : Value}
theorem scr_pure (ho : ops[i]? = some o) (hw : Region.wanted o (yielded ops a.tmps) = true) (h : ∀ w, (execOp a.eval o).run P w = .ok (.value v) w) (kk : wpScript P ops Q r (a.put o.dst v) w) : wpScript P ops Q ((i, true) :: r) a w := ⟨o, v, ho, .inl ⟨hw, h⟩, kk⟩
theorem scr_off (ho : ops[i]? = some o) (hw : Region.wanted o (yielded ops a.tmps) = false) (kk : wpScript P ops Q r (a.put o.dst undef) w) : wpScript P ops Q ((i, true) :: r) a w := ⟨o, undef, ho, .inr ⟨hw, rfl⟩, kk⟩
theorem scr_off1 (ho : ops[i]? = some o) (hw : Region.wanted o (yielded ops a.tmps) = false) (kk : wpScript P ops Q r (a.put o.dst undef) w) : wpScript P ops Q ((i, false) :: r) a w := ⟨o, ho, .inr ⟨hw, kk⟩⟩
theorem scr_call {f : FuncId} {args : Array Value} (ho : ops[i]? = some o) (hw : Region.wanted o (yielded ops a.tmps) = true) (h : (execOp a.eval o).run P w = .ok (.enter f args) w)
    (hc : Calls P f args w fun e w'' => ∃ v, e = .returned v ∧ wpScript P ops Q r (a.put o.dst v) w'') : wpScript P ops Q ((i, false) :: r) a w := ⟨o, ho, .inl ⟨hw, wp_mid_call h hc⟩⟩
theorem scr_run {w' : World} (ho : ops[i]? = some o) (hw : Region.wanted o (yielded ops a.tmps) = true) (h : (execOp a.eval o).run P w = .ok (.value v) w') (kk : wpScript P ops Q r (a.put o.dst v) w') : wpScript P ops Q ((i, false) :: r) a w := ⟨o, ho, .inl ⟨hw, by unfold Oper.wp; rw [h]; exact kk⟩⟩
theorem scr_skip {w' : World} (ho : ops[i]? = some o) (hw : Region.wanted o (yielded ops a.tmps) = true) (h : (execOp a.eval o).run P w = .ok .skip w') (kk : wpScript P ops Q r (a.put o.dst undef) w') : wpScript P ops Q ((i, false) :: r) a w := ⟨o, ho, .inl ⟨hw, by unfold Oper.wp; rw [h]; exact kk⟩⟩
end
end Go.Proofs.Ytihmgkjmebdioaa
namespace Go.Proofs.Ytihmgkjmebdioaa
open Go
section
variable {P : Program} {ops : Array Oper} {md : Region.Mode} {Q : Exit → Act → World → Prop} {S : World → Prop} {fuel : Nat} {listed : Array Bool} {a : Act} {w : World} {o : Oper} {i j : Nat} {v : Value}
theorem hd_start {id : Nat} (S : World → Prop) (hm : P.follows .mixedOrders = true) (h : ∀ w', w' = w.drewN 1 → wpAnyH P .any ops Q S ops.size (Array.replicate ops.size false) a w') : (Code.region id ops true).wp P Q a w := wp_region_held hm (h _ rfl)
/-- taken first: it yields v in every world that meets S -/
theorem hd_take (i : Nat) (ho : ops[i]? = some o) (hs : (Region.noSelect ops && Region.free md ops listed i && (Region.ready md ops listed).contains i) = true) (hQ : ∀ c (a : Act) (d : Option Tmp) (v : Value) w, Q (.panic c) (a.put d v) w → Q (.panic c) a w)
    (hw : Region.wanted o (yielded ops a.tmps) = true) (hS : S w) (h : ∀ w, S w → (execOp a.eval o).run P w = .ok (.value v) w) (kk : wpAnyH P md ops Q S fuel (listed.setIfInBounds i true) (a.put o.dst v) w) : wpAnyH P md ops Q S (fuel + 1) listed a w := by
  simp only [Bool.and_eq_true] at hs
  exact wpAnyH_take ho hs.1.1 hs.1.2 hs.2 (fun c a w => hQ c a _ v w) (.inl ⟨hw, h⟩) hS kk
/-- its guard is false -/
theorem hd_off (i : Nat) (ho : ops[i]? = some o) (hs : (Region.noSelect ops && Region.free md ops listed i && (Region.ready md ops listed).contains i) = true) (hQ : ∀ c (a : Act) (d : Option Tmp) (v : Value) w, Q (.panic c) (a.put d v) w → Q (.panic c) a w)
    (hw : Region.wanted o (yielded ops a.tmps) = false) (hS : S w) (kk : wpAnyH P md ops Q S fuel (listed.setIfInBounds i true) (a.put o.dst undef) w) : wpAnyH P md ops Q S (fuel + 1) listed a w := by
  simp only [Bool.and_eq_true] at hs
  exact wpAnyH_take ho hs.1.1 hs.1.2 hs.2 (fun c a w => hQ c a _ undef w) (.inr ⟨hw, rfl⟩) hS kk
/-- the only one that may come -/
theorem hd_one (i : Nat) (hr : decide (Region.ready md ops listed = [i]) = true) (h : wpOp P ops Q i (fun a' w' => S w' ∧ wpAnyH P md ops Q S fuel (listed.setIfInBounds i true) a' w') a w) : wpAnyH P md ops Q S (fuel + 1) listed a w := by
  rw [decide_eq_true_eq] at hr
  refine wpAnyH_all hr (by simp) fun k hk => ?_
  obtain rfl : k = i := by simpa using hk
  exact h
/-- one of two -/
theorem hd_two (i j : Nat) (hr : decide (Region.ready md ops listed = [i, j]) = true) (h1 : wpOp P ops Q i (fun a' w' => S w' ∧ wpAnyH P md ops Q S fuel (listed.setIfInBounds i true) a' w') a w)
    (h2 : wpOp P ops Q j (fun a' w' => S w' ∧ wpAnyH P md ops Q S fuel (listed.setIfInBounds j true) a' w') a w) : wpAnyH P md ops Q S (fuel + 1) listed a w := by
  rw [decide_eq_true_eq] at hr
  refine wpAnyH_all hr (by simp) fun k hk => ?_
  have hk2 : k = i ∨ k = j := by simpa using hk
  rcases hk2 with rfl | rfl
  · exact h1
  · exact h2
theorem hd_done (hr : (Region.ready md ops listed).isEmpty = true) (h : wpList P ops Q [] a w) : wpAnyH P md ops Q S fuel listed a w := wpAnyH_done (by simpa using hr) h fuel
variable {K : Act → World → Prop}
theorem op_call {f : FuncId} {args : Array Value} (ho : ops[i]? = some o) (hw : Region.wanted o (yielded ops a.tmps) = true) (h : (execOp a.eval o).run P w = .ok (.enter f args) w)
    (hc : Calls P f args w fun e w'' => ∃ v, e = .returned v ∧ K (a.put o.dst v) w'') : wpOp P ops Q i K a w := by
  unfold Go.wpOp
  simp only [ho, hw, if_true]
  exact .inl (wp_mid_call h hc)
theorem op_run {w' : World} (ho : ops[i]? = some o) (hw : Region.wanted o (yielded ops a.tmps) = true) (h : (execOp a.eval o).run P w = .ok (.value v) w') (hc : K (a.put o.dst v) w') : wpOp P ops Q i K a w := by
  unfold Go.wpOp
  simp only [ho, hw, if_true]
  refine .inl ?_
  unfold Oper.wp
  rw [h]
  exact hc
theorem op_skip {w' : World} (ho : ops[i]? = some o) (hw : Region.wanted o (yielded ops a.tmps) = true) (h : (execOp a.eval o).run P w = .ok .skip w') (hc : K (a.put o.dst undef) w') : wpOp P ops Q i K a w := by
  unfold Go.wpOp
  simp only [ho, hw, if_true]
  refine .inl ?_
  unfold Oper.wp
  rw [h]
  exact hc
theorem op_off (ho : ops[i]? = some o) (hw : Region.wanted o (yielded ops a.tmps) = false) (hc : K (a.put o.dst undef) w) : wpOp P ops Q i K a w := by
  unfold Go.wpOp
  simp only [ho, hw, Bool.false_eq_true, if_false]
  exact hc
end
end Go.Proofs.Ytihmgkjmebdioaa
