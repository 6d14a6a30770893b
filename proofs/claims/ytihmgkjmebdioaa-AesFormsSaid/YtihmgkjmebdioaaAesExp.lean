/- The contract of package aes: expanded. Condition: the key has 16, 24 or 32 bytes. -/
import Derived.Test.YtihmgkjmebdioaaRows
import Derived.Test.YtihmgkjmebdioaaAesMix
import Derived.Test.YtihmgkjmebdioaaSl
import Derived.Test.YtihmgkjmebdioaaAp
namespace Go.Proofs.Ytihmgkjmebdioaa
open Go.RowKit
set_option maxRecDepth 100000
set_option linter.unusedVariables false
set_option linter.unusedSimpArgs false

/-! ### several bytes put one behind the other -/
def setsU : List UInt8 → Nat → List UInt8 → List UInt8
  | l, _, [] => l
  | l, o, x :: r => setsU (l.set o x) (o + 1) r
theorem setsU_app : ∀ (xs a b : List UInt8), xs.length ≤ b.length → setsU (a ++ b) a.length xs = a ++ xs ++ b.drop xs.length
  | [], a, b, _ => by simp [setsU]
  | x :: r, a, y :: b, h => by
    have h1 : (a ++ y :: b).set a.length x = (a ++ [x]) ++ b := by
      rw [List.set_append_right _ _ (Nat.le_refl _), Nat.sub_self, List.set_cons_zero, List.append_assoc]
      rfl
    have h2 := setsU_app r (a ++ [x]) b (by simpa using h)
    rw [setsU, h1, show a.length + 1 = (a ++ [x]).length from by simp, h2]
    simp
  | x :: r, a, [], h => by simp at h
theorem Blk.sets {b : Nat} {t : TypeId} : ∀ (xs : List UInt8) (o : Nat) (w : World) (l : List UInt8), Blk w b t (barr l) → Blk (w.setCells b o (xs.map B)) b t (barr (setsU l o xs))
  | [], _, _, _, h => h
  | x :: r, o, w, l, h => by
    rw [List.map_cons, World.setCells, setsU]
    have h1 := h.set o (.int .u8 (x.toNat : Int))
    rw [barr_set] at h1
    exact Blk.sets r (o + 1) _ _ h1
theorem wordAt_range {w : World} {b : Nat} {t : TypeId} {W : List UInt8} (h : Blk w b t (barr W)) (i : Nat) (hi : 4 * i + 4 ≤ W.length) : w.rangeAt b (i * 4) ((wordAt W i).map B) := by
  intro j v hv
  refine h.cellAt _ ?_
  have hj : j < 4 := by
    have := (List.getElem?_eq_some_iff.1 hv).1
    simpa [wordAt] using this
  rw [barr_getD W _ (by omega), ← hv]
  rcases j with _ | _ | _ | _ | j
  · show some (Value.int .u8 ((W.getD (i * 4 + 0) 0).toNat : Int)) = some (Value.int .u8 ((W.getD (4 * i) 0).toNat : Int))
    rw [Nat.mul_comm i 4]; rfl
  · show some (Value.int .u8 ((W.getD (i * 4 + 1) 0).toNat : Int)) = some (Value.int .u8 ((W.getD (4 * i + 1) 0).toNat : Int))
    rw [Nat.mul_comm i 4]
  · show some (Value.int .u8 ((W.getD (i * 4 + 2) 0).toNat : Int)) = some (Value.int .u8 ((W.getD (4 * i + 2) 0).toNat : Int))
    rw [Nat.mul_comm i 4]
  · show some (Value.int .u8 ((W.getD (i * 4 + 3) 0).toNat : Int)) = some (Value.int .u8 ((W.getD (4 * i + 3) 0).toNat : Int))
    rw [Nat.mul_comm i 4]
  · omega
theorem wordAt_len (W : List UInt8) (i : Nat) : (wordAt W i).length = 4 := rfl
theorem zero240 (w : World) : (zeroValue 66).run Try.prog w = .ok (.agg (barr (List.replicate 240 0))) w := by kernel_rfl
theorem zero240w (w : World) : (zeroValue 94).run Try.prog w = .ok (.agg (barr (List.replicate 240 0))) w := by kernel_rfl
theorem size240 : (Try.prog.info? 66).map (·.size) = some 240 := by kernel_rfl
theorem size240w : (Try.prog.info? 94).map (·.size) = some 240 := by kernel_rfl
/-- the worlds of the expansion -/
structure ExpW (w : World) (n0 : Nat) (W : List UInt8) (w1 : World) : Prop where
  res : Blk w1 n0 66 (barr (List.replicate 240 0))
  row : Blk w1 (n0 + 1) 94 (barr W)
  len : W.length = 240
  at0 : n0 = w.heap.size
  below : Below w.heap.size w w1
theorem ExpW.next {w w1 w' : World} {n0 : Nat} {W : List UInt8} (h : ExpW w n0 W w1) (hb : Below w1.heap.size w1 w') : ExpW w n0 W w' :=
  ⟨h.res.below hb h.res.lt, h.row.below hb h.row.lt, h.len, h.at0, h.below.trans (hb.mono h.below.size)⟩
theorem ExpW.only {w w1 w' : World} {n0 g : Nat} {W : List UInt8} (h : ExpW w n0 W w1) (hg : n0 + 1 < g) (ho : Only (fun x => x = g) w1 w') : ExpW w n0 W w' :=
  ⟨h.res.only ho (by omega), h.row.only ho (by omega), h.len, h.at0, h.below.trans (ho.below0 (fun x hx hh => by have := h.at0; omega) h.below.size)⟩
theorem ExpW.word {w w1 : World} {n0 : Nat} {W : List UInt8} (h : ExpW w n0 W w1) (o : Nat) (xs : List UInt8) (hl : (setsU W o xs).length = 240) : ExpW w n0 (setsU W o xs) (w1.setCells (n0 + 1) o (xs.map B)) := by
  have ho : Only (fun x => x = n0 + 1) w1 (w1.setCells (n0 + 1) o (xs.map B)) := Only.sets (S := fun x => x = n0 + 1) (.inl rfl) _ _ _ (Only.refl _ _)
  exact ⟨h.res.only ho (by omega), Blk.sets xs o w1 W h.row, hl, h.at0, h.below.trans (ho.below0 (fun x hx hh => by have := h.at0; omega) h.below.size)⟩
theorem ExpW.set {w w1 : World} {n0 : Nat} {W : List UInt8} (h : ExpW w n0 W w1) (o : Nat) (x : UInt8) : ExpW w n0 (W.set o x) (w1.setCell ⟨n0 + 1, o, none⟩ (.int .u8 (x.toNat : Int))) :=
  ⟨h.res.set_ne (by simp) _, by rw [← barr_set]; exact h.row.set o _, by rw [List.length_set]; exact h.len, h.at0, h.below.setCell (by have := h.at0; simp; omega) _⟩
/-- the key's words, one by one -/
def keyTo (key : List UInt8) (i : Nat) : List UInt8 := key.take (4 * i) ++ List.replicate (240 - 4 * i) 0
theorem keyTo_len (key : List UInt8) (i : Nat) (h : 4 * i ≤ key.length) (h2 : key.length ≤ 240) : (keyTo key i).length = 240 := by simp [keyTo]; omega
theorem keyTo_zero (key : List UInt8) : keyTo key 0 = List.replicate 240 0 := by simp [keyTo]
theorem keyTo_succ (key : List UInt8) (i : Nat) (h : 4 * i + 4 ≤ key.length) (h2 : key.length ≤ 240) : setsU (keyTo key i) (i * 4) (wordAt key i) = keyTo key (i + 1) := by
  have e := setsU_app (wordAt key i) (key.take (4 * i)) (List.replicate (240 - 4 * i) 0) (by rw [wordAt_len, List.length_replicate]; omega)
  have hl : (key.take (4 * i)).length = i * 4 := by rw [List.length_take]; omega
  rw [hl] at e
  unfold keyTo
  rw [e, wordAt_len, List.drop_replicate, show 240 - 4 * i - 4 = 240 - 4 * (i + 1) from by omega]
  congr 1
  have hw : wordAt key i = (key.drop (4 * i)).take 4 := by
    apply List.ext_getElem?
    intro j
    by_cases hj : j < 4
    · rw [List.getElem?_take_of_lt hj, List.getElem?_drop]
      rcases j with _ | _ | _ | _ | j
      · simp [wordAt, List.getD_eq_getElem?_getD]; rw [List.getElem?_eq_getElem (by omega)]; rfl
      · simp [wordAt, List.getD_eq_getElem?_getD]; rw [List.getElem?_eq_getElem (by omega)]; rfl
      · simp [wordAt, List.getD_eq_getElem?_getD]; rw [List.getElem?_eq_getElem (by omega)]; rfl
      · simp [wordAt, List.getD_eq_getElem?_getD]; rw [List.getElem?_eq_getElem (by omega)]; rfl
      · omega
    · rw [List.getElem?_eq_none (by rw [wordAt_len]; omega), List.getElem?_eq_none (by rw [List.length_take]; omega)]
  rw [hw, show 4 * (i + 1) = 4 * i + 4 from by omega, List.take_add]
theorem barr_extract (W : List UInt8) (i : Nat) (h : 4 * i + 4 ≤ W.length) : (barr W).extract (i * 4) (i * 4 + 4) = barr (wordAt W i) := by
  apply Array.ext
  · rw [Array.size_extract, barr_size, barr_size, wordAt_len]; omega
  · intro j h1 h2
    have hj : j < 4 := by rw [barr_size, wordAt_len] at h2; exact h2
    rw [Array.getElem_extract]
    have e1 : (barr W)[i * 4 + j]? = some (.int .u8 ((W.getD (i * 4 + j) 0).toNat : Int)) := barr_getD W _ (by omega)
    have e2 : (barr (wordAt W i))[j]? = some (.int .u8 (((wordAt W i).getD j 0).toNat : Int)) := barr_getD _ _ (by rw [wordAt_len]; exact hj)
    have e3 : (wordAt W i).getD j 0 = W.getD (i * 4 + j) 0 := by
      rw [Nat.mul_comm i 4]
      rcases j with _ | _ | _ | _ | j
      · rfl
      · rfl
      · rfl
      · rfl
      · omega
    rw [e3] at e2
    rw [Array.getElem?_eq_getElem (by rw [barr_size]; omega)] at e1
    rw [Array.getElem?_eq_getElem h2] at e2
    injection e1 with e1
    injection e2 with e2
    rw [e1, e2]
theorem run_index_words {P : Program} {ty e : TypeId} {n : Nat} {de : TypeDesc} (hu : P.underlying ty = some (.array n e)) (hue : P.underlying e = some de) (hd : de.isRow = true) (hs : (P.info? e).map (·.size) = some 4) (W : List UInt8) (k : Nat) (hl : 4 * k + 4 ≤ W.length) (hn : k < n) (w : World) :
    (Instr.index ty (.agg (barr W)) (.int .i64 (k : Int))).run P w = .ok (.agg (barr (wordAt W k))) w := by
  cases hq : P.info? e with
  | none => simp [hq] at hs
  | some i =>
    have hi : i.size = 4 := by simpa [hq] using hs
    have hc : (0 : Int) ≤ (k : Int) ∧ (k : Int) < (n : Int) := by omega
    have hagg : (isAgg e).run P w = .ok true w := by
      unfold isAgg
      rw [Sem.run_bind, run_underlying hue w]
      cases de <;> simp_all
    simp only [Instr.index, asIntOf, Sem.run_bind, Sem.run_pure, Result.andThen_ok, run_underlying hu]
    rw [if_pos hc]
    have hsz : (sizeOf e).run P w = .ok 4 w := by simp [sizeOf, typeInfo, hq, hi]
    simp only [Sem.run_bind, hsz, Result.andThen_ok, part, hagg, if_true, Sem.run_pure, Int.toNat_natCast]
    rw [barr_extract W k hl]
theorem Blk.there {w : World} {b : Nat} {t : TypeId} {cs : Array Value} (h : Blk w b t cs) (o n : Nat) (hn : o + n ≤ cs.size) : w.there b o n := fun j hj => by
  refine ⟨?_, h.unfrozen _⟩
  rw [h.cell, Array.getElem?_eq_getElem (by omega)]
  rfl
theorem barr_toList2 (l : List UInt8) : (barr l).toList = l.map B := by simp [barr]
/-- the first words, noughts behind them -/
def outTo (W : List UInt8) (c : Nat) : List UInt8 := W.take (4 * c) ++ List.replicate (240 - 4 * c) 0
theorem outTo_zero (W : List UInt8) : outTo W 0 = List.replicate 240 0 := by simp [outTo]
theorem outTo_end (W : List UInt8) (h : W.length = 240) : outTo W 60 = W := by
  unfold outTo
  rw [List.take_of_length_le (by omega)]
  simp
theorem outTo_len (W : List UInt8) (c : Nat) (h : W.length = 240) (hc : c ≤ 60) : (outTo W c).length = 240 := by simp [outTo]; omega
theorem outTo_splice (W : List UInt8) (c : Nat) (h : W.length = 240) (hc : c < 60) : splice ((outTo W c).map B) (4 * c) ((wordAt W c).map B) = (outTo W (c + 1)).map B := by
  have e := keyTo_succ W c (by omega) (by omega)
  have e2 := setsU_app (wordAt W c) (W.take (4 * c)) (List.replicate (240 - 4 * c) 0) (by rw [wordAt_len, List.length_replicate]; omega)
  have hl : (W.take (4 * c)).length = c * 4 := by rw [List.length_take]; omega
  rw [hl] at e2
  unfold keyTo at e
  rw [e2] at e
  unfold outTo
  rw [← e]
  unfold splice
  have hl2 : (W.take (4 * c)).length = 4 * c := by rw [hl]; omega
  have hd : (W.take (4 * c) ++ List.replicate (240 - 4 * c) 0).drop (4 * c + 4) = (List.replicate (240 - 4 * c) (0 : UInt8)).drop 4 := by
    rw [List.drop_append, List.drop_of_length_le (by omega), hl2, List.nil_append, show 4 * c + 4 - 4 * c = 4 from by omega]
  rw [← List.map_take, ← List.map_drop, List.length_map, wordAt_len, hd, List.take_append_of_le_length (by omega), List.take_of_length_le (by omega), ← List.map_append, ← List.map_append, List.append_assoc]
theorem boxL_of (a b c d : UInt8) : boxL [a, b, c, d] = [boxU a, boxU b, boxU c, boxU d] := rfl
end Go.Proofs.Ytihmgkjmebdioaa
