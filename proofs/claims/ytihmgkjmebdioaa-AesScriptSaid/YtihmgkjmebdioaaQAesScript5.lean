/- The iterator of a ledger's events: what it gives, whatever the loop's body does to blocks of its own. -/
import Derived.Test.YtihmgkjmebdioaaRows
import Derived.Laws.Tables
import Derived.Deep.AppendLies
import Derived.IntWalk
import Derived.RangeFuncNested
import Derived.RangeFuncBound
import Derived.RangeFuncCalls
import Derived.RangeFuncLeaves
import Derived.Shelf.Abstract
import Derived.Shelf.RegionOpen
import Derived.WalkKit
import Derived.OwnWalkIn
import Derived.TacticsInMore
import Derived.LoopNIn
import Derived.LoopIn
import Derived.Test.YtihmgkjmebdioaaQAesScript0
import Derived.Test.YtihmgkjmebdioaaQAesScript1
import Derived.Test.YtihmgkjmebdioaaQAesScript2
import Derived.Test.YtihmgkjmebdioaaQAesScript3
import Derived.Test.YtihmgkjmebdioaaQAesScript4
/- The contracts of package aes: New, KeyLen, Form, Clone, Wipe. -/
namespace Go.Proofs.Ytihmgkjmebdioaa
open Go.RowKit
set_option maxRecDepth 100000
set_option linter.unusedVariables false
set_option linter.unusedSimpArgs false

theorem over_list (off : Nat) : ∀ (vs a b : List Value) (n : Nat), a.length = off + n → vs.length = b.length → (vs.zipIdx n).foldl (fun (cs : Array Value) (p : Value × Nat) => cs.setIfInBounds (off + p.2) p.1) (a ++ b).toArray = (a ++ vs).toArray
  | [], a, [], n, _, _ => by simp
  | v :: vs, a, y :: b, n, h, h2 => by
    rw [List.zipIdx_cons, List.foldl_cons]
    have e : (a ++ y :: b).toArray.setIfInBounds (off + n) v = ((a ++ [v]) ++ b).toArray := by
      rw [List.setIfInBounds_toArray, ← h, List.set_append_right _ _ (Nat.le_refl _), Nat.sub_self, List.set_cons_zero, List.append_assoc]
      rfl
    have := over_list off vs (a ++ [v]) b (n + 1) (by simp; omega) (by simpa using h2)
    simp only [e]
    rw [this, List.append_assoc]
    rfl
  | [], a, y :: b, n, _, h2 => by simp at h2
  | v :: vs, a, [], n, _, h2 => by simp at h2
theorem built_cip (k : Nat) (S : List UInt8) (hS : S.length = 240) : Try.prog.built 68 [(0, .int .i64 (k : Int)), (1, .agg (barr S))] = some (cipC k S) := by
  have h : ∀ parts, Try.prog.built 68 parts = Instr.fill (#[((0 : Nat), (1 : Nat)), (1, 240)][·]?) (cipC 0 (List.replicate 240 0)) parts := by intro parts; kernel_rfl
  rw [h]
  have h0 : (cipC 0 (List.replicate 240 0)).setIfInBounds 0 (.int .i64 (k : Int)) = ([Value.int .i64 (k : Int)] ++ (List.replicate 240 (0 : UInt8)).map B).toArray := by
    unfold cipC
    rw [List.setIfInBounds_toArray, List.set_cons_zero]
    rfl
  have e1 : (Value.int .i64 (k : Int)).cells = #[.int .i64 (k : Int)] := rfl
  have e2 : (Value.agg (barr S)).cells = barr S := rfl
  have s0 : (cipC 0 (List.replicate 240 0)).size = 241 := by rw [cipC_size]; simp
  have s1 : ((cipC 0 (List.replicate 240 0)).setIfInBounds 0 (.int .i64 (k : Int))).size = 241 := by rw [Array.size_setIfInBounds, s0]
  have f1 : (#[Value.int .i64 (k : Int)] : Array Value).zipIdx.foldl (fun cs x => cs.setIfInBounds (0 + x.snd) x.fst) (cipC 0 (List.replicate 240 0)) = (cipC 0 (List.replicate 240 0)).setIfInBounds 0 (.int .i64 (k : Int)) := by simp
  have f2 : (barr S).zipIdx.foldl (fun cs x => cs.setIfInBounds (1 + x.snd) x.fst) ((cipC 0 (List.replicate 240 0)).setIfInBounds 0 (.int .i64 (k : Int))) = cipC k S := by
    rw [h0, ← Array.foldl_toList, Array.toList_zipIdx, barr_toList]
    exact over_list 1 (S.map B) [Value.int .i64 (k : Int)] ((List.replicate 240 (0 : UInt8)).map B) 0 rfl (by rw [List.length_map, List.length_map, hS, List.length_replicate])
  simp only [Instr.fill, e1, e2, show (#[((0 : Nat), (1 : Nat)), (1, 240)] : Array (Nat × Nat))[0]? = some (0, 1) from rfl, show (#[((0 : Nat), (1 : Nat)), (1, 240)] : Array (Nat × Nat))[1]? = some (1, 240) from rfl]
  rw [f1, s0, s1, barr_size, hS, f2]
  rfl
theorem wpList_build_as {P : Program} {ops : Array Oper} {rest : List Oper} {a : Act} {w : World} {Q : Exit → Act → World → Prop} {d : Option Tmp} {t ot : TypeId} {parts : Array (Nat × Operand)} {pos : String} {aft : Array Edge} (cells : Array Value) (ps : List (Nat × Value))
    (hp : (parts.map fun (i, x) => (i, a.eval x)).toList = ps) (hb : P.built t ps = some cells) (kk : wpList P ops Q rest (a.put d (.agg cells)) w) : wpList P ops Q (⟨d, .build t parts, ot, pos, aft, none⟩ :: rest) a w := by
  refine wpList_build rfl t parts rfl (by rw [hp, hb]; rfl) ?_
  rw [hp, hb]
  exact kk
theorem wpList_build2_as {P : Program} {ops : Array Oper} {rest : List Oper} {a : Act} {w : World} {Q : Exit → Act → World → Prop} {d : Option Tmp} {t ot : TypeId} {i0 i1 : Nat} {x0 x1 : Operand} {pos : String} {aft : Array Edge} (cells : Array Value) (v0 v1 : Value)
    (h0 : a.eval x0 = v0) (h1 : a.eval x1 = v1) (hb : P.built t [(i0, v0), (i1, v1)] = some cells) (kk : wpList P ops Q rest (a.put d (.agg cells)) w) : wpList P ops Q (⟨d, .build t #[(i0, x0), (i1, x1)], ot, pos, aft, none⟩ :: rest) a w :=
  wpList_build_as cells [(i0, v0), (i1, v1)] (by simp [h0, h1]) hb kk
set_option maxHeartbeats 1000000 in
theorem newC_off (q u : Value) (key : List UInt8) (w : World) (hu : Bs w u key) (hk : ¬ key.length = 16 ∧ ¬ key.length = 24 ∧ ¬ key.length = 32) :
    Calls Try.prog 9 #[q, u] w fun e w' => e = .returned (.tuple #[.pointer none, .int .i64 7]) ∧ w = w' := by
  obtain ⟨ao, cap, rfl, h1, h2, _, _⟩ := hu.form
  have hla : key.length ≤ 9223372036854775807 := by omega
  obtain ⟨n, hn⟩ : ∃ n, key.length = n := ⟨_, rfl⟩
  rw [hn] at hk hla
  have b1 : ((n : Int) != 16) = true := by simp; omega
  have b2 : ((n : Int) != 24) = true := by simp; omega
  have b3 : ((n : Int) != 32) = true := by simp; omega
  rw [hn]
  clear hu hk hn h1
  go_enter Try.func9, Try.ntmps9
  go_wp2
  go_ret2
  exact ⟨rfl, rfl⟩
def RightLen (n : Nat) : Prop := n = 16 ∨ n = 24 ∨ n = 32
set_option maxHeartbeats 2000000 in
theorem newC_any (q u : Value) (G : Nat → Prop) (o : Option (List Rn)) (key : List UInt8) (w : World) (hq : LgP w q G o) (hb : Room o 1) (hu : Bs w u key) (hd : key ≠ [] → ∀ x, u.ownBlock = some x → ¬ G x) (hk : RightLen key.length) :
    Calls Try.prog 9 #[q, u] w fun e w' => ∃ w1 n, LaidP q G (noteO o 4 key.length 1) w w1 ∧ e = .returned (.tuple #[.pointer (some ⟨n, 0, none⟩), .int .i64 0]) ∧ CipAt w' n key.length (sched key) ∧ Below w1.heap.size w1 w' ∧ w1.heap.size ≤ n := by
  have HU := Lib.hid hu
  have HQ := Lib.hid hq
  have HD := Lib.hid hd
  obtain ⟨ao, cap, rfl, h1, h2, _, _⟩ := hu.form
  have hla : key.length ≤ 9223372036854775807 := by omega
  obtain ⟨k, hk4, hkk⟩ : ∃ k, key.length = 4 * k ∧ (k = 4 ∨ k = 6 ∨ k = 8) := by
    rcases hk with h | h | h
    · exact ⟨4, h, .inl rfl⟩
    · exact ⟨6, h, .inr (.inl rfl)⟩
    · exact ⟨8, h, .inr (.inr rfl)⟩
  have HK := Lib.hid (And.intro hk4 hkk)
  obtain ⟨n, hn⟩ : ∃ n, key.length = n := ⟨_, rfl⟩
  have hbs : ((n : Int) != 16) = false ∨ (((n : Int) != 16) = true ∧ ((n : Int) != 24) = false) ∨ (((n : Int) != 16) = true ∧ ((n : Int) != 24) = true ∧ ((n : Int) != 32) = false) := by
    rw [hn] at hk
    rcases hk with rfl | rfl | rfl
    · left; rfl
    · right; left; exact ⟨rfl, rfl⟩
    · right; right; exact ⟨rfl, rfl, rfl⟩
  have hn32 : n ≤ 32 := by rw [← hn]; rcases hk with h | h | h <;> omega
  have HN := Lib.hid hn
  rw [hn]
  rw [hn] at HU HD hla h1
  clear hu hq hd hk hk4 hkk hn
  go_enter Try.func9, Try.ntmps9
  have hS : (sched key).length = 240 := sched_len key (by rw [HN.out]; omega)
  rcases hbs with b1 | ⟨b1, b2⟩ | ⟨b1, b2, b3⟩
  all_goals
    go_wp2_with fail
    refine (gnoteP_any q G o 4 n w HQ.out hb).mono ?_
    rintro e w1 ⟨rfl, hl⟩
    have HL := Lib.hid hl
    have U1 := Lib.hid (HU.out.only' hl.only HD.out)
    clear hl
    go_wp2_with fail
    refine (expanded_any _ key (n / 4) w1 U1.out (by have h1 := HK.out; have h2 := HN.out; omega) (by have h1 := HK.out; have h2 := HN.out; omega)).mono ?_
    rintro e w2 ⟨rfl, hb2⟩
    have HB2 := Lib.hid hb2
    clear hb2
    go_wp2_with ((with_reducible change wpList _ _ _ (Oper.mk _ (Op.build 68 _) _ _ _ _ :: _) _ _); refine wpList_build2_as (cipC n (sched key)) (.int .i64 (n : Int)) (.agg (barr (sched key))) rfl rfl (built_cip n (sched key) hS) ?_)
    go_ret2
    exact ⟨w1, w2.heap.size, HL.out, rfl, ⟨Blk.new _ _ _, hS⟩, HB2.out.alloc HB2.out.size _, HB2.out.size⟩
end Go.Proofs.Ytihmgkjmebdioaa
/- The walk of turnkeyref10.Of: the words are the schedule's. Condition: the key has 16, 24 or 32 bytes. -/
namespace Go.Proofs.Ytihmgkjmebdioaa
open Go.RowKit
set_option maxRecDepth 100000
set_option linter.unusedVariables false
set_option linter.unusedSimpArgs false
attribute [local go_sem] Oper.semAt_some
theorem built_aes : Array.foldl (fun (cs : Array Value) (x : Value × Nat) => cs.setIfInBounds (1 + x.snd) x.fst) Try.zeroCells109 (barr box256).zipIdx 0 (barr box256).size = raC (.slice none 0 0) := by
  have h0 : Try.zeroCells109 = ([Value.slice none 0 0] ++ (List.replicate 256 (0 : UInt8)).map B).toArray := by kernel_rfl
  have hs : (barr box256).size = (barr box256).zipIdx.size := by rw [Array.size_zipIdx]
  rw [h0, hs, ← Array.foldl_toList, Array.toList_zipIdx, barr_toList]
  exact over_list 1 (box256.map B) [Value.slice none 0 0] ((List.replicate 256 (0 : UInt8)).map B) 0 rfl (by rw [List.length_map, List.length_map, box256_len, List.length_replicate])
def OfI (w wx : World) (a k : Nat) (key : List UInt8) (i : Nat) (x : UInt8) : Prop := ∃ v W, OfW w wx a v i W ∧ W.length = 240 ∧ ((i ≤ k ∧ W = keyTo key k ∧ x = 1) ∨ (k ≤ i ∧ expN k (4 * (k + 7) - i) i x W = sched key))
set_option maxHeartbeats 4000000 in
theorem rof_any (u : Value) (key : List UInt8) (k : Nat) (w : World) (hu : Bs w u key) (hkl : key.length = 4 * k) (hk : k = 4 ∨ k = 6 ∨ k = 8) :
    Calls Try.prog 58 #[u] w fun e w' => ∃ a g cap : Nat, e = .returned (.pointer (some ⟨a, 0, none⟩)) ∧ RA w' a g (4 * (k + 7)) cap (sched key) ∧ Below w.heap.size w w' ∧ w.heap.size ≤ a ∧ w.heap.size ≤ g := by
  have hk8 : k ≤ 8 := by omega
  have hk4 : 4 ≤ k := by omega
  obtain ⟨ao, cap, rfl, h1, h2, _, hc⟩ := hu.form
  clear hu
  have hpos : 0 < key.length := by omega
  obtain ⟨g, off, rfl, _⟩ := hc 0 hpos
  have hcell : ∀ j, j < key.length → w.cell? ⟨g, off + j, none⟩ = some (.int .u8 ((key.getD j 0).toNat : Int)) := by
    intro j hj
    obtain ⟨b, o, hb, hx⟩ := hc j hj
    injection hb with e
    injection e with e1 e2
    subst e1; subst e2
    exact hx
  have hg : g < w.heap.size := World.block_lt_of_cell? w _ (hcell 0 hpos)
  have HCELL : Hid (∀ wx j, j < key.length → Below w.heap.size w wx → wx.cell? ⟨g, off + j, none⟩ = some (.int .u8 ((key.getD j 0).toNat : Int))) := Lib.hid (fun wx j hj hb => (hb.cell hg).trans (hcell j hj))
  clear hc hcell
  have hkq : (key.length : Int) / 4 = (k : Int) := by omega
  have HKL := Lib.hid hkl
  have HK := Lib.hid hk
  have hSched : Hid (expN k (3 * k + 28) k 1 (keyTo key k) = sched key) := by
    unfold sched
    rw [show key.length / 4 = k from by omega]
    congr 1
    unfold keyTo
    rw [← hkl, List.take_of_length_le (Nat.le_refl _)]
  have HW0 : Hid ((keyTo key k).length = 240) := Lib.hid (keyTo_len key k (by omega) (by omega))
  clear hkl hk
  go_enter Try.func58, Try.ntmps58
  go_wp2_with fail
  refine (rboxes_any w).mono ?_
  rintro e w1 ⟨rfl, hb1⟩
  have HB1 := Lib.hid hb1
  clear hb1
  go_upto_region 2 with fail
  rw [built_aes]
  obtain ⟨a, ha⟩ : ∃ x, w1.heap.size = x := ⟨_, rfl⟩
  obtain ⟨w2, hw2⟩ : ∃ x, w1.alloc (.cells (raC (.slice none 0 0)) 109) = x := ⟨_, rfl⟩
  have H2 : Hid (OfI w w2 a k key 0 1) := by
    rw [← hw2, ← ha]
    refine Lib.hid ⟨.slice none 0 0, keyTo key k, ⟨Blk.at rfl rfl, World.ownsRow_nil _ 0 _ _, HB1.out.alloc HB1.out.size _, HB1.out.size, fun x hx => by simp [fpv, Value.ownBlock] at hx⟩, HW0.out, .inl ⟨by omega, rfl, rfl⟩⟩
  rw [hw2, ha]
  clear hw2 ha HB1
  generalize raC (.slice none 0 0) = RC
  obtain ⟨n, hn⟩ : ∃ n, n = 4 * (k + 7) := ⟨_, rfl⟩
  have hnI : 4 * ((k : Int) + 7) = (n : Int) := by omega
  have hn60 : n ≤ 60 := by omega
  have HN := Lib.hid hn
  clear hn
  go_wp2_with fail
  go_loopw [5, 6] (fun xv iv wx => ∃ (x : UInt8) (i : Nat), i ≤ n ∧ iv = .int .i64 (i : Int) ∧ xv = .int .u8 (x.toNat : Int) ∧ Hid (OfI w wx a k key i x)) (fun _ iv _ => n - (intOf iv).toNat)
  case atStart => exact ⟨1, 0, by omega, rfl, rfl, H2⟩
  case round =>
    obtain ⟨x, i, hi, rfl, rfl, H⟩ := hrel
    clear H2
    by_cases hin : i < n
    · have t1 : decide ((i : Int) < (n : Int)) = true := by rw [decide_eq_true_eq]; omega
      obtain ⟨v, W, hOf⟩ := H.out
      have HO := Lib.hid hOf
      clear hOf H
      by_cases hik : i < k
      · have t2 : decide ((i : Int) < (k : Int)) = true := by rw [decide_eq_true_eq]; omega
        obtain ⟨o1, hWl, ho3⟩ := HO.out
        obtain ⟨rfl, rfl⟩ : W = keyTo key k ∧ x = 1 := by
          rcases ho3 with h | h
          · exact ⟨h.2.1, h.2.2⟩
          · omega
        --[p1
        obtain ⟨p, hp⟩ : ∃ p, 4 * i = p := ⟨_, rfl⟩
        have hpI : 4 * (i : Int) = (p : Int) := by omega
        have HP := Lib.hid hp
        have hpl : p + 4 ≤ key.length := by have := HKL.out; omega
        have bp : 0 ≤ (p : Int) ∧ (p : Int) < (key.length : Int) := by omega
        have bp1 : 0 ≤ (p : Int) + 1 ∧ (p : Int) + 1 < (key.length : Int) := by omega
        have bp2 : 0 ≤ (p : Int) + 2 ∧ (p : Int) + 2 < (key.length : Int) := by omega
        have bp3 : 0 ≤ (p : Int) + 3 ∧ (p : Int) + 3 < (key.length : Int) := by omega
        have wp0 : IntKind.i64.wrap (p : Int) = (p : Int) := IntWalk.i64_in _ (by omega)
        have wp1 : IntKind.i64.wrap ((p : Int) + 1) = (p : Int) + 1 := IntWalk.i64_in _ (by omega)
        have wp2 : IntKind.i64.wrap ((p : Int) + 2) = (p : Int) + 2 := IntWalk.i64_in _ (by omega)
        have wp3 : IntKind.i64.wrap ((p : Int) + 3) = (p : Int) + 3 := IntWalk.i64_in _ (by omega)
        have tn1 : ((p : Int) + 1).toNat = p + 1 := by omega
        have tn2 : ((p : Int) + 2).toNat = p + 2 := by omega
        have tn3 : ((p : Int) + 3).toNat = p + 3 := by omega
        have c0 := o1.head
        have cb := o1.blk.lt
        clear hp ho3 o1
        go_upto_region 8 with fail
        obtain ⟨y0, hy0⟩ : ∃ y, key.getD p 0 = y := ⟨_, rfl⟩
        obtain ⟨y1, hy1⟩ : ∃ y, key.getD (p + 1) 0 = y := ⟨_, rfl⟩
        obtain ⟨y2, hy2⟩ : ∃ y, key.getD (p + 2) 0 = y := ⟨_, rfl⟩
        obtain ⟨y3, hy3⟩ : ∃ y, key.getD (p + 3) 0 = y := ⟨_, rfl⟩
        have kc0 : ∀ X, Below w.heap.size w X → X.cell? ⟨g, off + p, none⟩ = some (.int .u8 (y0.toNat : Int)) := fun X hX => by rw [← hy0]; exact HCELL.out X _ (by omega) hX
        have kc1 : ∀ X, Below w.heap.size w X → X.cell? ⟨g, off + (p + 1), none⟩ = some (.int .u8 (y1.toNat : Int)) := fun X hX => by rw [← hy1]; exact HCELL.out X _ (by omega) hX
        have kc2 : ∀ X, Below w.heap.size w X → X.cell? ⟨g, off + (p + 2), none⟩ = some (.int .u8 (y2.toNat : Int)) := fun X hX => by rw [← hy2]; exact HCELL.out X _ (by omega) hX
        have kc3 : ∀ X, Below w.heap.size w X → X.cell? ⟨g, off + (p + 3), none⟩ = some (.int .u8 (y3.toNat : Int)) := fun X hX => by rw [← hy3]; exact HCELL.out X _ (by omega) hX
        have he : (keyTo key k).take (4 * (i + 1)) = (keyTo key k).take (4 * i) ++ [y0, y1, y2, y3] := by
          have hg4 : ∀ j, j < key.length → (keyTo key k).getD j 0 = key.getD j 0 := fun j hj => by
            unfold keyTo
            rw [List.getD_eq_getElem?_getD, List.getElem?_append_left (by rw [List.length_take]; have := HKL.out; omega), List.getElem?_take_of_lt (by have := HKL.out; omega), ← List.getD_eq_getElem?_getD]
          rw [take_four _ i (by have := HW0.out; omega), HP.out, hg4 _ (by omega), hg4 _ (by omega), hg4 _ (by omega), hg4 _ (by omega), hy0, hy1, hy2, hy3]
        have HE := Lib.hid he
        clear he hy0 hy1 hy2 hy3
        have HA : Hid (OfW w ((wr.drewN 1).alloc (.cells #[.int .u8 (y0.toNat : Int), .int .u8 (y1.toNat : Int), .int .u8 (y2.toNat : Int), .int .u8 (y3.toNat : Int)] 79)) a v i (keyTo key k)) := Lib.hid ((HO.out.1.below (drew_below wr 1)).below ((Below.refl _ _).alloc (Nat.le_refl _) _))
        have S5 : Below w.heap.size w (wr.drewN 1) := (HO.out.1.below (drew_below wr 1)).bel
        have S6 := HA.out.bel
        refine hd_start (fun wx => Below w.heap.size w wx) (by kernel_rfl) ?_
        intro w5 hw'
        subst hw'
        refine hd_take (v := ?_) 0 rfl (by kernel_rfl) (fun _ _ d _ _ h => (by cases d <;> exact h)) (by kernel_rfl) S5 (fun w' hS => ?_) ?_
        rotate_left
        focus (have q0 := kc0 w' hS; have q1 := kc1 w' hS; have q2 := kc2 w' hS; have q3 := kc3 w' hS; clear hS; go_simp; try rfl; done)
        simp only [List.getElem_toArray, List.getElem_cons_succ, List.getElem_cons_zero, Act.put, List.setIfInBounds_toArray, List.set_cons_zero, List.set_cons_succ]
        refine hd_take (v := ?_) 1 rfl (by kernel_rfl) (fun _ _ d _ _ h => (by cases d <;> exact h)) (by kernel_rfl) S5 (fun w' hS => ?_) ?_
        rotate_left
        focus (have q0 := kc0 w' hS; have q1 := kc1 w' hS; have q2 := kc2 w' hS; have q3 := kc3 w' hS; clear hS; go_simp; try rfl; done)
        simp only [List.getElem_toArray, List.getElem_cons_succ, List.getElem_cons_zero, Act.put, List.setIfInBounds_toArray, List.set_cons_zero, List.set_cons_succ]
        refine hd_take (v := ?_) 2 rfl (by kernel_rfl) (fun _ _ d _ _ h => (by cases d <;> exact h)) (by kernel_rfl) S5 (fun w' hS => ?_) ?_
        rotate_left
        focus (have q0 := kc0 w' hS; have q1 := kc1 w' hS; have q2 := kc2 w' hS; have q3 := kc3 w' hS; clear hS; go_simp; try rfl; done)
        simp only [List.getElem_toArray, List.getElem_cons_succ, List.getElem_cons_zero, Act.put, List.setIfInBounds_toArray, List.set_cons_zero, List.set_cons_succ]
        refine hd_take (v := ?_) 3 rfl (by kernel_rfl) (fun _ _ d _ _ h => (by cases d <;> exact h)) (by kernel_rfl) S5 (fun w' hS => ?_) ?_
        rotate_left
        focus (have q0 := kc0 w' hS; have q1 := kc1 w' hS; have q2 := kc2 w' hS; have q3 := kc3 w' hS; clear hS; go_simp; try rfl; done)
        simp only [List.getElem_toArray, List.getElem_cons_succ, List.getElem_cons_zero, Act.put, List.setIfInBounds_toArray, List.set_cons_zero, List.set_cons_succ]
        refine hd_take (v := ?_) 5 rfl (by kernel_rfl) (fun _ _ d _ _ h => (by cases d <;> exact h)) (by kernel_rfl) S5 (fun w' hS => ?_) ?_
        rotate_left
        focus (have q0 := kc0 w' hS; have q1 := kc1 w' hS; have q2 := kc2 w' hS; have q3 := kc3 w' hS; clear hS; go_simp; try rfl; done)
        simp only [List.getElem_toArray, List.getElem_cons_succ, List.getElem_cons_zero, Act.put, List.setIfInBounds_toArray, List.set_cons_zero, List.set_cons_succ]
        refine hd_take (v := ?_) 6 rfl (by kernel_rfl) (fun _ _ d _ _ h => (by cases d <;> exact h)) (by kernel_rfl) S5 (fun w' hS => ?_) ?_
        rotate_left
        focus (have q0 := kc0 w' hS; have q1 := kc1 w' hS; have q2 := kc2 w' hS; have q3 := kc3 w' hS; clear hS; go_simp; try rfl; done)
        simp only [List.getElem_toArray, List.getElem_cons_succ, List.getElem_cons_zero, Act.put, List.setIfInBounds_toArray, List.set_cons_zero, List.set_cons_succ]
        refine hd_take (v := ?_) 7 rfl (by kernel_rfl) (fun _ _ d _ _ h => (by cases d <;> exact h)) (by kernel_rfl) S5 (fun w' hS => ?_) ?_
        rotate_left
        focus (have q0 := kc0 w' hS; have q1 := kc1 w' hS; have q2 := kc2 w' hS; have q3 := kc3 w' hS; clear hS; go_simp; try rfl; done)
        simp only [List.getElem_toArray, List.getElem_cons_succ, List.getElem_cons_zero, Act.put, List.setIfInBounds_toArray, List.set_cons_zero, List.set_cons_succ]
        refine hd_take (v := ?_) 8 rfl (by kernel_rfl) (fun _ _ d _ _ h => (by cases d <;> exact h)) (by kernel_rfl) S5 (fun w' hS => ?_) ?_
        rotate_left
        focus (have q0 := kc0 w' hS; have q1 := kc1 w' hS; have q2 := kc2 w' hS; have q3 := kc3 w' hS; clear hS; go_simp; try rfl; done)
        simp only [List.getElem_toArray, List.getElem_cons_succ, List.getElem_cons_zero, Act.put, List.setIfInBounds_toArray, List.set_cons_zero, List.set_cons_succ]
        refine hd_take (v := ?_) 9 rfl (by kernel_rfl) (fun _ _ d _ _ h => (by cases d <;> exact h)) (by kernel_rfl) S5 (fun w' hS => ?_) ?_
        rotate_left
        focus (have q0 := kc0 w' hS; have q1 := kc1 w' hS; have q2 := kc2 w' hS; have q3 := kc3 w' hS; clear hS; go_simp; try rfl; done)
        simp only [List.getElem_toArray, List.getElem_cons_succ, List.getElem_cons_zero, Act.put, List.setIfInBounds_toArray, List.set_cons_zero, List.set_cons_succ]
        refine hd_take (v := ?_) 10 rfl (by kernel_rfl) (fun _ _ d _ _ h => (by cases d <;> exact h)) (by kernel_rfl) S5 (fun w' hS => ?_) ?_
        rotate_left
        focus (have q0 := kc0 w' hS; have q1 := kc1 w' hS; have q2 := kc2 w' hS; have q3 := kc3 w' hS; clear hS; go_simp; try rfl; done)
        simp only [List.getElem_toArray, List.getElem_cons_succ, List.getElem_cons_zero, Act.put, List.setIfInBounds_toArray, List.set_cons_zero, List.set_cons_succ]
        refine hd_take (v := ?_) 11 rfl (by kernel_rfl) (fun _ _ d _ _ h => (by cases d <;> exact h)) (by kernel_rfl) S5 (fun w' hS => ?_) ?_
        rotate_left
        focus (have q0 := kc0 w' hS; have q1 := kc1 w' hS; have q2 := kc2 w' hS; have q3 := kc3 w' hS; clear hS; go_simp; try rfl; done)
        simp only [List.getElem_toArray, List.getElem_cons_succ, List.getElem_cons_zero, Act.put, List.setIfInBounds_toArray, List.set_cons_zero, List.set_cons_succ]
        refine hd_take (v := ?_) 12 rfl (by kernel_rfl) (fun _ _ d _ _ h => (by cases d <;> exact h)) (by kernel_rfl) S5 (fun w' hS => ?_) ?_
        rotate_left
        focus (have q0 := kc0 w' hS; have q1 := kc1 w' hS; have q2 := kc2 w' hS; have q3 := kc3 w' hS; clear hS; go_simp; try rfl; done)
        simp only [List.getElem_toArray, List.getElem_cons_succ, List.getElem_cons_zero, Act.put, List.setIfInBounds_toArray, List.set_cons_zero, List.set_cons_succ]
        refine hd_take (v := ?_) 13 rfl (by kernel_rfl) (fun _ _ d _ _ h => (by cases d <;> exact h)) (by kernel_rfl) S5 (fun w' hS => ?_) ?_
        rotate_left
        focus (have q0 := kc0 w' hS; have q1 := kc1 w' hS; have q2 := kc2 w' hS; have q3 := kc3 w' hS; clear hS; go_simp; try rfl; done)
        simp only [List.getElem_toArray, List.getElem_cons_succ, List.getElem_cons_zero, Act.put, List.setIfInBounds_toArray, List.set_cons_zero, List.set_cons_succ]
        refine hd_take (v := ?_) 14 rfl (by kernel_rfl) (fun _ _ d _ _ h => (by cases d <;> exact h)) (by kernel_rfl) S5 (fun w' hS => ?_) ?_
        rotate_left
        focus (have q0 := kc0 w' hS; have q1 := kc1 w' hS; have q2 := kc2 w' hS; have q3 := kc3 w' hS; clear hS; go_simp; try rfl; done)
        simp only [List.getElem_toArray, List.getElem_cons_succ, List.getElem_cons_zero, Act.put, List.setIfInBounds_toArray, List.set_cons_zero, List.set_cons_succ]
        refine hd_take (v := ?_) 15 rfl (by kernel_rfl) (fun _ _ d _ _ h => (by cases d <;> exact h)) (by kernel_rfl) S5 (fun w' hS => ?_) ?_
        rotate_left
        focus (have q0 := kc0 w' hS; have q1 := kc1 w' hS; have q2 := kc2 w' hS; have q3 := kc3 w' hS; clear hS; go_simp; try rfl; done)
        simp only [List.getElem_toArray, List.getElem_cons_succ, List.getElem_cons_zero, Act.put, List.setIfInBounds_toArray, List.set_cons_zero, List.set_cons_succ]
        refine hd_take (v := ?_) 16 rfl (by kernel_rfl) (fun _ _ d _ _ h => (by cases d <;> exact h)) (by kernel_rfl) S5 (fun w' hS => ?_) ?_
        rotate_left
        focus (have q0 := kc0 w' hS; have q1 := kc1 w' hS; have q2 := kc2 w' hS; have q3 := kc3 w' hS; clear hS; go_simp; try rfl; done)
        simp only [List.getElem_toArray, List.getElem_cons_succ, List.getElem_cons_zero, Act.put, List.setIfInBounds_toArray, List.set_cons_zero, List.set_cons_succ]
        refine hd_take (v := ?_) 17 rfl (by kernel_rfl) (fun _ _ d _ _ h => (by cases d <;> exact h)) (by kernel_rfl) S5 (fun w' hS => ?_) ?_
        rotate_left
        focus (have q0 := kc0 w' hS; have q1 := kc1 w' hS; have q2 := kc2 w' hS; have q3 := kc3 w' hS; clear hS; go_simp; try rfl; done)
        simp only [List.getElem_toArray, List.getElem_cons_succ, List.getElem_cons_zero, Act.put, List.setIfInBounds_toArray, List.set_cons_zero, List.set_cons_succ]
        refine hd_take (v := ?_) 18 rfl (by kernel_rfl) (fun _ _ d _ _ h => (by cases d <;> exact h)) (by kernel_rfl) S5 (fun w' hS => ?_) ?_
        rotate_left
        focus (have q0 := kc0 w' hS; have q1 := kc1 w' hS; have q2 := kc2 w' hS; have q3 := kc3 w' hS; clear hS; go_simp; try rfl; done)
        simp only [List.getElem_toArray, List.getElem_cons_succ, List.getElem_cons_zero, Act.put, List.setIfInBounds_toArray, List.set_cons_zero, List.set_cons_succ]
        refine hd_take (v := ?_) 19 rfl (by kernel_rfl) (fun _ _ d _ _ h => (by cases d <;> exact h)) (by kernel_rfl) S5 (fun w' hS => ?_) ?_
        rotate_left
        focus (have q0 := kc0 w' hS; have q1 := kc1 w' hS; have q2 := kc2 w' hS; have q3 := kc3 w' hS; clear hS; go_simp; try rfl; done)
        simp only [List.getElem_toArray, List.getElem_cons_succ, List.getElem_cons_zero, Act.put, List.setIfInBounds_toArray, List.set_cons_zero, List.set_cons_succ]
        refine hd_take (v := ?_) 20 rfl (by kernel_rfl) (fun _ _ d _ _ h => (by cases d <;> exact h)) (by kernel_rfl) S5 (fun w' hS => ?_) ?_
        rotate_left
        focus (have q0 := kc0 w' hS; have q1 := kc1 w' hS; have q2 := kc2 w' hS; have q3 := kc3 w' hS; clear hS; go_simp; try rfl; done)
        simp only [List.getElem_toArray, List.getElem_cons_succ, List.getElem_cons_zero, Act.put, List.setIfInBounds_toArray, List.set_cons_zero, List.set_cons_succ]
        refine hd_take (v := ?_) 21 rfl (by kernel_rfl) (fun _ _ d _ _ h => (by cases d <;> exact h)) (by kernel_rfl) S5 (fun w' hS => ?_) ?_
        rotate_left
        focus (have q0 := kc0 w' hS; have q1 := kc1 w' hS; have q2 := kc2 w' hS; have q3 := kc3 w' hS; clear hS; go_simp; try rfl; done)
        simp only [List.getElem_toArray, List.getElem_cons_succ, List.getElem_cons_zero, Act.put, List.setIfInBounds_toArray, List.set_cons_zero, List.set_cons_succ]
        refine hd_take (v := ?_) 22 rfl (by kernel_rfl) (fun _ _ d _ _ h => (by cases d <;> exact h)) (by kernel_rfl) S5 (fun w' hS => ?_) ?_
        rotate_left
        focus (have q0 := kc0 w' hS; have q1 := kc1 w' hS; have q2 := kc2 w' hS; have q3 := kc3 w' hS; clear hS; go_simp; try rfl; done)
        simp only [List.getElem_toArray, List.getElem_cons_succ, List.getElem_cons_zero, Act.put, List.setIfInBounds_toArray, List.set_cons_zero, List.set_cons_succ]
        refine hd_take (v := ?_) 23 rfl (by kernel_rfl) (fun _ _ d _ _ h => (by cases d <;> exact h)) (by kernel_rfl) S5 (fun w' hS => ?_) ?_
        rotate_left
        focus (have q0 := kc0 w' hS; have q1 := kc1 w' hS; have q2 := kc2 w' hS; have q3 := kc3 w' hS; clear hS; go_simp; try rfl; done)
        simp only [List.getElem_toArray, List.getElem_cons_succ, List.getElem_cons_zero, Act.put, List.setIfInBounds_toArray, List.set_cons_zero, List.set_cons_succ]
        refine hd_take (v := ?_) 24 rfl (by kernel_rfl) (fun _ _ d _ _ h => (by cases d <;> exact h)) (by kernel_rfl) S5 (fun w' hS => ?_) ?_
        rotate_left
        focus (have q0 := kc0 w' hS; have q1 := kc1 w' hS; have q2 := kc2 w' hS; have q3 := kc3 w' hS; clear hS; go_simp; try rfl; done)
        simp only [List.getElem_toArray, List.getElem_cons_succ, List.getElem_cons_zero, Act.put, List.setIfInBounds_toArray, List.set_cons_zero, List.set_cons_succ]
        refine hd_take (v := ?_) 25 rfl (by kernel_rfl) (fun _ _ d _ _ h => (by cases d <;> exact h)) (by kernel_rfl) S5 (fun w' hS => ?_) ?_
        rotate_left
        focus (have q0 := kc0 w' hS; have q1 := kc1 w' hS; have q2 := kc2 w' hS; have q3 := kc3 w' hS; clear hS; go_simp; try rfl; done)
        simp only [List.getElem_toArray, List.getElem_cons_succ, List.getElem_cons_zero, Act.put, List.setIfInBounds_toArray, List.set_cons_zero, List.set_cons_succ]
        refine hd_take (v := ?_) 26 rfl (by kernel_rfl) (fun _ _ d _ _ h => (by cases d <;> exact h)) (by kernel_rfl) S5 (fun w' hS => ?_) ?_
        rotate_left
        focus (have q0 := kc0 w' hS; have q1 := kc1 w' hS; have q2 := kc2 w' hS; have q3 := kc3 w' hS; clear hS; go_simp; try rfl; done)
        simp only [List.getElem_toArray, List.getElem_cons_succ, List.getElem_cons_zero, Act.put, List.setIfInBounds_toArray, List.set_cons_zero, List.set_cons_succ]
        refine hd_take (v := ?_) 27 rfl (by kernel_rfl) (fun _ _ d _ _ h => (by cases d <;> exact h)) (by kernel_rfl) S5 (fun w' hS => ?_) ?_
        rotate_left
        focus (have q0 := kc0 w' hS; have q1 := kc1 w' hS; have q2 := kc2 w' hS; have q3 := kc3 w' hS; clear hS; go_simp; try rfl; done)
        simp only [List.getElem_toArray, List.getElem_cons_succ, List.getElem_cons_zero, Act.put, List.setIfInBounds_toArray, List.set_cons_zero, List.set_cons_succ]
        refine hd_take (v := ?_) 28 rfl (by kernel_rfl) (fun _ _ d _ _ h => (by cases d <;> exact h)) (by kernel_rfl) S5 (fun w' hS => ?_) ?_
        rotate_left
        focus (have q0 := kc0 w' hS; have q1 := kc1 w' hS; have q2 := kc2 w' hS; have q3 := kc3 w' hS; clear hS; go_simp; try rfl; done)
        simp only [List.getElem_toArray, List.getElem_cons_succ, List.getElem_cons_zero, Act.put, List.setIfInBounds_toArray, List.set_cons_zero, List.set_cons_succ]
        clear kc0 kc1 kc2 kc3
        refine hd_two 4 29 (by kernel_rfl) ?_ ?_
        · skip
          refine op_run rfl (by kernel_rfl) (by go_simp; first | done | exact ⟨rfl, rfl⟩ | rfl) ?_
          refine ⟨S5, ?_⟩
          simp only [List.getElem_toArray, List.getElem_cons_succ, List.getElem_cons_zero, Act.put, List.setIfInBounds_toArray, List.set_cons_zero, List.set_cons_succ]
          refine hd_one 29 (by kernel_rfl) ?_
          refine op_run rfl (by kernel_rfl) (by go_simp; first | done | exact ⟨rfl, rfl⟩ | rfl) ?_
          refine ⟨S6, ?_⟩
          simp only [List.getElem_toArray, List.getElem_cons_succ, List.getElem_cons_zero, Act.put, List.setIfInBounds_toArray, List.set_cons_zero, List.set_cons_succ]
          refine hd_one 30 (by kernel_rfl) ?_
          refine op_wp rfl (by kernel_rfl) ?_
          obtain ⟨i0, hi0, hz0, hz1, hz2⟩ := info_parts info4
          refine wp_append_lies _ _ _ 107 rfl 0 79 i0 _ 4 4 Try.underlying107 hi0 hz0 hz1 hz2 rfl (by decide) v i (((keyTo key k).take (4 * i)).map B) rfl HA.out.row ⟨wr.heap.size, 0, none⟩ 1 1 [.int .u8 (y0.toNat : Int), .int .u8 (y1.toNat : Int), .int .u8 (y2.toNat : Int), .int .u8 (y3.toNat : Int)] rfl rfl (World.news_of_block (heap_alloc_new _ _)) (fun u hu => by simp at hu; rcases hu with rfl | rfl | rfl | rfl <;> rfl) (by decide) (by unfold maxLen; omega) (by omega) (Nat.zero_le _) _ rfl ?_
          intro g' cap' w6 hown2 hgrow hat hlt2
          obtain ⟨d0, df, d1⟩ := HA.out.push (v' := .slice (some ⟨g', 0, none⟩) (i + 1) cap') (W' := keyTo key k) (xs := [y0, y1, y2, y3]) hown2 hgrow (by
            rcases hat with h | h
            · exact .inl (by rw [h]; rfl)
            · exact .inr (by rw [h]; rfl)) HE.out
          have db := (hlt2 : g' < w6.heap.size)
          have D1 := Lib.hid d1
          have hbel6 : Below w.heap.size w w6 := HA.out.bel.trans ((Only.grown (Only.refl _ _) hgrow (fun k hk => .inl hk) : Only (fpv v) _ _).below0 (fun x hx hs => absurd (HA.out.vge x hs).1 (by omega)) HA.out.bel.size)
          have hbel7 := D1.out.bel
          clear hown2 hgrow hat hlt2 d1 hi0 hz0 hz1 hz2
          simp only [List.getElem_toArray, List.getElem_cons_succ, List.getElem_cons_zero, Act.put, List.setIfInBounds_toArray, List.set_cons_zero, List.set_cons_succ]
          refine ⟨hbel6, ?_⟩
          refine hd_take (v := ?_) 31 rfl (by kernel_rfl) (fun _ _ d _ _ h => (by cases d <;> exact h)) (by kernel_rfl) hbel6 (fun w' hS => ?_) ?_
          rotate_left
          focus (clear hS; go_simp; try rfl; done)
          simp only [List.getElem_toArray, List.getElem_cons_succ, List.getElem_cons_zero, Act.put, List.setIfInBounds_toArray, List.set_cons_zero, List.set_cons_succ]
          refine hd_take (v := ?_) 32 rfl (by kernel_rfl) (fun _ _ d _ _ h => (by cases d <;> exact h)) (by kernel_rfl) hbel6 (fun w' hS => ?_) ?_
          rotate_left
          focus (clear hS; go_simp; try rfl; done)
          simp only [List.getElem_toArray, List.getElem_cons_succ, List.getElem_cons_zero, Act.put, List.setIfInBounds_toArray, List.set_cons_zero, List.set_cons_succ]
          refine hd_one 33 (by kernel_rfl) ?_
          refine op_skip rfl (by kernel_rfl) (by go_simp; first | done | rfl) ?_
          refine ⟨hbel7, ?_⟩
          simp only [List.getElem_toArray, List.getElem_cons_succ, List.getElem_cons_zero, Act.put, List.setIfInBounds_toArray, List.set_cons_zero, List.set_cons_succ]
          refine hd_done (by kernel_rfl) ?_
          clear d0 df hbel6 hbel7
          go_wp2_with fail
          go_roundw
          case rel => exact ⟨1, i + 1, by omega, by go_num, rfl, Lib.hid ⟨_, _, D1.out, HW0.out, .inl ⟨by omega, rfl, rfl⟩⟩⟩
          case measure => simp [intOf]; omega
        · skip
          refine op_run rfl (by kernel_rfl) (by go_simp; first | done | exact ⟨rfl, rfl⟩ | rfl) ?_
          refine ⟨S6, ?_⟩
          simp only [List.getElem_toArray, List.getElem_cons_succ, List.getElem_cons_zero, Act.put, List.setIfInBounds_toArray, List.set_cons_zero, List.set_cons_succ]
          refine hd_one 4 (by kernel_rfl) ?_
          have c0b := HA.out.head
          refine op_run rfl (by kernel_rfl) (by go_simp; first | done | exact ⟨rfl, rfl⟩ | rfl) ?_
          refine ⟨S6, ?_⟩
          simp only [List.getElem_toArray, List.getElem_cons_succ, List.getElem_cons_zero, Act.put, List.setIfInBounds_toArray, List.set_cons_zero, List.set_cons_succ]
          clear c0b
          refine hd_one 30 (by kernel_rfl) ?_
          refine op_wp rfl (by kernel_rfl) ?_
          obtain ⟨i0, hi0, hz0, hz1, hz2⟩ := info_parts info4
          refine wp_append_lies _ _ _ 107 rfl 0 79 i0 _ 4 4 Try.underlying107 hi0 hz0 hz1 hz2 rfl (by decide) v i (((keyTo key k).take (4 * i)).map B) rfl HA.out.row ⟨wr.heap.size, 0, none⟩ 1 1 [.int .u8 (y0.toNat : Int), .int .u8 (y1.toNat : Int), .int .u8 (y2.toNat : Int), .int .u8 (y3.toNat : Int)] rfl rfl (World.news_of_block (heap_alloc_new _ _)) (fun u hu => by simp at hu; rcases hu with rfl | rfl | rfl | rfl <;> rfl) (by decide) (by unfold maxLen; omega) (by omega) (Nat.zero_le _) _ rfl ?_
          intro g' cap' w6 hown2 hgrow hat hlt2
          obtain ⟨d0, df, d1⟩ := HA.out.push (v' := .slice (some ⟨g', 0, none⟩) (i + 1) cap') (W' := keyTo key k) (xs := [y0, y1, y2, y3]) hown2 hgrow (by
            rcases hat with h | h
            · exact .inl (by rw [h]; rfl)
            · exact .inr (by rw [h]; rfl)) HE.out
          have db := (hlt2 : g' < w6.heap.size)
          have D1 := Lib.hid d1
          have hbel6 : Below w.heap.size w w6 := HA.out.bel.trans ((Only.grown (Only.refl _ _) hgrow (fun k hk => .inl hk) : Only (fpv v) _ _).below0 (fun x hx hs => absurd (HA.out.vge x hs).1 (by omega)) HA.out.bel.size)
          have hbel7 := D1.out.bel
          clear hown2 hgrow hat hlt2 d1 hi0 hz0 hz1 hz2
          simp only [List.getElem_toArray, List.getElem_cons_succ, List.getElem_cons_zero, Act.put, List.setIfInBounds_toArray, List.set_cons_zero, List.set_cons_succ]
          refine ⟨hbel6, ?_⟩
          refine hd_take (v := ?_) 31 rfl (by kernel_rfl) (fun _ _ d _ _ h => (by cases d <;> exact h)) (by kernel_rfl) hbel6 (fun w' hS => ?_) ?_
          rotate_left
          focus (clear hS; go_simp; try rfl; done)
          simp only [List.getElem_toArray, List.getElem_cons_succ, List.getElem_cons_zero, Act.put, List.setIfInBounds_toArray, List.set_cons_zero, List.set_cons_succ]
          refine hd_take (v := ?_) 32 rfl (by kernel_rfl) (fun _ _ d _ _ h => (by cases d <;> exact h)) (by kernel_rfl) hbel6 (fun w' hS => ?_) ?_
          rotate_left
          focus (clear hS; go_simp; try rfl; done)
          simp only [List.getElem_toArray, List.getElem_cons_succ, List.getElem_cons_zero, Act.put, List.setIfInBounds_toArray, List.set_cons_zero, List.set_cons_succ]
          refine hd_one 33 (by kernel_rfl) ?_
          refine op_skip rfl (by kernel_rfl) (by go_simp; first | done | rfl) ?_
          refine ⟨hbel7, ?_⟩
          simp only [List.getElem_toArray, List.getElem_cons_succ, List.getElem_cons_zero, Act.put, List.setIfInBounds_toArray, List.set_cons_zero, List.set_cons_succ]
          refine hd_done (by kernel_rfl) ?_
          clear d0 df hbel6 hbel7
          go_wp2_with fail
          go_roundw
          case rel => exact ⟨1, i + 1, by omega, by go_num, rfl, Lib.hid ⟨_, _, D1.out, HW0.out, .inl ⟨by omega, rfl, rfl⟩⟩⟩
          case measure => simp [intOf]; omega
        --]p1
      · have t2 : decide ((i : Int) < (k : Int)) = false := by rw [decide_eq_false_iff_not]; omega
        obtain ⟨o1, hWl, ho3⟩ := HO.out
        have hexp : expN k (n - i) i x W = sched key := by
          rw [HN.out]
          rcases ho3 with h | h
          · obtain ⟨h3, rfl, rfl⟩ := h
            have e : i = k := by omega
            subst e
            rw [show 4 * (i + 7) - i = 3 * i + 28 from by omega]
            exact hSched.out
          · exact h.2
        obtain ⟨m, hm⟩ : ∃ m, n - i = m + 1 := ⟨n - i - 1, by omega⟩
        rw [hm, expN] at hexp
        have HM : Hid (n - (i + 1) = m) := Lib.hid (by omega)
        have HEXP := Lib.hid hexp
        obtain ⟨gw, cw, rfl, hcw1, hcw2⟩ := o1.form (by omega)
        have HOW := Lib.hid o1
        have hRA : RA wr a gw i cw W := o1.ra (by omega)
        obtain ⟨j1, hj1⟩ : ∃ j1, i - 1 = j1 := ⟨_, rfl⟩
        have hj1I : (i : Int) - 1 = (j1 : Int) := by omega
        have hj1i : j1 < i := by omega
        have RNG := Lib.hid (wordAt_at hRA j1 hj1i)
        obtain ⟨t, ht⟩ : ∃ t, wordAt W j1 = t := ⟨_, rfl⟩
        have htl : t.length = 4 := by rw [← ht]; rfl
        have hts : (barr t).size = 4 := by rw [barr_size, htl]
        have htm : (t.map B).length = 4 := by rw [List.length_map, htl]
        have HTW : Hid (wordAt W (i - 1) = t) := Lib.hid (by rw [hj1, ht])
        rw [ht] at RNG
        have c0 := hRA.head
        have hra := hRA.lt
        obtain ⟨T, hT⟩ : ∃ x, wr.heap.size = x := ⟨_, rfl⟩
        have H3 : Hid (OfT w ((wr.alloc (.cells (barr (List.replicate 4 0)) 79)).setRow T (barr t)) a (.slice (some ⟨gw, 0, none⟩) i cw) i W T t) := by rw [← hT]; exact Lib.hid (o1.boxed t)
        have b0 : Blk (wr.alloc (.cells (barr (List.replicate 4 0)) 79)) T 79 (barr (List.replicate 4 0)) := by rw [← hT]; exact Blk.at rfl rfl
        have hz4 : (barr (List.replicate 4 (0 : UInt8))).size = 4 := by rw [barr_size]; rfl
        clear ho3 hexp hm o1 hj1 ht hRA HO
        obtain ⟨m2, hm2⟩ : ∃ m2, i % k = m2 := ⟨_, rfl⟩
        have hm2I : (i : Int) % (k : Int) = (m2 : Int) := by omega
        have HM2 := Lib.hid hm2
        have hkne : (k : Int) ≠ 0 := by omega
        clear hm2
        go_upto_region 9 with fail
        go_upto_if 69 with (first | ((with_reducible change wpList _ _ _ (Oper.mk _ (Op.load 79 _) _ _ _ _ :: _) _ _); refine wpList_load_mid rfl 79 _ rfl gw (j1 * 4) rfl (t.map B) _ RNG.out Try.underlying79 rfl (size4.trans (by rw [htm])) ?_) | ((with_reducible change wpList _ _ _ (Oper.mk _ (Op.store 79 _ _) _ _ _ _ :: _) _ _); refine wpList_store_blk (ty := 79) T (barr t) rfl rfl b0 size4 hts hz4 (barr_one _) ?_))
        change Code.wp _ _ _ _ ((wr.alloc (.cells (barr (List.replicate 4 0)) 79)).setRow T (barr t))
        obtain ⟨w3, hw3⟩ : ∃ x, (wr.alloc (.cells (barr (List.replicate 4 0)) 79)).setRow T (barr t) = x := ⟨_, rfl⟩
        rw [hw3] at H3 ⊢
        clear hw3 b0 c0 hra hT RNG HOW
        go_cut [5] from 68 to 97 (fun xv wx => ∃ x' : UInt8, Hid (nextX k i x = x') ∧ xv = .int .u8 (x'.toNat : Int) ∧ Hid (OfT w wx a (.slice (some ⟨gw, 0, none⟩) i cw) i W T (turned k i x t)))
        case first =>
          have hRA : RA w3 a gw i cw W := H3.out.o.ra (by omega)
          have hra := hRA.lt
          by_cases h0 : m2 = 0
          · have tm : ((m2 : Int) == 0) = true := by rw [h0]; rfl
            have hx' : nextX k i x = gmU x 2 := by unfold nextX; rw [if_pos (HM2.out.trans h0)]
            have e0 := H3.out.tb.cellAt 0 (barr_getD t 0 (by omega))
            have e1 := H3.out.tb.cellAt 1 (barr_getD t 1 (by omega))
            have e2 := H3.out.tb.cellAt 2 (barr_getD t 2 (by omega))
            have e3 := H3.out.tb.cellAt 3 (barr_getD t 3 (by omega))
            have htu : turned k i x t = ([boxU (t.getD 1 0), boxU (t.getD 2 0), boxU (t.getD 3 0), boxU (t.getD 0 0)] : List UInt8).set 0 (boxU (t.getD 1 0) ^^^ x) := by unfold turned; rw [if_pos (HM2.out.trans h0)]; rfl
            generalize t.getD 0 0 = t0 at e0 htu
            generalize t.getD 1 0 = t1 at e1 htu
            generalize t.getD 2 0 = t2v at e2 htu
            generalize t.getD 3 0 = t3v at e3 htu
            have HTU := Lib.hid htu
            have HXX := Lib.hid hx'
            have HRA := Lib.hid hRA
            have hbT := H3.out.tb.lt
            clear htu hx' hRA h0
            go_wp2_with fail
            refine (rbox4_any a gw i cw W [t1, t2v, t3v, t0] w3 HRA.out rfl).mono ?_
            rintro e w4 ⟨rfl, h4⟩
            rw [boxL_of]
            have H4 := Lib.hid (H3.out.below h4)
            clear h4 e0 e1 e2 e3
            have hs4 : (barr [boxU t1, boxU t2v, boxU t3v, boxU t0]).size = 4 := rfl
            have H5 := Lib.hid (H4.out.row [boxU t1, boxU t2v, boxU t3v, boxU t0])
            go_upto_region 12 with (((with_reducible change wpList _ _ _ (Oper.mk _ (Op.store 79 _ _) _ _ _ _ :: _) _ _); refine wpList_store_blk (ty := 79) T (barr [boxU t1, boxU t2v, boxU t3v, boxU t0]) rfl rfl H4.out.tb size4 hs4 hts (barr_one _) ?_))
            simp only [Act.put]
            obtain ⟨w5, hw5⟩ : ∃ x, w4.setRow T (barr [boxU t1, boxU t2v, boxU t3v, boxU t0]) = x := ⟨_, rfl⟩
            rw [hw5] at H5 ⊢
            clear hw5 H4 H3
            have g0 := H5.out.tb.cellAt 0 (barr_getD _ 0 (show 0 < 4 by omega))
            have gf := H5.out.tb.unfrozen 0
            have H6 := Lib.hid (H5.out.set 0 (boxU t1 ^^^ x))
            have hg0 : ([boxU t1, boxU t2v, boxU t3v, boxU t0] : List UInt8).getD 0 0 = boxU t1 := rfl
            rw [hg0] at g0
            obtain ⟨b1, hb1⟩ : ∃ b1, boxU t1 = b1 := ⟨_, rfl⟩
            have HB1 := Lib.hid hb1
            rw [hb1] at g0
            clear hg0 hb1
            have hbT5 := H5.out.tb.lt
            have hxor := xorU b1 x
            have H7 : Hid (OfT w (w5.setCell ⟨T, 0, none⟩ (.int .u8 ((b1 ^^^ x).toNat : Int))) a (.slice (some ⟨gw, 0, none⟩) i cw) i W T (turned k i x t)) := by rw [HTU.out, ← HB1.out]; exact H6
            clear H6 H5
            go_wp2_with fail
            refine (rmulU_any x 2 _).mono ?_
            rintro e w8 ⟨rfl, nd, rfl⟩
            have H8 := Lib.hid (H7.out.draw nd)
            clear H7 g0 gf hxor
            go_wp2_with fail
            go_meet
            exact ⟨gmU x 2, Lib.hid HXX.out, rfl, H8⟩
          · have tm : ((m2 : Int) == 0) = false := by rw [beq_eq_false_iff_ne]; omega
            have hx' : nextX k i x = x := by unfold nextX; rw [if_neg (by rw [HM2.out]; exact h0)]
            have HXX := Lib.hid hx'
            clear hx'
            by_cases h8 : k = 8
            · have tk : ((k : Int) == 8) = true := by rw [h8]; rfl
              obtain ⟨q8, hq8⟩ : ∃ q, i % 8 = q := ⟨_, rfl⟩
              have hq8I : (i : Int) % 8 = (q8 : Int) := by omega
              have HQ8 := Lib.hid hq8
              clear hq8
              by_cases h4 : q8 = 4
              · have tq : ((q8 : Int) == 4) = true := by rw [h4]; rfl
                have htu : turned k i x t = boxL t := by
                  unfold turned
                  rw [if_neg (by rw [HM2.out]; exact h0), if_pos ⟨h8, HQ8.out.trans h4⟩]
                  rfl
                have HTU := Lib.hid htu
                have HRA := Lib.hid hRA
                clear htu hRA h4 h8
                go_wp2_with ((with_reducible change wpList _ _ _ (Oper.mk _ (Op.load 79 _) _ _ _ _ :: _) _ _); refine wpList_load_blk (ty := 79) T rfl H3.out.tb Try.underlying79 rfl size4 hts ?_)
                refine (rbox4_any a gw i cw W t w3 HRA.out htl).mono ?_
                rintro e w4 ⟨rfl, h4⟩
                have H4 := Lib.hid (H3.out.below h4)
                clear h4
                have hs4 : (barr (boxL t)).size = 4 := by rw [barr_size, boxL_len]
                have H5 : Hid (OfT w (w4.setRow T (barr (boxL t))) a (.slice (some ⟨gw, 0, none⟩) i cw) i W T (turned k i x t)) := by rw [HTU.out]; exact Lib.hid (H4.out.row (boxL t))
                go_wp2_with ((with_reducible change wpList _ _ _ (Oper.mk _ (Op.store 79 _ _) _ _ _ _ :: _) _ _); refine wpList_store_blk (ty := 79) T (barr (boxL t)) rfl rfl H4.out.tb size4 hs4 hts (barr_one _) ?_)
                simp only [Act.put]
                go_meet
                exact ⟨x, HXX, rfl, H5⟩
              · have tq : ((q8 : Int) == 4) = false := by rw [beq_eq_false_iff_ne]; omega
                have H5 : Hid (OfT w w3 a (.slice (some ⟨gw, 0, none⟩) i cw) i W T (turned k i x t)) := by
                  unfold turned
                  rw [if_neg (by rw [HM2.out]; exact h0), if_neg (by rw [HQ8.out]; exact fun h => h4 h.2)]
                  exact H3
                clear hRA h4 h8
                go_wp2_with fail
                go_meet
                exact ⟨x, HXX, rfl, H5⟩
            · have tk : ((k : Int) == 8) = false := by rw [beq_eq_false_iff_ne]; omega
              have H5 : Hid (OfT w w3 a (.slice (some ⟨gw, 0, none⟩) i cw) i W T (turned k i x t)) := by
                unfold turned
                rw [if_neg (by rw [HM2.out]; exact h0), if_neg (fun h => h8 h.1)]
                exact H3
              clear hRA h8
              go_wp2_with fail
              go_meet
              exact ⟨x, HXX, rfl, H5⟩
        case rest =>
          obtain ⟨x', HX', rfl, HC⟩ := hcut
          clear H3
          obtain ⟨t', ht'⟩ : ∃ t', turned k i x t = t' := ⟨_, rfl⟩
          rw [ht'] at HC
          have ht4 : t'.length = 4 := by
            rw [← ht']
            unfold turned
            split
            · rfl
            · split
              · rfl
              · exact htl
          have HT' : Hid (turned k i x (wordAt W (i - 1)) = t') := Lib.hid (by rw [HTW.out]; exact ht')
          clear ht'
          obtain ⟨ik, hik2⟩ : ∃ ik, i - k = ik := ⟨_, rfl⟩
          have hikI : (i : Int) - (k : Int) = (ik : Int) := by omega
          have hiki : ik < i := by omega
          have HIK := Lib.hid hik2
          clear hik2
          go_wp2_with fail
          go_loopw [8] (fun jv wx => ∃ j : Nat, j ≤ 4 ∧ jv = .int .i64 (j : Int) ∧ Hid (OfT w wx a (.slice (some ⟨gw, 0, none⟩) i cw) i W T (mixT 4 (fun j => t'.getD j 0 ^^^ W.getD (4 * ik + j) 0) (fun j => t'.getD j 0) j))) (fun jv _ => 4 - (intOf jv).toNat)
          case atStart =>
            refine ⟨0, by omega, rfl, ?_⟩
            rw [mixT_zero, tab_self t' ht4]
            exact HC
          case round =>
            obtain ⟨j, hj, rfl, HJ⟩ := hrel
            clear HC
            by_cases hj4 : j < 4
            · have hRA : RA wr a gw i cw W := HJ.out.o.ra (by omega)
              have hra := hRA.lt
              have e0 := HJ.out.tb.cellAt j (barr_getD _ j (by rw [mixT_len]; exact hj4))
              rw [mixT_at _ _ _ _ hj4] at e0
              have ef := HJ.out.tb.unfrozen j
              have ch := hRA.head
              have cw2 := hRA.word (ik * 4 + j) (by omega)
              rw [show ik * 4 + j = 4 * ik + j from by omega] at cw2
              generalize hy : t'.getD j 0 = y at e0
              generalize hz : W.getD (4 * ik + j) 0 = z at cw2
              rw [show 4 * ik + j = ik * 4 + j from by omega] at cw2
              have HY := Lib.hid hy
              have HZ := Lib.hid hz
              have hbT := HJ.out.tb.lt
              have hxor := xorU y z
              clear hy hz hRA
              go_wp2_with fail
              go_region
              all_goals go_wp2_with fail
              all_goals go_roundw
              case rel =>
                refine ⟨j + 1, by omega, by go_num, ?_⟩
                have e : mixT 4 (fun j => t'.getD j 0 ^^^ W.getD (4 * ik + j) 0) (fun j => t'.getD j 0) (j + 1) = (mixT 4 (fun j => t'.getD j 0 ^^^ W.getD (4 * ik + j) 0) (fun j => t'.getD j 0) j).set j (y ^^^ z) := by
                  rw [← mixT_succ, HY.out, HZ.out]
                rw [e]
                exact Lib.hid ((HJ.out.set j (y ^^^ z)).draw 1)
              case measure => simp [intOf]; omega
            · have HJ2 := HJ.out
              rw [show j = 4 from by omega, mixT_end] at HJ2
              have hxs : tab 4 (fun j => t'.getD j 0 ^^^ W.getD (4 * ik + j) 0) = xorW W t' k i := by
                unfold xorW
                rw [HIK.out]
              rw [hxs] at HJ2
              have he := put_take W t' k i (by omega) (by omega) (by omega)
              obtain ⟨z0, z1, z2, z3, hz⟩ : ∃ z0 z1 z2 z3, xorW W t' k i = [z0, z1, z2, z3] := ⟨_, _, _, _, rfl⟩
              rw [hz] at HJ2 he
              have HE := Lib.hid he
              have FT : Hid (∀ wx, Blk wx T 79 (barr [z0, z1, z2, z3]) → wx.rangeAt T 0 [.int .u8 (z0.toNat : Int), .int .u8 (z1.toNat : Int), .int .u8 (z2.toNat : Int), .int .u8 (z3.toNat : Int)]) := Lib.hid (fun wx h b u hb => by rw [Nat.zero_add]; exact h.cellAt b (by rw [← hb]; simp [barr, B]))
              have HQ := Lib.hid HJ2
              have c0 := HJ2.o.head
              have hra := HJ2.o.blk.lt
              have HA : Hid (OfT w ((wr.drewN 1).alloc (.cells #[.int .u8 (z0.toNat : Int), .int .u8 (z1.toNat : Int), .int .u8 (z2.toNat : Int), .int .u8 (z3.toNat : Int)] 79)) a (.slice (some ⟨gw, 0, none⟩) i cw) i W T [z0, z1, z2, z3]) := Lib.hid ((HJ2.draw 1).below ((Below.refl _ _).alloc (Nat.le_refl _) _))
              have S5 : (wr.drewN 1).rangeAt T 0 [.int .u8 (z0.toNat : Int), .int .u8 (z1.toNat : Int), .int .u8 (z2.toNat : Int), .int .u8 (z3.toNat : Int)] := FT.out _ (HJ2.draw 1).tb
              have S6 : ((wr.drewN 1).alloc (.cells #[.int .u8 (z0.toNat : Int), .int .u8 (z1.toNat : Int), .int .u8 (z2.toNat : Int), .int .u8 (z3.toNat : Int)] 79)).rangeAt T 0 [.int .u8 (z0.toNat : Int), .int .u8 (z1.toNat : Int), .int .u8 (z2.toNat : Int), .int .u8 (z3.toNat : Int)] := FT.out _ HA.out.tb
              have hsz : (Try.prog.info? 79).map (·.size) = some ([.int .u8 (z0.toNat : Int), .int .u8 (z1.toNat : Int), .int .u8 (z2.toNat : Int), .int .u8 (z3.toNat : Int)] : List Value).length := size4
              clear he hxs HJ2 HJ hz
              go_upto_region 20 with fail
              refine hd_start (fun wx => wx.rangeAt T 0 [.int .u8 (z0.toNat : Int), .int .u8 (z1.toNat : Int), .int .u8 (z2.toNat : Int), .int .u8 (z3.toNat : Int)]) (by kernel_rfl) ?_
              intro w5 hw'
              subst hw'
              refine hd_take (v := ?_) 0 rfl (by kernel_rfl) (fun _ _ d _ _ h => (by cases d <;> exact h)) (by kernel_rfl) S5 (fun w' hS => ?_) ?_
              rotate_left
              focus (clear hS; go_simp; try rfl; done)
              simp only [List.getElem_toArray, List.getElem_cons_succ, List.getElem_cons_zero, Act.put, List.setIfInBounds_toArray, List.set_cons_zero, List.set_cons_succ]
              refine hd_take (v := ?_) 1 rfl (by kernel_rfl) (fun _ _ d _ _ h => (by cases d <;> exact h)) (by kernel_rfl) S5 (fun w' hS => ?_) ?_
              rotate_left
              focus (clear hS; go_simp; try rfl; done)
              simp only [List.getElem_toArray, List.getElem_cons_succ, List.getElem_cons_zero, Act.put, List.setIfInBounds_toArray, List.set_cons_zero, List.set_cons_succ]
              refine hd_take (v := ?_) 2 rfl (by kernel_rfl) (fun _ _ d _ _ h => (by cases d <;> exact h)) (by kernel_rfl) S5 (fun w' hS => ?_) ?_
              rotate_left
              focus (clear hS; go_simp; try rfl; done)
              simp only [List.getElem_toArray, List.getElem_cons_succ, List.getElem_cons_zero, Act.put, List.setIfInBounds_toArray, List.set_cons_zero, List.set_cons_succ]
              refine hd_take (v := ?_) 3 rfl (by kernel_rfl) (fun _ _ d _ _ h => (by cases d <;> exact h)) (by kernel_rfl) S5 (fun w' hS => ?_) ?_
              rotate_left
              focus (clear hS; go_simp; try rfl; done)
              simp only [List.getElem_toArray, List.getElem_cons_succ, List.getElem_cons_zero, Act.put, List.setIfInBounds_toArray, List.set_cons_zero, List.set_cons_succ]
              refine hd_part2 5 rfl (by kernel_rfl) (fun _ _ d _ _ h => (by cases d <;> exact h)) (yieldsIf_load_mid (by kernel_rfl) 79 _ rfl T 0 rfl [.int .u8 (z0.toNat : Int), .int .u8 (z1.toNat : Int), .int .u8 (z2.toNat : Int), .int .u8 (z3.toNat : Int)] _ (fun _ h => h) Try.underlying79 rfl hsz) S5 ?_
              simp only [List.getElem_toArray, List.getElem_cons_succ, List.getElem_cons_zero, Act.put, List.setIfInBounds_toArray, List.set_cons_zero, List.set_cons_succ]
              refine hd_two 4 6 (by kernel_rfl) ?_ ?_
              · skip
                refine op_run rfl (by kernel_rfl) (by go_simp; first | done | exact ⟨rfl, rfl⟩ | rfl) ?_
                refine ⟨S5, ?_⟩
                simp only [List.getElem_toArray, List.getElem_cons_succ, List.getElem_cons_zero, Act.put, List.setIfInBounds_toArray, List.set_cons_zero, List.set_cons_succ]
                refine hd_one 6 (by kernel_rfl) ?_
                refine op_run rfl (by kernel_rfl) (by go_simp; first | done | exact ⟨rfl, rfl⟩ | rfl) ?_
                refine ⟨S6, ?_⟩
                simp only [List.getElem_toArray, List.getElem_cons_succ, List.getElem_cons_zero, Act.put, List.setIfInBounds_toArray, List.set_cons_zero, List.set_cons_succ]
                refine hd_one 7 (by kernel_rfl) ?_
                refine op_wp rfl (by kernel_rfl) ?_
                obtain ⟨i0, hi0, hz0, hz1, hz2⟩ := info_parts info4
                refine wp_append_lies _ _ _ 107 rfl 0 79 i0 _ 4 4 Try.underlying107 hi0 hz0 hz1 hz2 rfl (by decide) (.slice (some ⟨gw, 0, none⟩) i cw) i ((W.take (4 * i)).map B) rfl HA.out.o.row ⟨wr.heap.size, 0, none⟩ 1 1 [.int .u8 (z0.toNat : Int), .int .u8 (z1.toNat : Int), .int .u8 (z2.toNat : Int), .int .u8 (z3.toNat : Int)] rfl rfl (World.news_of_block (heap_alloc_new _ _)) (fun u hu => by simp at hu; rcases hu with rfl | rfl | rfl | rfl <;> rfl) (by decide) (by unfold maxLen; omega) (by omega) (Nat.zero_le _) _ rfl ?_
                intro g' cap' w6 hown2 hgrow hat hlt2
                obtain ⟨d0, df, d1⟩ := HA.out.o.push (v' := .slice (some ⟨g', 0, none⟩) (i + 1) cap') (W' := putTo W t' k i 4) (xs := [z0, z1, z2, z3]) hown2 hgrow (by
                  rcases hat with h | h
                  · exact .inl (by rw [h]; rfl)
                  · exact .inr (by rw [h]; rfl)) HE.out
                have D1 := Lib.hid d1
                have hon : Only (fpv (.slice (some ⟨gw, 0, none⟩) i cw)) _ w6 := Only.grown (Only.refl _ _) hgrow (fun k hk => .inl hk)
                have hS6 : w6.rangeAt T 0 [.int .u8 (z0.toNat : Int), .int .u8 (z1.toNat : Int), .int .u8 (z2.toNat : Int), .int .u8 (z3.toNat : Int)] := FT.out _ (HA.out.tb.only hon HA.out.tv)
                have hS7 : (w6.setCell ⟨a, 0, none⟩ (.slice (some ⟨g', 0, none⟩) (i + 1) cap')).rangeAt T 0 [.int .u8 (z0.toNat : Int), .int .u8 (z1.toNat : Int), .int .u8 (z2.toNat : Int), .int .u8 (z3.toNat : Int)] := FT.out _ ((HA.out.tb.only hon HA.out.tv).set_ne (by simp; exact fun e => HA.out.ta e) _)
                clear hown2 hgrow hat d1 hi0 hz0 hz1 hz2 hon
                simp only [List.getElem_toArray, List.getElem_cons_succ, List.getElem_cons_zero, Act.put, List.setIfInBounds_toArray, List.set_cons_zero, List.set_cons_succ]
                refine ⟨hS6, ?_⟩
                refine hd_take (v := ?_) 8 rfl (by kernel_rfl) (fun _ _ d _ _ h => (by cases d <;> exact h)) (by kernel_rfl) hS6 (fun w' hS => ?_) ?_
                rotate_left
                focus (clear hS; go_simp; try rfl; done)
                simp only [List.getElem_toArray, List.getElem_cons_succ, List.getElem_cons_zero, Act.put, List.setIfInBounds_toArray, List.set_cons_zero, List.set_cons_succ]
                refine hd_take (v := ?_) 9 rfl (by kernel_rfl) (fun _ _ d _ _ h => (by cases d <;> exact h)) (by kernel_rfl) hS6 (fun w' hS => ?_) ?_
                rotate_left
                focus (clear hS; go_simp; try rfl; done)
                simp only [List.getElem_toArray, List.getElem_cons_succ, List.getElem_cons_zero, Act.put, List.setIfInBounds_toArray, List.set_cons_zero, List.set_cons_succ]
                refine hd_one 10 (by kernel_rfl) ?_
                refine op_skip rfl (by kernel_rfl) (by go_simp; first | done | rfl) ?_
                refine ⟨hS7, ?_⟩
                simp only [List.getElem_toArray, List.getElem_cons_succ, List.getElem_cons_zero, Act.put, List.setIfInBounds_toArray, List.set_cons_zero, List.set_cons_succ]
                refine hd_done (by kernel_rfl) ?_
                clear d0 df hS6 hS7
                go_wp2_with fail
                go_roundw
                case rel => exact ⟨x', i + 1, by omega, by go_num, rfl, Lib.hid ⟨_, _, D1.out, by rw [putTo_len]; exact hWl, .inr ⟨by omega, by rw [← HN.out, HM.out, ← HX'.out, ← HT'.out]; exact HEXP.out⟩⟩⟩
                case measure => simp [intOf]; omega
              · skip
                refine op_run rfl (by kernel_rfl) (by go_simp; first | done | exact ⟨rfl, rfl⟩ | rfl) ?_
                refine ⟨S6, ?_⟩
                simp only [List.getElem_toArray, List.getElem_cons_succ, List.getElem_cons_zero, Act.put, List.setIfInBounds_toArray, List.set_cons_zero, List.set_cons_succ]
                refine hd_one 4 (by kernel_rfl) ?_
                have c0b := HA.out.o.head
                refine op_run rfl (by kernel_rfl) (by go_simp; first | done | exact ⟨rfl, rfl⟩ | rfl) ?_
                refine ⟨S6, ?_⟩
                simp only [List.getElem_toArray, List.getElem_cons_succ, List.getElem_cons_zero, Act.put, List.setIfInBounds_toArray, List.set_cons_zero, List.set_cons_succ]
                clear c0b
                refine hd_one 7 (by kernel_rfl) ?_
                refine op_wp rfl (by kernel_rfl) ?_
                obtain ⟨i0, hi0, hz0, hz1, hz2⟩ := info_parts info4
                refine wp_append_lies _ _ _ 107 rfl 0 79 i0 _ 4 4 Try.underlying107 hi0 hz0 hz1 hz2 rfl (by decide) (.slice (some ⟨gw, 0, none⟩) i cw) i ((W.take (4 * i)).map B) rfl HA.out.o.row ⟨wr.heap.size, 0, none⟩ 1 1 [.int .u8 (z0.toNat : Int), .int .u8 (z1.toNat : Int), .int .u8 (z2.toNat : Int), .int .u8 (z3.toNat : Int)] rfl rfl (World.news_of_block (heap_alloc_new _ _)) (fun u hu => by simp at hu; rcases hu with rfl | rfl | rfl | rfl <;> rfl) (by decide) (by unfold maxLen; omega) (by omega) (Nat.zero_le _) _ rfl ?_
                intro g' cap' w6 hown2 hgrow hat hlt2
                obtain ⟨d0, df, d1⟩ := HA.out.o.push (v' := .slice (some ⟨g', 0, none⟩) (i + 1) cap') (W' := putTo W t' k i 4) (xs := [z0, z1, z2, z3]) hown2 hgrow (by
                  rcases hat with h | h
                  · exact .inl (by rw [h]; rfl)
                  · exact .inr (by rw [h]; rfl)) HE.out
                have D1 := Lib.hid d1
                have hon : Only (fpv (.slice (some ⟨gw, 0, none⟩) i cw)) _ w6 := Only.grown (Only.refl _ _) hgrow (fun k hk => .inl hk)
                have hS6 : w6.rangeAt T 0 [.int .u8 (z0.toNat : Int), .int .u8 (z1.toNat : Int), .int .u8 (z2.toNat : Int), .int .u8 (z3.toNat : Int)] := FT.out _ (HA.out.tb.only hon HA.out.tv)
                have hS7 : (w6.setCell ⟨a, 0, none⟩ (.slice (some ⟨g', 0, none⟩) (i + 1) cap')).rangeAt T 0 [.int .u8 (z0.toNat : Int), .int .u8 (z1.toNat : Int), .int .u8 (z2.toNat : Int), .int .u8 (z3.toNat : Int)] := FT.out _ ((HA.out.tb.only hon HA.out.tv).set_ne (by simp; exact fun e => HA.out.ta e) _)
                clear hown2 hgrow hat d1 hi0 hz0 hz1 hz2 hon
                simp only [List.getElem_toArray, List.getElem_cons_succ, List.getElem_cons_zero, Act.put, List.setIfInBounds_toArray, List.set_cons_zero, List.set_cons_succ]
                refine ⟨hS6, ?_⟩
                refine hd_take (v := ?_) 8 rfl (by kernel_rfl) (fun _ _ d _ _ h => (by cases d <;> exact h)) (by kernel_rfl) hS6 (fun w' hS => ?_) ?_
                rotate_left
                focus (clear hS; go_simp; try rfl; done)
                simp only [List.getElem_toArray, List.getElem_cons_succ, List.getElem_cons_zero, Act.put, List.setIfInBounds_toArray, List.set_cons_zero, List.set_cons_succ]
                refine hd_take (v := ?_) 9 rfl (by kernel_rfl) (fun _ _ d _ _ h => (by cases d <;> exact h)) (by kernel_rfl) hS6 (fun w' hS => ?_) ?_
                rotate_left
                focus (clear hS; go_simp; try rfl; done)
                simp only [List.getElem_toArray, List.getElem_cons_succ, List.getElem_cons_zero, Act.put, List.setIfInBounds_toArray, List.set_cons_zero, List.set_cons_succ]
                refine hd_one 10 (by kernel_rfl) ?_
                refine op_skip rfl (by kernel_rfl) (by go_simp; first | done | rfl) ?_
                refine ⟨hS7, ?_⟩
                simp only [List.getElem_toArray, List.getElem_cons_succ, List.getElem_cons_zero, Act.put, List.setIfInBounds_toArray, List.set_cons_zero, List.set_cons_succ]
                refine hd_done (by kernel_rfl) ?_
                clear d0 df hS6 hS7
                go_wp2_with fail
                go_roundw
                case rel => exact ⟨x', i + 1, by omega, by go_num, rfl, Lib.hid ⟨_, _, D1.out, by rw [putTo_len]; exact hWl, .inr ⟨by omega, by rw [← HN.out, HM.out, ← HX'.out, ← HT'.out]; exact HEXP.out⟩⟩⟩
                case measure => simp [intOf]; omega
    · have t1 : decide ((i : Int) < (n : Int)) = false := by rw [decide_eq_false_iff_not]; omega
      obtain ⟨v, W, o1, hWl, ho3⟩ := H.out
      obtain ⟨gw, cw, rfl, _, _⟩ := o1.form (by omega)
      have hn := HN.out
      have e : W = sched key := by
        rcases ho3 with h | h
        · omega
        · have h2 := h.2
          rw [show 4 * (k + 7) - i = 0 from by omega] at h2
          exact h2
      have hRA : RA wr a gw n cw W := by
        have h := o1.ra (by omega)
        rw [show i = n from by omega] at h
        exact h
      rw [e, hn] at hRA
      have HRA := Lib.hid hRA
      have HB := Lib.hid (And.intro o1.bel (And.intro o1.age (o1.vge gw rfl).1))
      clear o1 ho3 hRA hn H
      go_wp2_with fail
      go_ret
      exact ⟨a, gw, cw, rfl, HRA.out, HB.out.1, HB.out.2.1, HB.out.2.2⟩
end Go.Proofs.Ytihmgkjmebdioaa
/- Append onto a row of one's own: if the row moves, the old one stays as it was. -/
namespace Go.Proofs.Ytihmgkjmebdioaa
open Go.RowKit
section
variable {P : Program} (w : World)
theorem run_append_keep (t ty e : TypeId) (i : TypeInfo) (z : Value) (size bytes : Nat) (ht : P.underlying t = some (.slice e)) (hi : P.info? e = some i) (hz : i.zero = some z)
    (hsize : i.size = size) (hby : i.bytes = bytes) (hzs : z.cells.size = size) (hsz : 0 < size)
    (v : Value) (n : Nat) (xs : List Value) (hown : w.ownsRow 0 e size v n xs) (a : Addr) (m c : Nat) (news : List Value) (hl : news.length = m * size) (hnews : ∀ j u, news[j]? = some u → w.cell? (a.add j) = some u) (h1 : ∀ u ∈ news, u.oneCell' = true)
    (h63 : n + m ≤ maxLen) (hbytes : (n + m) * bytes ≤ 140737488355328) (hm : 0 < m) :
    ∃ v' w', (Builtin.append_ #[t, t] ty #[v, .slice (some a) m c]).run P w = .ok v' w' ∧ w'.ownsRow 0 e size v' (n + m) (xs ++ news) ∧ w.grownBy w' v.ownBlock ∧
      (v'.ownBlock = v.ownBlock ∨ v'.ownBlock = some w.heap.size ∧ ∀ b, b < w.heap.size → w'.heap[b]? = w.heap[b]?) ∧ v' ≠ .slice none 0 0 := by
  obtain ⟨v', w', hr, g1, g2, g3, g4⟩ := run_append_own_at (P := P) w 0 t ty e i z size bytes ht hi hz hsize hby hzs hsz v n xs hown a m c news hl hnews h1 h63 hbytes (Nat.zero_le _)
  refine ⟨v', w', hr, g1, g2, ?_, fun hv => by have := (g3.1 hv).2; omega⟩
  subst hsize; subst hby
  have hsmall : n + m ≤ 9223372036854775807 := by simp only [maxLen] at h63; omega
  have hown' := hown
  rcases hown.2 with ⟨rfl, rfl⟩ | ⟨g, cap, cur, rfl, hbg, hg, hnc, hcm, hcs, htake⟩
  · have hx : xs = [] := List.eq_nil_of_length_eq_zero (by simpa using hown.1)
    subst hx
    rcases g4 with g4 | g4
    · exact .inl g4
    · refine .inr ⟨g4, fun b hb => g2.block b hb (by simp [Value.ownBlock])⟩
  · by_cases hroom : n + m ≤ cap
    · have hr2 := run_append_room (P := P) w t ty e i ht hi g n cap cur hg a m c news hl hnews h1 hroom (by rw [hl, hcs, ← Nat.add_mul]; exact Nat.mul_le_mul_right _ hroom)
      rw [hr] at hr2
      injection hr2 with e1 e2
      subst e1
      exact .inl rfl
    · have hr2 := run_append_grow (P := P) w t ty e i z ht hi hz ⟨g, 0, none⟩ n cap xs hown.1 (hown'.cells (g := g) rfl) a m c news hl hnews (by omega) (by omega) (growslice_fits (by omega) hbytes)
      rw [hr] at hr2
      injection hr2 with e1 e2
      subst e1; subst e2
      exact .inr ⟨rfl, fun b hb => heap_alloc_old w.drew _ hb⟩
theorem wp_append_keep {o : Oper} {a : Act} {K : Act → World → Prop} {Q : Exit → Act → World → Prop} (s x : Operand) (t : TypeId)
    (ho : o.op = .call { callee := .builtin .append, args := #[s, x], argTypes := #[t, t] })
    (e : TypeId) (i : TypeInfo) (z : Value) (size bytes : Nat) (ht : P.underlying t = some (.slice e)) (hi : P.info? e = some i) (hz : i.zero = some z)
    (hsize : i.size = size) (hby : i.bytes = bytes) (hzs : z.cells.size = size) (hsz : 0 < size)
    (v : Value) (n : Nat) (xs : List Value) (hs : a.eval s = v) (hown : w.ownsRow 0 e size v n xs) (ad : Addr) (m c : Nat) (news : List Value) (hx : a.eval x = .slice (some ad) m c)
    (hl : news.length = m * size) (hnews : ∀ j u, news[j]? = some u → w.cell? (ad.add j) = some u) (h1 : ∀ u ∈ news, u.oneCell' = true)
    (h63 : n + m ≤ maxLen) (hbytes : (n + m) * bytes ≤ 140737488355328) (hm : 0 < m)
    (h : ∀ v' w', w'.ownsRow 0 e size v' (n + m) (xs ++ news) → w.grownBy w' v.ownBlock → (v'.ownBlock = v.ownBlock ∨ v'.ownBlock = some w.heap.size ∧ ∀ b, b < w.heap.size → w'.heap[b]? = w.heap[b]?) → v' ≠ .slice none 0 0 → K (a.put o.dst v') w') : o.wp P a w K Q := by
  obtain ⟨v', w', hr, g1, g2, g3, g4⟩ := run_append_keep (P := P) w t o.type e i z size bytes ht hi hz hsize hby hzs hsz v n xs hown ad m c news hl hnews h1 h63 hbytes hm
  unfold Oper.wp execOp
  simp only [ho, resolve, invoke, builtin, Sem.run_bind, Sem.run_pure, Result.andThen_ok, List.map_toArray, List.map_cons, List.map_nil, hs, hx, hr]
  exact h v' w' g1 g2 g3 g4
theorem wpList_append_keep {ops : Array Oper} {rest : List Oper} {o : Oper} {a : Act} {Q : Exit → Act → World → Prop} (hgd : o.guard = none) (s x : Operand) (t : TypeId)
    (ho : o.op = .call { callee := .builtin .append, args := #[s, x], argTypes := #[t, t] })
    (e : TypeId) (i : TypeInfo) (z : Value) (size bytes : Nat) (ht : P.underlying t = some (.slice e)) (hi : P.info? e = some i) (hz : i.zero = some z)
    (hsize : i.size = size) (hby : i.bytes = bytes) (hzs : z.cells.size = size) (hsz : 0 < size)
    (v : Value) (n : Nat) (xs : List Value) (hs : a.eval s = v) (hown : w.ownsRow 0 e size v n xs) (ad : Addr) (m c : Nat) (news : List Value) (hx : a.eval x = .slice (some ad) m c)
    (hl : news.length = m * size) (hnews : ∀ j u, news[j]? = some u → w.cell? (ad.add j) = some u) (h1 : ∀ u ∈ news, u.oneCell' = true)
    (h63 : n + m ≤ maxLen) (hbytes : (n + m) * bytes ≤ 140737488355328) (hm : 0 < m)
    (h : ∀ v' w', w'.ownsRow 0 e size v' (n + m) (xs ++ news) → w.grownBy w' v.ownBlock → (v'.ownBlock = v.ownBlock ∨ v'.ownBlock = some w.heap.size ∧ ∀ b, b < w.heap.size → w'.heap[b]? = w.heap[b]?) → v' ≠ .slice none 0 0 → wpList P ops Q rest (a.put o.dst v') w') : wpList P ops Q (o :: rest) a w :=
  wpList_plain hgd fun _ hK => wp_append_keep w s x t ho e i z size bytes ht hi hz hsize hby hzs hsz v n xs hs hown ad m c news hx hl hnews h1 h63 hbytes hm fun v' w' g1 g2 g3 g4 => hK _ _ (h v' w' g1 g2 g3 g4)
end
end Go.Proofs.Ytihmgkjmebdioaa
/- Lists of elements of any kind: their cells, rows of one's own, what is told in new memory. No program in sight. -/
namespace Go.Proofs.Ytihmgkjmebdioaa
open Go.RowKit
set_option maxRecDepth 100000
set_option linter.unusedVariables false

/-- a kind of elements: their type, how many cells each has, which -/
structure Knd (α : Type) where
  e : TypeId
  sz : Nat
  cv : α → List Value
  pos : 0 < sz
  len : ∀ x, (cv x).length = sz
  one : ∀ x, ∀ u ∈ cv x, u.oneCell' = true

section
variable {α : Type} (K : Knd α)
def Knd.fl (l : List α) : List Value := l.flatMap K.cv
theorem Knd.fl_nil : K.fl [] = [] := rfl
theorem Knd.fl_app (a b : List α) : K.fl (a ++ b) = K.fl a ++ K.fl b := by simp [Knd.fl]
theorem Knd.fl_one (x : α) : K.fl [x] = K.cv x := by simp [Knd.fl]
theorem Knd.fl_len (l : List α) : (K.fl l).length = l.length * K.sz := by
  induction l with
  | nil => simp [Knd.fl]
  | cons x l ih =>
    have : K.fl (x :: l) = K.cv x ++ K.fl l := by simp [Knd.fl]
    rw [this, List.length_append, ih, K.len, List.length_cons, Nat.add_mul]
    omega
theorem Knd.fl_cells (l : List α) : ∀ u ∈ K.fl l, u.oneCell' = true := by
  intro u hu
  obtain ⟨x, _, hx⟩ := List.mem_flatMap.1 hu
  exact K.one x u hx
theorem Knd.fl_get : ∀ (l : List α) (i c : Nat) (x : α), l[i]? = some x → c < K.sz → (K.fl l)[i * K.sz + c]? = (K.cv x)[c]?
  | [], i, c, x, h, _ => by simp at h
  | y :: l, i, c, x, h, hc => by
    have e : K.fl (y :: l) = K.cv y ++ K.fl l := by simp [Knd.fl]
    rw [e]
    cases i with
    | zero =>
      simp at h
      subst h
      rw [List.getElem?_append_left (by rw [K.len]; omega)]
      simp
    | succ i =>
      have h2 := Knd.fl_get l i c x (by simpa using h) hc
      rw [List.getElem?_append_right (by rw [K.len, Nat.add_mul]; omega), K.len, show (i + 1) * K.sz + c - K.sz = i * K.sz + c from by rw [Nat.add_mul]; omega]
      exact h2
/-- a slice value that owns the elements l, at a row of its own -/
def Knd.O (w : World) (v : Value) (l : List α) : Prop := w.ownsRow 0 K.e K.sz v l.length (K.fl l)
/-- a slice value that reads as l -/
def Knd.R (w : World) (v : Value) (l : List α) : Prop := Sl w K.sz v l.length (K.fl l)
def Knd.ob (v : Value) (l : List α) : Ob := obE K.e K.sz v l.length (K.fl l)
variable {K}
theorem Knd.O.rd {w : World} {v : Value} {l : List α} (h : K.O w v l) : K.R w v l := Sl.of_own h (K.fl_cells l)
theorem Knd.O.keep {w w' : World} {v : Value} {l : List α} (h : K.O w v l) {S : Nat → Prop} (ho : Only S w w') (hd : ∀ x, fpv v x → ¬ S x) : K.O w' v l := ownsRow_keep h ho hd
theorem Knd.O.lt {w : World} {v : Value} {l : List α} (h : K.O w v l) : ∀ x, fpv v x → x < w.heap.size := fun x hx => (World.ownsRow.lt h x hx).2
theorem Knd.O.nil (w : World) : K.O w (.slice none 0 0) [] := World.ownsRow_nil w 0 _ _
theorem Knd.R.nil (w : World) : K.R w (.slice none 0 0) [] := Sl.nil w _
theorem Knd.O.any {w : World} {v : Value} {l : List α} (h : K.O w v l) : ∃ ao cap, v = .slice ao l.length cap := by
  rcases h.2 with ⟨hv, h0⟩ | ⟨g, cap, cur, hv, _⟩
  · exact ⟨none, 0, by rw [h0]; exact hv⟩
  · exact ⟨some ⟨g, 0, none⟩, cap, hv⟩
theorem Knd.O.form {w : World} {v : Value} {l : List α} (h : K.O w v l) (h0 : 0 < l.length) : ∃ g cap, v = .slice (some ⟨g, 0, none⟩) l.length cap := by
  obtain ⟨g, cap, hv, _⟩ := World.ownsRow.form h h0
  exact ⟨g, cap, hv⟩
theorem Knd.R.any {w : World} {v : Value} {l : List α} (h : K.R w v l) : ∃ ao cap, v = .slice ao l.length cap ∧ l.length ≤ cap ∧ cap ≤ 9223372036854775807 ∧ (ao = none → cap = 0) := by
  obtain ⟨ao, cap, hv, h1, h2, h3, _⟩ := h.form
  exact ⟨ao, cap, hv, h1, h2, h3⟩
theorem Knd.R.grow {w w' : World} {v : Value} {l : List α} (h : K.R w v l) (hb : Below w.heap.size w w') : K.R w' v l := Sl.grow h hb
/-- element i, cell by cell -/
theorem Knd.R.get {w : World} {ao : Option Addr} {n cap : Nat} {l : List α} (h : K.R w (.slice ao n cap) l) {i : Nat} {x : α} (hx : l[i]? = some x) : ∃ b off, ao = some ⟨b, off, none⟩ ∧ b < w.heap.size ∧ ∀ c v, (K.cv x)[c]? = some v → w.cell? ⟨b, off + (i * K.sz + c), none⟩ = some v := by
  obtain ⟨ao', cap', hv, _, _, _, h4⟩ := h.form
  injection hv with e1 _ _
  subst e1
  have hc0 : 0 < (K.cv x).length := by rw [K.len]; exact K.pos
  obtain ⟨b, off, hb, hcell⟩ := h4 (i * K.sz + 0) _ ((K.fl_get l i 0 x hx K.pos).trans (List.getElem?_eq_getElem hc0))
  refine ⟨b, off, hb, World.block_lt_of_cell? w _ hcell, fun c v hv => ?_⟩
  have hc : c < K.sz := by
    have := (List.getElem?_eq_some_iff.1 hv).1
    rwa [K.len] at this
  obtain ⟨b2, off2, hb2, hcell2⟩ := h4 (i * K.sz + c) v ((K.fl_get l i c x hx hc).trans hv)
  rw [hb] at hb2
  injection hb2 with e
  injection e with e1 e2
  subst e1; subst e2
  exact hcell2
theorem Knd.O.get {w : World} {g n cap : Nat} {l : List α} (h : K.O w (.slice (some ⟨g, 0, none⟩) n cap) l) {i : Nat} {x : α} (hx : l[i]? = some x) : ∀ c v, (K.cv x)[c]? = some v → w.cell? ⟨g, i * K.sz + c, none⟩ = some v := by
  intro c v hv
  obtain ⟨b, off, hb, _, hc⟩ := Knd.R.get h.rd hx
  injection hb with e
  injection e with e1 e2
  subst e1; subst e2
  have := hc c v hv
  rwa [Nat.zero_add] at this
theorem Knd.O.frozen {w : World} {g n cap : Nat} {l : List α} (h : K.O w (.slice (some ⟨g, 0, none⟩) n cap) l) (j : Nat) : w.frozen? ⟨g, j, none⟩ = false := by
  have hn : n = l.length := by
    rcases h.2 with ⟨hv, _⟩ | ⟨g', cap', cur, hv, _⟩
    · simp at hv
    · simp at hv; exact hv.2.1
  subst hn
  exact World.ownsRow.frozenAt h j

/-- told in new memory -/
def Knd.New (K : Knd α) (l : List α) (w : World) (e : Ending) (w' : World) : Prop :=
  ∃ v, e = .returned v ∧ K.O w' v l ∧ Below w.heap.size w w' ∧ ∀ x, fpv v x → w.heap.size ≤ x
/-- a row that is made in a loop -/
def Knd.Mk (K : Knd α) (l : List α) (w : World) (v : Value) (w1 : World) : Prop := K.O w1 v l ∧ Below w.heap.size w w1 ∧ ∀ x, fpv v x → w.heap.size ≤ x
theorem Knd.Mk.nil (K : Knd α) (w : World) : K.Mk [] w (.slice none 0 0) w := ⟨Knd.O.nil w, Below.refl _ _, fun x hx => by simp [fpv, Value.ownBlock] at hx⟩
theorem Knd.Mk.draw {K : Knd α} {l : List α} {w w1 : World} {v : Value} (h : K.Mk l w v w1) (n : Nat) : K.Mk l w v (w1.drewN n) :=
  ⟨h.1.keep ((Only.refl (fun _ => False) w1).draw n) (fun _ _ h => h), ⟨h.2.1.os, h.2.1.tape, h.2.1.output, h.2.1.size, h.2.1.block⟩, h.2.2⟩
theorem Knd.Mk.below {K : Knd α} {l : List α} {w w1 w2 : World} {v : Value} (h : K.Mk l w v w1) (hb : Below w1.heap.size w1 w2) : K.Mk l w v w2 :=
  ⟨h.1.keep (Only.nothing hb) (fun _ _ h => h), h.2.1.trans (hb.mono h.2.1.size), h.2.2⟩
/-- one more element, behind its literal and an append -/
theorem Knd.Mk.more {K : Knd α} {l : List α} {w w1 w2 : World} {v v' : Value} {x : α} (h : K.Mk l w v w1) {o : Obj} {N : Nat} (hN : N = l.length) {cs : List Value} (hcs : cs = K.fl l ++ K.cv x) (hown : w2.ownsRow 0 K.e K.sz v' (N + 1) cs) (hgrow : (w1.alloc o).grownBy w2 v.ownBlock)
    (hat : v'.ownBlock = v.ownBlock ∨ v'.ownBlock = some (w1.heap.size + 1)) : K.Mk (l ++ [x]) w v' w2 := by
  subst hN; subst hcs
  obtain ⟨q1, q2, q3⟩ := h
  refine ⟨?_, (q2.alloc q2.size _).grown hgrow (by simp; have := q2.size; omega) (fun x hx => q3 x hx), fun y hy => ?_⟩
  · unfold Knd.O
    rw [K.fl_app, K.fl_one, List.length_append]
    exact hown
  · have hy' : v'.ownBlock = some y := hy
    rcases hat with hat | hat
    · exact q3 y (by show v.ownBlock = some y; rw [← hat]; exact hy')
    · rw [hat] at hy'
      injection hy' with hy'
      have := q2.size
      omega
theorem Knd.Mk.alloc {K : Knd α} {l : List α} {w w1 : World} {v : Value} (h : K.Mk l w v w1) (o : Obj) {N : Nat} (hN : N = l.length) : (w1.alloc o).ownsRow 0 K.e K.sz v N (K.fl l) := by
  subst hN
  exact h.1.keep ((Only.refl (fun _ => False) w1).alloc o) (fun _ _ h => h)
theorem Knd.Mk.new {K : Knd α} {l : List α} {w w1 : World} {v : Value} (h : K.Mk l w v w1) : K.New l w (.returned v) w1 := ⟨v, rfl, h⟩
/-- a whole list, behind an append to what was made -/
theorem Knd.Mk.whole {K : Knd α} {l m : List α} {w w1 w2 : World} {v v' : Value} (h : K.Mk l w v w1) {N : Nat} (hN : N = l.length + m.length) (hown : w2.ownsRow 0 K.e K.sz v' N (K.fl l ++ K.fl m)) (hgrow : w1.grownBy w2 v.ownBlock)
    (hat : v'.ownBlock = v.ownBlock ∨ v'.ownBlock = some w1.heap.size) : K.Mk (l ++ m) w v' w2 := by
  subst hN
  obtain ⟨q1, q2, q3⟩ := h
  refine ⟨?_, q2.grown hgrow q2.size (fun x hx => q3 x hx), fun y hy => ?_⟩
  · unfold Knd.O
    rw [K.fl_app, List.length_append]
    exact hown
  · have hy' : v'.ownBlock = some y := hy
    rcases hat with hat | hat
    · exact q3 y (by show v.ownBlock = some y; rw [← hat]; exact hy')
    · rw [hat] at hy'
      injection hy' with hy'
      have := q2.size
      omega

/-! ### the same? -/
def sameTo' (eq : α → α → Bool) (xs ys : List α) : Nat → Nat → Bool
  | 0, _ => true
  | n + 1, k => match xs[k]?, ys[k]? with
    | some x, some y => if eq x y then sameTo' eq xs ys n (k + 1) else false
    | _, _ => true
def sameL (eq : α → α → Bool) (xs ys : List α) : Bool := if xs.length = ys.length then sameTo' eq xs ys xs.length 0 else false
theorem sameTo_step {eq : α → α → Bool} {xs ys : List α} {n k : Nat} {x y : α} {b : Bool} (hx : xs[k]? = some x) (hy : ys[k]? = some y) (h : sameTo' eq xs ys (n + 1) k = b) : (if eq x y then sameTo' eq xs ys n (k + 1) else false) = b := by
  rw [sameTo', hx, hy] at h
  exact h
theorem sameTo_refl (eq : α → α → Bool) (h : ∀ x, eq x x = true) (xs : List α) : ∀ n k, sameTo' eq xs xs n k = true
  | 0, _ => rfl
  | n + 1, k => by
    rw [sameTo']
    cases hx : xs[k]? with
    | none => rfl
    | some x => simp [h, sameTo_refl eq h xs n (k + 1)]
theorem sameL_refl (eq : α → α → Bool) (h : ∀ x, eq x x = true) (xs : List α) : sameL eq xs xs = true := by
  unfold sameL
  rw [if_pos rfl, sameTo_refl eq h]
theorem sameTo_iff (eq : α → α → Bool) (h : ∀ x y, eq x y = true ↔ x = y) (xs ys : List α) (hl : xs.length = ys.length) : ∀ n k, k + n = xs.length → (sameTo' eq xs ys n k = true ↔ ∀ j, k ≤ j → xs[j]? = ys[j]?)
  | 0, k, hk => by
    simp only [sameTo', true_iff]
    intro j hj
    rw [List.getElem?_eq_none (by omega), List.getElem?_eq_none (by omega)]
  | n + 1, k, hk => by
    have hx : xs[k]? = some xs[k] := List.getElem?_eq_getElem (by omega)
    have hy : ys[k]? = some ys[k] := List.getElem?_eq_getElem (by omega)
    rw [sameTo', hx, hy]
    simp only
    by_cases e : eq xs[k] ys[k] = true
    · rw [if_pos e, sameTo_iff eq h xs ys hl n (k + 1) (by omega)]
      have e' := (h _ _).1 e
      constructor
      · intro hh j hj
        by_cases ejk : j = k
        · subst ejk; rw [hx, hy, e']
        · exact hh j (by omega)
      · intro hh j hj
        exact hh j (by omega)
    · rw [if_neg e]
      simp only [Bool.false_eq_true, false_iff]
      intro hh
      have := hh k (Nat.le_refl _)
      rw [hx, hy] at this
      exact e ((h _ _).2 (Option.some.inj this))
theorem sameL_iff (eq : α → α → Bool) (h : ∀ x y, eq x y = true ↔ x = y) (xs ys : List α) : sameL eq xs ys = true ↔ xs = ys := by
  unfold sameL
  by_cases hl : xs.length = ys.length
  · rw [if_pos hl, sameTo_iff eq h xs ys hl _ 0 (by omega)]
    constructor
    · intro hh; exact List.ext_getElem? fun j => hh j (Nat.zero_le _)
    · rintro rfl _ _; rfl
  · rw [if_neg hl]
    simp only [Bool.false_eq_true, false_iff]
    intro e
    exact hl (by rw [e])

/-! ### marks -/
/-- n marks of list k -/
def mks (mk : Int → Int → α) (k : Int) (n : Nat) : List α := (List.range n).map fun (i : Nat) => mk k (i : Int)
theorem mks_len (mk : Int → Int → α) (k : Int) (n : Nat) : (mks mk k n).length = n := by simp [mks]
theorem mks_succ (mk : Int → Int → α) (k : Int) (n : Nat) : mks mk k (n + 1) = mks mk k n ++ [mk k n] := by simp [mks, List.range_succ]
theorem mks_get (mk : Int → Int → α) (k : Int) (n i : Nat) (h : i < n) : (mks mk k n)[i]? = some (mk k i) := by simp [mks, List.getElem?_map, List.getElem?_range h]
def lentM (mk : Int → Int → α) (l : List α) : List α := l ++ mks mk 7 6
theorem lentM_len (mk : Int → Int → α) (l : List α) : (lentM mk l).length = l.length + 6 := by simp [lentM, mks]
/-- the first i elements are marked -/
def overM (mk : Int → Int → α) (l : List α) (i : Nat) : List α := mks mk 9 i ++ l.drop i
theorem overM_len (mk : Int → Int → α) (l : List α) (i : Nat) (h : i ≤ l.length) : (overM mk l i).length = l.length := by simp [overM, mks]; omega
theorem overM_zero (mk : Int → Int → α) (l : List α) : overM mk l 0 = l := by simp [overM, mks]
theorem overM_end (mk : Int → Int → α) (l : List α) : overM mk l l.length = mks mk 9 l.length := by simp [overM]
theorem overM_put (K : Knd α) (mk : Int → Int → α) (l : List α) (i : Nat) (h : i < l.length) : putAt (K.fl (overM mk l i)) (i * K.sz) (K.cv (mk 9 i)) = K.fl (overM mk l (i + 1)) := by
  unfold overM
  have h1 := putAt_app (K.cv (mk 9 i)) (K.fl (mks mk 9 i)) (K.fl (l.drop i)) (by
    rw [K.len, K.fl_len, List.length_drop]
    have := Nat.mul_le_mul_right K.sz (show 1 ≤ l.length - i by omega)
    omega)
  rw [K.fl_len, mks_len] at h1
  rw [K.fl_app, h1, mks_succ, K.fl_app, K.fl_app, K.fl_one, List.drop_eq_getElem_cons h]
  congr 1
  have e : K.fl (l[i] :: l.drop (i + 1)) = K.cv l[i] ++ K.fl (l.drop (i + 1)) := by simp only [Knd.fl, List.flatMap_cons]
  rw [e, K.len, ← K.len l[i], List.drop_left]
theorem Knd.O.put {K : Knd α} {w : World} {g cap N : Nat} {l : List α} (mk : Int → Int → α) {i : Nat} (h : K.O w (.slice (some ⟨g, 0, none⟩) N cap) (overM mk l i)) (hi : i < l.length) (hN : N = l.length) :
    K.O (w.setCells g (i * K.sz) (K.cv (mk 9 i))) (.slice (some ⟨g, 0, none⟩) N cap) (overM mk l (i + 1)) := by
  subst hN
  have hl := overM_len mk l i (by omega)
  have hl2 := overM_len mk l (i + 1) (by omega)
  unfold Knd.O at *
  rw [hl] at h
  have := ownsRow_setCells (K.cv (mk 9 i)) _ _ (i * K.sz) h
  rw [overM_put K mk l i hi] at this
  rw [hl2]
  exact this
/-- marks are the marks of Apart -/
def Mkr.ofK (K : Knd α) (st : TypeId) (mk : Int → Int → α) : Mkr := ⟨st, K.e, K.sz, fun k i => K.cv (mk ((k : Int) + 10) (i : Int)), K.pos, fun _ _ => K.len _, fun _ _ => K.one _⟩
end
theorem header {w : World} {base : Nat} {e : TypeId} {size n : Nat} {v : Value} {xs : List Value} (h : w.ownsRow base e size v n xs) : ∃ ao cap, v = .slice ao n cap ∧ n ≤ cap ∧ cap ≤ 9223372036854775807 ∧ (0 < n → ∃ g, ao = some ⟨g, 0, none⟩) := by
  rcases h.2 with ⟨rfl, rfl⟩ | ⟨g, cap, cur, rfl, _, _, h1, h2, _⟩
  · exact ⟨none, 0, rfl, by omega, by omega, fun h => by omega⟩
  · exact ⟨some ⟨g, 0, none⟩, cap, rfl, h1, h2, fun _ => ⟨g, rfl⟩⟩
end Go.Proofs.Ytihmgkjmebdioaa
/- Lists of any kind as things of a law's world. No program in sight. -/
namespace Go.Proofs.Ytihmgkjmebdioaa
open Go.RowKit
set_option maxRecDepth 100000
set_option linter.unusedVariables false
theorem Knd.New.lit {α : Type} (K : Knd α) (l : List α) (w : World) (hl : l.length ≤ 1000) : K.New l w (.returned (.slice (some ⟨w.heap.size, 0, none⟩) l.length l.length)) (w.alloc (.cells (K.fl l).toArray K.e)) := by
  refine ⟨_, rfl, ?_, (Below.refl _ _).alloc (Nat.le_refl _) _, fun x hx => ?_⟩
  · have := World.ownsRow_lit (base := 0) (e := K.e) (size := K.sz) w (K.fl l).toArray l.length (Nat.zero_le _) (by unfold maxLen; omega) (by rw [List.size_toArray, K.fl_len])
    simpa [Knd.O] using this
  · have e : w.heap.size = x := by simpa [fpv, Value.ownBlock] using hx
    omega
section
variable {α : Type} {K : Knd α} {w0 w w' : World} {obs : List Ob}
theorem Knd.New.env {l : List α} {e : Ending} (h : Env w0 w obs) (hn : K.New l w e w') : ∃ v, e = .returned v ∧ Env w0 w' (obs ++ [K.ob v l]) := by
  obtain ⟨v, he, h1, h2, h3⟩ := hn
  exact ⟨v, he, h.pushE h1 h2 h3⟩
theorem Env.kO (h : Env w0 w obs) (i : Nat) {v : Value} {l : List α} (hi : obs[i]? = some (K.ob v l)) : K.O w v l := Env.row h i hi
theorem Env.kR (h : Env w0 w obs) (i : Nat) {v : Value} {l : List α} (hi : obs[i]? = some (K.ob v l)) : K.R w v l := (Env.kO h i hi).rd
theorem Env.turnK (h : Env w0 w obs) (i : Nat) {v : Value} {l l' : List α} (hi : obs[i]? = some (K.ob v l)) (hb : K.O w' v l') (ho : Only (fpv v) w w') : Env w0 w' (obs.set i (K.ob v l')) := Env.turnE h i hi hb ho
theorem Env.oldK (h : Env w0 w obs) {v : Value} {l : List α} (hv : K.R w0 v l) : K.R w v l := hv.grow h.base
theorem Env.pushNil (h : Env w0 w obs) (K : Knd α) : Env w0 w (obs ++ [K.ob (.slice none 0 0) []]) := h.pushE (Knd.O.nil w) (Below.refl _ _) (fun x hx => by simp [fpv, Value.ownBlock] at hx)
/-- a beginning of a list -/
theorem Knd.R.begin {l r : List α} {ao : Option Addr} {n cap : Nat} (h : K.R w (.slice ao n cap) (l ++ r)) : K.R w (.slice ao l.length cap) l := by
  obtain ⟨ao', cap', hv, h1, h2, h3, h4⟩ := h.form
  injection hv with e1 e2 e3
  subst e1; subst e3
  refine ⟨K.fl_len l, K.fl_cells l, ao, cap, rfl, by rw [List.length_append] at h1; omega, h2, h3, fun j u hj => ?_⟩
  exact h4 j u (by rw [K.fl_app, List.getElem?_append_left (List.getElem?_eq_some_iff.1 hj).1]; exact hj)
theorem Knd.R.lent {mk : Int → Int → α} {l : List α} {ao : Option Addr} {n cap : Nat} (h : K.R w (.slice ao n cap) (lentM mk l)) : K.R w (.slice ao l.length cap) l := Knd.R.begin h
theorem Env.any (h : Env w0 w obs) (i : Nat) {v : Value} {l : List α} (hi : obs[i]? = some (K.ob v l)) : ∃ ao cap, v = .slice ao l.length cap := (Env.kO h i hi).any
theorem Env.lentF (h : Env w0 w obs) (i : Nat) {mk : Int → Int → α} {v : Value} {l : List α} (hi : obs[i]? = some (K.ob v (lentM mk l))) : ∃ g cap, v = .slice (some ⟨g, 0, none⟩) (lentM mk l).length cap ∧ l.length + 6 ≤ cap ∧ cap ≤ 9223372036854775807 := by
  have h1 := Env.kO h i hi
  obtain ⟨g, cap, rfl⟩ := h1.form (by rw [lentM_len]; omega)
  obtain ⟨ao, cap', hv, h2, h3, _⟩ := h1.rd.any
  injection hv with _ _ e3
  subst e3
  rw [lentM_len] at h2
  exact ⟨g, cap, rfl, h2, h3⟩
end
end Go.Proofs.Ytihmgkjmebdioaa
/- The contract of Ledger.Count. Condition: the ledger's events are fewer than 2^63. -/
namespace Go.Proofs.Ytihmgkjmebdioaa
open Go.RowKit
set_option maxRecDepth 100000
set_option linter.unusedVariables false

/-- how many events of the first j runs have the kind k -/
def cntTo (rs : List Rn) (k : Int) : Nat → Int
  | 0 => 0
  | j + 1 => cntTo rs k j + if (rs.getD j ⟨0, 0, 0⟩).k = k then (rs.getD j ⟨0, 0, 0⟩).c else 0
def cnt (rs : List Rn) (k : Int) : Int := cntTo rs k rs.length
theorem cntTo_bound (rs : List Rn) (k : Int) (h : Posi rs) : ∀ j, j ≤ rs.length → 0 ≤ cntTo rs k j ∧ cntTo rs k j ≤ tot (rs.take j)
  | 0, _ => by simp [cntTo, tot]
  | j + 1, hj => by
    obtain ⟨h1, h2⟩ := cntTo_bound rs k h j (by omega)
    have hg : rs.getD j ⟨0, 0, 0⟩ = rs[j] := by rw [List.getD_eq_getElem?_getD, List.getElem?_eq_getElem (by omega)]; rfl
    have hp := h rs[j] (List.getElem_mem _)
    rw [cntTo, hg, List.take_add_one, List.getElem?_eq_getElem (by omega), tot_append]
    simp only [Option.toList_some, tot_one]
    split <;> omega
theorem tot_take (rs : List Rn) (h : Posi rs) (j : Nat) : tot (rs.take j) ≤ tot rs := by
  have h1 := List.take_append_drop j rs
  have h2 : tot rs = tot (rs.take j) + tot (rs.drop j) := by rw [← tot_append, h1]
  have h3 := tot_nonneg (rs.drop j) (fun r hr => h r (List.mem_of_mem_drop hr))
  omega
end Go.Proofs.Ytihmgkjmebdioaa
/- The kit's functions on lists (Runs). Conditions: a list and six more fit into 2^47 bytes. -/
namespace Go.Proofs.Ytihmgkjmebdioaa
open Go.RowKit
set_option maxRecDepth 100000
set_option linter.unusedVariables false
set_option linter.unusedSimpArgs false
def KN : Knd Rn := ⟨44, 3, fun x => [.int .u8 x.k, .int .i64 x.s, .int .i64 x.c], by decide, fun _ => rfl, fun x u hu => by simp at hu; rcases hu with rfl | rfl | rfl <;> rfl⟩
theorem infoN : (Try.prog.info? 44).map (fun i => (i.zero, i.size, i.bytes)) = some (some (.agg #[.int .u8 0, .int .i64 0, .int .i64 0]), 3, 24) := by kernel_rfl
def mkN (k i : Int) : Rn := ⟨0, 0, -1000 * k - i - 7⟩
def eqN (x y : Rn) : Bool := (x.k == y.k) && (x.s == y.s) && (x.c == y.c)
theorem eqcN (x y : Rn) : ((x.k == y.k) = true ∧ (x.s == y.s) = true ∧ (x.c == y.c) = true ∧ eqN x y = true) ∨ ((x.k == y.k) = false ∧ eqN x y = false) ∨ ((x.k == y.k) = true ∧ (x.s == y.s) = false ∧ eqN x y = false) ∨ ((x.k == y.k) = true ∧ (x.s == y.s) = true ∧ (x.c == y.c) = false ∧ eqN x y = false) := by
  unfold eqN
  cases h0 : (x.k == y.k) <;> cases h1 : (x.s == y.s) <;> cases h2 : (x.c == y.c) <;> simp
theorem eqN_iff (x y : Rn) : eqN x y = true ↔ x = y := by
  unfold eqN
  cases x; cases y; simp [and_assoc]
set_option maxHeartbeats 2000000 in
theorem sameN_any (u v : Value) (xs ys : List Rn) (w : World) (hu : KN.R w u xs) (hv : KN.R w v ys) :
    Calls Try.prog 16 #[u, v] w fun e w' => e = .returned (.bool (sameL eqN xs ys)) ∧ ∃ m, w' = w.drewN m := by
  have HU := Lib.hid hu
  have HV := Lib.hid hv
  obtain ⟨ao, cap, rfl, h1, h2, _⟩ := hu.any
  obtain ⟨bo, dap, rfl, h3, h4, _⟩ := hv.any
  clear hu hv
  have hla : xs.length ≤ 9223372036854775807 := by omega
  have hlb : ys.length ≤ 9223372036854775807 := by omega
  obtain ⟨b, hb⟩ : ∃ b, sameL eqN xs ys = b := ⟨_, rfl⟩
  rw [hb]
  unfold sameL at hb
  by_cases hl : xs.length = ys.length
  · rw [if_pos hl] at hb
    have HS := Lib.hid hb
    have hlI : ((xs.length : Int) != (ys.length : Int)) = false := by rw [hl]; simp
    have HL := Lib.hid hl
    clear hl hb
    go_enter Try.func16, Try.ntmps16
    go_wp2_with fail
    go_loopw [5] (fun i w1 => ∃ k : Nat, k ≤ xs.length ∧ i = .int .i64 (k : Int) ∧ Hid (sameTo' eqN xs ys (xs.length - k) k = b) ∧ ∃ m, w1 = w.drewN m) (fun i _ => xs.length - (intOf i).toNat)
    case atStart => exact ⟨0, Nat.zero_le _, rfl, HS, 0, rfl⟩
    case round =>
      obtain ⟨k, hk, rfl, HE, m, rfl⟩ := hrel
      by_cases hlt : k < xs.length
      · have hlt2 : k < ys.length := by rw [← HL.out]; exact hlt
        obtain ⟨x, hx⟩ : ∃ x, xs[k]? = some x := ⟨_, List.getElem?_eq_getElem hlt⟩
        obtain ⟨y, hy⟩ : ∃ y, ys[k]? = some y := ⟨_, List.getElem?_eq_getElem hlt2⟩
        obtain ⟨g, off, rfl, _, dd⟩ := HU.out.get hx
        obtain ⟨g2, off2, rfl, _, ee⟩ := HV.out.get hy
        have HE2 : Hid ((if eqN x y then sameTo' eqN xs ys (xs.length - (k + 1)) (k + 1) else false) = b) := by
          have h := HE.out
          rw [show xs.length - k = (xs.length - (k + 1)) + 1 from by omega] at h
          exact Lib.hid (sameTo_step hx hy h)
        clear HE hx hy
        obtain ⟨kx, sx, cx⟩ := x
        obtain ⟨ky, sy, cy⟩ := y
        have d0 : w.cell? ⟨g, off + k * 3, none⟩ = some (.int .u8 kx) := by have h := dd 0 _ rfl; rw [show off + (k * KN.sz + 0) = off + k * 3 from by show off + (k * 3 + 0) = _; omega] at h; exact h
        have d1 : w.cell? ⟨g, off + k * 3 + 1, none⟩ = some (.int .i64 sx) := by have h := dd 1 _ rfl; rw [show off + (k * KN.sz + 1) = off + k * 3 + 1 from by show off + (k * 3 + 1) = _; omega] at h; exact h
        have d2 : w.cell? ⟨g, off + k * 3 + 2, none⟩ = some (.int .i64 cx) := by have h := dd 2 _ rfl; rw [show off + (k * KN.sz + 2) = off + k * 3 + 2 from by show off + (k * 3 + 2) = _; omega] at h; exact h
        have e0 : w.cell? ⟨g2, off2 + k * 3, none⟩ = some (.int .u8 ky) := by have h := ee 0 _ rfl; rw [show off2 + (k * KN.sz + 0) = off2 + k * 3 from by show off2 + (k * 3 + 0) = _; omega] at h; exact h
        have e1 : w.cell? ⟨g2, off2 + k * 3 + 1, none⟩ = some (.int .i64 sy) := by have h := ee 1 _ rfl; rw [show off2 + (k * KN.sz + 1) = off2 + k * 3 + 1 from by show off2 + (k * 3 + 1) = _; omega] at h; exact h
        have e2 : w.cell? ⟨g2, off2 + k * 3 + 2, none⟩ = some (.int .i64 cy) := by have h := ee 2 _ rfl; rw [show off2 + (k * KN.sz + 2) = off2 + k * 3 + 2 from by show off2 + (k * 3 + 2) = _; omega] at h; exact h
        clear dd ee
        have hq := eqcN ⟨kx, sx, cx⟩ ⟨ky, sy, cy⟩
        dsimp only at hq
        rcases hq with ⟨h0, h1, h2, he⟩ | ⟨h0, he⟩ | ⟨h0, h1, he⟩ | ⟨h0, h1, h2, he⟩
        · have HE3 : Hid (sameTo' eqN xs ys (xs.length - (k + 1)) (k + 1) = b) := by
            have h := HE2.out
            rw [if_pos he] at h
            exact Lib.hid h
          clear HE2
          go_wp2_with fail
          go_quiet ((fail))
          go_wp2_with fail
          go_roundw
          case rel => exact ⟨k + 1, by omega, by go_num, HE3, m + nq, rfl⟩
          case measure => simp [intOf]; omega
        all_goals
          have HE3 : Hid (b = false) := by
            have h := HE2.out
            rw [he] at h
            exact Lib.hid h.symm
          clear HE2
          go_wp2_with fail
          go_quiet ((fail))
          go_wp2
          go_ret
          exact ⟨by rw [HE3.out]; rfl, m + nq, by simp⟩
      · obtain rfl : k = xs.length := by omega
        have HF : Hid (b = true) := by
          have h := HE.out
          rw [Nat.sub_self] at h
          exact Lib.hid h.symm
        go_wp2
        go_ret
        exact ⟨by rw [HF.out]; rfl, m, rfl⟩
  · rw [if_neg hl] at hb
    have hlI : ((xs.length : Int) != (ys.length : Int)) = true := by simp; omega
    have HF := Lib.hid hb
    clear hl hb
    go_enter Try.func16, Try.ntmps16
    go_wp2
    go_ret
    exact ⟨by rw [← HF.out]; rfl, 0, rfl⟩
end Go.Proofs.Ytihmgkjmebdioaa
/- Sums, checks and comparisons of runs: the program's and the document's. Conditions: the runs' counts are int values. -/
namespace Go.Proofs.Ytihmgkjmebdioaa
open Go.RowKit
set_option maxRecDepth 100000
set_option linter.unusedVariables false
set_option linter.unusedSimpArgs false
theorem runCells {w w' : World} {ao : Option Addr} {n cap : Nat} {rs : List Rn} (h : KN.R w (.slice ao n cap) rs) (hb : Below w.heap.size w w') {k : Nat} {a b c : Int} (hx : rs[k]? = some ⟨a, b, c⟩) :
    ∃ g off, ao = some ⟨g, off, none⟩ ∧ g < w.heap.size ∧ w'.cell? ⟨g, off + k * 3, none⟩ = some (.int .u8 a) ∧ w'.cell? ⟨g, off + k * 3 + 1, none⟩ = some (.int .i64 b) ∧ w'.cell? ⟨g, off + k * 3 + 2, none⟩ = some (.int .i64 c) := by
  obtain ⟨g, off, hao, hlt, hc⟩ := h.get hx
  refine ⟨g, off, hao, hlt, ?_, ?_, ?_⟩
  · exact (hb.cell (p := ⟨g, off + k * 3, none⟩) hlt).trans (hc 0 _ rfl)
  · exact (hb.cell (p := ⟨g, off + k * 3 + 1, none⟩) hlt).trans (hc 1 _ rfl)
  · exact (hb.cell (p := ⟨g, off + k * 3 + 2, none⟩) hlt).trans (hc 2 _ rfl)
/-- the counts are int values -/
def okC (rs : List Rn) : Prop := ∀ r ∈ rs, -9223372036854775808 ≤ r.c ∧ r.c ≤ 9223372036854775807
/-! ### sums -/
def sat (a b : Int) : Int := if a > 9223372036854775807 - b then 9223372036854775807 else a + b
theorem sat_rng {a b : Int} (h1 : 0 ≤ a) (h3 : 0 ≤ b) (h4 : b ≤ 9223372036854775807) : 0 ≤ sat a b ∧ sat a b ≤ 9223372036854775807 := by
  unfold sat
  split <;> omega
def totS (n : Int) (r : Rn) : Int := if r.c < 1 then n else sat n r.c
def totL (l : List Rn) : Int := l.foldl totS 0
theorem fold_step {α β : Type} (f : β → α → β) (z : β) {l : List α} {k : Nat} {x : α} (h : l[k]? = some x) : (l.take (k + 1)).foldl f z = f ((l.take k).foldl f z) x := by
  rw [List.take_add_one, h, List.foldl_append]
  rfl
theorem totS_rng {n : Int} {r : Rn} (h1 : 0 ≤ n) (h2 : n ≤ 9223372036854775807) (h3 : r.c ≤ 9223372036854775807) : 0 ≤ totS n r ∧ totS n r ≤ 9223372036854775807 := by
  unfold totS
  split
  · exact ⟨h1, h2⟩
  · exact sat_rng h1 (by omega) h3
end Go.Proofs.Ytihmgkjmebdioaa
/- Since: the program's. Conditions: the ledger's events are fewer than 2^63. -/
namespace Go.Proofs.Ytihmgkjmebdioaa
open Go.RowKit
set_option maxRecDepth 100000
set_option linter.unusedVariables false
set_option linter.unusedSimpArgs false
/-- the runs of the events from number m on -/
def sinceL : List Rn → Int → List Rn
  | [], _ => []
  | r :: rs, m => if m ≤ 0 then r :: rs else if m < r.c then ⟨r.k, r.s, r.c - m⟩ :: rs else sinceL rs (m - r.c)
theorem since_low (rs : List Rn) (m : Int) (h : m ≤ 0) : sinceL rs m = rs := by
  cases rs with
  | nil => rfl
  | cons r rs => rw [sinceL, if_pos h]
theorem tot_cons (r : Rn) (rs : List Rn) : tot (r :: rs) = r.c + tot rs := by simp [tot]
theorem since_high : ∀ (rs : List Rn) (m : Int), Posi rs → tot rs ≤ m → sinceL rs m = []
  | [], _, _, _ => rfl
  | r :: rs, m, hp, h => by
    have h1 := hp r (by simp)
    have hp2 : Posi rs := fun x hx => hp x (by simp [hx])
    have h2 := tot_nonneg rs hp2
    rw [tot_cons] at h
    rw [sinceL, if_neg (by omega), if_neg (by omega)]
    exact since_high rs (m - r.c) hp2 (by omega)
/-- what the program tells: the runs from k on, the first one cut -/
def cutL (d t : Int) : List Rn → List Rn
  | [] => []
  | r :: rs => (if t < d then ⟨r.k, r.s, r.c - (d - t)⟩ else r) :: rs
theorem since_at : ∀ (rs : List Rn) (m : Int) (k : Nat) (r : Rn), Posi rs → rs[k]? = some r → tot (rs.take k) ≤ m → m < tot (rs.take k) + r.c → sinceL rs m = cutL m (tot (rs.take k)) (rs.drop k)
  | [], _, _, _, _, hx, _, _ => by simp at hx
  | x :: rs, m, 0, r, hp, hx, h1, h2 => by
    have hx' : x = r := by simpa using hx
    subst hx'
    simp only [List.take_zero, show tot [] = 0 from rfl, List.drop_zero] at *
    rw [sinceL]
    by_cases hm : m ≤ 0
    · rw [if_pos hm]
      simp [cutL, show ¬ (0 < m) from by omega]
    · rw [if_neg hm, if_pos (by omega)]
      simp [cutL, show 0 < m from by omega]
  | x :: rs, m, k + 1, r, hp, hx, h1, h2 => by
    have hc := hp x (by simp)
    have hp2 : Posi rs := fun y hy => hp y (by simp [hy])
    have hx' : rs[k]? = some r := by simpa using hx
    rw [List.take_succ_cons, tot_cons] at h1 h2
    have hn : 0 ≤ tot (rs.take k) := by
      have := tot_nonneg (rs.take k) (fun y hy => hp2 y (List.mem_of_mem_take hy))
      omega
    rw [sinceL, if_neg (by omega), if_neg (by omega), since_at rs (m - x.c) k r hp2 hx' (by omega) (by omega), List.drop_succ_cons, List.take_succ_cons, tot_cons]
    obtain ⟨hk, hr⟩ := List.getElem?_eq_some_iff.1 hx'
    rw [List.drop_eq_getElem_cons hk, hr]
    simp only [cutL]
    by_cases hm : tot (rs.take k) < m - x.c
    · rw [if_pos hm, if_pos (by omega)]
      rw [show r.c - (m - x.c - tot (rs.take k)) = r.c - (m - (x.c + tot (rs.take k))) from by omega]
    · rw [if_neg hm, if_neg (by omega)]
theorem Knd.R.tail {α : Type} {K : Knd α} {w : World} {b off n cap : Nat} {l : List α} (h : K.R w (.slice (some ⟨b, off, none⟩) n cap) l) (k : Nat) (hk : k ≤ l.length) : K.R w (.slice (some ⟨b, off + k * K.sz, none⟩) (l.length - k) (cap - k)) (l.drop k) := by
  obtain ⟨ao', cap', hv, h1, h2, h3, h4⟩ := h.form
  injection hv with e1 e2 e3
  subst e1; subst e3
  refine ⟨by rw [K.fl_len, List.length_drop], K.fl_cells _, some ⟨b, off + k * K.sz, none⟩, cap - k, by rw [List.length_drop], by rw [List.length_drop]; omega, by omega, (fun h => by cases h), fun j u hj => ?_⟩
  have hfl : (K.fl l)[k * K.sz + j]? = some u := by
    have e : K.fl l = K.fl (l.take k) ++ K.fl (l.drop k) := by rw [← K.fl_app, List.take_append_drop]
    have hl : (K.fl (l.take k)).length = k * K.sz := by rw [K.fl_len, List.length_take, Nat.min_eq_left hk]
    rw [e, List.getElem?_append_right (by omega), hl, show k * K.sz + j - k * K.sz = j from by omega]
    exact hj
  obtain ⟨b', off', he, hc⟩ := h4 _ u hfl
  injection he with he
  injection he with q1 q2 _
  subst q1; subst q2
  exact ⟨b, off + k * K.sz, rfl, by rw [Nat.add_assoc]; exact hc⟩
/-- the first run's count is put anew -/
theorem Knd.Mk.head {w w1 : World} {g cap N : Nat} {l : List Rn} {x : Rn} (c : Int) (h : KN.Mk (x :: l) w (.slice (some ⟨g, 0, none⟩) N cap) w1) : KN.Mk (⟨x.k, x.s, c⟩ :: l) w (.slice (some ⟨g, 0, none⟩) N cap) (w1.setCells g 2 [.int .i64 c]) := by
  obtain ⟨h1, h2, h3⟩ := h
  have hN : N = l.length + 1 := by
    rcases h1.2 with ⟨hv, _⟩ | ⟨g', cap', cur, hv, _⟩
    · simp at hv
    · injection hv with _ e _ <;> first | exact e | simpa using e
  subst hN
  have hg : w.heap.size ≤ g := h3 g rfl
  have hw : Only (fpv (.slice (some ⟨g, 0, none⟩) (l.length + 1) cap)) w1 (w1.setCells g 2 [.int .i64 c]) := Only.sets (S := fpv (.slice (some ⟨g, 0, none⟩) (l.length + 1) cap)) (.inl rfl) [.int .i64 c] 2 w1 (Only.refl _ _)
  refine ⟨?_, h2.trans (hw.below0 (fun x hx hs => ?_) h2.size), h3⟩
  · unfold Knd.O at *
    rw [List.length_cons] at *
    have q := ownsRow_setCells [.int .i64 c] w1 (KN.fl (x :: l)) 2 h1
    have e1 : KN.fl (x :: l) = [.int .u8 x.k, .int .i64 x.s] ++ (.int .i64 x.c :: KN.fl l) := by simp [Knd.fl, KN]
    have e2 : KN.fl ((⟨x.k, x.s, c⟩ : Rn) :: l) = [.int .u8 x.k, .int .i64 x.s] ++ (.int .i64 c :: KN.fl l) := by simp [Knd.fl, KN]
    have e4 := putAt_app [.int .i64 c] [.int .u8 x.k, .int .i64 x.s] (.int .i64 x.c :: KN.fl l) (by simp)
    rw [e1] at q
    rw [show [Value.int .u8 x.k, Value.int .i64 x.s].length = 2 from rfl] at e4
    rw [e4] at q
    rw [e2]
    simpa using q
  · have := h3 x hs
    omega
end Go.Proofs.Ytihmgkjmebdioaa
/- LedgerXxx's example: lives. -/
namespace Go.Proofs.Ytihmgkjmebdioaa
open Go.RowKit
set_option maxRecDepth 100000
set_option linter.unusedVariables false
set_option linter.unusedSimpArgs false
theorem cnt_two : cnt [⟨5, 16, 3⟩, ⟨8, 8, 1⟩] 5 = 3 := by decide
def livesL : List Rn := [⟨5, 16, 3⟩, ⟨8, 8, 1⟩]
end Go.Proofs.Ytihmgkjmebdioaa
/- A nil ledger: All, Len, Mark, Count, Since, Reset, Note. -/
namespace Go.Proofs.Ytihmgkjmebdioaa
open Go.RowKit
set_option maxRecDepth 100000
set_option linter.unusedVariables false
set_option linter.unusedSimpArgs false
theorem len_nil (w : World) : Calls Try.prog 21 #[.pointer none] w fun e w' => e = .returned (.int .i64 0) ∧ w = w' := by
  go_enter Try.func21, Try.ntmps21
  go_wp2
  go_ret
  exact ⟨rfl, rfl⟩
theorem run_eq_func_nil {P : Program} (d : Nat) (t : TypeId) {ps rs : Array TypeId} {v : Bool} (f : Fn) (b c : Array Value) (h : P.underlying t = some (.func ps rs v)) (w : World) : (Op.equalIn (d + 1) t (.func f b c) .nilFunc).run P w = .ok false w := by
  simp [Op.equalIn, run_underlying h]
/-- a range over an iterator that gives nothing -/
theorem wp_range_none {P : Program} {g : Operand} {ps : Array Tmp} {body : Code} {Q : Exit → Act → World → Prop} {a : Act} {w : World} {gf : Nat} {lb : Array Value} (hg : a.eval g = .func (.func gf) #[] lb) (eg : ∀ args w, (callFunc gf args).run P w = .ok (.enter gf args) w)
    (hps : ps.size = 1) (hseq : SeqStopsK Fence.wide 2 P gf lb (fun _ : Unit => #[undef]) (fun _ _ => True) (fun xs => xs = []) (fun _ => False) 0 w)
    (hdone : ∀ (D : Nat) (W : World), w.heap.size ≤ D → Below w.heap.size w W → W.heap[D]? = some (.deferred (some [])) → Q .normal { a with defers := { target := .collected D, args := #[] } :: a.defers } W) :
    (Code.rangeFunc g ps .skip body).wp P Q a w := by
  refine wpIn_wide.1 (wpIn_rangeFunc_ownF (n := 3) (α := Unit) rfl (by omega) (gf := gf) (lb := lb) hg trivial eg hseq (fun _ _ => trivial) (fun _ _ _ _ _ _ _ _ => trivial) (Below.refl _ _) (fun _ => by rw [hps]; rfl)
    (fun _ W => Below w.heap.size w W) (fun _ _ _ => False) (ownFrom_below (Nat.le_refl _) (Nat.le_refl _)) (fun _ _ _ _ _ h _ _ => h) (Below.refl _ _)
    (fun x => { tmps := (ps.zip #[undef]).foldl (fun t (p, v) => t.setIfInBounds p v) a.tmps, defers := [] }) ?assign ?body ?done ?stop)
  case assign =>
    intro l x W K hK
    gi_wp2
    simpa [hps] using hK
  case body => exact fun _ _ _ _ _ h => absurd h (Nat.not_lt_zero _)
  case done => exact fun D xs W hD _ hb hK => hdone D W hD hb hK
  case stop => exact fun _ _ _ _ _ h _ _ => h.elim
end Go.Proofs.Ytihmgkjmebdioaa
namespace Go.Proofs.Ytihmgkjmebdioaa
open Go.RowKit
set_option maxRecDepth 100000
set_option linter.unusedVariables false
set_option linter.unusedSimpArgs false

/-- the events of runs, one by one -/
def evs (rs : List Rn) : List (Int × Int) := rs.flatMap fun r => List.replicate r.c.toNat (r.k, r.s)
theorem evs_succ (rs : List Rn) (i : Nat) (r : Rn) (h : rs[i]? = some r) : evs (rs.take (i + 1)) = evs (rs.take i) ++ List.replicate r.c.toNat (r.k, r.s) := by
  have hl : i < rs.length := (List.getElem?_eq_some_iff.1 h).1
  have he : rs[i] = r := (List.getElem?_eq_some_iff.1 h).2
  rw [List.take_succ_eq_append_getElem hl, he]
  simp [evs]
theorem evs_split (rs : List Rn) (i : Nat) : evs rs = evs (rs.take i) ++ evs (rs.drop i) := by
  unfold evs
  rw [← List.flatMap_append, List.take_append_drop]
theorem evs_drop (rs : List Rn) (i : Nat) (r : Rn) (h : rs[i]? = some r) : evs (rs.drop i) = List.replicate r.c.toNat (r.k, r.s) ++ evs (rs.drop (i + 1)) := by
  have hl : i < rs.length := (List.getElem?_eq_some_iff.1 h).1
  have he : rs[i] = r := (List.getElem?_eq_some_iff.1 h).2
  rw [List.drop_eq_getElem_cons hl, he]
  simp [evs]
/-- what a loop's body keeps: cells of blocks that are not its own -/
structure Kpt (S : Nat → Prop) (W W' : World) : Prop where
  size : W.heap.size ≤ W'.heap.size
  same : ∀ (k : Nat) (o : Obj), W.heap[k]? = some o → o.isCells = true → ¬ S k → W'.heap[k]? = some o
theorem Kpt.refl (S : Nat → Prop) (W : World) : Kpt S W W := ⟨Nat.le_refl _, fun _ _ h _ _ => h⟩
theorem Kpt.trans {S : Nat → Prop} {A B C : World} (h : Kpt S A B) (k : Kpt S B C) : Kpt S A C := ⟨Nat.le_trans h.size k.size, fun i o hi ho hs => k.same i o (h.same i o hi ho hs) ho hs⟩
theorem Kpt.put {S : Nat → Prop} (W : World) (l : Nat) (o o' : Obj) (h : W.heap[l]? = some o) (ho : o.isCells = false) : Kpt S W (W.putObj l o') :=
  ⟨(grownBy_putObj' W l o').size, fun k x hk hx _ => ((grownBy_putObj' W l o').block k (Array.getElem?_eq_some_iff.1 hk).1 (fun e => by injection e with e; subst e; rw [h] at hk; injection hk with hk; subst hk; rw [ho] at hx; cases hx)).trans hk⟩
theorem Kpt.of_only {S : Nat → Prop} {W W' : World} (h : Only S W W') : Kpt S W W' := ⟨h.size, fun k o hk _ hs => (h.block k (Array.getElem?_eq_some_iff.1 hk).1 hs).trans hk⟩
theorem Kpt.cell {S : Nat → Prop} {W W' : World} (h : Kpt S W W') {a : Addr} {v : Value} (hc : W.cell? a = some v) (hs : ¬ S a.block) : W'.cell? a = some v := by
  have hb : ∃ cs t f, W.heap[a.block]? = some (.cells cs t f) := by
    unfold World.cell? at hc
    split at hc
    · exact ⟨_, _, _, by assumption⟩
    · cases hc
  obtain ⟨cs, t, f, hb⟩ := hb
  have := h.same a.block _ hb rfl hs
  unfold World.cell? at hc ⊢
  rw [hb] at hc
  rw [this]
  exact hc
/-- a row of runs, cell by cell -/
def RowC (W : World) (b off : Nat) (rs : List Rn) : Prop := ∀ i r, rs[i]? = some r → W.cell? ⟨b, off + i * 3, none⟩ = some (.int .u8 r.k) ∧ W.cell? ⟨b, off + i * 3 + 1, none⟩ = some (.int .i64 r.s) ∧ W.cell? ⟨b, off + i * 3 + 2, none⟩ = some (.int .i64 r.c)
theorem RowC.kept {S : Nat → Prop} {W W' : World} {b off : Nat} {rs : List Rn} (h : RowC W b off rs) (hk : Kpt S W W') (hs : ¬ S b) : RowC W' b off rs := fun i r hr =>
  ⟨hk.cell (h i r hr).1 hs, hk.cell (h i r hr).2.1 hs, hk.cell (h i r hr).2.2 hs⟩
def enc2 (x : Int × Int) : Array Value := #[.agg #[.int .u8 x.1, .int .i64 x.2]]
/-- a range over a function, in a plain walk: the loop's variable is boxed -/
theorem wp_range_H {P : Program} {α : Type} {g : Operand} {ps : Array Tmp} {assign body : Code} {Q : Exit → Act → World → Prop} {a : Act} {w : World} {gf : Nat} {lb : Array Value} (hg : a.eval g = .func (.func gf) #[] lb) (eg : ∀ args w, (callFunc gf args).run P w = .ok (.enter gf args) w)
    {encs : α → Array Value} {S : Nat → Prop} {Sx Sp : List α → Prop} {N : Nat} (hseq : SeqStopsK Fence.wide 2 P gf lb encs (Kpt S) Sx Sp N w) (hps : ∀ x, (encs x).size = ps.size)
    (I : List α → World → Prop) (Ix : Code → List α → World → Prop) (hI : OwnFrom w.heap.size I) (hIx : ∀ c, OwnFrom w.heap.size (Ix c)) (h0 : I [] w) (Ax : α → Act → World → Prop) (hAx : ∀ x a', OwnFrom w.heap.size (fun (_ : Unit) W => Ax x a' W))
    (hassign : ∀ (l : Nat) (pre : List α) (x : α) (W : World) (K : Act → World → Prop), I pre W → (∀ a' W', KeepsFrom w.heap.size W W' → Kpt S W W' → I pre W' → Ax x a' W' → K a' W') →
      assign.wpIn (Fence.wide.inRound l) 1 P (Exit.then K (fun _ _ _ => False)) { tmps := (ps.zip (encs x)).foldl (fun t (p, v) => t.setIfInBounds p v) a.tmps, defers := [] } W)
    (hbody : ∀ (l : Nat) (pre : List α) (x : α) (a' : Act) (W : World), I pre W → Ax x a' W → pre.length < N → body.wpIn (Fence.wide.inRound l) 1 P (ownPostG w.heap.size (Kpt S) I Ix (pre ++ [x]) W) a' W)
    (hdone : ∀ (D : Nat) (xs : List α) (W : World), w.heap.size ≤ D → Sx xs → I xs W → W.heap[D]? = some (.deferred (some [])) → Q .normal { a with defers := { target := .collected D, args := #[] } :: a.defers } W)
    (hstop : ∀ (D : Nat) (c : Code) (pre : List α) (W : World), w.heap.size ≤ D → Sp pre → Ix c pre W → W.heap[D]? = some (.deferred (some [])) → c.wp P Q { a with defers := { target := .collected D, args := #[] } :: a.defers } W) :
    (Code.rangeFunc g ps assign body).wp P Q a w :=
  wpIn_wide.1 (wpIn_rangeFunc_ownH (n := 3) rfl (by omega) hg trivial eg hseq (fun h k => h.trans k) (fun W l o o' _ h ho _ => Kpt.put W l o o' h ho) (Below.refl _ _) hps I Ix hI hIx h0 Ax hAx hassign (fun l pre x a' W _ _ hi hax hl => hbody l pre x a' W hi hax hl) hdone (fun D c pre W h1 h2 h3 h4 => wpIn_wide.2 (hstop D c pre W h1 h2 h3 h4)))
/-- .. whose variable is an event in a box -/
def evA (a : Act) (j k : Tmp) (x : Int × Int) (b : Nat) : Act := { tmps := (a.tmps.setIfInBounds k (.agg #[.int .u8 x.1, .int .i64 x.2])).setIfInBounds j (.pointer (some ⟨b, 0, none⟩)), defers := [] }
theorem wp_range_ev {P : Program} {g : Operand} (j : Tmp) {k : Tmp} {assign body : Code} {Q : Exit → Act → World → Prop} {a : Act} {w : World} {gf : Nat} {lb : Array Value} (hg : a.eval g = .func (.func gf) #[] lb) (eg : ∀ args w, (callFunc gf args).run P w = .ok (.enter gf args) w)
    {S : Nat → Prop} {Sx Sp : List (Int × Int) → Prop} {N : Nat} (hseq : SeqStopsK Fence.wide 2 P gf lb enc2 (Kpt S) Sx Sp N w)
    (I : List (Int × Int) → World → Prop) (Ix : Code → List (Int × Int) → World → Prop) (hI : OwnFrom w.heap.size I) (hIx : ∀ c, OwnFrom w.heap.size (Ix c)) (h0 : I [] w)
    (hassign : ∀ (l : Nat) (pre : List (Int × Int)) (x : Int × Int) (W : World) (K : Act → World → Prop), I pre W →
      (∀ (b : Nat) W', KeepsFrom w.heap.size W W' → Kpt S W W' → I pre W' → w.heap.size ≤ b → W'.cell? ⟨b, 0, none⟩ = some (.int .u8 x.1) → W'.cell? ⟨b, 1, none⟩ = some (.int .i64 x.2) → K (evA a j k x b) W') →
      assign.wpIn (Fence.wide.inRound l) 1 P (Exit.then K (fun _ _ _ => False)) { tmps := a.tmps.setIfInBounds k (.agg #[.int .u8 x.1, .int .i64 x.2]), defers := [] } W)
    (hbody : ∀ (l : Nat) (pre : List (Int × Int)) (x : Int × Int) (b : Nat) (W : World), I pre W → w.heap.size ≤ b → W.cell? ⟨b, 0, none⟩ = some (.int .u8 x.1) → W.cell? ⟨b, 1, none⟩ = some (.int .i64 x.2) → pre.length < N →
      body.wpIn (Fence.wide.inRound l) 1 P (ownPostG w.heap.size (Kpt S) I Ix (pre ++ [x]) W) (evA a j k x b) W)
    (hdone : ∀ (D : Nat) (xs : List (Int × Int)) (W : World), w.heap.size ≤ D → Sx xs → I xs W → W.heap[D]? = some (.deferred (some [])) → Q .normal { a with defers := { target := .collected D, args := #[] } :: a.defers } W)
    (hstop : ∀ (D : Nat) (c : Code) (pre : List (Int × Int)) (W : World), w.heap.size ≤ D → Sp pre → Ix c pre W → W.heap[D]? = some (.deferred (some [])) → c.wp P Q { a with defers := { target := .collected D, args := #[] } :: a.defers } W) :
    (Code.rangeFunc g #[k] assign body).wp P Q a w :=
  wp_range_H hg eg hseq (fun _ => rfl) I Ix hI hIx h0 (fun x a' W => ∃ b, w.heap.size ≤ b ∧ W.cell? ⟨b, 0, none⟩ = some (.int .u8 x.1) ∧ W.cell? ⟨b, 1, none⟩ = some (.int .i64 x.2) ∧ a' = evA a j k x b)
    (fun x a' s W W' row hs hg hr => by
      obtain ⟨b, h1, h2, h3, h4⟩ := hs
      exact ⟨b, h1, cell_kept h2 hg (fun r e => (hr r e).2), cell_kept h3 hg (fun r e => (hr r e).2), h4⟩)
    (fun l pre x W K hi hK => by
      have e : (#[k].zip (enc2 x)).foldl (fun t (p, v) => t.setIfInBounds p v) a.tmps = a.tmps.setIfInBounds k (.agg #[.int .u8 x.1, .int .i64 x.2]) := by simp [enc2]
      rw [e]
      exact hassign l pre x W K hi (fun b W' h1 h2 h3 h4 h5 h6 => hK _ W' h1 h2 h3 ⟨b, h4, h5, h6, rfl⟩))
    (fun l pre x a' W hi hax hl => by
      obtain ⟨b, h1, h2, h3, rfl⟩ := hax
      exact hbody l pre x b W hi h1 h2 h3 hl)
    hdone hstop
theorem Env.apartK {w0 w : World} {obs : List Ob} (h : Env w0 w obs) (i j : Nat) (hij : j ≠ i) {b : Nat} {t : TypeId} {cs : Array Value} (hi : obs[i]? = some (obK b t cs)) {ob : Ob} (hj : obs[j]? = some ob) : ∃ F, ob.at' w F ∧ ¬ F b := by
  obtain ⟨F, ⟨_, rfl⟩, _, h3, _⟩ := h.get i hi
  obtain ⟨F2, h5, h6⟩ := h3 j ob hij hj
  exact ⟨F2, h5, fun hb => h6 b hb rfl⟩
theorem Env.apartKK {w0 w : World} {obs : List Ob} (h : Env w0 w obs) (i j : Nat) (hij : j ≠ i) {b c : Nat} {t u : TypeId} {cs ds : Array Value} (hi : obs[i]? = some (obK b t cs)) (hj : obs[j]? = some (obK c u ds)) : b ≠ c := by
  obtain ⟨F, ⟨_, rfl⟩, h2⟩ := h.apartK i j hij hi hj
  exact h2
theorem Env.apartKR {w0 w : World} {obs : List Ob} (h : Env w0 w obs) (i j : Nat) (hij : j ≠ i) {b : Nat} {t : TypeId} {cs : Array Value} {v : Value} {rs : List Rn} (hi : obs[i]? = some (obK b t cs)) (hj : obs[j]? = some (obRuns v rs)) : v.ownBlock ≠ some b := by
  obtain ⟨F, ⟨_, hF⟩, h2⟩ := h.apartK i j hij hi hj
  intro e
  rw [hF] at h2
  exact h2 e
/-- some things at the end have turned: the others stay -/
theorem Env.except {w0 w w' : World} {A B : List Ob} (h : Env w0 w (A ++ B)) {S : Nat → Prop} (ho : Only S w w') (hS : ∀ x, S x → ∃ (j : Nat) (t : TypeId) (cs : Array Value), B[j]? = some (obK x t cs)) : Env w0 w' A := by
  obtain ⟨own, h1, h2⟩ := h
  have hown : ∀ x, S x → A.length + 1 ≤ own x := by
    intro x hx
    obtain ⟨j, t, cs, hj⟩ := hS x hx
    obtain ⟨F, ⟨_, rfl⟩, h4⟩ := h2 (A.length + j) _ (by rw [List.getElem?_append_right (by omega), Nat.add_sub_cancel_left]; exact hj)
    rw [(h4 x rfl).1]
    omega
  have hst : St w0 (fun x => if A.length + 1 ≤ own x then A.length + 1 else own x) w := ⟨h1.below, fun x hx => by
    show (if A.length + 1 ≤ own x then A.length + 1 else own x) = 0
    rw [h1.old x hx, if_neg (by omega)]⟩
  refine ⟨_, hst.step (i := A.length + 1) (by omega) ho (fun x hx => by rw [if_pos (hown x hx)]), fun i ob hi => ?_⟩
  have hlt : i < A.length := (List.getElem?_eq_some_iff.1 hi).1
  obtain ⟨F, h3, h4⟩ := h2 i ob (by rw [List.getElem?_append_left hlt]; exact hi)
  refine ⟨F, ob.keep h3 ho (fun x hx hs => ?_), Own.keep (fun x hx => ⟨?_, (h4 x hx).2⟩) ho.size⟩
  · have := hown x hs
    rw [(h4 x hx).1] at this
    omega
  · show (if A.length + 1 ≤ own x then A.length + 1 else own x) = i + 1
    rw [(h4 x hx).1, if_neg (by omega)]
theorem KeepsFrom.of_only {S : Nat → Prop} {B : Nat} {W W' : World} (h : Only S W W') (hS : ∀ x, S x → x < B) : KeepsFrom B W W' :=
  ⟨h.size, fun k o hB hk _ => (h.block k (Array.getElem?_eq_some_iff.1 hk).1 (fun hs => absurd (hS k hs) (by omega))).trans hk⟩
/-- a variable in a box -/
def Bx (W : World) (b : Nat) (v : Value) : Prop := W.cell? ⟨b, 0, none⟩ = some v ∧ W.frozen? ⟨b, 0, none⟩ = false
theorem Bx.kept {W W' : World} {b : Nat} {v : Value} (h : Bx W b v) {row : Option Nat} (hg : W.grownBy W' row) (hr : ∀ r, row = some r → ∃ o : Obj, W.heap[r]? = some o ∧ o.isCells = false) : Bx W' b v :=
  ⟨cell_kept h.1 hg hr, (frozen_kept h.1 hg hr).trans h.2⟩
theorem Bx.set {W : World} {b : Nat} {v : Value} (h : Bx W b v) (u : Value) : Bx (W.setCell ⟨b, 0, none⟩ u) b u :=
  ⟨World.cell?_setCell_same' _ _ _ (by rw [h.1]; rfl), by rw [World.frozen?_setCell]; exact h.2⟩
theorem Bx.other {W : World} {b c : Nat} {v : Value} (h : Bx W b v) (hne : b ≠ c) (u : Value) : Bx (W.setCell ⟨c, 0, none⟩ u) b v :=
  ⟨by rw [World.cell?_setCell_far _ _ _ _ (fun e => hne e.symm)]; exact h.1, by rw [World.frozen?_setCell]; exact h.2⟩
theorem Bx.drew {W : World} {b : Nat} {v : Value} (h : Bx W b v) : Bx W.drew b v := ⟨h.1, h.2⟩
theorem Bx.only {S : Nat → Prop} {W W' : World} {b : Nat} {v : Value} (h : Bx W b v) (ho : Only S W W') (hs : ¬ S b) : Bx W' b v := by
  have hl := World.block_lt_of_cell? W _ h.1
  exact ⟨(ho.cell hl hs).trans h.1, (ho.frozen hl hs).trans h.2⟩
theorem Bx.new (W : World) (v : Value) (t : TypeId) (b : Nat) (hb : b = W.heap.size) : Bx (W.alloc (.cells #[v] t)) b v := by
  subst hb
  exact ⟨by rw [World.cell?_alloc_new]; rfl, (Blk.new W t #[v]).unfrozen 0⟩
end Go.Proofs.Ytihmgkjmebdioaa
