/- The contracts of package aes: New, KeyLen, Form, Clone, Wipe. -/
import Derived.Test.YtihmgkjmebdioaaRows
import Derived.Test.YtihmgkjmebdioaaAesExpWalk
import Derived.Test.YtihmgkjmebdioaaAesDec
import Derived.Test.YtihmgkjmebdioaaBytes
import Derived.Laws.Tables
namespace Go.Proofs.Ytihmgkjmebdioaa
open Go.RowKit
set_option maxRecDepth 100000
set_option linter.unusedVariables false
set_option linter.unusedSimpArgs false

theorem over_list (off : Nat) : ∀ (vs a b : List Value) (n : Nat), a.length = off + n → vs.length = b.length → (vs.zipIdx n).foldl (fun (cs : Array Value) (p : Value × Nat) => cs.setIfInBounds (off + p.2) p.1) (a ++ b).toArray = (a ++ vs).toArray
  | [], a, [], n, _, _ => by simp
  | v :: vs, a, y :: b, n, h, h2 => by
    rw [List.zipIdx_cons, List.foldl_cons]
    have e : (a ++ y :: b).toArray.setIfInBounds (off + n) v = ((a ++ [v]) ++ b).toArray := by
      rw [List.setIfInBounds_toArray, ← h, List.set_append_right _ _ (Nat.le_refl _), Nat.sub_self, List.set_cons_zero, List.append_assoc]
      rfl
    have := over_list off vs (a ++ [v]) b (n + 1) (by simp; omega) (by simpa using h2)
    simp only [e]
    rw [this, List.append_assoc]
    rfl
  | [], a, y :: b, n, _, h2 => by simp at h2
  | v :: vs, a, [], n, _, h2 => by simp at h2
theorem built_cip (k : Nat) (S : List UInt8) (hS : S.length = 240) : Try.prog.built 68 [(0, .int .i64 (k : Int)), (1, .agg (barr S))] = some (cipC k S) := by
  have h : ∀ parts, Try.prog.built 68 parts = Instr.fill (#[((0 : Nat), (1 : Nat)), (1, 240)][·]?) (cipC 0 (List.replicate 240 0)) parts := by intro parts; kernel_rfl
  rw [h]
  have h0 : (cipC 0 (List.replicate 240 0)).setIfInBounds 0 (.int .i64 (k : Int)) = ([Value.int .i64 (k : Int)] ++ (List.replicate 240 (0 : UInt8)).map B).toArray := by
    unfold cipC
    rw [List.setIfInBounds_toArray, List.set_cons_zero]
    rfl
  have e1 : (Value.int .i64 (k : Int)).cells = #[.int .i64 (k : Int)] := rfl
  have e2 : (Value.agg (barr S)).cells = barr S := rfl
  have s0 : (cipC 0 (List.replicate 240 0)).size = 241 := by rw [cipC_size]; simp
  have s1 : ((cipC 0 (List.replicate 240 0)).setIfInBounds 0 (.int .i64 (k : Int))).size = 241 := by rw [Array.size_setIfInBounds, s0]
  have f1 : (#[Value.int .i64 (k : Int)] : Array Value).zipIdx.foldl (fun cs x => cs.setIfInBounds (0 + x.snd) x.fst) (cipC 0 (List.replicate 240 0)) = (cipC 0 (List.replicate 240 0)).setIfInBounds 0 (.int .i64 (k : Int)) := by simp
  have f2 : (barr S).zipIdx.foldl (fun cs x => cs.setIfInBounds (1 + x.snd) x.fst) ((cipC 0 (List.replicate 240 0)).setIfInBounds 0 (.int .i64 (k : Int))) = cipC k S := by
    rw [h0, ← Array.foldl_toList, Array.toList_zipIdx, barr_toList]
    exact over_list 1 (S.map B) [Value.int .i64 (k : Int)] ((List.replicate 240 (0 : UInt8)).map B) 0 rfl (by rw [List.length_map, List.length_map, hS, List.length_replicate])
  simp only [Instr.fill, e1, e2, show (#[((0 : Nat), (1 : Nat)), (1, 240)] : Array (Nat × Nat))[0]? = some (0, 1) from rfl, show (#[((0 : Nat), (1 : Nat)), (1, 240)] : Array (Nat × Nat))[1]? = some (1, 240) from rfl]
  rw [f1, s0, s1, barr_size, hS, f2]
  rfl
theorem wpList_build_as {P : Program} {ops : Array Oper} {rest : List Oper} {a : Act} {w : World} {Q : Exit → Act → World → Prop} {d : Option Tmp} {t ot : TypeId} {parts : Array (Nat × Operand)} {pos : String} {aft : Array Edge} (cells : Array Value) (ps : List (Nat × Value))
    (hp : (parts.map fun (i, x) => (i, a.eval x)).toList = ps) (hb : P.built t ps = some cells) (kk : wpList P ops Q rest (a.put d (.agg cells)) w) : wpList P ops Q (⟨d, .build t parts, ot, pos, aft, none⟩ :: rest) a w := by
  refine wpList_build rfl t parts rfl (by rw [hp, hb]; rfl) ?_
  rw [hp, hb]
  exact kk
theorem wpList_build2_as {P : Program} {ops : Array Oper} {rest : List Oper} {a : Act} {w : World} {Q : Exit → Act → World → Prop} {d : Option Tmp} {t ot : TypeId} {i0 i1 : Nat} {x0 x1 : Operand} {pos : String} {aft : Array Edge} (cells : Array Value) (v0 v1 : Value)
    (h0 : a.eval x0 = v0) (h1 : a.eval x1 = v1) (hb : P.built t [(i0, v0), (i1, v1)] = some cells) (kk : wpList P ops Q rest (a.put d (.agg cells)) w) : wpList P ops Q (⟨d, .build t #[(i0, x0), (i1, x1)], ot, pos, aft, none⟩ :: rest) a w :=
  wpList_build_as cells [(i0, v0), (i1, v1)] (by simp [h0, h1]) hb kk
set_option maxHeartbeats 1000000 in
theorem newC_off (q u : Value) (key : List UInt8) (w : World) (hu : Bs w u key) (hk : ¬ key.length = 16 ∧ ¬ key.length = 24 ∧ ¬ key.length = 32) :
    Calls Try.prog 9 #[q, u] w fun e w' => e = .returned (.tuple #[.pointer none, .int .i64 7]) ∧ w = w' := by
  obtain ⟨ao, cap, rfl, h1, h2, _, _⟩ := hu.form
  have hla : key.length ≤ 9223372036854775807 := by omega
  obtain ⟨n, hn⟩ : ∃ n, key.length = n := ⟨_, rfl⟩
  rw [hn] at hk hla
  have b1 : ((n : Int) != 16) = true := by simp; omega
  have b2 : ((n : Int) != 24) = true := by simp; omega
  have b3 : ((n : Int) != 32) = true := by simp; omega
  rw [hn]
  clear hu hk hn h1
  go_enter Try.func9, Try.ntmps9
  go_wp2
  go_ret2
  exact ⟨rfl, rfl⟩
def RightLen (n : Nat) : Prop := n = 16 ∨ n = 24 ∨ n = 32
set_option maxHeartbeats 2000000 in
theorem newC_any (q u : Value) (G : Nat → Prop) (o : Option (List Rn)) (key : List UInt8) (w : World) (hq : LgP w q G o) (hb : Room o 1) (hu : Bs w u key) (hd : key ≠ [] → ∀ x, u.ownBlock = some x → ¬ G x) (hk : RightLen key.length) :
    Calls Try.prog 9 #[q, u] w fun e w' => ∃ w1 n, LaidP q G (noteO o 4 key.length 1) w w1 ∧ e = .returned (.tuple #[.pointer (some ⟨n, 0, none⟩), .int .i64 0]) ∧ CipAt w' n key.length (sched key) ∧ Below w1.heap.size w1 w' ∧ w1.heap.size ≤ n := by
  have HU := Lib.hid hu
  have HQ := Lib.hid hq
  have HD := Lib.hid hd
  obtain ⟨ao, cap, rfl, h1, h2, _, _⟩ := hu.form
  have hla : key.length ≤ 9223372036854775807 := by omega
  obtain ⟨k, hk4, hkk⟩ : ∃ k, key.length = 4 * k ∧ (k = 4 ∨ k = 6 ∨ k = 8) := by
    rcases hk with h | h | h
    · exact ⟨4, h, .inl rfl⟩
    · exact ⟨6, h, .inr (.inl rfl)⟩
    · exact ⟨8, h, .inr (.inr rfl)⟩
  have HK := Lib.hid (And.intro hk4 hkk)
  obtain ⟨n, hn⟩ : ∃ n, key.length = n := ⟨_, rfl⟩
  have hbs : ((n : Int) != 16) = false ∨ (((n : Int) != 16) = true ∧ ((n : Int) != 24) = false) ∨ (((n : Int) != 16) = true ∧ ((n : Int) != 24) = true ∧ ((n : Int) != 32) = false) := by
    rw [hn] at hk
    rcases hk with rfl | rfl | rfl
    · left; rfl
    · right; left; exact ⟨rfl, rfl⟩
    · right; right; exact ⟨rfl, rfl, rfl⟩
  have hn32 : n ≤ 32 := by rw [← hn]; rcases hk with h | h | h <;> omega
  have HN := Lib.hid hn
  rw [hn]
  rw [hn] at HU HD hla h1
  clear hu hq hd hk hk4 hkk hn
  go_enter Try.func9, Try.ntmps9
  have hS : (sched key).length = 240 := sched_len key (by rw [HN.out]; omega)
  rcases hbs with b1 | ⟨b1, b2⟩ | ⟨b1, b2, b3⟩
  all_goals
    go_wp2_with fail
    refine (gnoteP_any q G o 4 n w HQ.out hb).mono ?_
    rintro e w1 ⟨rfl, hl⟩
    have HL := Lib.hid hl
    have U1 := Lib.hid (HU.out.only' hl.only HD.out)
    clear hl
    go_wp2_with fail
    refine (expanded_any _ key (n / 4) w1 U1.out (by have h1 := HK.out; have h2 := HN.out; omega) (by have h1 := HK.out; have h2 := HN.out; omega)).mono ?_
    rintro e w2 ⟨rfl, hb2⟩
    have HB2 := Lib.hid hb2
    clear hb2
    go_wp2_with ((with_reducible change wpList _ _ _ (Oper.mk _ (Op.build 68 _) _ _ _ _ :: _) _ _); refine wpList_build2_as (cipC n (sched key)) (.int .i64 (n : Int)) (.agg (barr (sched key))) rfl rfl (built_cip n (sched key) hS) ?_)
    go_ret2
    exact ⟨w1, w2.heap.size, HL.out, rfl, ⟨Blk.new _ _ _, hS⟩, HB2.out.alloc HB2.out.size _, HB2.out.size⟩
end Go.Proofs.Ytihmgkjmebdioaa
