/- The statement CostKnown: for every input turnkey/turnkeylaw22.CostKnown returns true, and each argument reads as it did. Its walk is proved in CostKnown; here is the step from the walk to the row. -/
import Derived.Test.YtkidijjhedjifaaRows
import Derived.Shelf.SortM.Plain
import Derived.Test.YtkidijjhedjifaaProg
import Derived.Lib.SlKeysI
import Derived.Test.YtkidijjhedjifaaQB0
import Derived.Test.YtkidijjhedjifaaQB2
import Derived.Test.YtkidijjhedjifaaQB5
import Derived.Test.YtkidijjhedjifaaQB9
/- CostKnown, the plain law: a vault that is full. -/
namespace Go.Proofs.Ytkidijjhedjifaa
set_option linter.unusedVariables false
set_option linter.unusedSimpArgs false
/-- keys of 0, 1, .. bytes under the handles 0, 1, .. below n -/
def fillS (n : Nat) : Hs := fun h => if 0 ≤ h ∧ h < (n : Int) then some ⟨0, 0, h, 0, 0⟩ else none
def putSk (n : Nat) : Sk := ⟨1, 0, 0, 0, 0, (n : Int), 0⟩
theorem freeTo_least (σ : Hs) {h : Nat} : ∀ n k, freeTo σ n k = some h → ∀ j, k ≤ j → j < h → (σ (j : Int)).isSome = true
  | 0, k, e => by simp [freeTo] at e
  | n + 1, k, e => by
    intro j h1 h2
    cases hs : (σ (k : Int)).isSome
    · rw [freeTo_is σ n k hs] at e
      injection e with e
      omega
    · rw [freeTo_held σ n k hs] at e
      by_cases e2 : j = k
      · rw [e2]; exact hs
      · exact freeTo_least σ n (k + 1) e j (by omega) h2
theorem fillS_at (n : Nat) (j : Nat) : (fillS n (j : Int)).isSome = decide (j < n) := by
  unfold fillS
  by_cases h : j < n
  · rw [if_pos (by omega), decide_eq_true h]; rfl
  · rw [if_neg (by omega), decide_eq_false h]; rfl
theorem fillS_free (n : Nat) (h : n < 64) : freeH (fillS n) = some n := by
  cases e : freeH (fillS n) with
  | none =>
    have := (freeTo_none (fillS n) 64 0).1 e n (by omega) (by omega)
    rw [fillS_at, decide_eq_true_eq] at this
    omega
  | some x =>
    obtain ⟨h1, _, h2⟩ := freeTo_some (fillS n) 64 0 e
    have h3 := freeTo_least (fillS n) 64 0 e
    have h4 : ¬ x < n := by
      intro hx
      have := fillS_at n x
      rw [h1, decide_eq_true hx] at this
      cases this
    by_cases h5 : x = n
    · rw [h5]
    · have := h3 n (by omega) (by omega)
      rw [fillS_at, decide_eq_true_eq] at this
      omega
theorem fillS_full : cntH (fillS 64) = 64 := by
  unfold cntH
  rw [cntHT_full]
  intro k hk
  rw [fillS_at, decide_eq_true hk]
theorem fillS_put (n : Nat) : (fillS n).put (n : Int) (some ⟨0, 0, (n : Int), 0, 0⟩) = fillS (n + 1) := by
  funext x
  unfold Hs.put fillS
  by_cases h : x = (n : Int)
  · rw [if_pos h, if_pos (by omega), h]
  · rw [if_neg h]
    by_cases h2 : 0 ≤ x ∧ x < (n : Int)
    · rw [if_pos h2, if_pos (by omega)]
    · rw [if_neg h2, if_neg (by omega)]
theorem put_code (n : Nat) (h : n < 64) : codeD (fillS n) (putSk n) = 0 := by
  have hc : cntH (fillS n) ≠ 64 := fun e => by
    have := (full_free (fillS n)).1 e
    rw [fillS_free n h] at this
    cases this
  have hd : (putSk n).clip = putSk n := by
    unfold Sk.clip putSk
    simp only [Sk.mk.injEq, true_and]
    omega
  unfold codeD
  rw [hd]
  show (if (512 : Int) < (n : Int) then 7 else roomC (fillS n)) = 0
  rw [if_neg (by omega)]
  unfold roomC
  rw [if_neg hc]
theorem put_next (n : Nat) (h : n < 64) : nxD (fillS n) (putSk n) = fillS (n + 1) := by
  have hd : (putSk n).clip = putSk n := by
    unfold Sk.clip putSk
    simp only [Sk.mk.injEq, true_and]
    omega
  unfold nxD
  rw [if_pos (put_code n h), hd]
  show takeH (fillS n) ⟨0, 0, (n : Int), 0, 0⟩ = _
  unfold takeH
  rw [fillS_free n h]
  exact fillS_put n
theorem fillS_ok (n : Nat) (h : n ≤ 64) : OKh 0 (fillS n) := by
  constructor
  · intro x t e
    unfold fillS at e
    split at e
    · omega
    · cases e
  · intro x t e
    unfold fillS at e
    split at e
    · injection e with e
      subst e
      exact key_ok 0 x (Int.le_refl 0) (by omega) (by omega)
    · cases e
/-- the state behind the eight -/
def full7 : Hs := (fillS 64).put 9 none
def full8 : Hs := full7.put 9 (some ⟨5, 64, 16, 64, 0⟩)
theorem fillS_zero : hs0 = fillS 0 := by
  funext x
  unfold fillS hs0
  rw [if_neg (by omega)]
def s1 : Sk := ⟨1, 0, 0, 0, 0, 513, 0⟩
def s2 : Sk := ⟨1, 0, 0, 0, 0, 512, 0⟩
def s3 : Sk := ⟨6, 64, 0, 0, 0, 0, 0⟩
def s4 : Sk := ⟨6, 63, 0, 0, 0, 0, 0⟩
def s5 : Sk := ⟨2, 17, 3, 0, 16, 0, 0⟩
def s6 : Sk := ⟨2, 16, 3, 0, 16, 0, 0⟩
def s7 : Sk := ⟨10, 9, 0, 0, 0, 0, 0⟩
def s8 : Sk := ⟨2, 16, 5, 0, 64, 64, 0⟩
theorem full_codes : codeD (fillS 64) s1 = 7 ∧ codeD (fillS 64) s2 = 8 ∧ codeD (fillS 64) s3 = 5 ∧ codeD (fillS 64) s4 = 8 ∧ codeD (fillS 64) s5 = 7 ∧ codeD (fillS 64) s6 = 8 ∧ codeD (fillS 64) s7 = 0 ∧ codeD full7 s8 = 0 := by
  decide
theorem full_runs : runsD full7 s8 = [⟨11, 2, 1⟩, ⟨3, 200, 2⟩, ⟨12, 0, 1⟩] := by decide
theorem nx_off {σ : Hs} {s : Sk} (h : codeD σ s ≠ 0) : nxD σ s = σ := if_neg h
theorem full_nx7 : nxD (fillS 64) s7 = full7 := by
  unfold nxD
  rw [if_pos full_codes.2.2.2.2.2.2.1]
  rfl
theorem full7_free : freeH full7 = some 9 := by decide
theorem full_nx8 : nxD full7 s8 = full8 := by
  unfold nxD
  rw [if_pos full_codes.2.2.2.2.2.2.2]
  show takeH full7 _ = full8
  unfold takeH
  rw [full7_free]
  rfl
theorem full8_cnt : cntH full8 = 64 := by decide
/-! ### the sponge's ends -/
def kecL (l : List Rn) : Int := l.foldl (fun n r => if r.k = 3 ∧ r.s = 200 then n + r.c else n) 0
def spA (key : Int) : Sk := ⟨1, 0, 0, 0, 0, key, 0⟩
def spB (out : Int) : Sk := ⟨2, 0, 4, 0, out, 0, 0⟩
def spC (msg : Int) : Sk := ⟨3, 1, 0, 0, 0, msg, 0⟩
def spD : Sk := ⟨4, 1, 0, 0, 0, 0, 0⟩
def sp1 (key : Int) : Hs := nxD hs0 (spA key)
def sp2 (key out : Int) : Hs := nxD (sp1 key) (spB out)
def sp3 (key msg out : Int) : Hs := nxD (sp2 key out) (spC msg)
def spR (key msg out a b c : Int) : Bool := decide (codeD (sp1 key) (spB out) = 0) && decide (codeD (sp2 key out) (spC msg) = 0) && decide (codeD (sp3 key msg out) spD = 0) &&
  decide (kecL (runsD (sp1 key) (spB out)) = a) && decide (kecL (runsD (sp2 key out) (spC msg)) = b) && decide (kecL (runsD (sp3 key msg out) spD) = c)
theorem sp_1 : spR 163 165 32 2 0 2 = true := by decide
theorem sp_2 : spR 164 165 31 3 0 1 = true := by decide
theorem sp_3 : spR 31 166 31 2 0 2 = true := by decide
theorem sp_4 : spR 0 164 32 2 0 1 = true := by decide
theorem sp_5 : spR 331 168 64 3 1 1 = true := by decide
theorem sp_6 : spR 332 333 64 4 1 2 = true := by decide
end Go.Proofs.Ytkidijjhedjifaa
/- CostKnown's helpers: sponged, edges. -/
namespace Go.Proofs.Ytkidijjhedjifaa
open Go.RowKit
set_option maxRecDepth 100000
set_option linter.unusedVariables false
set_option linter.unusedSimpArgs false
attribute [local go_sem] Oper.semAt_some
theorem kecL_snoc (l : List Rn) (x : Rn) : kecL (l ++ [x]) = if x.k = 3 ∧ x.s = 200 then kecL l + x.c else kecL l := by
  unfold kecL
  rw [List.foldl_append]
  rfl
theorem kecL_take (l : List Rn) {k : Nat} {x : Rn} (h : l[k]? = some x) : kecL (l.take (k + 1)) = if x.k = 3 ∧ x.s = 200 then kecL (l.take k) + x.c else kecL (l.take k) := by
  rw [List.take_add_one, h]
  exact kecL_snoc _ _
theorem kec_from : ∀ (l : List Rn) (n : Int), Posi l → n ≤ l.foldl (fun n r => if r.k = 3 ∧ r.s = 200 then n + r.c else n) n ∧ l.foldl (fun n r => if r.k = 3 ∧ r.s = 200 then n + r.c else n) n ≤ n + tot l
  | [], n, _ => by simp [tot]
  | r :: l, n, h => by
    have h1 := h r (by simp)
    have h2 := kec_from l (if r.k = 3 ∧ r.s = 200 then n + r.c else n) (fun x hx => h x (by simp [hx]))
    have e : tot (r :: l) = r.c + tot l := by simp [tot]
    rw [e]
    simp only [List.foldl_cons]
    split at h2 <;> rename_i hc
    · rw [if_pos hc]; omega
    · rw [if_neg hc]; omega
theorem kec_rng {l : List Rn} (h : Posi l) (k : Nat) : 0 ≤ kecL (l.take k) ∧ kecL (l.take k) ≤ tot l := by
  have h1 := kec_from (l.take k) 0 (fun x hx => h x (List.mem_of_mem_take hx))
  have h2 := tot_take l h k
  unfold kecL
  omega
def spS (out msg : Int) : List Sk := [spB out, spC msg, spD]
theorem spS_at {w : World} {L : Nat} {t : TypeId} {out msg : Int} (h : Blk w L t (KS.fl (spS out msg)).toArray) {j : Nat} {s : Sk} (hs : (spS out msg)[j]? = some s) : SkAt w L (j * 7) s := by
  match j, hs with
  | 0, hs => injection hs with hs; subst hs; exact ⟨h.cellAt 0 rfl, h.cellAt 1 rfl, h.cellAt 2 rfl, h.cellAt 3 rfl, h.cellAt 4 rfl, h.cellAt 5 rfl, h.cellAt 6 rfl⟩
  | 1, hs => injection hs with hs; subst hs; exact ⟨h.cellAt 7 rfl, h.cellAt 8 rfl, h.cellAt 9 rfl, h.cellAt 10 rfl, h.cellAt 11 rfl, h.cellAt 12 rfl, h.cellAt 13 rfl⟩
  | 2, hs => injection hs with hs; subst hs; exact ⟨h.cellAt 14 rfl, h.cellAt 15 rfl, h.cellAt 16 rfl, h.cellAt 17 rfl, h.cellAt 18 rfl, h.cellAt 19 rfl, h.cellAt 20 rfl⟩
  | n + 3, hs => simp [spS] at hs
/-- the states -/
def spT (key msg out : Int) : Nat → Hs
  | 0 => sp1 key
  | 1 => sp2 key out
  | 2 => sp3 key msg out
  | _ => nxD (sp3 key msg out) spD
def spN (a b c : Int) : Nat → Int
  | 0 => a
  | 1 => b
  | 2 => c
  | _ => 0
def spAll (key msg out : Int) : List Sk := [spA key, spB out, spC msg, spD]
theorem spT_is (key msg out : Int) {j : Nat} (h : j < 4) : spT key msg out j = stTo (spAll key msg out) (j + 1) := by
  match j, h with
  | 0, _ => rfl
  | 1, _ => rfl
  | 2, _ => rfl
  | 3, _ => rfl
theorem spT_ok (key msg out : Int) {j : Nat} (h : j < 4) : OKh 300000 (spT key msg out j) := by
  rw [spT_is key msg out h]
  exact (stTo_ok (spAll key msg out) (j + 1)).up (by omega)
theorem spS_ok {msg out : Int} (hm : okI msg) (ho : okI out) {j : Nat} {s : Sk} (hs : (spS out msg)[j]? = some s) : OKsk s := by
  have z : okI 0 := ⟨by decide, by decide⟩
  have o : okI 1 := ⟨by decide, by decide⟩
  have u0 : okU 0 := ⟨by decide, by decide⟩
  have u2 : okU 2 := ⟨by decide, by decide⟩
  have u3 : okU 3 := ⟨by decide, by decide⟩
  have u4 : okU 4 := ⟨by decide, by decide⟩
  match j, hs with
  | 0, hs => injection hs with hs; subst hs; exact ⟨u2, z, u4, z, ho, z, z⟩
  | 1, hs => injection hs with hs; subst hs; exact ⟨u3, o, u0, z, z, hm, z⟩
  | 2, hs => injection hs with hs; subst hs; exact ⟨u4, o, u0, z, z, z, z⟩
  | n + 3, hs => simp [spS] at hs
theorem spA_ok {key : Int} (hk : okI key) : OKsk (spA key) := by
  have z : okI 0 := ⟨by decide, by decide⟩
  have u0 : okU 0 := ⟨by decide, by decide⟩
  have u1 : okU 1 := ⟨by decide, by decide⟩
  exact ⟨u1, z, u0, z, z, hk, z⟩
theorem sp_row {key msg out a b c : Int} (h : spR key msg out a b c = true) {j : Nat} {s : Sk} (hs : (spS out msg)[j]? = some s) :
    codeD (spT key msg out j) s = 0 ∧ kecL (runsD (spT key msg out j) s) = spN a b c j ∧ nxD (spT key msg out j) s = spT key msg out (j + 1) := by
  unfold spR at h
  simp only [Bool.and_eq_true, decide_eq_true_eq] at h
  obtain ⟨⟨⟨⟨⟨h1, h2⟩, h3⟩, h4⟩, h5⟩, h6⟩ := h
  match j, hs with
  | 0, hs => injection hs with hs; subst hs; exact ⟨h1, h4, rfl⟩
  | 1, hs => injection hs with hs; subst hs; exact ⟨h2, h5, rfl⟩
  | 2, hs => injection hs with hs; subst hs; exact ⟨h3, h6, rfl⟩
  | n + 3, hs => simp [spS] at hs
/-- the numbers, the j-th under way -/
def spI (a b c : Int) (j : Nat) (x : Int) (i : Nat) : Int := if i < j then spN a b c i else if i = j then x else 0
def spC3 (a b c : Int) (j : Nat) (x : Int) : Array Value := #[.int .i64 (spI a b c j x 0), .int .i64 (spI a b c j x 1), .int .i64 (spI a b c j x 2)]
theorem spC3_at (a b c : Int) {j : Nat} (h : j < 3) (x : Int) : (spC3 a b c j x)[j]? = some (.int .i64 x) := by
  match j, h with
  | 0, _ => rfl
  | 1, _ => rfl
  | 2, _ => rfl
theorem spC3_set (a b c : Int) {j : Nat} (h : j < 3) (x y : Int) : (spC3 a b c j x).setIfInBounds j (.int .i64 y) = spC3 a b c j y := by
  match j, h with
  | 0, _ => rfl
  | 1, _ => rfl
  | 2, _ => rfl
theorem spC3_next (a b c : Int) {j : Nat} (h : j < 3) : spC3 a b c j (spN a b c j) = spC3 a b c (j + 1) 0 := by
  match j, h with
  | 0, _ => rfl
  | 1, _ => rfl
  | 2, _ => rfl
theorem rnCellsK {w : World} {b off n cap : Nat} {l : List Rn} (h : KN.R w (.slice (some ⟨b, off, none⟩) n cap) l) {k : Nat} {x : Rn} (hx : l[k]? = some x) : w.cell? ⟨b, off + k * 3, none⟩ = some (.int .u8 x.k) ∧ w.cell? ⟨b, off + k * 3 + 1, none⟩ = some (.int .i64 x.s) ∧ w.cell? ⟨b, off + k * 3 + 2, none⟩ = some (.int .i64 x.c) := by
  obtain ⟨b', off', e, _, hc⟩ := Knd.R.get h hx
  injection e with e
  injection e with e1 e2
  subst e1 e2
  have c1 := hc 1 _ rfl
  have c2 := hc 2 _ rfl
  rw [← Nat.add_assoc] at c1 c2
  exact ⟨hc 0 _ rfl, c1, c2⟩
def SRc (b1 o1 : Nat) (c : Int) (W : World) : Prop := W.cell? ⟨b1, o1, none⟩ = some (.int .i64 c)
theorem SRc.g2 {b1 o1 : Nat} {c : Int} (W : World) (h : SRc b1 o1 c W) : W.cell? ⟨b1, o1, none⟩ = some (.int .i64 c) := h
theorem load_3 {w : World} {b : Nat} {x y z : Value} (h0 : w.cell? ⟨b, 0, none⟩ = some x) (h1 : w.cell? ⟨b, 1, none⟩ = some y) (h2 : w.cell? ⟨b, 2, none⟩ = some z) : (loadVar 89 ⟨b, 0, none⟩).run Try.prog w = .ok (.agg #[x, y, z]) w := by
  go_simp
set_option maxHeartbeats 8000000 in
theorem sponged_any (key msg out a b c : Int) (hk : okI key) (hm : okI msg) (ho : okI out) (hr : spR key msg out a b c = true) (w : World) :
    Calls Try.prog 50 #[.int .i64 key, .int .i64 msg, .int .i64 out] w (Told (.agg #[.int .i64 a, .int .i64 b, .int .i64 c]) w) := by
  have HKO := Lib.hid (And.intro hk (And.intro hm (And.intro ho hr)))
  clear hk hm ho hr
  go_enter Try.func50, Try.ntmps50
  go_wp2_with fail
  have h1 : Env w ((w.alloc (.cells #[.int .i64 0, .int .i64 0, .int .i64 0] 89)).alloc (.cells #[.int .i64 0, .int .i64 0, .int .i64 0] 89)) [obK w.heap.size 89 #[.int .i64 0, .int .i64 0, .int .i64 0], obK (w.heap.size + 1) 89 #[.int .i64 0, .int .i64 0, .int .i64 0]] := by
    have := ((Env.start w).newK 89 #[.int .i64 0, .int .i64 0, .int .i64 0]).newK 89 #[.int .i64 0, .int .i64 0, .int .i64 0]
    simpa using this
  obtain ⟨W, hW⟩ : ∃ y, (w.alloc (.cells #[.int .i64 0, .int .i64 0, .int .i64 0] 89)).alloc (.cells #[.int .i64 0, .int .i64 0, .int .i64 0] 89) = y := ⟨_, rfl⟩
  rw [hW] at h1 ⊢
  clear hW
  refine (new_env h1).mono ?_
  rintro e w2 ⟨p, m, kk, rfl, h2⟩
  obtain ⟨A, hA⟩ : ∃ y, w.heap.size = y := ⟨_, rfl⟩
  obtain ⟨B, hB⟩ : ∃ y, w.heap.size + 1 = y := ⟨_, rfl⟩
  have h2 : Env w w2 [obK A 89 #[.int .i64 0, .int .i64 0, .int .i64 0], obK B 89 (spC3 a b c 0 0), obPub p m kk hs0] := by
    rw [← hA, ← hB]
    exact h2
  have H2 := Lib.hid h2
  have HAB : Hid (w.heap.size = A ∧ w.heap.size + 1 = B) := Lib.hid ⟨hA, hB⟩
  clear h1 h2
  unfold pV
  rw [hB]
  simp only [hA]
  clear hA hB
  go_wp2_with fail
  refine (do_env H2.out 2 rfl (mm := 0) OKh.start (by omega) (spA key) (spA_ok HKO.out.1)).mono ?_
  rintro e w3 ⟨v0, rfl, h3⟩
  obtain ⟨r0, hr0⟩ : ∃ r, runsD hs0 (spA key) = r := ⟨_, rfl⟩
  obtain ⟨z0, hz0⟩ : ∃ r, codeD hs0 (spA key) = r := ⟨_, rfl⟩
  rw [hr0] at h3
  rw [hz0]
  have h3 : Env w w3 [obK A 89 #[.int .i64 0, .int .i64 0, .int .i64 0], obK B 89 (spC3 a b c 0 0), obPub p m kk (spT key msg out 0), obRuns v0 r0] := h3
  have H3 := Lib.hid h3
  clear h3 H2 hr0 hz0
  go_upto_region 7 with fail
  obtain ⟨W4, hW4⟩ : ∃ y, w3.alloc (.cells #[.int .u8 2, .int .i64 0, .int .u8 4, .int .i64 0, .int .i64 out, .int .i64 0, .int .i64 0, .int .u8 3, .int .i64 1, .int .u8 0, .int .i64 0, .int .i64 0, .int .i64 msg, .int .i64 0, .int .u8 4, .int .i64 1, .int .u8 0, .int .i64 0, .int .i64 0, .int .i64 0, .int .i64 0] 43) = y := ⟨_, rfl⟩
  obtain ⟨L, hL⟩ : ∃ y, w3.heap.size = y := ⟨_, rfl⟩
  have h4 : Env w W4 [obK A 89 #[.int .i64 0, .int .i64 0, .int .i64 0], obK B 89 (spC3 a b c 0 0), obPub p m kk (spT key msg out 0), obRuns v0 r0, obK L 43 (KS.fl (spS out msg)).toArray] := by
    rw [← hW4, ← hL]
    exact H3.out.newK _ _
  have H4 := Lib.hid h4
  rw [hW4]
  rw [hL]
  clear hW4 hL h4 H3
  go_wp2_with fail
  go_loopw [10] (fun iv wx => ∃ j : Nat, j ≤ 3 ∧ iv = .int .i64 (j : Int) ∧ Hid (Env w wx [obK A 89 #[.int .i64 0, .int .i64 0, .int .i64 0], obK B 89 (spC3 a b c j 0), obPub p m kk (spT key msg out j), obRuns v0 r0, obK L 43 (KS.fl (spS out msg)).toArray])) (fun iv _ => 3 - (RowKit.intOf iv).toNat)
  case atStart => exact ⟨0, Nat.zero_le _, rfl, H4⟩
  case round =>
    obtain ⟨j, hj, rfl, HK⟩ := hrel
    clear H4
    by_cases hlt : j < 3
    · obtain ⟨s, hs⟩ : ∃ s, (spS out msg)[j]? = some s := ⟨_, List.getElem?_eq_getElem hlt⟩
      have t3 : decide ((j : Int) < 3) = true := by rw [decide_eq_true_eq]; omega
      have bj : 0 ≤ (j : Int) ∧ (j : Int) < 3 := by omega
      have hsk := spS_at (HK.out.blk 4 rfl) hs
      have c0 := hsk.c0
      have c1 := hsk.c1
      have c2 := hsk.c2
      have c3 := hsk.c3
      have c4 := hsk.c4
      have c5 := hsk.c5
      have c6 := hsk.c6
      obtain ⟨q1, q2, q3⟩ := sp_row HKO.out.2.2.2 hs
      have HQ := Lib.hid (And.intro hs (And.intro q1 (And.intro q2 q3)))
      clear hsk hs q1 q2 q3
      go_wp2_with fail
      clear c0 c1 c2 c3 c4 c5 c6
      refine (do_env HK.out 2 rfl (spT_ok key msg out (by omega)) (by omega) s (spS_ok HKO.out.2.1 HKO.out.2.2.1 HQ.out.1)).mono ?_
      rintro e w5 ⟨v, rfl, h5⟩
      obtain ⟨r, hr⟩ : ∃ r, runsD (spT key msg out j) s = r := ⟨_, rfl⟩
      have hro := runsD_ok (spT_ok key msg out (j := j) (by omega)) s
      have hke := HQ.out.2.2.1
      rw [HQ.out.2.2.2] at h5
      rw [HQ.out.2.1]
      rw [hr] at h5 hro hke
      have hpo := hro.1.nrm.posi
      have htt := hro.2.2.2
      have hll : r.length ≤ 200000000 := by
        have := tot_nonneg r hpo
        have h9 := hr ▸ runsD_len (spT_ok key msg out (j := j) (by omega)) s
        exact h9
      have h5 : Env w w5 [obK A 89 #[.int .i64 0, .int .i64 0, .int .i64 0], obK B 89 (spC3 a b c j 0), obPub p m kk (spT key msg out (j + 1)), obRuns v0 r0, obK L 43 (KS.fl (spS out msg)).toArray, obRuns v r] := h5
      obtain ⟨ro, rc, rfl, hr1, hr2, _⟩ := (h5.runs 5 (v := v) (l := r) rfl).any
      have H5 := Lib.hid h5
      have HP := Lib.hid (And.intro hpo (And.intro htt hke))
      clear h5 hr hro hke hpo htt HK
      go_wp2_with fail
      go_loopw [13] (fun kv wx => ∃ k : Nat, k ≤ r.length ∧ kv = .int .i64 (k : Int) ∧ Hid (Env w wx [obK A 89 #[.int .i64 0, .int .i64 0, .int .i64 0], obK B 89 (spC3 a b c j (kecL (r.take k))), obPub p m kk (spT key msg out (j + 1)), obRuns v0 r0, obK L 43 (KS.fl (spS out msg)).toArray, obRuns (.slice ro r.length rc) r])) (fun kv _ => r.length - (RowKit.intOf kv).toNat)
      case atStart => exact ⟨0, Nat.zero_le _, rfl, H5⟩
      case round =>
        obtain ⟨k, hk, rfl, HL⟩ := hrel
        clear H5
        by_cases hkl : k < r.length
        · obtain ⟨x, hx⟩ : ∃ x, r[k]? = some x := ⟨_, List.getElem?_eq_getElem hkl⟩
          have t4 : decide ((k : Int) < (r.length : Int)) = true := by rw [decide_eq_true_eq]; omega
          have bk : 0 ≤ (k : Int) ∧ (k : Int) < (r.length : Int) := by omega
          have hR : KN.R wr (.slice ro r.length rc) r := HL.out.kR 5 rfl
          obtain ⟨b1, o1, hro, hb1, _⟩ := Knd.R.get hR hx
          subst hro
          have hcs := rnCellsK hR hx
          have c0 := hcs.1
          have c1 := hcs.2.1
          have hstep := kecL_take r hx
          have hrg := kec_rng HP.out.1 k
          have hrg2 := kec_rng HP.out.1 (k + 1)
          have hS : Hid (∀ W z, Env w W [obK A 89 #[.int .i64 0, .int .i64 0, .int .i64 0], obK B 89 (spC3 a b c j z), obPub p m kk (spT key msg out (j + 1)), obRuns v0 r0, obK L 43 (KS.fl (spS out msg)).toArray, obRuns (.slice (some ⟨b1, o1, none⟩) r.length rc) r] → SRc b1 (o1 + k * 3 + 2) x.c W) := Lib.hid fun W z hW => (rnCellsK (show KN.R W (.slice (some ⟨b1, o1, none⟩) r.length rc) r from hW.kR 5 rfl) hx).2.2
          have htt := HP.out.2.1
          obtain ⟨X, hX⟩ : ∃ y, kecL (r.take k) = y := ⟨_, rfl⟩
          obtain ⟨Y, hY⟩ : ∃ y, kecL (r.take (k + 1)) = y := ⟨_, rfl⟩
          rw [hX, hY] at hstep
          rw [hX] at hrg
          rw [hY] at hrg2
          have hst : (x.k = 3 ∧ x.s = 200) ∨ ¬ (x.k = 3 ∧ x.s = 200) := Classical.em _
          have hw1 : IntKind.i64.wrap ((k : Int) + 1) = ((k + 1 : Nat) : Int) := by rw [IntWalk.i64_in _ (by omega)]; omega
          have HXY := Lib.hid (And.intro hX hY)
          rcases hst with ⟨e1, e2⟩ | hno
          · rw [if_pos ⟨e1, e2⟩] at hstep
            have b1' : (x.k == (3 : Int)) = true := by rw [e1]; rfl
            have b2' : (x.s == (200 : Int)) = true := by rw [e2]; rfl
            have hw2 : IntKind.i64.wrap (X + x.c) = Y := by rw [IntWalk.i64_in _ (by omega)]; exact hstep.symm
            clear e1 e2 hcs hR hx hX hY hstep hrg hrg2
            go_upto_region 15 with fail
            clear c0 c1
            refine hd_start (SRc b1 (o1 + k * 3 + 2) x.c) (by kernel_rfl) ?_
            intro w7 hw'
            have H7 := Lib.hid (HL.out.draw 1)
            rw [← hw'] at H7
            clear hw' HL
            have S7 := hS.out _ _ H7.out
            refine hd_take (v := ?_) 0 rfl (by kernel_rfl) (fun _ _ d _ _ h => (by cases d <;> exact h)) (by kernel_rfl) S7 (fun w' hS => ?_) ?_
            rotate_left
            focus (have q0 := SRc.g2 w' hS; clear hS; go_simp; try rfl; done)
            simp only [List.getElem_toArray, List.getElem_cons_succ, List.getElem_cons_zero, Act.put, List.setIfInBounds_toArray, List.set_cons_zero, List.set_cons_succ]
            refine hd_take (v := ?_) 1 rfl (by kernel_rfl) (fun _ _ d _ _ h => (by cases d <;> exact h)) (by kernel_rfl) S7 (fun w' hS => ?_) ?_
            rotate_left
            focus (have q0 := SRc.g2 w' hS; clear hS; go_simp; try rfl; done)
            simp only [List.getElem_toArray, List.getElem_cons_succ, List.getElem_cons_zero, Act.put, List.setIfInBounds_toArray, List.set_cons_zero, List.set_cons_succ]
            refine hd_take (v := ?_) 2 rfl (by kernel_rfl) (fun _ _ d _ _ h => (by cases d <;> exact h)) (by kernel_rfl) S7 (fun w' hS => ?_) ?_
            rotate_left
            focus (have q0 := SRc.g2 w' hS; clear hS; go_simp; try rfl; done)
            simp only [List.getElem_toArray, List.getElem_cons_succ, List.getElem_cons_zero, Act.put, List.setIfInBounds_toArray, List.set_cons_zero, List.set_cons_succ]
            refine hd_take (v := ?_) 4 rfl (by kernel_rfl) (fun _ _ d _ _ h => (by cases d <;> exact h)) (by kernel_rfl) S7 (fun w' hS => ?_) ?_
            rotate_left
            focus (have q0 := SRc.g2 w' hS; clear hS; go_simp; try rfl; done)
            simp only [List.getElem_toArray, List.getElem_cons_succ, List.getElem_cons_zero, Act.put, List.setIfInBounds_toArray, List.set_cons_zero, List.set_cons_succ]
            refine hd_take (v := ?_) 5 rfl (by kernel_rfl) (fun _ _ d _ _ h => (by cases d <;> exact h)) (by kernel_rfl) S7 (fun w' hS => ?_) ?_
            rotate_left
            focus (have q0 := SRc.g2 w' hS; clear hS; go_simp; try rfl; done)
            simp only [List.getElem_toArray, List.getElem_cons_succ, List.getElem_cons_zero, Act.put, List.setIfInBounds_toArray, List.set_cons_zero, List.set_cons_succ]
            refine hd_take (v := ?_) 6 rfl (by kernel_rfl) (fun _ _ d _ _ h => (by cases d <;> exact h)) (by kernel_rfl) S7 (fun w' hS => ?_) ?_
            rotate_left
            focus (have q0 := SRc.g2 w' hS; clear hS; go_simp; try rfl; done)
            simp only [List.getElem_toArray, List.getElem_cons_succ, List.getElem_cons_zero, Act.put, List.setIfInBounds_toArray, List.set_cons_zero, List.set_cons_succ]
            refine hd_take (v := ?_) 7 rfl (by kernel_rfl) (fun _ _ d _ _ h => (by cases d <;> exact h)) (by kernel_rfl) S7 (fun w' hS => ?_) ?_
            rotate_left
            focus (have q0 := SRc.g2 w' hS; clear hS; go_simp; try rfl; done)
            simp only [List.getElem_toArray, List.getElem_cons_succ, List.getElem_cons_zero, Act.put, List.setIfInBounds_toArray, List.set_cons_zero, List.set_cons_succ]
            refine hd_take (v := ?_) 8 rfl (by kernel_rfl) (fun _ _ d _ _ h => (by cases d <;> exact h)) (by kernel_rfl) S7 (fun w' hS => ?_) ?_
            rotate_left
            focus (have q0 := SRc.g2 w' hS; clear hS; go_simp; try rfl; done)
            simp only [List.getElem_toArray, List.getElem_cons_succ, List.getElem_cons_zero, Act.put, List.setIfInBounds_toArray, List.set_cons_zero, List.set_cons_succ]
            have kb := H7.out.blk 1 (b := B) rfl
            have g0 : w7.cell? ⟨B, j, none⟩ = some (.int .i64 X) := by rw [← HXY.out.1]; exact kb.cellAt j (spC3_at a b c hlt _)
            have f0 := kb.unfrozen j
            have h8 := Env.turnBlk H7.out 1 (b := B) rfl (kb.set j (.int .i64 Y)) ((Only.refl (fun x => x = B) _).set (p := ⟨B, j, none⟩) (.inl rfl) _)
            rw [spC3_set a b c hlt] at h8
            have h8 : Env w (w7.setCell ⟨B, j, none⟩ (.int .i64 Y)) [obK A 89 #[.int .i64 0, .int .i64 0, .int .i64 0], obK B 89 (spC3 a b c j (kecL (r.take (k + 1)))), obPub p m kk (spT key msg out (j + 1)), obRuns v0 r0, obK L 43 (KS.fl (spS out msg)).toArray, obRuns (.slice (some ⟨b1, o1, none⟩) r.length rc) r] := by rw [HXY.out.2]; exact h8
            have S8 := hS.out _ _ h8
            have H8 := Lib.hid h8
            clear h8 kb hS
            refine hd_one 3 (by kernel_rfl) ?_
            refine op_run rfl (by kernel_rfl) (by go_simp; first | done | exact ⟨rfl, rfl⟩ | rfl) ?_
            refine ⟨S7, ?_⟩
            simp only [List.getElem_toArray, List.getElem_cons_succ, List.getElem_cons_zero, Act.put, List.setIfInBounds_toArray, List.set_cons_zero, List.set_cons_succ]
            refine hd_take (v := ?_) 9 rfl (by kernel_rfl) (fun _ _ d _ _ h => (by cases d <;> exact h)) (by kernel_rfl) S7 (fun w' hS => ?_) ?_
            rotate_left
            focus (clear hS; go_simp; try rfl; done)
            simp only [List.getElem_toArray, List.getElem_cons_succ, List.getElem_cons_zero, Act.put, List.setIfInBounds_toArray, List.set_cons_zero, List.set_cons_succ]
            refine hd_take (v := ?_) 10 rfl (by kernel_rfl) (fun _ _ d _ _ h => (by cases d <;> exact h)) (by kernel_rfl) S7 (fun w' hS => ?_) ?_
            rotate_left
            focus (clear hS; go_simp; try rfl; done)
            simp only [List.getElem_toArray, List.getElem_cons_succ, List.getElem_cons_zero, Act.put, List.setIfInBounds_toArray, List.set_cons_zero, List.set_cons_succ]
            refine hd_one 11 (by kernel_rfl) ?_
            refine op_skip rfl (by kernel_rfl) (by go_simp; first | done | rfl) ?_
            refine ⟨S8, ?_⟩
            simp only [List.getElem_toArray, List.getElem_cons_succ, List.getElem_cons_zero, Act.put, List.setIfInBounds_toArray, List.set_cons_zero, List.set_cons_succ]
            refine hd_done (by kernel_rfl) ?_
            clear S7 S8 g0 f0
            go_wp2_with fail
            refine ⟨⟨k + 1, by omega, rfl, H8⟩, ?_⟩
            have q9 : r.length - ((k : Int) + 1).toNat < r.length - ((k : Int)).toNat := by omega
            exact q9
          · rw [if_neg hno] at hstep
            have HL2 : Hid (Env w wr [obK A 89 #[.int .i64 0, .int .i64 0, .int .i64 0], obK B 89 (spC3 a b c j (kecL (r.take (k + 1)))), obPub p m kk (spT key msg out (j + 1)), obRuns v0 r0, obK L 43 (KS.fl (spS out msg)).toArray, obRuns (.slice (some ⟨b1, o1, none⟩) r.length rc) r]) := by
              rw [HXY.out.2, hstep, ← HXY.out.1]
              exact HL
            have hcase : ((x.k == (3 : Int)) = false) ∨ ((x.k == (3 : Int)) = true ∧ (x.s == (200 : Int)) = false) := by
              by_cases e : x.k = 3
              · right
                refine ⟨by rw [e]; rfl, ?_⟩
                rw [beq_eq_false_iff_ne]
                exact fun e2 => hno ⟨e, e2⟩
              · left
                rw [beq_eq_false_iff_ne]
                exact e
            clear hno hcs hR hx hX hY hstep hrg hrg2 hS HL
            rcases hcase with b1' | ⟨b1', b2'⟩
            all_goals
              go_wp2_with fail
              refine ⟨⟨k + 1, by omega, rfl, HL2⟩, ?_⟩
              have q9 : r.length - ((k : Int) + 1).toNat < r.length - ((k : Int)).toNat := by omega
              exact q9
        · have t4 : decide ((k : Int) < (r.length : Int)) = false := by rw [decide_eq_false_iff_not]; omega
          have hkr : k = r.length := by omega
          have h9 : Env w wr ([obK A 89 #[.int .i64 0, .int .i64 0, .int .i64 0], obK B 89 (spC3 a b c (j + 1) 0), obPub p m kk (spT key msg out (j + 1)), obRuns v0 r0, obK L 43 (KS.fl (spS out msg)).toArray] ++ [obRuns (.slice ro r.length rc) r]) := by
            have h := HL.out
            rw [hkr, List.take_length, HP.out.2.2, spC3_next a b c hlt] at h
            exact h
          have H9 : Hid (Env w wr [obK A 89 #[.int .i64 0, .int .i64 0, .int .i64 0], obK B 89 (spC3 a b c (j + 1) 0), obPub p m kk (spT key msg out (j + 1)), obRuns v0 r0, obK L 43 (KS.fl (spS out msg)).toArray]) := Lib.hid (by
            have h := Env.omit (A := [obK A 89 #[.int .i64 0, .int .i64 0, .int .i64 0], obK B 89 (spC3 a b c (j + 1) 0), obPub p m kk (spT key msg out (j + 1)), obRuns v0 r0, obK L 43 (KS.fl (spS out msg)).toArray]) (x := obRuns (.slice ro r.length rc) r) (B := []) (by rw [List.append_nil]; exact h9)
            rw [List.append_nil] at h
            exact h)
          clear h9 HL
          have hw1 : IntKind.i64.wrap ((j : Int) + 1) = ((j + 1 : Nat) : Int) := by rw [IntWalk.i64_in _ (by omega)]; omega
          go_wp2_with fail
          refine ⟨⟨j + 1, by omega, rfl, H9⟩, ?_⟩
          have q9 : 3 - ((j : Int) + 1).toNat < 3 - ((j : Int)).toNat := by omega
          exact q9
    · have t3 : decide ((j : Int) < 3) = false := by rw [decide_eq_false_iff_not]; omega
      have hj3 : j = 3 := by omega
      rw [hj3] at HK
      have k1 : Blk wr B 89 #[.int .i64 a, .int .i64 b, .int .i64 c] := HK.out.blk 1 rfl
      have k0 := HK.out.blk 0 (b := A) rfl
      have hb0 := HK.out.base
      have d0 := k1.cellAt 0 rfl
      have d1 := k1.cellAt 1 rfl
      have d2 := k1.cellAt 2 rfl
      have g0 := k0.cellAt 0 rfl
      have g1 := k0.cellAt 1 rfl
      have g2 := k0.cellAt 2 rfl
      have f0 := k0.unfrozen 0
      have f1 := k0.unfrozen 1
      have f2 := k0.unfrozen 2
      have K3 := Lib.hid (((k0.set 0 (.int .i64 a)).set 1 (.int .i64 b)).set 2 (.int .i64 c))
      have h10 := Env.turnBlk HK.out 0 (b := A) rfl K3.out ((((Only.refl (fun x => x = A) wr).set (p := ⟨A, 0, none⟩) (.inl rfl) _).set (p := ⟨A, 1, none⟩) (.inl rfl) _).set (p := ⟨A, 2, none⟩) (.inl rfl) _)
      have HB10 := Lib.hid h10.base
      clear k0 k1 h10
      go_wp2_with fail
      exact bodyPost_ret (results_cell rfl (b := A) rfl (load_3 (K3.out.cellAt 0 rfl) (K3.out.cellAt 1 rfl) (K3.out.cellAt 2 rfl))) rfl ⟨rfl, HB10.out⟩
theorem eq3_1 (w : World) : (Op.equalIn 10000 89 (.agg #[.int .i64 2, .int .i64 0, .int .i64 2]) (.agg #[.int .i64 2, .int .i64 0, .int .i64 2])).run Try.prog w = .ok true w := by kernel_rfl
theorem eq3_2 (w : World) : (Op.equalIn 10000 89 (.agg #[.int .i64 3, .int .i64 0, .int .i64 1]) (.agg #[.int .i64 3, .int .i64 0, .int .i64 1])).run Try.prog w = .ok true w := by kernel_rfl
theorem eq3_3 (w : World) : (Op.equalIn 10000 89 (.agg #[.int .i64 2, .int .i64 0, .int .i64 1]) (.agg #[.int .i64 2, .int .i64 0, .int .i64 1])).run Try.prog w = .ok true w := by kernel_rfl
theorem eq3_4 (w : World) : (Op.equalIn 10000 89 (.agg #[.int .i64 3, .int .i64 1, .int .i64 1]) (.agg #[.int .i64 3, .int .i64 1, .int .i64 1])).run Try.prog w = .ok true w := by kernel_rfl
theorem eq3_5 (w : World) : (Op.equalIn 10000 89 (.agg #[.int .i64 4, .int .i64 1, .int .i64 2]) (.agg #[.int .i64 4, .int .i64 1, .int .i64 2])).run Try.prog w = .ok true w := by kernel_rfl
set_option maxHeartbeats 4000000 in
theorem edges_any (w : World) : Calls Try.prog 31 #[] w fun e w' => e = .returned (.bool true) ∧ Below w.heap.size w w' := by
  have q1 := eq3_1
  have q2 := eq3_2
  have q3 := eq3_3
  have q4 := eq3_4
  have q5 := eq3_5
  go_enter Try.func31, Try.ntmps31
  go_wp2_with fail
  refine (sponged_any 163 165 32 2 0 2 ⟨by decide, by decide⟩ ⟨by decide, by decide⟩ ⟨by decide, by decide⟩ sp_1 _).mono ?_
  rintro e w1 ⟨rfl, h1⟩
  have H1 := Lib.hid h1
  clear h1
  go_wp2_with fail
  refine (sponged_any 164 165 31 3 0 1 ⟨by decide, by decide⟩ ⟨by decide, by decide⟩ ⟨by decide, by decide⟩ sp_2 _).mono ?_
  rintro e w2 ⟨rfl, h2⟩
  have H2 := Lib.hid (H1.out.trans (h2.mono H1.out.size))
  clear h2 H1
  go_wp2_with fail
  refine (sponged_any 31 166 31 2 0 2 ⟨by decide, by decide⟩ ⟨by decide, by decide⟩ ⟨by decide, by decide⟩ sp_3 _).mono ?_
  rintro e w3 ⟨rfl, h3⟩
  have H3 := Lib.hid (H2.out.trans (h3.mono H2.out.size))
  clear h3 H2
  go_wp2_with fail
  refine (sponged_any 0 164 32 2 0 1 ⟨by decide, by decide⟩ ⟨by decide, by decide⟩ ⟨by decide, by decide⟩ sp_4 _).mono ?_
  rintro e w4 ⟨rfl, h4⟩
  have H4 := Lib.hid (H3.out.trans (h4.mono H3.out.size))
  clear h4 H3
  go_wp2_with fail
  refine (sponged_any 331 168 64 3 1 1 ⟨by decide, by decide⟩ ⟨by decide, by decide⟩ ⟨by decide, by decide⟩ sp_5 _).mono ?_
  rintro e w5 ⟨rfl, h5⟩
  have H5 := Lib.hid (H4.out.trans (h5.mono H4.out.size))
  clear h5 H4
  go_wp2_with fail
  refine (sponged_any 332 333 64 4 1 2 ⟨by decide, by decide⟩ ⟨by decide, by decide⟩ ⟨by decide, by decide⟩ sp_6 _).mono ?_
  rintro e w6 ⟨rfl, h6⟩
  have H6 := Lib.hid (H5.out.trans (h6.mono H5.out.size))
  clear h6 H5
  go_wp2_with fail
  go_ret
  exact ⟨rfl, H6.out⟩
end Go.Proofs.Ytkidijjhedjifaa
/- The law CostNone: nil and a zero Public answer that nothing was made. -/
namespace Go.Proofs.Ytkidijjhedjifaa
open Go.RowKit
set_option maxRecDepth 100000
set_option linter.unusedVariables false
set_option linter.unusedSimpArgs false
attribute [local go_sem] Oper.semAt_some
theorem insNone (w : World) : Calls Try.prog 86 #[.slice none 0 0, .int .i64 0, .int .i64 0] w fun e w' => e = .returned (.tuple #[]) ∧ w' = w := by
  go_enter Try.func86, Try.ntmps86
  go_wp2_with fail
  go_loopw [6] (fun iv wx => iv = .int .i64 1 ∧ wx = w) (fun _ _ => 0)
  case atStart => exact ⟨rfl, rfl⟩
  case round =>
    obtain ⟨rfl, rfl⟩ := hrel
    go_wp2_with fail
    first | refine bodyPost_ret (results_none rfl _ _ _) rfl ?_ | refine bodyPost_end (results_none rfl _ _ _) rfl ?_
    exact ⟨rfl, rfl⟩
theorem len64None (w : World) : Calls Try.prog 96 #[.int .u64 0] w fun e w' => ∃ n, e = .returned (.int .i64 n) ∧ w' = w := by
  go_enter Try.func96, Try.ntmps96
  go_wp2_with fail
  go_ret
  exact ⟨_, rfl, rfl⟩
theorem lenNone (w : World) : Calls Try.prog 54 #[.int .u64 0] w fun e w' => ∃ n, e = .returned (.int .i64 n) ∧ w' = w := by
  go_enter Try.func54, Try.ntmps54
  go_wp2_with fail
  refine (len64None w).mono ?_
  rintro e w1 ⟨n, rfl, rfl⟩
  go_wp2_with fail
  go_ret
  exact ⟨n, rfl, rfl⟩
theorem pdqNone (n : Int) (w : World) : Calls Try.prog 53 #[.slice none 0 0, .int .i64 0, .int .i64 0, .int .i64 n] w fun e w' => e = .returned (.tuple #[]) ∧ w' = w := by
  go_enter Try.func53, Try.ntmps53
  go_wp2_with fail
  go_loopw [1, 2] (fun a b wx => a = .int .i64 0 ∧ b = .int .i64 0 ∧ wx = w) (fun _ _ _ => 0)
  case atStart => exact ⟨rfl, rfl, rfl⟩
  case round =>
    obtain ⟨rfl, rfl, rfl⟩ := hrel
    go_wp2_with fail
    refine (insNone _).mono ?_
    rintro e w1 ⟨rfl, rfl⟩
    go_wp2_with fail
    first | refine bodyPost_ret (results_none rfl _ _ _) rfl ?_ | refine bodyPost_end (results_none rfl _ _ _) rfl ?_
    exact ⟨rfl, rfl⟩
theorem sortNone (w : World) : Calls Try.prog 48 #[.slice none 0 0] w fun e w' => e = .returned (.tuple #[]) ∧ w' = w := by
  go_enter Try.func48, Try.ntmps48
  go_wp2_with fail
  refine (lenNone _).mono ?_
  rintro e w1 ⟨n, rfl, rfl⟩
  go_wp2_with fail
  refine (pdqNone n _).mono ?_
  rintro e w1 ⟨rfl, rfl⟩
  go_wp2_with fail
  first | refine bodyPost_ret (results_none rfl _ _ _) rfl ?_ | refine bodyPost_end (results_none rfl _ _ _) rfl ?_
  exact ⟨rfl, rfl⟩
theorem held_none {q : Value} {w : World} (hm : Calls Try.prog 46 #[q] w fun e w' => e = .returned (.bool false) ∧ w = w') :
    Calls Try.prog 29 #[q] w fun e w' => e = .returned (.slice none 0 0) ∧ w' = w := by
  go_enter Try.func29, Try.ntmps29
  go_wp2_with fail
  refine hm.mono ?_
  rintro e w1 ⟨rfl, rfl⟩
  go_wp2_with fail
  refine (sortNone _).mono ?_
  rintro e w1 ⟨rfl, rfl⟩
  go_wp2_with fail
  go_ret
  exact ⟨rfl, rfl⟩
theorem nil_nil : ∀ w : World, (binOp BinOp.neq 57 (.map none) (.map none)).run Try.prog w = .ok (.bool false) w := by
  intro w
  first | kernel_rfl | rfl | simp [binOp]
theorem made_zero {w : World} {b : Nat} (h0 : w.cell? ⟨b, 0, none⟩ = some (.map none)) : Calls Try.prog 46 #[.pointer (some ⟨b, 0, none⟩)] w fun e w' => e = .returned (.bool false) ∧ w = w' := by
  go_enter Try.func46, Try.ntmps46
  have hne := nil_nil
  go_wp2
  go_ret
  exact ⟨rfl, rfl⟩
theorem do_none {q : Value} (s : Sk) {w : World} (hm : ∀ wx, Below w.heap.size w wx → Calls Try.prog 46 #[q] wx fun e w' => e = .returned (.bool false) ∧ wx = w') :
    Calls Try.prog 28 #[q, skV s] w fun e w' => e = .returned (.tuple #[.slice none 0 0, .int .i64 1]) ∧ Below w.heap.size w w' := by
  have HM := Lib.hid hm
  clear hm
  unfold skV
  go_enter Try.func28, Try.ntmps28
  go_wp2_with fail
  refine (HM.out _ ((Below.refl _ _).alloc (Nat.le_refl _) _)).mono ?_
  rintro e w1 ⟨rfl, rfl⟩
  go_wp2
  go_ret2
  exact ⟨rfl, (Below.refl _ _).alloc (Nat.le_refl _) _⟩
namespace costNone
set_option maxHeartbeats 4000000 in
theorem walk (v : Value) (s : Sk) {w : World} (hin : OKsk s ∧ v = .agg (KS.cv s).toArray) :
    Calls Try.prog 7 #[v] w fun e w' => e = .returned (.bool true) ∧ Below w.heap.size w w' := by
  obtain ⟨_, rfl⟩ := hin
  show Calls Try.prog 7 #[.agg #[.int .u8 s.kind, .int .i64 s.handle, .int .u8 s.alg, .int .i64 s.count, .int .i64 s.out, .int .i64 s.data, .int .i64 s.more]] w _
  have hdo : ∀ (q : Value) (w : World), (∀ wx, Below w.heap.size w wx → Calls Try.prog 46 #[q] wx fun e w' => e = .returned (.bool false) ∧ wx = w') → Calls Try.prog 28 #[q, .agg #[.int .u8 s.kind, .int .i64 s.handle, .int .u8 s.alg, .int .i64 s.count, .int .i64 s.out, .int .i64 s.data, .int .i64 s.more]] w fun e w' => e = .returned (.tuple #[.slice none 0 0, .int .i64 1]) ∧ Below w.heap.size w w' := fun q w h => do_none s h
  have HD := Lib.hid hdo
  clear hdo
  go_enter Try.func7, Try.ntmps7
  go_wp2_with fail
  have hb0 : Below w.heap.size w (w.alloc (.cells #[.int .u8 s.kind, .int .i64 s.handle, .int .u8 s.alg, .int .i64 s.count, .int .i64 s.out, .int .i64 s.data, .int .i64 s.more] 43)) := (Below.refl _ _).alloc (Nat.le_refl _) _
  have hk0 := Blk.new w 43 #[.int .u8 s.kind, .int .i64 s.handle, .int .u8 s.alg, .int .i64 s.count, .int .i64 s.out, .int .i64 s.data, .int .i64 s.more]
  obtain ⟨W, hW⟩ : ∃ x, w.alloc (.cells #[.int .u8 s.kind, .int .i64 s.handle, .int .u8 s.alg, .int .i64 s.count, .int .i64 s.out, .int .i64 s.data, .int .i64 s.more] 43) = x := ⟨_, rfl⟩
  obtain ⟨B, hB⟩ : ∃ x, w.heap.size = x := ⟨_, rfl⟩
  rw [hW] at hk0 hb0
  rw [hB] at hk0 hb0 ⊢
  rw [hW]
  clear hW
  refine (awake_any _).mono ?_
  rintro e w1 ⟨rfl, hb1⟩
  have hk1 := hk0.only (Only.nothing hb1) (fun h => h)
  have HB1 := Lib.hid (hb0.trans (hb1.mono (by rw [← hB]; rw [← hB] at hb0; exact hb0.size)))
  clear hk0 hb1 hb0
  go_upto_region 4 with fail
  have hbz : Below w1.heap.size w1 (w1.alloc (.cells #[.map none, .map none] 60)) := (Below.refl _ _).alloc (Nat.le_refl _) _
  have hp2 := Blk.new w1 60 #[.map none, .map none]
  have hk2 := hk1.only (Only.nothing hbz) (fun h => h)
  obtain ⟨w2, hw2⟩ : ∃ x, w1.alloc (.cells #[.map none, .map none] 60) = x := ⟨_, rfl⟩
  obtain ⟨P, hP⟩ : ∃ x, w1.heap.size = x := ⟨_, rfl⟩
  rw [hw2] at hp2 hk2 hbz
  have HB2 := Lib.hid (HB1.out.trans (hbz.mono (by have := HB1.out.size; omega)))
  rw [hP] at hp2
  try rw [hw2]
  try rw [hP]
  clear hk1 hbz hw2 hP HB1
  have c0 := hk2.cellAt 0 rfl
  have c1 := hk2.cellAt 1 rfl
  have c2 := hk2.cellAt 2 rfl
  have c3 := hk2.cellAt 3 rfl
  have c4 := hk2.cellAt 4 rfl
  have c5 := hk2.cellAt 5 rfl
  have c6 := hk2.cellAt 6 rfl
  go_wp2_with fail
  clear c0 c1 c2 c3 c4 c5 c6
  refine (HD.out (.pointer none) w2 (fun wx _ => made_nil wx)).mono ?_
  rintro e w3 ⟨rfl, hb3⟩
  have hk3 := hk2.only (Only.nothing hb3) (fun h => h)
  have hp3 := hp2.only (Only.nothing hb3) (fun h => h)
  have HB3 := Lib.hid (HB2.out.trans (hb3.mono (by have := HB2.out.size; omega)))
  clear hk2 hp2 hb3 HB2
  have c0 := hk3.cellAt 0 rfl
  have c1 := hk3.cellAt 1 rfl
  have c2 := hk3.cellAt 2 rfl
  have c3 := hk3.cellAt 3 rfl
  have c4 := hk3.cellAt 4 rfl
  have c5 := hk3.cellAt 5 rfl
  have c6 := hk3.cellAt 6 rfl
  go_wp2_with fail
  clear c0 c1 c2 c3 c4 c5 c6
  refine (HD.out (.pointer (some ⟨P, 0, none⟩)) w3 (fun wx hbx => made_zero ((hp3.only (Only.nothing hbx) (fun h => h)).cellAt 0 rfl))).mono ?_
  rintro e w4 ⟨rfl, hb4⟩
  have hp4 := hp3.only (Only.nothing hb4) (fun h => h)
  have HB4 := Lib.hid (HB3.out.trans (hb4.mono (by have := HB3.out.size; omega)))
  have HP := Lib.hid (made_zero (hp4.cellAt 0 rfl))
  clear hk3 hp3 hb4 HB3 hp4
  go_wp2_with fail
  refine (held_none (made_nil w4)).mono ?_
  rintro e w5 ⟨rfl, rfl⟩
  go_wp2_with fail
  refine (held_none HP.out).mono ?_
  rintro e w5 ⟨rfl, rfl⟩
  go_wp2_with fail
  go_ret
  rw [hB]
  exact ⟨rfl, HB4.out⟩
end costNone
end Go.Proofs.Ytkidijjhedjifaa
/- The kit's functions on lists (Ints). Conditions: a list and six more fit into 2^47 bytes. -/
namespace Go.Proofs.Ytkidijjhedjifaa
open Go.RowKit
set_option maxRecDepth 100000
set_option linter.unusedVariables false
set_option linter.unusedSimpArgs false
def KI : Knd Int := ⟨3, 1, fun x => [.int .i64 x], by decide, fun _ => rfl, fun x u hu => by simp at hu; subst hu; rfl⟩
theorem infoI : (Try.prog.info? 3).map (fun i => (i.zero, i.size, i.bytes)) = some (some (.int .i64 0), 1, 8) := by kernel_rfl
def mkI (k i : Int) : Int := -1000 * k - i - 7
end Go.Proofs.Ytkidijjhedjifaa
/- The contract of slices.Sort at []int, laid at this dump (the shelf's plain mode). -/
namespace Go.Proofs.Ytkidijjhedjifaa
open Go.Shelf
def sortA_ren : Go.Shelf.Ren := ⟨fun | 5 => 48 | 8 => 54 | 7 => 53 | 19 => 95 | 20 => 96 | 10 => 86 | 11 => 87 | 12 => 88 | 13 => 89 | 14 => 90 | 15 => 91 | 16 => 92 | 17 => 93 | 18 => 94 | 30 => 125 | 31 => 126 | 32 => 127 | 33 => 128 | 34 => 129 | 35 => 130 | 40 => 134 | n => n, fun | 23 => 63 | 25 => 3 | 3 => 3 | 32 => 103 | 22 => 63 | 0 => 0 | 44 => 124 | 46 => 126 | 4 => 4 | 36 => 116 | 35 => 115 | 41 => 121 | 5 => 5 | 9 => 9 | 53 => 140 | 57 => 144 | 63 => 146 | 64 => 147 | n => n, fun | n => n⟩
theorem sortA : Go.Proofs.SlLaysM.n5 Try.prog sortA_ren := {
  mixed := by kernel_rfl
  f5 := ⟨Try.f48.name, by decide, Try.func48.trans (congrArg some (by kernel_rfl))⟩
  f7 := ⟨Try.f53.name, by decide, Try.func53.trans (congrArg some (by kernel_rfl))⟩
  f8 := Try.func54.trans (congrArg some (by kernel_rfl))
  f10 := ⟨Try.f86.name, by decide, Try.func86.trans (congrArg some (by kernel_rfl))⟩
  f11 := ⟨Try.f87.name, by decide, Try.func87.trans (congrArg some (by kernel_rfl))⟩
  f12 := ⟨Try.f88.name, by decide, Try.func88.trans (congrArg some (by kernel_rfl))⟩
  f13 := ⟨Try.f89.name, by decide, Try.func89.trans (congrArg some (by kernel_rfl))⟩
  f14 := ⟨Try.f90.name, by decide, Try.func90.trans (congrArg some (by kernel_rfl))⟩
  f15 := ⟨Try.f91.name, by decide, Try.func91.trans (congrArg some (by kernel_rfl))⟩
  f16 := ⟨Try.f92.name, by decide, Try.func92.trans (congrArg some (by kernel_rfl))⟩
  f17 := ⟨Try.f93.name, by decide, Try.func93.trans (congrArg some (by kernel_rfl))⟩
  f18 := ⟨Try.f94.name, by decide, Try.func94.trans (congrArg some (by kernel_rfl))⟩
  f19 := Try.func95.trans (congrArg some (by kernel_rfl))
  f20 := Try.func96.trans (congrArg some (by kernel_rfl))
  f30 := ⟨Try.f125.name, by decide, Try.func125.trans (congrArg some (by kernel_rfl))⟩
  f31 := Try.func126.trans (congrArg some (by kernel_rfl))
  f32 := Try.func127.trans (congrArg some (by kernel_rfl))
  f33 := ⟨Try.f128.name, by decide, Try.func128.trans (congrArg some (by kernel_rfl))⟩
  f34 := ⟨Try.f129.name, by decide, Try.func129.trans (congrArg some (by kernel_rfl))⟩
  f35 := ⟨Try.f130.name, by decide, Try.func130.trans (congrArg some (by kernel_rfl))⟩
  f40 := ⟨Try.f134.name, by decide, Try.func134.trans (congrArg some (by kernel_rfl))⟩
  t0 := Try.underlying0
  a0 := Try.isAgg0
  z0 := Try.sizeOf0
  v0 := Try.zeroValue0
  t3 := Try.underlying3
  a3 := Try.isAgg3
  z3 := Try.sizeOf3
  v3 := Try.zeroValue3
  t4 := Try.underlying4
  a4 := Try.isAgg4
  z4 := Try.sizeOf4
  v4 := Try.zeroValue4
  t5 := Try.underlying5
  a5 := Try.isAgg5
  z5 := Try.sizeOf5
  v5 := Try.zeroValue5
  t9 := Try.underlying9
  a9 := Try.isAgg9
  z9 := Try.sizeOf9
  v9 := Try.zeroValue9
  t22 := Try.underlying63
  a22 := Try.isAgg63
  z22 := Try.sizeOf63
  v22 := Try.zeroValue63
  t23 := Try.underlying63
  a23 := Try.isAgg63
  z23 := Try.sizeOf63
  v23 := Try.zeroValue63
  t25 := Try.underlying3
  a25 := Try.isAgg3
  z25 := Try.sizeOf3
  v25 := Try.zeroValue3
  t32 := Try.underlying103
  a32 := Try.isAgg103
  z32 := Try.sizeOf103
  v32 := Try.zeroValue103
  t35 := Try.underlying115
  a35 := Try.isAgg115
  z35 := Try.sizeOf115
  v35 := Try.zeroValue115
  t36 := Try.underlying116
  a36 := Try.isAgg116
  z36 := Try.sizeOf116
  v36 := Try.zeroValue116
  t41 := Try.underlying121
  a41 := Try.isAgg121
  z41 := Try.sizeOf121
  v41 := Try.zeroValue121
  t44 := Try.underlying124
  a44 := Try.isAgg124
  z44 := Try.sizeOf124
  v44 := Try.zeroValue124
  t46 := Try.underlying126
  a46 := Try.isAgg126
  z46 := Try.sizeOf126
  v46 := Try.zeroValue126
  t53 := Try.underlying140
  a53 := Try.isAgg140
  z53 := Try.sizeOf140
  v53 := Try.zeroValue140
  t57 := Try.underlying144
  a57 := Try.isAgg144
  z57 := Try.sizeOf144
  v57 := Try.zeroValue144
  t63 := Try.underlying146
  a63 := Try.isAgg146
  z63 := Try.sizeOf146
  v63 := Try.zeroValue146
  t64 := Try.underlying147
  a64 := Try.isAgg147
  z64 := Try.sizeOf147
  v64 := Try.zeroValue147 }
end Go.Proofs.Ytkidijjhedjifaa
/- What is held: the keys of the map, collected in whatever order, sorted. -/
namespace Go.Proofs.Ytkidijjhedjifaa
open Go.RowKit Go.Maps Go.Sort
set_option maxRecDepth 100000
set_option linter.unusedVariables false
set_option linter.unusedSimpArgs false
attribute [local go_sem] Oper.semAt_some
/-! ### the plain law -/
def heldL (σ : Hs) : List Int := ((List.range 64).map fun n : Nat => (n : Int)).filter fun x => (σ x).isSome
theorem heldL_mem (σ : Hs) (x : Int) : x ∈ heldL σ ↔ 0 ≤ x ∧ x < 64 ∧ (σ x).isSome = true := by
  unfold heldL
  rw [List.mem_filter, List.mem_map]
  constructor
  · rintro ⟨⟨n, hn, rfl⟩, h⟩
    rw [List.mem_range] at hn
    exact ⟨by omega, by omega, h⟩
  · rintro ⟨h1, h2, h3⟩
    exact ⟨⟨x.toNat, List.mem_range.2 (by omega), by omega⟩, h3⟩
theorem heldL_lt (σ : Hs) : (heldL σ).Pairwise (· < ·) := by
  unfold heldL
  refine List.Pairwise.filter _ (List.pairwise_map.2 ?_)
  exact List.pairwise_lt_range.imp (fun h => by omega)
theorem heldL_len (σ : Hs) : (heldL σ).length ≤ 64 := by
  unfold heldL
  refine Nat.le_trans (List.length_filter_le _ _) ?_
  simp
theorem held_perm {D : DataW Unit} {left : Lit → Bool} {ss : List Int} {σ : Hs} (h : CollectedI D left ss) (hr : Rep D σ) (hok : ∀ x ∈ ss, okI x) (hl : ∀ kl, left kl = false) : ss.Perm (heldL σ) := by
  refine (List.perm_ext_iff_of_nodup h.1 ((heldL_lt σ).imp (fun h => by omega))).2 fun x => ?_
  rw [h.2 x, hl, heldL_mem]
  constructor
  · rintro ⟨h1, _⟩
    have hx := hok x ((h.2 x).2 ⟨h1, hl _⟩)
    rw [hr.has x hx] at h1
    obtain ⟨t, ht⟩ := Option.isSome_iff_exists.1 h1
    have := hr.dom x t ht
    exact ⟨this.1, this.2, h1⟩
  · rintro ⟨h1, h2, h3⟩
    exact ⟨by rw [hr.has x ⟨by omega, by omega⟩]; exact h3, rfl⟩
theorem held_sort {ss : List Int} {σ : Hs} (h : ss.Perm (heldL σ)) : (ss.mergeSort fun x y => decide (x ≤ y)) = heldL σ := by
  rw [mergeSort_of_perm_i h]
  refine List.mergeSort_of_pairwise ?_
  exact (heldL_lt σ).imp (fun h => by simp only [leI, decide_eq_true_eq]; omega)
/-! ### slices.Sort of a row of ints -/
theorem sortI_any {base : Nat} {u : Value} {xs : List Int} {w : World} (h : w.ownsRow base 3 1 u xs.length (xs.map (Value.int .i64))) (hl : xs.length ≤ 1000000) :
    Calls Try.prog 48 #[u] w fun e w' => e = .returned (.tuple #[]) ∧ w'.ownsRow base 3 1 u xs.length ((xs.mergeSort fun x y => decide (x ≤ y)).map (Value.int .i64)) ∧ w.grownBy w' u.ownBlock := by
  rcases h.2 with ⟨hnil, h0⟩ | ⟨g, cap, cur, rfl, hbase, hb, h1, h2, h3, h4⟩
  · subst hnil
    have hx : xs = [] := List.length_eq_zero_iff.1 (by omega)
    subst hx
    refine (sortNone w).mono ?_
    rintro e w' ⟨rfl, rfl⟩
    exact ⟨rfl, by simpa using h, ⟨rfl, rfl, rfl, Nat.le_refl _, fun _ _ _ => rfl⟩⟩
  · have hH : Holds (Value.int .i64) w g 0 xs.toArray := holds_of_block_i hb (by simpa using h4)
    refine (AnyM.slices_Sort_int (ρ := sortA_ren) sortA g 0 cap xs w hH (Array.getElem?_eq_some_iff.1 hb).1 (by omega)).mono ?_
    rintro e w' ⟨rfl, n, os, rfl⟩
    exact ⟨rfl, ownsRow_sorted_i (by simp) hbase hb h1 h2 h3, grownBy_sorted_i _⟩
theorem ownsRow_base0 {W : World} {base : Nat} {e : TypeId} {size : Nat} {v : Value} {k : Nat} {xs : List Value} (h : W.ownsRow base e size v k xs) : W.ownsRow 0 e size v k xs := by
  refine ⟨h.1, ?_⟩
  rcases h.2 with h | ⟨g, cap, cur, h1, h2, h3⟩
  · exact .inl h
  · exact .inr ⟨g, cap, cur, h1, Nat.zero_le _, h3⟩
theorem flI (l : List Int) : KI.fl l = l.map (Value.int .i64) := by
  induction l with
  | nil => rfl
  | cons x l ih =>
    show KI.fl (x :: l) = Value.int .i64 x :: l.map (Value.int .i64)
    rw [← ih]
    rfl
theorem okI_of_wf {x : Int} (h : (Lit.int .i64 x).wf = true) : okI x := by
  simp [Lit.wf, IntKind.min, IntKind.max, IntKind.signed, IntKind.bits] at h
  unfold okI
  omega
/-! ### Held -/
set_option maxHeartbeats 4000000 in
theorem held_any {w : World} {p m k : Nat} {σ : Hs} (h : PubAt w p m k σ) :
    Calls Try.prog 29 #[pV p] w fun e w' => ∃ v, e = .returned v ∧ w'.ownsRow w.heap.size 3 1 v (heldL σ).length ((heldL σ).map (Value.int .i64)) ∧ Below w.heap.size w w' := by
  obtain ⟨i0, hi, hz0, hz1, hz2⟩ := info_parts infoI
  have HM := Lib.hid (made_any h)
  obtain ⟨D0, hown, hrep⟩ := h.held
  have hbl := hown.lt
  have hsz : Maps.size D0 ≤ 64 := by rw [hrep.size]; exact cntH_le _
  have c0 := h.blk.cellAt 0 rfl
  have HR := Lib.hid hrep
  clear hrep h
  unfold pV at *
  go_enter Try.func29, Try.ntmps29
  go_wp2_with fail
  refine HM.out.mono ?_
  rintro e w1 ⟨rfl, rfl⟩
  go_wp2_with (first
    | (at_range; refine wpList_range_own _ rfl _ 57 rfl 3 130 heldK Try.underlying57 _ m 64 _ rfl hown ?_; intro w0 hrg0 hg0 hs0)
    | fail)
  have hrow0 : w0.ownsRow w.heap.size 3 1 (.slice none 0 0) 0 [] := World.ownsRow_nil w0 _ _ _
  go_frame
  go_loopw [3] (fun v wr => ∃ (left : Lit → Bool) (cnt : Nat) (ss : List Int), wr.ranges Try.prog 3 thR m w.heap.size 64 D0 left cnt ∧ ss.length + cnt ≤ 64 ∧
      wr.ownsRow w.heap.size 3 1 v ss.length (ss.map (Value.int .i64)) ∧ CollectedI D0 left ss ∧ (∀ x ∈ ss, okI x) ∧ Below w.heap.size w wr)
    (fun _ wr => wr.rangeLeft m w.heap.size)
  case atStart =>
    exact ⟨_, _, [], hrg0, by simpa using hsz, by simpa using hrow0, CollectedI.start D0, fun x hx => by simp at hx, (Below.refl _ _).grown hg0 (Nat.le_refl _) (fun j hj => by cases hj)⟩
  case round =>
    obtain ⟨left, cnt, ss, hrg, hcs, hrow, hC, hok, hnx⟩ := hrel
    go_wp2_with (first
      | (at_next; refine wpList_next_ranges _ rfl _ rfl 3 heldK thR (Value.int .i64) thV (fun key kl hk => by obtain ⟨x, hx, _⟩ := Maps.keyOf_i64 Try.underlying3 hk; exact ⟨x, hx⟩) (fun v y hv => by obtain ⟨c, hc, _⟩ := thR_inv hv; exact ⟨c, hc⟩) m w.heap.size 64 _ _ _ rfl hrg ?_ ?_)
      | fail)
    · intro hc0 hl0
      have hP := held_perm hC HR.out hok hl0
      have hsl : ss.length ≤ 1000000 := by omega
      have HH := Lib.hid (And.intro hP (And.intro hnx hrow))
      clear hrg hcs hC hok hP
      go_wp2_with fail
      refine (sortI_any HH.out.2.2 hsl).mono ?_
      rintro e w2 ⟨rfl, h2, hg⟩
      rw [held_sort HH.out.1, HH.out.1.length_eq] at h2
      have HF := Lib.hid (And.intro h2 (HH.out.2.1.grown hg HH.out.2.1.size (fun j hj => (HH.out.2.2.lt j hj).1)))
      clear h2 hg
      go_wp2_with fail
      go_ret
      exact ⟨_, rfl, HF.out.1, HF.out.2⟩
    · intro x c kl yd yp w2 cnt2 hkey hlk hv hat hrg2 hlt hg2 hs2 hen
      obtain ⟨x', ex, rfl, hwf⟩ := Maps.keyOf_i64 Try.underlying3 hkey
      obtain rfl : x = x' := encZ_inj ex
      have hrow2 := hrow.kept hg2 (Or.inr (row_ne_iter hrow hrg).symm)
      clear hs2
      go_wp2_with (first
        | (at_builtin; refine wpList_append_own _ rfl _ _ 63 rfl w.heap.size 3 i0 (.int .i64 0) 1 8 Try.underlying63 hi hz0 hz1 hz2 rfl (by decide) _ _ _ rfl (hrow2.alloc _) ⟨w2.heap.size, 0, none⟩ 1 1 [Value.int .i64 x] rfl rfl (cell_one_new _ _ _) (by simp [Value.oneCell']) (by unfold maxLen; omega) (by omega) (by have := hnx.size; have := hg2.size; simp; omega) ?_; intro v' w3 hown' hg3 hnil3)
        | fail)
      have hrg3 := (hrg2.alloc (.cells #[Value.int .i64 x] 3)).kept hg3 (row_ne_low hrow2 hbl) (row_ne_iter hrow2 hrg2)
      go_roundw
      case rel =>
        refine ⟨_, cnt2, ss ++ [x], hrg3, by simp; omega, by simpa using hown', hC.step hlk hat, fun y hy => ?_, ?_⟩
        · rcases List.mem_append.1 hy with hy | hy
          · exact hok y hy
          · simp at hy
            subst hy
            exact okI_of_wf hwf
        · exact ((hnx.grown hg2 hnx.size (fun j hj => by cases hj; exact Nat.le_refl _)).alloc (by have := hnx.size; have := hg2.size; omega) _).grown hg3 (by have := hnx.size; have := hg2.size; simp; omega) (fun j hj => (hrow2.lt j hj).1)
      case measure => rw [hrg3.left_eq, hrg.left_eq]; exact hlt
theorem held_env {w0 w : World} {obs : List Ob} {p m k : Nat} {σ : Hs} (h : Env w0 w obs) (i : Nat) (hi : obs[i]? = some (obPub p m k σ)) :
    Calls Try.prog 29 #[pV p] w fun e w' => ∃ v, e = .returned v ∧ Env w0 w' (obs ++ [KI.ob v (heldL σ)]) := by
  refine (held_any (h.pub i hi)).mono ?_
  rintro e w' ⟨v, rfl, h1, h2⟩
  refine ⟨v, rfl, h.pushE (by have e : KI.fl (heldL σ) = (heldL σ).map (Value.int .i64) := flI _; rw [e]; exact ownsRow_base0 h1) h2 (fun x hx => (h1.lt x hx).1)⟩
end Go.Proofs.Ytkidijjhedjifaa
/- The law CostKnown: numbers, the document's examples, a vault that is full. -/
namespace Go.Proofs.Ytkidijjhedjifaa
open Go.RowKit
set_option maxRecDepth 100000
set_option linter.unusedVariables false
set_option linter.unusedSimpArgs false
attribute [local go_sem] Oper.semAt_some
theorem held8 : (heldL full8).length = 64 := by decide
theorem full7_ok : OKh 0 full7 := (fillS_ok 64 (by omega)).put 9 (by omega) (fun t e => (nomatch e))
theorem s_ok : OKsk s1 ∧ OKsk s2 ∧ OKsk s3 ∧ OKsk s4 ∧ OKsk s5 ∧ OKsk s6 ∧ OKsk s7 ∧ OKsk s8 := by
  refine ⟨?_, ?_, ?_, ?_, ?_, ?_, ?_, ?_⟩
  all_goals (constructor <;> (first | unfold okI | unfold okU) <;> decide)
theorem putSk_ok {n : Nat} (h : n < 64) : OKsk (putSk n) := by
  have z : okI 0 := ⟨by decide, by decide⟩
  have u0 : okU 0 := ⟨by decide, by decide⟩
  have u1 : okU 1 := ⟨by decide, by decide⟩
  exact ⟨u1, z, u0, z, z, ⟨by show -9223372036854775808 ≤ (n : Int); omega, by show (n : Int) ≤ _; omega⟩, z⟩
theorem Env.one {w0 w : World} {a x : Ob} (h : Env w0 w [a, x]) : Env w0 w [a] := by
  have h2 := Env.omit (A := [a]) (x := x) (B := []) (by rw [List.append_nil]; exact h)
  rw [List.append_nil] at h2
  exact h2
def wantK : List Rn := [⟨11, 2, 1⟩, ⟨3, 200, 2⟩, ⟨12, 0, 1⟩]
namespace costKnown
set_option maxHeartbeats 8000000 in
theorem walk (w : World) : Calls Try.prog 8 #[] w fun e w' => e = .returned (.bool true) ∧ Below w.heap.size w w' := by
  go_enter Try.func8, Try.ntmps8
  go_wp2_with fail
  refine (new_env (Env.start w)).mono ?_
  rintro e w1 ⟨p, m, kk, rfl, h1⟩
  have h1 : Env w w1 [obPub p m kk (fillS 0)] := by rw [← fillS_zero]; exact h1
  have H1 := Lib.hid h1
  clear h1
  unfold pV
  go_wp2_with fail
  go_loopw [2] (fun iv wx => ∃ j : Nat, j ≤ 64 ∧ iv = .int .i64 (j : Int) ∧ Hid (Env w wx [obPub p m kk (fillS j)])) (fun iv _ => 64 - (RowKit.intOf iv).toNat)
  case atStart => exact ⟨0, Nat.zero_le _, rfl, H1⟩
  case round =>
    obtain ⟨j, hj, rfl, HK⟩ := hrel
    clear H1
    by_cases hlt : j < 64
    · have t3 : decide ((j : Int) < 64) = true := by rw [decide_eq_true_eq]; omega
      go_wp2_with fail
      refine (do_env HK.out 0 rfl (fillS_ok j (by omega)) (by omega) (putSk j) (putSk_ok hlt)).mono ?_
      rintro e w5 ⟨v, rfl, h5⟩
      rw [put_code j hlt]
      rw [put_next j hlt] at h5
      have H5 := Lib.hid (Env.one h5)
      clear h5 HK
      have hw1 : IntKind.i64.wrap ((j : Int) + 1) = ((j + 1 : Nat) : Int) := by rw [IntWalk.i64_in _ (by omega)]; omega
      go_wp2_with fail
      refine ⟨⟨j + 1, by omega, rfl, H5⟩, ?_⟩
      have q9 : 64 - ((j : Int) + 1).toNat < 64 - ((j : Int)).toNat := by omega
      exact q9
    · have t3 : decide ((j : Int) < 64) = false := by rw [decide_eq_false_iff_not]; omega
      have hj4 : j = 64 := by omega
      rw [hj4] at HK
      have G0 := HK
      clear HK
      go_wp2_with fail
      refine (do_env G0.out 0 rfl (fillS_ok 64 (by omega)) (by omega) s1 s_ok.1).mono ?_
      rintro e v1w ⟨v1, rfl, h5⟩
      rw [full_codes.1]
      rw [nx_off (by rw [full_codes.1]; decide)] at h5
      have G1 := Lib.hid (Env.one h5)
      clear h5 G0
      go_wp2_with fail
      refine (do_env G1.out 0 rfl (fillS_ok 64 (by omega)) (by omega) s2 s_ok.2.1).mono ?_
      rintro e v2w ⟨v2, rfl, h5⟩
      rw [full_codes.2.1]
      rw [nx_off (by rw [full_codes.2.1]; decide)] at h5
      have G2 := Lib.hid (Env.one h5)
      clear h5 G1
      go_wp2_with fail
      refine (do_env G2.out 0 rfl (fillS_ok 64 (by omega)) (by omega) s3 s_ok.2.2.1).mono ?_
      rintro e v3w ⟨v3, rfl, h5⟩
      rw [full_codes.2.2.1]
      rw [nx_off (by rw [full_codes.2.2.1]; decide)] at h5
      have G3 := Lib.hid (Env.one h5)
      clear h5 G2
      go_wp2_with fail
      refine (do_env G3.out 0 rfl (fillS_ok 64 (by omega)) (by omega) s4 s_ok.2.2.2.1).mono ?_
      rintro e v4w ⟨v4, rfl, h5⟩
      rw [full_codes.2.2.2.1]
      rw [nx_off (by rw [full_codes.2.2.2.1]; decide)] at h5
      have G4 := Lib.hid (Env.one h5)
      clear h5 G3
      go_wp2_with fail
      refine (do_env G4.out 0 rfl (fillS_ok 64 (by omega)) (by omega) s5 s_ok.2.2.2.2.1).mono ?_
      rintro e v5w ⟨v5, rfl, h5⟩
      rw [full_codes.2.2.2.2.1]
      rw [nx_off (by rw [full_codes.2.2.2.2.1]; decide)] at h5
      have G5 := Lib.hid (Env.one h5)
      clear h5 G4
      go_wp2_with fail
      refine (do_env G5.out 0 rfl (fillS_ok 64 (by omega)) (by omega) s6 s_ok.2.2.2.2.2.1).mono ?_
      rintro e v6w ⟨v6, rfl, h5⟩
      rw [full_codes.2.2.2.2.2.1]
      rw [nx_off (by rw [full_codes.2.2.2.2.2.1]; decide)] at h5
      have G6 := Lib.hid (Env.one h5)
      clear h5 G5
      go_wp2_with fail
      refine (do_env G6.out 0 rfl (fillS_ok 64 (by omega)) (by omega) s7 s_ok.2.2.2.2.2.2.1).mono ?_
      rintro e v7w ⟨v7, rfl, h5⟩
      rw [full_codes.2.2.2.2.2.2.1]
      rw [full_nx7] at h5
      have G7 := Lib.hid (Env.one h5)
      clear h5 G6
      go_wp2_with fail
      refine (do_env G7.out 0 rfl full7_ok (by omega) s8 s_ok.2.2.2.2.2.2.2).mono ?_
      rintro e v8w ⟨v8, rfl, h5⟩
      rw [full_codes.2.2.2.2.2.2.2]
      rw [full_nx8, full_runs] at h5
      have h5 : Env w v8w [obPub p m kk full8, obRuns v8 wantK] := h5
      have G8 := Lib.hid h5
      clear h5 G7
      go_wp2_with fail
      refine (event22_any 11 2 1 _).mono ?_
      rintro e x0 ⟨rfl, hb⟩
      have G9 := Lib.hid (G8.out.below hb)
      clear hb G8
      go_wp2_with fail
      refine (event22_any 3 200 2 _).mono ?_
      rintro e x1 ⟨rfl, hb⟩
      have G10 := Lib.hid (G9.out.below hb)
      clear hb G9
      go_wp2_with fail
      refine (event22_any 12 0 1 _).mono ?_
      rintro e x2 ⟨rfl, hb⟩
      have G11 := Lib.hid (G10.out.below hb)
      clear hb G10
      go_upto_region 19 with fail
      have hl : KN.R (x2.alloc (.cells #[.int .u8 11, .int .i64 2, .int .i64 1, .int .u8 3, .int .i64 200, .int .i64 2, .int .u8 12, .int .i64 0, .int .i64 1] 51)) (.slice (some ⟨x2.heap.size, 0, none⟩) 3 3) wantK := litR x2 wantK (by decide)
      have h12 := G11.out.below ((Below.refl _ _).alloc (Nat.le_refl _) (.cells #[.int .u8 11, .int .i64 2, .int .i64 1, .int .u8 3, .int .i64 200, .int .i64 2, .int .u8 12, .int .i64 0, .int .i64 1] 51))
      obtain ⟨W9, hW9⟩ : ∃ y, x2.alloc (.cells #[.int .u8 11, .int .i64 2, .int .i64 1, .int .u8 3, .int .i64 200, .int .i64 2, .int .u8 12, .int .i64 0, .int .i64 1] 51) = y := ⟨_, rfl⟩
      obtain ⟨L, hL⟩ : ∃ y, x2.heap.size = y := ⟨_, rfl⟩
      rw [hW9] at h12 hl ⊢
      rw [hL] at hl ⊢
      have G12 := Lib.hid h12
      have HL := Lib.hid hl
      clear hW9 hL h12 hl G11
      go_wp2_with fail
      refine (awake_any _).mono ?_
      rintro e y1 ⟨rfl, hb⟩
      have G13 := Lib.hid (G12.out.below hb)
      have HL1 := Lib.hid (HL.out.grow hb)
      clear hb G12 HL
      go_wp2_with fail
      refine (edges_any _).mono ?_
      rintro e y2 ⟨rfl, hb⟩
      have G14 := Lib.hid (G13.out.below hb)
      have HL2 := Lib.hid (HL1.out.grow hb)
      clear hb G13 HL1
      go_wp2_with fail
      refine (sameRuns_env' G14.out (xs := wantK) (ys := wantK) (G14.out.runs 1 rfl).rd HL2.out).mono ?_
      rintro e y3 ⟨he, h15⟩
      rw [decide_eq_true rfl] at he
      subst he
      have G15 := Lib.hid h15
      clear h15 G14 HL2
      go_wp2_with fail
      refine (held_env G15.out 0 rfl).mono ?_
      rintro e y4 ⟨hv, rfl, h16⟩
      obtain ⟨ho, hcap, rfl, _, _, _⟩ := (show KI.R y4 hv (heldL full8) from h16.kR 2 rfl).any
      rw [held8] at *
      have G16 := Lib.hid h16
      clear h16 G15
      go_wp2_with fail
      go_ret
      exact ⟨rfl, G16.out.base⟩
end costKnown
end Go.Proofs.Ytkidijjhedjifaa
namespace Go.Proofs.Ytkidijjhedjifaa.costKnown
open Go.ChangeShapes Go.WideShapes Go.ChangeAt Go.RowKit
set_option linter.unusedVariables false

set_option maxRecDepth 100000 in
theorem lifted (os : Os) (started : os.Started) (H : Type) (enc : TypeId × Value → H) :
    ReturnsInHanded {} Try.checked os 8 .any (Rows.costKnownSpec.pre6 enc Try.prog Try.f8 Rows.costKnownRow.domain false) (Rows.costKnownSpec.post enc Try.prog Try.f8 false true false false) := by
  refine returnsInHanded_of_change (C := Try.checked) own started (by kernel_rfl) Try.func8
    (ChangeSpec.witness6 (enc := enc) (C := Try.checked) false ⟨#[], #[], []⟩ 8 (by kernel_rfl) (by kernel_rfl) (by kernel_rfl) (by kernel_rfl)) ?_
  intro W base args ds gs before hval0 hW hcnd _
  have hval : ∀ (j : Nat) t v, Try.f8.params[j]? = some t → args[j]? = some v → Value.okWide Try.prog W .any base t v := hval0
  have hW' := hW
  obtain ⟨p, q, hA0, hV, rfl, hfz, hnd⟩ := hW
  have hA : DataW.TrodAll enc Try.prog W 0 (fun _ => true) true Try.f8.params.toList args.toList ds p := hA0
  rw [Try.params8] at hA hval
  obtain ⟨rfl, rfl, rfl⟩ := trodAll_none hA
  obtain ⟨rfl, rfl⟩ := trodVars_none hV
  clear hA0 hval0
  simp only [List.append_nil] at hW'
  refine (walk  W).mono fun e W' ⟨he, hg⟩ => ?_
  subst he
  exact ⟨_, rfl, law_post laidOut (by kernel_rfl) rfl rfl Try.underlying4 hW' hg rfl rfl rfl⟩

theorem over : Rows.costKnownRow.holds Try.pinned (OpenSpec.ofChange Rows.costKnownSpec) :=
  OpenClaim.holds_of_wide 8 Try.f8 rfl rfl rfl rfl rfl rfl rfl ⟨rfl, rfl, rfl, rfl, rfl⟩ rfl rfl rfl rfl rfl (by kernel_rfl) Try.func8 (by kernel_rfl)
    (of_decide_eq_true (by kernel_rfl)) (by unfold Func.isWrapper; rw [if_neg (of_decide_eq_false (by kernel_rfl))]; exact ⟨rfl, rfl⟩)
    (fun os started H enc _ => lifted os started H enc)

theorem proved : Rows.CostKnownSaid := over
end Go.Proofs.Ytkidijjhedjifaa.costKnown
