/- A handle of a ledger: a pointer to one, or nil; and who owns which block. -/
import Derived.Lib.Hide
import GoSem.ClaimData
import Derived.WalkKit
import Derived.WalkSpells
import Derived.WalkLawsBesides
import Derived.Deep.QuietTactic
import Derived.BigQuiet
import Derived.BigRegion
import Derived.OpenShut
import Derived.Laws.CopyOwn
import Derived.ChangeKeysEq
import Derived.Deep.MidRow
import Derived.Deep.RegionHeld3
import Derived.StillTail
import Derived.KernelRfl
import Derived.Test.YtkidijjhedjifaaGreatRows
import Derived.Deep.AppendLies
import Derived.StillTailTactics
import Derived.Maps.AppendAt
/- Events and runs as plain data; what a note makes of runs. No program in sight. -/
namespace Go.Proofs.YtkidijjhedjifaaGreat
open Go

/-! ### plain -/
/-- a run: its event's kind and size, how often -/
structure Rn where
  k : Int
  s : Int
  c : Int
deriving DecidableEq
def Rn.cells (r : Rn) : List Value := [.int .u8 r.k, .int .i64 r.s, .int .i64 r.c]
def flatR (rs : List Rn) : List Value := rs.flatMap Rn.cells
def tot (rs : List Rn) : Int := (rs.map (·.c)).sum
/-- a note of n events (n above 0) -/
def noteL (rs : List Rn) (k s n : Int) : List Rn :=
  match rs.getLast? with
  | some r => if r.k = k ∧ r.s = s then rs.dropLast ++ [⟨k, s, r.c + n⟩] else rs ++ [⟨k, s, n⟩]
  | none => [⟨k, s, n⟩]
theorem noteL_same (rs : List Rn) (r : Rn) (n : Int) : noteL (rs ++ [r]) r.k r.s n = rs ++ [⟨r.k, r.s, r.c + n⟩] := by simp [noteL]
theorem noteL_other (rs : List Rn) (r : Rn) (k s n : Int) (h : ¬ (r.k = k ∧ r.s = s)) : noteL (rs ++ [r]) k s n = rs ++ [r] ++ [⟨k, s, n⟩] := by simp [noteL, h]
theorem flatR_length (rs : List Rn) : (flatR rs).length = rs.length * 3 := by
  induction rs with
  | nil => rfl
  | cons r rs ih => simp only [flatR, List.flatMap_cons, List.length_append, List.length_cons] at *; rw [ih]; simp [Rn.cells]; omega
theorem flatR_append (a b : List Rn) : flatR (a ++ b) = flatR a ++ flatR b := by simp [flatR]
theorem flatR_one (r : Rn) : flatR [r] = r.cells := by simp [flatR]
theorem flatR_at (rs : List Rn) (i : Nat) (r : Rn) (h : rs[i]? = some r) : (flatR rs)[i * 3]? = some (.int .u8 r.k) ∧ (flatR rs)[i * 3 + 1]? = some (.int .i64 r.s) ∧ (flatR rs)[i * 3 + 2]? = some (.int .i64 r.c) := by
  induction rs generalizing i with
  | nil => simp at h
  | cons x rs ih =>
    have e : flatR (x :: rs) = .int .u8 x.k :: .int .i64 x.s :: .int .i64 x.c :: flatR rs := by simp [flatR, Rn.cells]
    rw [e]
    cases i with
    | zero => simp at h; subst h; simp
    | succ i =>
      have := ih i (by simpa using h)
      rw [show (i + 1) * 3 = i * 3 + 1 + 1 + 1 from by omega]
      simpa using this
theorem tot_append (a b : List Rn) : tot (a ++ b) = tot a + tot b := by simp [tot]
theorem tot_one (r : Rn) : tot [r] = r.c := by simp [tot]
theorem tot_note (rs : List Rn) (k s n : Int) : tot (noteL rs k s n) = tot rs + n := by
  rcases List.eq_nil_or_concat rs with rfl | ⟨r0, r, rfl⟩
  · simp [noteL, tot]
  · rw [List.concat_eq_append]
    by_cases h : r.k = k ∧ r.s = s
    · obtain ⟨rfl, rfl⟩ := h
      rw [noteL_same, tot_append, tot_append, tot_one, tot_one]
      simp; omega
    · rw [noteL_other _ _ _ _ _ h, tot_append _ [_], tot_one]
/-- each run stands for something -/
def Posi (rs : List Rn) : Prop := ∀ r ∈ rs, 1 ≤ r.c
theorem tot_nonneg : ∀ rs : List Rn, Posi rs → (rs.length : Int) ≤ tot rs
  | [], _ => by simp [tot]
  | r :: rs, h => by
    have h1 := h r (by simp)
    have h2 := tot_nonneg rs (fun x hx => h x (by simp [hx]))
    have e : tot (r :: rs) = r.c + tot rs := by simp [tot]
    rw [e, List.length_cons]
    omega
theorem Posi.note {rs : List Rn} (h : Posi rs) (k s n : Int) (hn : 1 ≤ n) : Posi (noteL rs k s n) := by
  rcases List.eq_nil_or_concat rs with rfl | ⟨r0, r, rfl⟩
  · intro x hx; simp [noteL] at hx; subst hx; exact hn
  · rw [List.concat_eq_append] at *
    have hr := h r (by simp)
    by_cases e : r.k = k ∧ r.s = s
    · obtain ⟨rfl, rfl⟩ := e
      rw [noteL_same]
      intro x hx
      rcases List.mem_append.1 hx with hx | hx
      · exact h x (by simp [hx])
      · simp at hx; subst hx; show 1 ≤ r.c + n; omega
    · rw [noteL_other _ _ _ _ _ e]
      intro x hx
      rcases List.mem_append.1 hx with hx | hx
      · exact h x hx
      · simp at hx; subst hx; exact hn
theorem Posi.nil : Posi [] := fun _ h => by cases h

/-- an event -/
structure Ev where
  k : Int
  s : Int
deriving DecidableEq
def Ev.cells (e : Ev) : List Value := [.int .u8 e.k, .int .i64 e.s]
def Rn.ev (r : Rn) : Ev := ⟨r.k, r.s⟩
end Go.Proofs.YtkidijjhedjifaaGreat
/- The chapter 22's plain law: what is public of a vault; which code and which events an operation has; the document's way to count is the same. No program in sight. -/
namespace Go.Proofs.YtkidijjhedjifaaGreat
set_option linter.unusedVariables false
set_option linter.unusedSimpArgs false
/-- what is public of a key (alg 0) or a session -/
structure Th where
  alg : Int
  out : Int
  key : Int
  custom : Int
  msg : Int
/-- a skeleton -/
structure Sk where
  kind : Int
  handle : Int
  alg : Int
  count : Int
  out : Int
  data : Int
  more : Int
abbrev Hs := Int → Option Th
def hs0 : Hs := fun _ => none
def Hs.put (σ : Hs) (h : Int) (t : Option Th) : Hs := fun x => if x = h then t else σ x
def cntHT (σ : Hs) : Nat → Nat
  | 0 => 0
  | n + 1 => cntHT σ n + if (σ (n : Int)).isSome then 1 else 0
/-- how many are held -/
def cntH (σ : Hs) : Nat := cntHT σ 64
/-- from k on, n handles: the least that is free -/
def freeTo (σ : Hs) : Nat → Nat → Option Nat
  | 0, _ => none
  | n + 1, k => if (σ (k : Int)).isSome then freeTo σ n (k + 1) else some k
def freeH (σ : Hs) : Option Nat := freeTo σ 64 0
def takeH (σ : Hs) (t : Th) : Hs := match freeH σ with
  | some h => σ.put (h : Int) (some t)
  | none => σ
theorem cntHT_le (σ : Hs) : ∀ n, cntHT σ n ≤ n
  | 0 => Nat.le_refl _
  | n + 1 => by
    have := cntHT_le σ n
    unfold cntHT
    split <;> omega
theorem cntHT_put_ne (σ : Hs) (h : Int) (t : Option Th) : ∀ n : Nat, ¬ (0 ≤ h ∧ h < n) → cntHT (σ.put h t) n = cntHT σ n
  | 0, _ => rfl
  | n + 1, hn => by
    unfold cntHT
    rw [cntHT_put_ne σ h t n (by omega)]
    have : (σ.put h t) (n : Int) = σ (n : Int) := by unfold Hs.put; rw [if_neg (by omega)]
    rw [this]
theorem cntHT_put (σ : Hs) (h : Nat) (t : Option Th) : ∀ n : Nat, h < n → cntHT (σ.put (h : Int) t) n + (if (σ (h : Int)).isSome then 1 else 0) = cntHT σ n + (if t.isSome then 1 else 0)
  | 0, hn => by omega
  | n + 1, hn => by
    by_cases e : h = n
    · subst e
      unfold cntHT
      rw [cntHT_put_ne σ (h : Int) t h (by omega)]
      have : (σ.put (h : Int) t) (h : Int) = t := by unfold Hs.put; rw [if_pos rfl]
      rw [this]
      omega
    · have ih := cntHT_put σ h t n (by omega)
      unfold cntHT
      have : (σ.put (h : Int) t) (n : Int) = σ (n : Int) := by unfold Hs.put; rw [if_neg (by omega)]
      rw [this]
      omega
theorem cntHT_full (σ : Hs) : ∀ n, (cntHT σ n = n ↔ ∀ k, k < n → (σ (k : Int)).isSome = true)
  | 0 => by simp [cntHT]
  | n + 1 => by
    have h1 := cntHT_full σ n
    have h2 := cntHT_le σ n
    unfold cntHT
    constructor
    · intro h k hk
      cases hs : (σ (n : Int)).isSome
      · rw [hs] at h; simp at h; omega
      · rw [hs] at h
        simp at h
        by_cases e : k = n
        · rw [e]; exact hs
        · exact h1.1 h k (by omega)
    · intro h
      rw [h n (by omega), h1.2 (fun k hk => h k (by omega))]
      rfl
theorem freeTo_none (σ : Hs) : ∀ n k, (freeTo σ n k = none ↔ ∀ j, k ≤ j → j < k + n → (σ (j : Int)).isSome = true)
  | 0, k => by simp [freeTo]; omega
  | n + 1, k => by
    unfold freeTo
    cases hs : (σ (k : Int)).isSome
    · simp
      exact ⟨k, Nat.le_refl _, by omega, by simpa using hs⟩
    · rw [if_pos rfl, freeTo_none σ n (k + 1)]
      constructor
      · intro h j hj hj2
        by_cases e : j = k
        · rw [e]; exact hs
        · exact h j (by omega) (by omega)
      · intro h j hj hj2
        exact h j (by omega) (by omega)
theorem freeTo_some (σ : Hs) {h : Nat} : ∀ n k, freeTo σ n k = some h → σ (h : Int) = none ∧ k ≤ h ∧ h < k + n
  | 0, k, e => by simp [freeTo] at e
  | n + 1, k, e => by
    unfold freeTo at e
    cases hs : (σ (k : Int)).isSome
    · rw [hs] at e
      simp at e
      subst e
      exact ⟨by simpa using hs, Nat.le_refl _, by omega⟩
    · rw [hs, if_pos rfl] at e
      obtain ⟨h1, h2, h3⟩ := freeTo_some σ n (k + 1) e
      exact ⟨h1, by omega, by omega⟩
theorem freeTo_held (σ : Hs) (n : Nat) (k : Nat) (h : (σ (k : Int)).isSome = true) : freeTo σ (n + 1) k = freeTo σ n (k + 1) := by
  show (if (σ (k : Int)).isSome then freeTo σ n (k + 1) else some k) = _
  rw [if_pos h]
theorem freeTo_is (σ : Hs) (n : Nat) (k : Nat) (h : (σ (k : Int)).isSome = false) : freeTo σ (n + 1) k = some k := by
  show (if (σ (k : Int)).isSome then freeTo σ n (k + 1) else some k) = _
  rw [h]; rfl
theorem full_free (σ : Hs) : cntH σ = 64 ↔ freeH σ = none := by
  unfold cntH freeH
  rw [cntHT_full, freeTo_none]
  constructor
  · intro h j _ hj; exact h j (by omega)
  · intro h j hj; exact h j (Nat.zero_le _) (by omega)
/-! ### codes -/
def anyC (σ : Hs) (s : Sk) : Int := match σ s.handle with
  | none => 5
  | some _ => 0
def keyC (σ : Hs) (s : Sk) : Int := match σ s.handle with
  | none => 5
  | some t => if t.alg = 0 then 0 else 6
def sesC (σ : Hs) (s : Sk) : Int := match σ s.handle with
  | none => 5
  | some t => if t.alg = 0 then 6 else 0
def roomC (σ : Hs) : Int := if cntH σ = 64 then 8 else 0
def cputC (σ : Hs) (s : Sk) : Int := if 512 < s.data then 7 else roomC σ
def mostA (a : Int) : Int := if a = 1 then 32 else if a = 3 then 16 else 64
def fitB (n : Int) (s : Sk) (r : Int) : Int :=
  if s.alg < 1 ∨ 7 < s.alg then 4
  else if s.alg = 3 ∧ n ≠ 16 ∧ n ≠ 24 ∧ n ≠ 32 then 7
  else if 0 < s.data ∧ s.alg < 4 then 2
  else if 64 < s.data then 9
  else if s.out < 1 ∨ mostA s.alg < s.out then 11
  else r
def beginC (σ : Hs) (s : Sk) : Int := match σ s.handle with
  | none => 5
  | some t => if t.alg = 0 then fitB t.key s (roomC σ) else 6
def updC (σ : Hs) (s : Sk) : Int := match σ s.handle with
  | none => 5
  | some t => if t.alg = 0 then 6 else if 65536 < s.data then 9 else 0
def verC (σ : Hs) (s : Sk) : Int := match σ s.handle with
  | none => 5
  | some t => if t.alg = 0 then 6 else if s.data = t.out then 0 else 11
def cloC (σ : Hs) (s : Sk) : Int := match σ s.handle with
  | none => 5
  | some _ => roomC σ
def hashA (a : Int) : Int := if a = 1 then 32 else if a = 2 then 64 else 0
def derC (σ : Hs) (s : Sk) : Int := match σ s.handle with
  | none => 5
  | some t => if t.alg = 0 then (if hashA s.alg = 0 then 4 else 0) else 6
def keyedC (σ : Hs) (s : Sk) : Int := if s.out < 1 ∨ 512 < s.out then 7 else roomC σ
def hkdfC (σ : Hs) (s : Sk) : Int := if derC σ s = 0 then (if 65536 < s.data ∨ 65536 < s.more ∨ 255 * hashA s.alg < s.out then 9 else keyedC σ s) else derC σ s
def pbkC (σ : Hs) (s : Sk) : Int := if derC σ s = 0 then (if 65536 < s.data ∨ 4294967295 * hashA s.alg < s.out then 9 else if s.count < 1 ∨ 1048576 < s.count then 10 else keyedC σ s) else derC σ s
def codeS (σ : Hs) (s : Sk) : Int :=
  if s.kind = 1 then cputC σ s else if s.kind = 2 then beginC σ s else if s.kind = 3 then updC σ s else if s.kind = 4 then sesC σ s else if s.kind = 5 then verC σ s
  else if s.kind = 6 then cloC σ s else if s.kind = 7 then hkdfC σ s else if s.kind = 8 then pbkC σ s else if s.kind = 9 then keyC σ s else if s.kind = 10 then anyC σ s else 3
/-! ### blocks -/
def wideA (a : Int) : Int := if a = 2 then 128 else 64
def evkA (a : Int) : Int := if a = 2 then 2 else 1
def blocksA (a n : Int) : Int := (n + wideA a / 8 + wideA a) / wideA a
def keyB (a k : Int) : Int := if wideA a < k then blocksA a k + 2 else 2
def tagB (a n : Int) : Int := blocksA a n + 1
def rateA (a : Int) : Int := if a = 4 ∨ a = 6 then 168 else 136
/-- for n up to 8191 -/
def codedA (n : Int) : Int := if 32 ≤ n then 3 + n else 2 + n
def paddedA (n r : Int) : Int := (2 + n + r - 1) / r
def lastM (n : Int) : Int := if n < 1 then 0 else (n - 1) / 16
def takenA (t : Th) (a b : Int) : Int :=
  if t.alg = 3 then lastM b - lastM a else if 4 ≤ t.alg then b / rateA t.alg - a / rateA t.alg else b / wideA t.alg - a / wideA t.alg
def wkK (t : Th) : Int := if t.alg = 3 then 5 else if 4 ≤ t.alg then 3 else evkA t.alg
def wkS (t : Th) : Int := if t.alg = 3 then t.key else if 4 ≤ t.alg then 200 else wideA t.alg
def endA (t : Th) : Int := if t.alg ≤ 5 ∧ 32 ≤ t.out then 3 else 2
def summedA (t : Th) : Int :=
  if t.alg = 3 then 1 else if 4 ≤ t.alg then takenA t t.msg (t.msg + endA t) + 1 else blocksA t.alg t.msg - t.msg / wideA t.alg + 1
def thB (t : Th) (s : Sk) : Th := ⟨s.alg, s.out, t.key, s.data, 0⟩
def beginE (t : Th) : List Rn :=
  if t.alg = 3 then [⟨4, t.key, 1⟩, ⟨5, t.key, 1⟩]
  else if 4 ≤ t.alg then [⟨3, 200, paddedA (codedA 4 + codedA t.custom) (rateA t.alg) + paddedA (codedA t.key) (rateA t.alg)⟩]
  else [⟨evkA t.alg, wideA t.alg, keyB t.alg t.key⟩]
def saltA (s : Sk) : Int := if s.data = 0 then hashA s.alg else s.data
def hkR (s : Sk) (i : Nat) : Int := tagB s.alg ((if i = 0 then 0 else hashA s.alg) + s.more + 1)
def hkN (s : Sk) : Nat := ((s.out + hashA s.alg - 1) / hashA s.alg).toNat
def hkTo (s : Sk) : Nat → Int
  | 0 => 0
  | n + 1 => hkTo s n + hkR s n
def hk0 (t : Th) (s : Sk) : Int := keyB s.alg (saltA s) + tagB s.alg t.key + keyB s.alg (hashA s.alg)
def pbA (t : Th) (s : Sk) : Int := keyB s.alg t.key + ((s.out + hashA s.alg - 1) / hashA s.alg) * (tagB s.alg (s.data + 4) + (s.count - 1) * tagB s.alg (hashA s.alg))
/-- the events of an operation that is not refused, in order -/
def evS (σ : Hs) (s : Sk) : List Rn :=
  let t := (σ s.handle).getD ⟨0, 0, 0, 0, 0⟩
  if s.kind = 2 then beginE (thB t s)
  else if s.kind = 3 then [⟨wkK t, wkS t, takenA t t.msg (t.msg + s.data)⟩]
  else if s.kind = 4 then [⟨wkK t, wkS t, summedA t⟩, ⟨8, 1024, 1⟩]
  else if s.kind = 5 then [⟨wkK t, wkS t, summedA t⟩, ⟨6, t.out, 1⟩, ⟨8, 1024, 1⟩]
  else if s.kind = 7 then [⟨evkA s.alg, wideA s.alg, hk0 t s + hkTo s (hkN s)⟩]
  else if s.kind = 8 then [⟨evkA s.alg, wideA s.alg, pbA t s⟩]
  else if s.kind = 10 then [⟨8, 1024, 1⟩]
  else []
def nxS (σ : Hs) (s : Sk) : Hs :=
  let t := (σ s.handle).getD ⟨0, 0, 0, 0, 0⟩
  if s.kind = 1 then takeH σ ⟨0, 0, s.data, 0, 0⟩
  else if s.kind = 2 then takeH σ (thB t s)
  else if s.kind = 3 then σ.put s.handle (some { t with msg := t.msg + s.data })
  else if s.kind = 4 ∨ s.kind = 5 ∨ s.kind = 10 then σ.put s.handle none
  else if s.kind = 6 then takeH σ t
  else if s.kind = 7 ∨ s.kind = 8 then takeH σ ⟨0, 0, s.out, 0, 0⟩
  else σ
def timesN (rs : List Rn) (r : Rn) : List Rn := if r.c < 1 then rs else noteL rs r.k r.s r.c
def Sk.clip (s : Sk) : Sk := { s with data := max 0 s.data, more := max 0 s.more }
def codeD (σ : Hs) (s : Sk) : Int := codeS σ s.clip
/-- the runs of an operation -/
def runsD (σ : Hs) (s : Sk) : List Rn :=
  noteL ((if codeD σ s = 0 then evS σ s.clip else []).foldl timesN (noteL [] 11 s.kind 1)) 12 (codeD σ s) 1
def nxD (σ : Hs) (s : Sk) : Hs := if codeD σ s = 0 then nxS σ s.clip else σ
/-! ### what holds of every state -/
structure OKt (m : Int) (t : Th) : Prop where
  a0 : 0 ≤ t.alg
  a7 : t.alg ≤ 7
  o0 : 0 ≤ t.out
  o1 : t.alg ≠ 0 → 1 ≤ t.out
  o2 : t.out ≤ 64
  k0 : 0 ≤ t.key
  k1 : t.key ≤ 512
  c0 : 0 ≤ t.custom
  c1 : t.custom ≤ 64
  m0 : 0 ≤ t.msg
  m1 : t.msg ≤ m
structure OKh (m : Int) (σ : Hs) : Prop where
  dom : ∀ h t, σ h = some t → 0 ≤ h ∧ h < 64
  ok : ∀ h t, σ h = some t → OKt m t
theorem OKt.up {m n : Int} {t : Th} (h : OKt m t) (hn : m ≤ n) : OKt n t := ⟨h.a0, h.a7, h.o0, h.o1, h.o2, h.k0, h.k1, h.c0, h.c1, h.m0, Int.le_trans h.m1 hn⟩
theorem OKh.up {m n : Int} {σ : Hs} (h : OKh m σ) (hn : m ≤ n) : OKh n σ := ⟨h.dom, fun x t ht => (h.ok x t ht).up hn⟩
theorem OKh.start : OKh 0 hs0 := ⟨fun h t e => (nomatch (show none = some t from e)), fun h t e => (nomatch (show none = some t from e))⟩
theorem OKh.put {m : Int} {σ : Hs} (h : OKh m σ) (x : Int) (hx : 0 ≤ x ∧ x < 64) {o : Option Th} (ho : ∀ t, o = some t → OKt m t) : OKh m (σ.put x o) := by
  constructor
  · intro y t e
    unfold Hs.put at e
    split at e
    · omega
    · exact h.dom y t e
  · intro y t e
    unfold Hs.put at e
    split at e
    · exact ho t e
    · exact h.ok y t e
theorem OKh.take {m : Int} {σ : Hs} (h : OKh m σ) {t : Th} (ht : OKt m t) : OKh m (takeH σ t) := by
  unfold takeH
  cases e : freeH σ with
  | none => exact h
  | some x =>
    obtain ⟨_, h1, h2⟩ := freeTo_some σ 64 0 e
    exact h.put (x : Int) (by omega) (fun t' e' => by injection e' with e'; subst e'; exact ht)
theorem key_ok (m k : Int) (hm : 0 ≤ m) (h0 : 0 ≤ k) (h1 : k ≤ 512) : OKt m ⟨0, 0, k, 0, 0⟩ := ⟨Int.le_refl 0, (by decide : (0 : Int) ≤ 7), Int.le_refl 0, fun h => absurd rfl h, (by decide : (0 : Int) ≤ 64), h0, h1, Int.le_refl 0, (by decide : (0 : Int) ≤ 64), Int.le_refl 0, hm⟩
theorem beginC_zero {σ : Hs} {s : Sk} (h : beginC σ s = 0) : ∃ t, σ s.handle = some t ∧ t.alg = 0 ∧ 1 ≤ s.alg ∧ s.alg ≤ 7 ∧ (s.alg = 3 → t.key = 16 ∨ t.key = 24 ∨ t.key = 32) ∧ (s.alg < 4 → s.data ≤ 0) ∧ s.data ≤ 64 ∧ 1 ≤ s.out ∧ s.out ≤ mostA s.alg ∧ cntH σ ≠ 64 := by
  unfold beginC at h
  cases e : σ s.handle with
  | none => rw [e] at h; simp at h
  | some t =>
    rw [e] at h
    simp only at h
    split at h
    · rename_i h0
      unfold fitB roomC at h
      refine ⟨t, rfl, h0, ?_⟩
      split at h
      · omega
      split at h
      · omega
      split at h
      · omega
      split at h
      · omega
      split at h
      · omega
      split at h
      · omega
      · rename_i n1 n2 n3 n4 n5 n6
        refine ⟨by omega, by omega, by omega, by omega, by omega, by omega, by omega, n6⟩
    · omega
theorem keyedC_zero {σ : Hs} {s : Sk} (h : keyedC σ s = 0) : 1 ≤ s.out ∧ s.out ≤ 512 ∧ cntH σ ≠ 64 := by
  unfold keyedC roomC at h
  split at h
  · omega
  split at h
  · omega
  · rename_i n1 n2
    exact ⟨by omega, by omega, n2⟩
theorem derC_zero {σ : Hs} {s : Sk} (h : derC σ s = 0) : ∃ t, σ s.handle = some t ∧ t.alg = 0 ∧ (s.alg = 1 ∨ s.alg = 2) := by
  unfold derC at h
  cases e : σ s.handle with
  | none => rw [e] at h; simp at h
  | some t =>
    rw [e] at h
    simp only at h
    split at h
    · rename_i h0
      refine ⟨t, rfl, h0, ?_⟩
      unfold hashA at h
      by_cases e1 : s.alg = 1
      · omega
      by_cases e2 : s.alg = 2
      · omega
      rw [if_neg e1, if_neg e2] at h
      simp at h
    · omega
theorem hkdfC_zero {σ : Hs} {s : Sk} (h : hkdfC σ s = 0) : ∃ t, σ s.handle = some t ∧ t.alg = 0 ∧ (s.alg = 1 ∨ s.alg = 2) ∧ s.data ≤ 65536 ∧ s.more ≤ 65536 ∧ 1 ≤ s.out ∧ s.out ≤ 512 ∧ cntH σ ≠ 64 := by
  unfold hkdfC at h
  split at h
  · rename_i h0
    obtain ⟨t, h1, h2, h3⟩ := derC_zero h0
    split at h
    · omega
    · obtain ⟨g1, g2, g3⟩ := keyedC_zero h
      exact ⟨t, h1, h2, h3, by omega, by omega, g1, g2, g3⟩
  · omega
theorem pbkC_zero {σ : Hs} {s : Sk} (h : pbkC σ s = 0) : ∃ t, σ s.handle = some t ∧ t.alg = 0 ∧ (s.alg = 1 ∨ s.alg = 2) ∧ s.data ≤ 65536 ∧ 1 ≤ s.count ∧ s.count ≤ 1048576 ∧ 1 ≤ s.out ∧ s.out ≤ 512 ∧ cntH σ ≠ 64 := by
  unfold pbkC at h
  split at h
  · rename_i h0
    obtain ⟨t, h1, h2, h3⟩ := derC_zero h0
    split at h
    · omega
    split at h
    · omega
    · obtain ⟨g1, g2, g3⟩ := keyedC_zero h
      exact ⟨t, h1, h2, h3, by omega, by omega, by omega, g1, g2, g3⟩
  · omega
theorem sesC_zero {σ : Hs} {s : Sk} (h : sesC σ s = 0) : ∃ t, σ s.handle = some t ∧ t.alg ≠ 0 := by
  unfold sesC at h
  cases e : σ s.handle with
  | none => rw [e] at h; simp at h
  | some t =>
    rw [e] at h
    simp only at h
    split at h
    · omega
    · rename_i h0; exact ⟨t, rfl, h0⟩
theorem updC_zero {σ : Hs} {s : Sk} (h : updC σ s = 0) : ∃ t, σ s.handle = some t ∧ t.alg ≠ 0 ∧ s.data ≤ 65536 := by
  unfold updC at h
  cases e : σ s.handle with
  | none => rw [e] at h; simp at h
  | some t =>
    rw [e] at h
    simp only at h
    split at h
    · omega
    · rename_i h0
      split at h
      · omega
      · exact ⟨t, rfl, h0, by omega⟩
theorem verC_zero {σ : Hs} {s : Sk} (h : verC σ s = 0) : ∃ t, σ s.handle = some t ∧ t.alg ≠ 0 ∧ s.data = t.out := by
  unfold verC at h
  cases e : σ s.handle with
  | none => rw [e] at h; simp at h
  | some t =>
    rw [e] at h
    simp only at h
    split at h
    · omega
    · rename_i h0
      split at h
      · rename_i h1; exact ⟨t, rfl, h0, h1⟩
      · omega
theorem anyC_zero {σ : Hs} {s : Sk} (h : anyC σ s = 0) : ∃ t, σ s.handle = some t := by
  unfold anyC at h
  cases e : σ s.handle with
  | none => rw [e] at h; simp at h
  | some t => exact ⟨t, rfl⟩
theorem cloC_zero {σ : Hs} {s : Sk} (h : cloC σ s = 0) : ∃ t, σ s.handle = some t ∧ cntH σ ≠ 64 := by
  unfold cloC roomC at h
  cases e : σ s.handle with
  | none => rw [e] at h; simp at h
  | some t =>
    rw [e] at h
    simp only at h
    split at h
    · omega
    · rename_i h0; exact ⟨t, rfl, h0⟩
theorem keyC_zero {σ : Hs} {s : Sk} (h : keyC σ s = 0) : ∃ t, σ s.handle = some t ∧ t.alg = 0 := by
  unfold keyC at h
  cases e : σ s.handle with
  | none => rw [e] at h; simp at h
  | some t =>
    rw [e] at h
    simp only at h
    split at h
    · rename_i h0; exact ⟨t, rfl, h0⟩
    · omega
theorem cputC_zero {σ : Hs} {s : Sk} (h : cputC σ s = 0) : s.data ≤ 512 ∧ cntH σ ≠ 64 := by
  unfold cputC roomC at h
  split at h
  · omega
  split at h
  · omega
  · rename_i n1 n2; exact ⟨by omega, n2⟩
theorem mostA_le (a : Int) : mostA a ≤ 64 := by
  unfold mostA
  split
  · omega
  split <;> omega
/-- the next state -/
theorem OKh.next {m : Int} {σ : Hs} (h : OKh m σ) (hm : 0 ≤ m) (s : Sk) (hd : 0 ≤ s.data) (hc : codeS σ s = 0) : OKh (m + 65536) (nxS σ s) := by
  have hu := h.up (show m ≤ m + 65536 by omega)
  unfold codeS at hc
  unfold nxS
  simp only
  split
  · rename_i k
    rw [if_pos k] at hc
    have := cputC_zero hc
    exact hu.take (key_ok _ _ (by omega) hd this.1)
  rename_i k1
  rw [if_neg k1] at hc
  split
  · rename_i k
    rw [if_pos k] at hc
    obtain ⟨t, h1, h2, h3, h4, h5, h6, h7, h8, h9, h10⟩ := beginC_zero hc
    rw [h1]
    have ht := hu.ok _ _ h1
    have := mostA_le s.alg
    exact hu.take ⟨by show 0 ≤ s.alg; omega, by show s.alg ≤ 7; omega, by show 0 ≤ s.out; omega, fun _ => h8, by show s.out ≤ 64; omega, ht.k0, ht.k1, hd, h7, Int.le_refl 0, by show (0 : Int) ≤ _; omega⟩
  rename_i k2
  rw [if_neg k2] at hc
  split
  · rename_i k
    rw [if_pos k] at hc
    obtain ⟨t, h1, h2, h3⟩ := updC_zero hc
    rw [h1]
    have ht := h.ok _ _ h1
    exact hu.put _ (h.dom _ _ h1) (fun t' e => by injection e with e; subst e; exact ⟨ht.a0, ht.a7, ht.o0, ht.o1, ht.o2, ht.k0, ht.k1, ht.c0, ht.c1, by have := ht.m0; show 0 ≤ t.msg + s.data; omega, by have := ht.m1; show t.msg + s.data ≤ _; omega⟩)
  rename_i k3
  rw [if_neg k3] at hc
  split
  · rename_i k
    have hx : ∃ t, σ s.handle = some t := by
      rcases k with k | k | k
      · rw [if_pos k] at hc
        obtain ⟨t, h1, _⟩ := sesC_zero hc
        exact ⟨t, h1⟩
      · rw [if_neg (by omega), if_pos k] at hc
        obtain ⟨t, h1, _⟩ := verC_zero hc
        exact ⟨t, h1⟩
      · rw [if_neg (by omega), if_neg (by omega), if_neg (by omega), if_neg (by omega), if_neg (by omega), if_neg (by omega), if_pos k] at hc
        exact anyC_zero hc
    obtain ⟨t, h1⟩ := hx
    exact hu.put _ (h.dom _ _ h1) (fun t' e => by cases e)
  rename_i k4
  rw [if_neg (by omega), if_neg (by omega)] at hc
  split
  · rename_i k
    rw [if_pos k] at hc
    obtain ⟨t, h1, _⟩ := cloC_zero hc
    rw [h1]
    exact hu.take (hu.ok _ _ h1)
  rename_i k6
  rw [if_neg k6] at hc
  split
  · rename_i k
    have hx : 1 ≤ s.out ∧ s.out ≤ 512 := by
      rcases k with k | k
      · rw [if_pos k] at hc
        obtain ⟨t, h1, h2, h3, h4, h5, h6, h7, _⟩ := hkdfC_zero hc
        exact ⟨h6, h7⟩
      · rw [if_neg (by omega), if_pos k] at hc
        obtain ⟨t, h1, h2, h3, h4, h5, h6, h7, h8, _⟩ := pbkC_zero hc
        exact ⟨h7, h8⟩
    exact hu.take (key_ok _ _ (by omega) (by omega) hx.2)
  exact hu
theorem OKh.step {m : Int} {σ : Hs} (h : OKh m σ) (hm : 0 ≤ m) (s : Sk) : OKh (m + 65536) (nxD σ s) := by
  unfold nxD
  split
  · rename_i hc
    exact h.next hm s.clip (by show 0 ≤ max 0 s.data; omega) hc
  · exact h.up (by omega)
end Go.Proofs.YtkidijjhedjifaaGreat
/- Memory said block by block: a block of known cells, what keeps it, and 'Only S': of the blocks that were there only those in S may have turned. No program in sight. -/
namespace Go.Proofs.YtkidijjhedjifaaGreat
open Go.RowKit

/-! ### a block of known cells -/
def Blk (w : World) (b : Nat) (t : TypeId) (cs : Array Value) : Prop := w.heap[b]? = some (.cells cs t (0, 0))

theorem Blk.lt {w : World} {b : Nat} {t : TypeId} {cs : Array Value} (h : Blk w b t cs) : b < w.heap.size := (Array.getElem?_eq_some_iff.1 h).1
theorem Blk.new (w : World) (t : TypeId) (cs : Array Value) : Blk (w.alloc (.cells cs t)) w.heap.size t cs := heap_alloc_new w _
theorem Blk.at {w : World} {n : Nat} {t : TypeId} {cs cs' : Array Value} (hn : n = w.heap.size) (hc : cs = cs') : Blk (w.alloc (.cells cs t)) n t cs' := by
  subst hn; subst hc; exact Blk.new w t cs
theorem Blk.alloc {w : World} {b : Nat} {t : TypeId} {cs : Array Value} (h : Blk w b t cs) (o : Obj) : Blk (w.alloc o) b t cs := (Below.heap_alloc w o b h.lt).trans h
theorem Blk.draw {w : World} {b : Nat} {t : TypeId} {cs : Array Value} (h : Blk w b t cs) (n : Nat) : Blk (w.drewN n) b t cs := h
theorem Blk.drew {w : World} {b : Nat} {t : TypeId} {cs : Array Value} (h : Blk w b t cs) : Blk w.drew b t cs := h
theorem Blk.cell {w : World} {b : Nat} {t : TypeId} {cs : Array Value} (h : Blk w b t cs) (j : Nat) : w.cell? ⟨b, j, none⟩ = cs[j]? := cell_of_row w b j cs t (0, 0) h
theorem Blk.cellAt {w : World} {b : Nat} {t : TypeId} {cs : Array Value} (h : Blk w b t cs) (j : Nat) {v : Value} (hv : cs[j]? = some v) : w.cell? ⟨b, j, none⟩ = some v := (h.cell j).trans hv
theorem Blk.unfrozen {w : World} {b : Nat} {t : TypeId} {cs : Array Value} (h : Blk w b t cs) (j : Nat) : w.frozen? ⟨b, j, none⟩ = false := frozen_of_row w b j cs t h
theorem Blk.set {w : World} {b : Nat} {t : TypeId} {cs : Array Value} (h : Blk w b t cs) (i : Nat) (v : Value) : Blk (w.setCell ⟨b, i, none⟩ v) b t (cs.setIfInBounds i v) := heap_setCell_same w b i cs t v h
theorem Blk.set_ne {w : World} {b : Nat} {t : TypeId} {cs : Array Value} (h : Blk w b t cs) {a : Addr} (hne : b ≠ a.block) (v : Value) : Blk (w.setCell a v) b t cs := (heap_setCell_other w a b v hne).trans h
theorem Blk.row {w : World} {b : Nat} {t : TypeId} {cs : Array Value} (h : Blk w b t cs) (cs' : Array Value) : Blk (w.setRow b cs') b t cs' := setRow_heap w b cs cs' t (0, 0) h
theorem Blk.below {w w' : World} {b B : Nat} {t : TypeId} {cs : Array Value} (h : Blk w b t cs) (hb : Below B w w') (hlt : b < B) : Blk w' b t cs := (hb.block b hlt).trans h

/-! ### the frame -/
structure Only (S : Nat → Prop) (w w' : World) : Prop where
  os : w'.os = w.os
  tape : w'.tape = w.tape
  output : w'.output = w.output
  size : w.heap.size ≤ w'.heap.size
  block : ∀ k, k < w.heap.size → ¬ S k → w'.heap[k]? = w.heap[k]?

theorem Only.refl (S : Nat → Prop) (w : World) : Only S w w := ⟨rfl, rfl, rfl, Nat.le_refl _, fun _ _ _ => rfl⟩
theorem Only.trans {S S' : Nat → Prop} {a b c : World} (h : Only S a b) (k : Only S' b c) (hs : ∀ x, S' x → S x ∨ a.heap.size ≤ x) : Only S a c :=
  ⟨k.os.trans h.os, k.tape.trans h.tape, k.output.trans h.output, Nat.le_trans h.size k.size,
   fun i hi hn => (k.block i (Nat.lt_of_lt_of_le hi h.size) (fun hx => by rcases hs i hx with h' | h'; exact hn h'; omega)).trans (h.block i hi hn)⟩
theorem Only.mono {S S' : Nat → Prop} {a b : World} (h : Only S a b) (hs : ∀ x, S x → S' x) : Only S' a b :=
  ⟨h.os, h.tape, h.output, h.size, fun i hi hn => h.block i hi (fun hx => hn (hs i hx))⟩
theorem Only.alloc {S : Nat → Prop} {a b : World} (h : Only S a b) (o : Obj) : Only S a (b.alloc o) :=
  ⟨h.os, h.tape, h.output, Nat.le_trans h.size (by simp), fun i hi hn => (Below.heap_alloc b o i (Nat.lt_of_lt_of_le hi h.size)).trans (h.block i hi hn)⟩
theorem Only.draw {S : Nat → Prop} {a b : World} (h : Only S a b) (n : Nat) : Only S a (b.drewN n) := ⟨h.os, h.tape, h.output, h.size, h.block⟩
theorem Only.drew {S : Nat → Prop} {a b : World} (h : Only S a b) : Only S a b.drew := ⟨h.os, h.tape, h.output, h.size, h.block⟩
theorem Only.set {S : Nat → Prop} {a b : World} (h : Only S a b) {p : Addr} (hp : S p.block ∨ a.heap.size ≤ p.block) (v : Value) : Only S a (b.setCell p v) :=
  ⟨h.os, h.tape, h.output, by simpa using h.size, fun i hi hn => (heap_setCell_other b p i v (by
    rintro rfl
    rcases hp with hp | hp
    · exact hn hp
    · omega)).trans (h.block i hi hn)⟩
theorem Only.row {S : Nat → Prop} {a b : World} (h : Only S a b) {g : Nat} (hp : S g ∨ a.heap.size ≤ g) (cs : Array Value) : Only S a (b.setRow g cs) :=
  ⟨by simpa using h.os, by simpa using h.tape, by simpa using h.output, by simpa using h.size, fun i hi hn => (setRow_other b g i cs (by
    rintro rfl
    rcases hp with hp | hp
    · exact hn hp
    · omega)).trans (h.block i hi hn)⟩
theorem Only.of_below {a b : World} (h : Below a.heap.size a b) (S : Nat → Prop) : Only S a b := ⟨h.os, h.tape, h.output, h.size, fun i hi _ => h.block i hi⟩
theorem Only.below {S : Nat → Prop} {a b : World} (h : Only S a b) (hs : ∀ x, x < a.heap.size → ¬ S x) : Below a.heap.size a b := ⟨h.os, h.tape, h.output, h.size, fun i hi => h.block i hi (hs i hi)⟩
theorem Only.grown {S : Nat → Prop} {a b c : World} (h : Only S a b) {row : Option Nat} (hg : b.grownBy c row) (hs : ∀ k, row = some k → S k ∨ a.heap.size ≤ k) : Only S a c :=
  ⟨hg.os.trans h.os, hg.tape.trans h.tape, hg.output.trans h.output, Nat.le_trans h.size hg.size, fun i hi hn => (hg.block i (Nat.lt_of_lt_of_le hi h.size) (fun e => by
    rcases hs i e.symm with h' | h'
    · exact hn h'
    · omega)).trans (h.block i hi hn)⟩
theorem Blk.only {S : Nat → Prop} {w w' : World} {b : Nat} {t : TypeId} {cs : Array Value} (h : Blk w b t cs) (ho : Only S w w') (hb : ¬ S b) : Blk w' b t cs := (ho.block b h.lt hb).trans h
theorem Only.cell {S : Nat → Prop} {w w' : World} (ho : Only S w w') {a : Addr} (hlt : a.block < w.heap.size) (hb : ¬ S a.block) : w'.cell? a = w.cell? a := World.cell?_of_block (w := w) (ho.block a.block hlt hb)
/-! ### rows of bytes -/
def B (x : UInt8) : Value := .int .u8 (x.toNat : Int)
/-! ### whole rows: the load, the store, the result -/
section
variable {P : Program}
end

/-! ### ranges -/
theorem Blk.range {w : World} {b : Nat} {t : TypeId} {cs : Array Value} (h : Blk w b t cs) : w.rangeAt b 0 cs.toList := fun j v hv => by
  rw [Nat.zero_add]
  exact h.cellAt j (by simpa using hv)
/-! ### '==' of two arrays of bytes -/
section
variable {P : Program}
end

/-! ### tables -/
/-! ### a slice of bytes that is read: 'Bs w v l': v is a slice whose elements are l -/
structure Bs (w : World) (v : Value) (l : List UInt8) : Prop where
  form : ∃ ao cap, v = .slice ao l.length cap ∧ l.length ≤ cap ∧ cap ≤ 9223372036854775807 ∧ (ao = none → cap = 0) ∧
    ∀ j, j < l.length → ∃ b off, ao = some ⟨b, off, none⟩ ∧ w.cell? ⟨b, off + j, none⟩ = some (.int .u8 ((l.getD j 0).toNat : Int))
theorem Bs.len {w : World} {v : Value} {l : List UInt8} (h : Bs w v l) : l.length ≤ 9223372036854775807 := by
  obtain ⟨ao, cap, _, h1, h2, _⟩ := h.form
  omega
theorem Bs.nil (w : World) : Bs w (.slice none 0 0) [] := ⟨none, 0, rfl, by simp, by simp, fun _ => rfl, fun j hj => by simp at hj⟩
/-- what keeps a slice that is read -/
theorem Bs.keep {w w' : World} {v : Value} {l : List UInt8} (h : Bs w v l) (hk : ∀ b, v.ownBlock = some b → b < w.heap.size → w'.heap[b]? = w.heap[b]?) : Bs w' v l := by
  obtain ⟨ao, cap, rfl, h1, h2, h3, h4⟩ := h.form
  refine ⟨ao, cap, rfl, h1, h2, h3, fun j hj => ?_⟩
  obtain ⟨b, off, rfl, hc⟩ := h4 j hj
  have hlt : b < w.heap.size := World.block_lt_of_cell? w _ hc
  exact ⟨b, off, rfl, (World.cell?_of_block (w := w) (hk b rfl hlt)).trans hc⟩
theorem Bs.below {w w' : World} {v : Value} {l : List UInt8} (h : Bs w v l) {B0 : Nat} (hb : Below B0 w w') (hv : ∀ b, v.ownBlock = some b → b < B0) : Bs w' v l :=
  h.keep fun b hb1 _ => hb.block b (hv b hb1)
theorem Bs.grow {w w' : World} {v : Value} {l : List UInt8} (h : Bs w v l) (hb : Below w.heap.size w w') : Bs w' v l := h.keep fun b _ hlt => hb.block b hlt
theorem Bs.only {S : Nat → Prop} {w w' : World} {v : Value} {l : List UInt8} (h : Bs w v l) (ho : Only S w w') (hv : ∀ b, v.ownBlock = some b → ¬ S b) : Bs w' v l :=
  h.keep fun b hb1 hlt => ho.block b hlt (hv b hb1)
end Go.Proofs.YtkidijjhedjifaaGreat
/- A region that draws its order, walked once in the order of its text: each operation of its head has ONE value in every world that meets S, and leaves a world that meets S (reads, arithmetic, calls that keep S). The tail follows in its one order. No program in sight. -/
namespace Go.Proofs.YtkidijjhedjifaaGreat
open Go

section
variable {P : Program} {ops : Array Oper} {md : Region.Mode} {ib : Nat} {S S' : World → Prop}

/-- what one step gives: the value v, and S again -/
def Gives (P : Program) (S : World → Prop) (v : Value) : Result Next → Prop
  | .ok (.value u) w' => u = v ∧ S w'
  | .ok .skip w' => v = undef ∧ S w'
  | .ok (.enter f args) w' => Calls P f args w' fun e w'' => e = .returned v ∧ S w''
  | _ => False
/-- operation i of the head: number ib leads from S to S'; every other one keeps both -/
def Tame (P : Program) (ops : Array Oper) (ib : Nat) (S S' : World → Prop) (i : Nat) (o : Oper) (v : Value) (a : Act) : Prop :=
  (Region.wanted o (yielded ops a.tmps) = true ∧ (i = ib → ∀ w, S w → Gives P S' v ((execOp a.eval o).run P w)) ∧ (i ≠ ib → (∀ w, S w → Gives P S v ((execOp a.eval o).run P w)) ∧ ∀ w, S' w → Gives P S' v ((execOp a.eval o).run P w))) ∨
  (Region.wanted o (yielded ops a.tmps) = false ∧ v = undef ∧ i ≠ ib)
/-- the world's condition, by what has come up -/
def Met (ib : Nat) (S S' : World → Prop) (listed : Array Bool) (w : World) : Prop := (listed.getD ib false = false ∧ S w) ∨ (listed.getD ib false = true ∧ S' w)

theorem Tame.of_same {i : Nat} {o : Oper} {v : Value} {a a' : Act} (hy : Tame P ops ib S S' i o v a) (he : execOp a'.eval o = execOp a.eval o)
    (hw : Region.wanted o (yielded ops a'.tmps) = Region.wanted o (yielded ops a.tmps)) : Tame P ops ib S S' i o v a' := by
  unfold Tame at *
  rw [he, hw]
  exact hy
theorem gives_wp {o : Oper} {v : Value} {a : Act} {T : World → Prop} {K : Act → World → Prop} {Q : Exit → Act → World → Prop} {w : World} (h1 : Gives P T v ((execOp a.eval o).run P w)) (h : ∀ w, T w → K (a.put o.dst v) w) : o.wp P a w K Q := by
  unfold Oper.wp
  generalize (execOp a.eval o).run P w = r at *
  cases r with
  | ok n w' =>
    cases n <;> simp only [Gives] at h1 <;> simp only [Oper.upon]
    case value u => obtain ⟨rfl, h2⟩ := h1; exact h _ h2
    case skip => obtain ⟨rfl, h2⟩ := h1; exact h _ h2
    case enter f args => exact h1.mono fun e w'' ⟨he, hs⟩ => by subst he; exact h _ hs
  | halt x w' => simp only [Gives] at h1
theorem Tame.wpOp {i : Nat} {o : Oper} {v : Value} {a : Act} {listed : Array Bool} (hi : ops[i]? = some o) (hr : listed.getD i true = false) (hy : Tame P ops ib S S' i o v a) {K : Act → World → Prop} {Q : Exit → Act → World → Prop}
    (h : ∀ w, Met ib S S' (listed.setIfInBounds i true) w → K (a.put o.dst v) w) (w : World) (hS : Met ib S S' listed w) : wpOp P ops Q i K a w := by
  unfold Go.wpOp
  simp only [hi]
  have hlt : i < listed.size := by
    rcases Nat.lt_or_ge i listed.size with h' | h'
    · exact h'
    · simp [Array.getElem?_eq_none h'] at hr
  have hr' : listed.getD i false = false := getD_both hr
  rcases hy with ⟨hw, hb, hn⟩ | ⟨hw, rfl, hne⟩
  · simp only [hw, if_true]
    refine .inl ?_
    by_cases e : i = ib
    · subst e
      rcases hS with ⟨_, hS⟩ | ⟨hx, _⟩
      · exact gives_wp (hb rfl w hS) fun w' hw' => h w' (.inr ⟨by simp [hlt], hw'⟩)
      · rw [hr'] at hx; cases hx
    · obtain ⟨h1, h2⟩ := hn e
      rcases hS with ⟨hx, hS⟩ | ⟨hx, hS⟩
      · exact gives_wp (h1 w hS) fun w' hw' => h w' (.inl ⟨by rw [getD_set_ne false e]; exact hx, hw'⟩)
      · exact gives_wp (h2 w hS) fun w' hw' => h w' (.inr ⟨by rw [getD_set_ne false e]; exact hx, hw'⟩)
  · simp only [hw, Bool.false_eq_true, if_false]
    refine h w ?_
    rcases hS with ⟨hx, hS⟩ | ⟨hx, hS⟩
    · exact .inl ⟨by rw [getD_set_ne false hne]; exact hx, hS⟩
    · exact .inr ⟨by rw [getD_set_ne false hne]; exact hx, hS⟩

def taOp (P : Program) (ops : Array Oper) (ib : Nat) (S S' : World → Prop) (i : Nat) (K : Act → Prop) (a : Act) : Prop :=
  ∃ o v, ops[i]? = some o ∧ Tame P ops ib S S' i o v a ∧ K (a.put o.dst v)
theorem taOp_mono {i : Nat} {a : Act} {K K' : Act → Prop} (h : ∀ a, K a → K' a) (hh : taOp P ops ib S S' i K a) : taOp P ops ib S S' i K' a := by
  obtain ⟨o, v, h1, h2, h3⟩ := hh
  exact ⟨o, v, h1, h2, h _ h3⟩
theorem taOp_put {i j : Nat} {oi oj : Oper} {v : Value} (hj : ops[j]? = some oj) (hap : oi.apart ops oj = true)
    (hsi : ∀ cs b, oi.op ≠ .select cs b) (hsj : ∀ cs b, oj.op ≠ .select cs b) {K : Act → Prop} {a : Act}
    (hy : Tame P ops ib S S' i oi v a) (h : taOp P ops ib S S' j K (a.put oi.dst v)) :
    taOp P ops ib S S' j (fun a' => Tame P ops ib S S' i oi v a' ∧ K (a'.put oi.dst v)) a := by
  obtain ⟨h1, h2, h3⟩ := Oper.apart_spec hap
  obtain ⟨o, u, ho, hyo, hK⟩ := h
  have e : o = oj := Option.some.inj (ho.symm.trans hj)
  subst e
  refine ⟨o, u, hj, hyo.of_same (execOp_put o hsj a oi.dst v h1).symm (wanted_put o a oi.dst v h1).symm, ?_, ?_⟩
  · exact hy.of_same (execOp_put oi hsi a o.dst u h3) (wanted_put oi a o.dst u h3)
  · rw [← Act.put_comm a v u h2]
    exact hK

def wpAnyT (P : Program) (md : Region.Mode) (ops : Array Oper) (ib : Nat) (S S' : World → Prop) (n : Nat) (L : Array Bool → Act → Prop) : Nat → Array Bool → Act → Prop
  | 0, listed, a => L listed a
  | f + 1, listed, a =>
    Region.ready md ops listed ≠ [] ∧ ∀ i ∈ Region.ready md ops listed, i < n ∧ taOp P ops ib S S' i (wpAnyT P md ops ib S S' n L f (listed.setIfInBounds i true)) a

theorem wpAny_of_headT {n g : Nat} {L : Array Bool → Act → Prop} {Q' : Exit → Act → World → Prop} (hL : ∀ listed a, L listed a → ∀ w, Met ib S S' listed w → wpAny P md ops Q' g listed a w) :
    ∀ (f : Nat) (listed : Array Bool) (a : Act), wpAnyT P md ops ib S S' n L f listed a → ∀ w, Met ib S S' listed w → wpAny P md ops Q' (f + g) listed a w
  | 0, listed, a, h, w, hS => by rw [Nat.zero_add]; exact hL _ _ h w hS
  | f + 1, listed, a, h, w, hS => by
    rw [show f + 1 + g = (f + g) + 1 by omega]
    refine ⟨fun h0 => absurd h0 h.1, fun i hi => ?_⟩
    obtain ⟨o, v, ho, hy, hK⟩ := (h.2 i hi).2
    exact hy.wpOp ho (mem_ready.1 hi).1 (fun w' hS' => wpAny_of_headT hL f _ _ hK w' hS') w hS

/-- as 'sinkB' and 'tail_waits', from number m on: the first m have come up -/
def sinkM (md : Region.Mode) (ops : Array Oper) (m n : Nat) : Bool :=
  (List.range n).all fun i => decide (i < m) || (List.range (n + 1)).any fun j => decide (i < j) && Region.waitsFor md ops j i
/-- each operation behind n waits for one from n on -/
def chainW (md : Region.Mode) (ops : Array Oper) (n : Nat) : Bool :=
  (List.range ops.size).all fun t => decide (t ≤ n) || (List.range t).any fun u => decide (n ≤ u) && Region.waitsFor md ops t u
theorem chainW_of {n : Nat} (hc : Region.chainB md ops n = true) : chainW md ops n = true := by
  refine List.all_eq_true.2 fun t ht => ?_
  have h1 := List.all_eq_true.1 hc t ht
  simp only [Bool.or_eq_true, decide_eq_true_eq] at h1 ⊢
  rcases h1 with h1 | h1
  · exact .inl h1
  · by_cases h : t ≤ n
    · exact .inl h
    · refine .inr (List.any_eq_true.2 ⟨t - 1, List.mem_range.2 (by omega), ?_⟩)
      simp only [Bool.and_eq_true, decide_eq_true_eq]
      exact ⟨by omega, h1⟩
theorem tail_waitsM {m n : Nat} {listed : Array Bool} (hs : sinkM md ops m n = true) (hc : chainW md ops n = true) (hn : n < ops.size) (inv : HeadInv md ops n listed) :
    ∀ (d i : Nat), n - i = d → m ≤ i → i < n → listed.getD i true = false → ∀ t, n ≤ t → t ∉ Region.ready md ops listed := by
  intro d
  induction d using Nat.strongRecOn with
  | _ d ih =>
    intro i hd hm hi hun t ht hr
    obtain ⟨_, ot, hot, hall⟩ := mem_ready.1 hr
    have htlt : t < ops.size := (Array.getElem?_eq_some_iff.1 hot).1
    by_cases htn : t = n
    · subst htn
      have h1 := List.all_eq_true.1 hs i (List.mem_range.2 hi)
      simp only [Bool.or_eq_true, decide_eq_true_eq] at h1
      rcases h1 with h1 | h1
      · omega
      obtain ⟨j, hj, hj2⟩ := List.any_eq_true.1 h1
      simp only [Bool.and_eq_true, decide_eq_true_eq] at hj2
      obtain ⟨oj, hoj, e, he, hb, hon⟩ := Region.waitsFor_spec hj2.2
      have hjle : j ≤ t := by have := List.mem_range.1 hj; omega
      by_cases hjt : j = t
      · subst hjt
        have : oj = ot := Option.some.inj (hoj.symm.trans hot)
        subst this
        have h2 := hall e he hb
        rw [hon, getD_both hun] at h2
        cases h2
      · cases hl : listed.getD j false with
        | true =>
          have h2 := inv.closed j oj hoj hl e he hb
          rw [hon, getD_both hun] at h2
          cases h2
        | false =>
          have hjs : j < listed.size := by rw [inv.size]; omega
          exact ih (t - j) (by omega) j rfl (by omega) (by omega) (getD_in hjs hl) t (Nat.le_refl _) hr
    · have h1 := List.all_eq_true.1 hc t (List.mem_range.2 htlt)
      simp only [Bool.or_eq_true, decide_eq_true_eq] at h1
      rcases h1 with h1 | h1
      · omega
      · obtain ⟨u, hu, hu2⟩ := List.any_eq_true.1 h1
        have hut := List.mem_range.1 hu
        simp only [Bool.and_eq_true, decide_eq_true_eq] at hu2
        obtain ⟨o', ho', e, he, hb, hon⟩ := Region.waitsFor_spec hu2.2
        have : o' = ot := Option.some.inj (ho'.symm.trans hot)
        subst this
        have h2 := hall e he hb
        rw [hon, getD_both (inv.tail u hu2.1 (by omega))] at h2
        cases h2

theorem wpAnyT_first {m n i : Nat} {oi : Oper} {v : Value} {L : Array Bool → Act → Prop} (hi : ops[i]? = some oi) (hsel : ∀ (j : Nat) (o : Oper) cs b, ops[j]? = some o → o.op ≠ .select cs b)
    (hs : sinkM md ops m n = true) (hc : chainW md ops n = true) (hn : n < ops.size) (hmi : m ≤ i) (hin : i < n)
    (hdone : ∀ listed a, L listed a → ∀ j ∈ Region.ready md ops listed, n ≤ j) :
    ∀ (f : Nat) (listed : Array Bool) (a : Act), HeadInv md ops n listed →
      (∀ j oj, ops[j]? = some oj → j ≠ i → listed.getD j true = false → (∀ e ∈ oj.after, Region.binds md e = true → e.on ≠ i) → oi.apart ops oj = true) →
      i ∈ Region.ready md ops listed → Tame P ops ib S S' i oi v a →
      wpAnyT P md ops ib S S' n L f (listed.setIfInBounds i true) (a.put oi.dst v) → wpAnyT P md ops ib S S' n L (f + 1) listed a := by
  intro f
  induction f with
  | zero =>
    intro listed a inv _ hr hy H
    have hun := (mem_ready.1 hr).1
    refine ⟨fun h => (by rw [h] at hr; cases hr), fun j hj => ?_⟩
    have hjn : j < n := by
      rcases Nat.lt_or_ge j n with h | h
      · exact h
      · exact absurd hj (tail_waitsM hs hc hn inv _ i rfl hmi hin hun j h)
    refine ⟨hjn, ?_⟩
    by_cases hji : j = i
    · subst hji; exact ⟨oi, v, hi, hy, H⟩
    · have := hdone _ _ H j (ready_mono hj hji)
      omega
  | succ f ih =>
    intro listed a inv hfree hr hy H
    have hun := (mem_ready.1 hr).1
    refine ⟨fun h => (by rw [h] at hr; cases hr), fun j hj => ?_⟩
    have hjn : j < n := by
      rcases Nat.lt_or_ge j n with h | h
      · exact h
      · exact absurd hj (tail_waitsM hs hc hn inv _ i rfl hmi hin hun j h)
    refine ⟨hjn, ?_⟩
    by_cases hji : j = i
    · subst hji; exact ⟨oi, v, hi, hy, H⟩
    · have h1 := (H.2 j (ready_mono hj hji)).2
      obtain ⟨hjun, oj, hoj, hall⟩ := mem_ready.1 hj
      have hnot : ∀ e ∈ oj.after, Region.binds md e = true → e.on ≠ i := fun e he hb heq => by
        have h1 := hall e he hb
        rw [heq, getD_both hun] at h1
        cases h1
      have h2 := taOp_put hoj (hfree j oj hoj hji hjun hnot) (fun cs b => hsel i oi cs b hi) (fun cs b => hsel j oj cs b hoj) hy h1
      have hfree' : ∀ k ok, ops[k]? = some ok → k ≠ i → (listed.setIfInBounds j true).getD k true = false →
          (∀ e ∈ ok.after, Region.binds md e = true → e.on ≠ i) → oi.apart ops ok = true := fun k ok hk hki hun hno => by
        refine hfree k ok hk hki ?_ hno
        by_cases hjk : j = k
        · subst hjk; exact hjun
        · rw [getD_set_ne true hjk] at hun; exact hun
      refine taOp_mono (fun a' h3 => ih (listed.setIfInBounds j true) a' (inv.set hj hjn) hfree' (ready_mono hr (Ne.symm hji)) h3.1 ?_) h2
      rw [Array.setIfInBounds_comm _ _ hji]
      exact h3.2

/-- the head's operations in the order of the text -/
def wpTame (P : Program) (ops : Array Oper) (ib : Nat) (S S' : World → Prop) (Q : Act → Prop) : Nat → List Oper → Act → Prop
  | _, [], a => Q a
  | k, o :: rest, a => ∃ v, Tame P ops ib S S' k o v a ∧ wpTame P ops ib S S' Q (k + 1) rest (a.put o.dst v)

theorem wpAnyT_lex {m n g : Nat} {Lq : Act → Prop} (hsel : Region.noSelect ops = true) (hs : sinkM md ops m n = true) (hc : chainW md ops n = true) (hn : n < ops.size) :
    ∀ (l : List Oper) (k : Nat) (listed : Array Bool) (a : Act), (∀ j, j < l.length → l[j]? = ops[k + j]?) → k + l.length = n → m ≤ k → HeadInv md ops n listed →
    Region.lexHead md ops g l.length k listed = true → (∀ j, j < k → listed.getD j false = true) → wpTame P ops ib S S' Lq k l a →
    wpAnyT P md ops ib S S' n (fun listed' a' => Region.seqB md ops g n listed' = true ∧ (∀ j, j < n → listed'.getD j false = true) ∧ Lq a') l.length listed a
  | [], k, listed, a, _, hk, _, _, hB, hall, h => by
    have : k = n := by simpa using hk
    subst this
    exact ⟨by simpa [Region.lexHead] using hB, hall, h⟩
  | o :: l, k, listed, a, hl, hk, hmk, inv, hB, hall, h => by
    have h0 : ops[k]? = some o := by simpa using (hl 0 (by simp)).symm
    simp only [List.length_cons, Region.lexHead, Bool.and_eq_true] at hB
    obtain ⟨⟨hr, hf⟩, hB'⟩ := hB
    have hkn : k < n := by simp only [List.length_cons] at hk; omega
    have hr' : k ∈ Region.ready md ops listed := by simpa using hr
    obtain ⟨v, hy, hK⟩ := h
    refine wpAnyT_first h0 (Region.noSelect_spec hsel) hs hc hn hmk hkn (fun listed' a' hL => seqB_ready hL.1) l.length listed a inv (Region.free_spec h0 hf) hr' hy
      (wpAnyT_lex hsel hs hc hn l (k + 1) _ _ (fun j hj => by have := hl (j + 1) (by simp; omega); simpa [Nat.add_assoc, Nat.add_comm 1 j] using this) (by simp only [List.length_cons] at hk; omega) (by omega) (inv.set hr' hkn) hB' (fun j hj => ?_) hK)
    by_cases e : j = k
    · subst e
      have : j < listed.size := by rw [inv.size]; omega
      simp [this]
    · exact getD_set_true (hall j (by omega))

/-- the first m operations, taken first: each yields its value in whatever world -/
def wpPre (P : Program) (ops : Array Oper) (Q : Act → Prop) : List Oper → Act → Prop
  | [], a => Q a
  | o :: rest, a => ∃ v, Yields P ops o v a ∧ wpPre P ops Q rest (a.put o.dst v)
def lexPre (md : Region.Mode) (ops : Array Oper) : Nat → Nat → Array Bool → Bool
  | 0, _, _ => true
  | f + 1, k, listed => (Region.ready md ops listed).contains k && Region.free md ops listed k && lexPre md ops f (k + 1) (listed.setIfInBounds k true)
def listUp : Nat → Nat → Array Bool → Array Bool
  | 0, _, listed => listed
  | f + 1, k, listed => listUp f (k + 1) (listed.setIfInBounds k true)
theorem listUp_size : ∀ (f k : Nat) (listed : Array Bool), (listUp f k listed).size = listed.size
  | 0, _, _ => rfl
  | f + 1, k, listed => by rw [listUp, listUp_size]; simp
theorem listUp_get : ∀ (f k : Nat) (listed : Array Bool) (j : Nat), k + f ≤ listed.size → ((listUp f k listed).getD j false = true ↔ (listed.getD j false = true ∨ (k ≤ j ∧ j < k + f)))
  | 0, k, listed, j, _ => by simp [listUp]; omega
  | f + 1, k, listed, j, h => by
    rw [listUp, listUp_get f (k + 1) _ j (by simp; omega)]
    by_cases e : k = j
    · subst e
      have hk : k < listed.size := by omega
      simp [hk]
    · rw [getD_set_ne false e]
      constructor
      · rintro (h | h)
        · exact .inl h
        · right; omega
      · rintro (h | h)
        · exact .inl h
        · right; omega
theorem wpAny_pre {Q' : Exit → Act → World → Prop} {w : World} (hsel : Region.noSelect ops = true) (hQ : ∀ c (a : Act) (d : Option Tmp) (v : Value) w, Q' (.panic c) (a.put d v) w → Q' (.panic c) a w) {R : Act → Prop} {g : Nat} :
    ∀ (l : List Oper) (k : Nat) (listed : Array Bool) (a : Act), (∀ j, j < l.length → l[j]? = ops[k + j]?) → lexPre md ops l.length k listed = true →
      (∀ a', R a' → wpAny P md ops Q' g (listUp l.length k listed) a' w) → wpPre P ops R l a → wpAny P md ops Q' (l.length + g) listed a w
  | [], k, listed, a, _, _, hR, h => by rw [List.length_nil, Nat.zero_add]; exact hR a h
  | o :: l, k, listed, a, hl, hB, hR, h => by
    have h0 : ops[k]? = some o := by simpa using (hl 0 (by simp)).symm
    simp only [List.length_cons, lexPre, Bool.and_eq_true] at hB
    obtain ⟨⟨hr, hf⟩, hB'⟩ := hB
    obtain ⟨v, hy, hK⟩ := h
    rw [List.length_cons, show l.length + 1 + g = (l.length + g) + 1 by omega]
    exact wpAny_take h0 hsel hf hr (fun c a w => hQ c a _ v w) hy
      (wpAny_pre hsel hQ l (k + 1) _ _ (fun j hj => by have := hl (j + 1) (by simp; omega); simpa [Nat.add_assoc, Nat.add_comm 1 j] using this) hB' (fun a' ha' => hR a' ha') hK)

/-- what the kernel reckons of a region: m taken first, the head to n, the tail in one order -/
def tameB (md : Region.Mode) (ops : Array Oper) (m n : Nat) : Bool :=
  Region.noSelect ops && decide (n < ops.size) && decide (m ≤ n) && sinkM md ops m n && Region.chainB md ops n && lexPre md ops m 0 (Array.replicate ops.size false) &&
  ((List.range m).all fun i => ((ops[i]?).map fun o => o.after.all fun e => !Region.binds md e || decide (e.on < m)).getD false) && Region.lexHead md ops (ops.size - n) (n - m) m (listUp m 0 (Array.replicate ops.size false))

/-- THE BEGINNING: m operations taken first; n - m more in whatever order, each tame under S (number ib leads from S to S'); then the tail, in every world that meets S'. -/
theorem wp_region_tame3 {id : Nat} {Q : Exit → Act → World → Prop} {a : Act} {w : World} {l : List Oper} (ib : Nat) (S S' : World → Prop) (m n : Nat) (hm : P.follows .mixedOrders = true) (hB : tameB .any l.toArray m n = true)
    (hQ : ∀ c (a : Act) (d : Option Tmp) (v : Value) w, Q (.panic c) (a.put d v) w → Q (.panic c) a w)
    (hS : S { w with drawn := w.drawn + 1 }) (hend : (m ≤ ib ∧ ib < n) ∨ (n ≤ ib ∧ ∀ w, S w → S' w))
    (h : wpPre P l.toArray (fun a => wpTame P l.toArray ib S S' (fun a' => ∀ w', S' w' → wpList P l.toArray Q (l.drop n) a' w') m ((l.take n).drop m) a) (l.take m) a) : (Code.region id l.toArray true).wp P Q a w := by
  simp only [tameB, Bool.and_eq_true, decide_eq_true_eq] at hB
  obtain ⟨⟨⟨⟨⟨⟨⟨hsel, hn⟩, hmn⟩, hs⟩, hc⟩, hpre⟩, hcl⟩, hlex⟩ := hB
  have hn' : n < l.length := by simpa using hn
  have htl : ((l.take n).drop m).length = n - m := by simp; omega
  have hml : (l.take m).length = m := by simp; omega
  have hdl : (l.drop n).length = l.toArray.size - n := by simp
  have hsz : (Array.replicate l.toArray.size false).size = l.toArray.size := by simp
  have hget : ∀ j, (listUp m 0 (Array.replicate l.toArray.size false)).getD j false = true ↔ j < m := by
    intro j
    rw [listUp_get m 0 _ j (by rw [hsz]; omega), getD_replicate_false]
    simp
  have inv0 : HeadInv .any l.toArray n (listUp m 0 (Array.replicate l.toArray.size false)) := by
    refine ⟨by rw [listUp_size, hsz], fun j oj hj hl e he hb => ?_, fun t ht ht' => ?_⟩
    · have hjm := (hget j).1 hl
      have h1 := List.all_eq_true.1 hcl j (List.mem_range.2 hjm)
      rw [hj] at h1
      simp only [Option.map_some, Option.getD_some, Array.all_eq_true_iff_forall_mem, Bool.or_eq_true, Bool.not_eq_true', decide_eq_true_eq] at h1
      rcases h1 e he with h2 | h2
      · rw [hb] at h2; cases h2
      · exact (hget _).2 h2
    · refine getD_in (by rw [listUp_size, hsz]; exact ht') ?_
      cases hx : (listUp m 0 (Array.replicate l.toArray.size false)).getD t false with
      | false => rfl
      | true => have := (hget t).1 hx; omega
  refine wp_region_any hm ?_
  have key := wpAny_pre (P := P) (md := .any) (Q' := Q) (w := { w with drawn := w.drawn + 1 }) (g := l.toArray.size - m) hsel hQ (l.take m) 0 (Array.replicate l.toArray.size false) a (fun j hj => by
    have hj' : j < m := by rw [hml] at hj; exact hj
    simp [hj']) (by rw [hml]; exact hpre) (fun a' ha' => ?_) h
  · rw [hml, show m + (l.toArray.size - m) = l.toArray.size by omega] at key
    exact key
  · rw [hml]
    have H := wpAnyT_lex (md := .any) (m := m) (g := l.toArray.size - n) hsel hs (chainW_of hc) hn ((l.take n).drop m) m _ a' (fun j hj => by
      have hj' : m + j < n := by rw [htl] at hj; omega
      simp [List.getElem?_drop, hj']) (by rw [htl]; omega) (Nat.le_refl _) inv0 (by rw [htl]; exact hlex) (fun j hj => (hget j).2 hj) ha'
    have := wpAny_of_headT (Q' := Q) (ib := ib) (S := S) (S' := S') (g := l.toArray.size - n) (fun listed a' hL w' hS' => by
      have hw' : S' w' := by
        rcases hS' with ⟨hx, hS1⟩ | ⟨_, hS1⟩
        · rcases hend with hend | hend
          · rw [hL.2.1 ib hend.2] at hx; cases hx
          · exact hend.2 _ hS1
        · exact hS1
      have := wpAny_of_seq (md := .any) (Q' := Q) (l.drop n) n listed a' w' (fun j => by simp [List.getElem?_drop]) (by rw [hdl]; exact hL.1) (hL.2.2 w' hw')
      rwa [hdl] at this) _ _ _ H { w with drawn := w.drawn + 1 } (.inl ⟨by
        cases hx : (listUp m 0 (Array.replicate l.toArray.size false)).getD ib false with
        | false => rfl
        | true => have := (hget ib).1 hx; omega, hS⟩)
    rw [htl, show n - m + (l.toArray.size - n) = l.toArray.size - m by omega] at this
    exact this
theorem wp_region_tame {id : Nat} {Q : Exit → Act → World → Prop} {a : Act} {w : World} {l : List Oper} (S : World → Prop) (m n : Nat) (hm : P.follows .mixedOrders = true) (hB : tameB .any l.toArray m n = true)
    (hQ : ∀ c (a : Act) (d : Option Tmp) (v : Value) w, Q (.panic c) (a.put d v) w → Q (.panic c) a w)
    (hS : S { w with drawn := w.drawn + 1 }) (hn : n ≤ 4000)
    (h : wpPre P l.toArray (fun a => wpTame P l.toArray 4000 S S (fun a' => ∀ w', S w' → wpList P l.toArray Q (l.drop n) a' w') m ((l.take n).drop m) a) (l.take m) a) : (Code.region id l.toArray true).wp P Q a w :=
  wp_region_tame3 4000 S S m n hm hB hQ hS (.inr ⟨hn, fun _ h => h⟩) h

/-! ### a head in whatever order, ONE operation (a call), then operations that only compute, in whatever order again, then a tail -/
/-! ### the steps -/
variable {Q : Act → Prop} {k : Nat} {o : Oper} {rest : List Oper} {a : Act} {v : Value}
theorem wpPre_nil {R : Act → Prop} (h : R a) : wpPre P ops R [] a := h
theorem wpPre_run {R : Act → Prop} (hw : Region.wanted o (yielded ops a.tmps) = true) (h : ∀ w, (execOp a.eval o).run P w = .ok (.value v) w) (kk : wpPre P ops R rest (a.put o.dst v)) : wpPre P ops R (o :: rest) a := ⟨v, .inl ⟨hw, h⟩, kk⟩
theorem wp_mid_call {Q : Exit → Act → World → Prop} {w : World} {next : Act → World → Prop} {f : FuncId} {args : Array Value} (h : (execOp a.eval o).run P w = .ok (.enter f args) w)
    (hc : Calls P f args w fun e w'' => ∃ v, e = .returned v ∧ next (a.put o.dst v) w'') : o.wp P a w next Q := by
  unfold Oper.wp
  rw [h, Oper.upon_enter]
  exact hc.mono fun e w'' ⟨v, he, hn⟩ => by subst he; exact hn
theorem wpTame_nil (h : Q a) : wpTame P ops ib S S' Q k [] a := h
/-- a step that only computes or reads -/
theorem wpTame_run2 (hk : k ≠ ib) (hw : Region.wanted o (yielded ops a.tmps) = true) (h : ∀ w, S w ∨ S' w → (execOp a.eval o).run P w = .ok (.value v) w) (kk : wpTame P ops ib S S' Q (k + 1) rest (a.put o.dst v)) : wpTame P ops ib S S' Q k (o :: rest) a :=
  ⟨v, .inl ⟨hw, fun e => absurd e hk, fun _ => ⟨fun w hS => by rw [h w (.inl hS)]; exact ⟨rfl, hS⟩, fun w hS => by rw [h w (.inr hS)]; exact ⟨rfl, hS⟩⟩⟩, kk⟩
/-- the step that leads from S to S' -/
theorem wpTame_bump (hk : k = ib) (hw : Region.wanted o (yielded ops a.tmps) = true) (h : ∀ w, S w → Gives P S' v ((execOp a.eval o).run P w)) (kk : wpTame P ops ib S S' Q (k + 1) rest (a.put o.dst v)) : wpTame P ops ib S S' Q k (o :: rest) a :=
  ⟨v, .inl ⟨hw, fun _ => h, fun e => absurd hk e⟩, kk⟩
/-- a step whose guard is false -/
theorem wpTame_off (hk : k ≠ ib) (hw : Region.wanted o (yielded ops a.tmps) = false) (kk : wpTame P ops ib S S' Q (k + 1) rest (a.put o.dst undef)) : wpTame P ops ib S S' Q k (o :: rest) a :=
  ⟨undef, .inr ⟨hw, rfl, hk⟩, kk⟩
/-- with one condition S -/
theorem wpTame_run (hk : k ≠ 4000) (hw : Region.wanted o (yielded ops a.tmps) = true) (h : ∀ w, S w → (execOp a.eval o).run P w = .ok (.value v) w) (kk : wpTame P ops 4000 S S Q (k + 1) rest (a.put o.dst v)) : wpTame P ops 4000 S S Q k (o :: rest) a :=
  wpTame_run2 hk hw (fun w hS => h w (by rcases hS with h | h <;> exact h)) kk
/-- a call -/
theorem wpTame_call {f : FuncId} {args : Array Value} (hk : k ≠ 4000) (hw : Region.wanted o (yielded ops a.tmps) = true) (h : ∀ w, S w → (execOp a.eval o).run P w = .ok (.enter f args) w)
    (hc : ∀ w, S w → Calls P f args w fun e w' => e = .returned v ∧ S w') (kk : wpTame P ops 4000 S S Q (k + 1) rest (a.put o.dst v)) : wpTame P ops 4000 S S Q k (o :: rest) a :=
  ⟨v, .inl ⟨hw, fun e => absurd e hk, fun _ => ⟨fun w hS => by rw [h w hS]; exact hc w hS, fun w hS => by rw [h w hS]; exact hc w hS⟩⟩, kk⟩
end
end Go.Proofs.YtkidijjhedjifaaGreat
/- Who owns which block; a law's world as a list of things, each with its own blocks: what a call does to one leaves the others. No program in sight. -/
namespace Go.Proofs.YtkidijjhedjifaaGreat
open Go.RowKit
set_option maxRecDepth 100000
set_option linter.unusedVariables false

def fpv (v : Value) : Nat → Prop := fun x => v.ownBlock = some x
/-! ### who owns which block -/
/-- new blocks go to i -/
def grab (own : Nat → Nat) (s : Nat) (i : Nat) : Nat → Nat := fun x => if x < s then own x else i
/-- a law's world: what was there when it began belongs to nobody (0), and is as it was -/
structure St (w0 : World) (own : Nat → Nat) (w : World) : Prop where
  below : Below w0.heap.size w0 w
  old : ∀ x, x < w0.heap.size → own x = 0
theorem St.start (w : World) : St w (fun _ => 0) w := ⟨Below.refl _ _, fun _ _ => rfl⟩
theorem Only.below0 {S : Nat → Prop} {w w' : World} (h : Only S w w') {b : Nat} (hb : ∀ x, x < b → ¬ S x) (hle : b ≤ w.heap.size) : Below b w w' :=
  ⟨h.os, h.tape, h.output, h.size, fun x hx => h.block x (Nat.lt_of_lt_of_le hx hle) (hb x hx)⟩
theorem St.step {w0 w w' : World} {own : Nat → Nat} (h : St w0 own w) {i : Nat} (hi : i ≠ 0) {S : Nat → Prop} (ho : Only S w w') (hS : ∀ x, S x → own x = i) : St w0 (grab own w.heap.size i) w' := by
  refine ⟨h.below.trans (ho.below0 (fun x hx hs => hi ?_) h.below.size), fun x hx => ?_⟩
  · rw [← hS x hs, h.old x hx]
  · unfold grab
    rw [if_pos (Nat.lt_of_lt_of_le hx h.below.size)]
    exact h.old x hx
theorem grab_new {own : Nat → Nat} {s i x : Nat} (h : s ≤ x) : grab own s i x = i := by unfold grab; rw [if_neg (by omega)]
theorem grab_old {own : Nat → Nat} {s i x : Nat} (h : x < s) : grab own s i x = own x := by unfold grab; rw [if_pos h]
/-- F belongs to i, and is made -/
def Own (own : Nat → Nat) (i : Nat) (w : World) (F : Nat → Prop) : Prop := ∀ x, F x → own x = i ∧ x < w.heap.size
theorem Own.keep {own : Nat → Nat} {i j : Nat} {w w' : World} {F : Nat → Prop} (h : Own own i w F) (hs : w.heap.size ≤ w'.heap.size) : Own (grab own w.heap.size j) i w' F := fun x hx =>
  ⟨by rw [grab_old (h x hx).2]; exact (h x hx).1, Nat.lt_of_lt_of_le (h x hx).2 hs⟩
theorem Own.apart {own : Nat → Nat} {i j : Nat} {w : World} {F : Nat → Prop} (h : Own own i w F) {S : Nat → Prop} (hS : ∀ x, S x → own x = j) (hij : i ≠ j) : ∀ x, F x → ¬ S x := fun x hx hs =>
  hij ((h x hx).1.symm.trans (hS x hs))
theorem Own.turn {own : Nat → Nat} {i : Nat} {w w' : World} {F F' : Nat → Prop} (h : Own own i w F) (hlt : ∀ x, F' x → x < w'.heap.size) (hx : ∀ x, F' x → F x ∨ w.heap.size ≤ x) : Own (grab own w.heap.size i) i w' F' := fun x h' => by
  refine ⟨?_, hlt x h'⟩
  rcases hx x h' with a | a
  · rw [grab_old (h x a).2]; exact (h x a).1
  · exact grab_new a
theorem Own.new {own : Nat → Nat} {i : Nat} {w w' : World} {F' : Nat → Prop} (hlt : ∀ x, F' x → x < w'.heap.size) (hx : ∀ x, F' x → w.heap.size ≤ x) : Own (grab own w.heap.size i) i w' F' := fun x h' =>
  ⟨grab_new (hx x h'), hlt x h'⟩

/-- a thing: what holds of a world, with the blocks that it needs -/
structure Ob where
  at' : World → (Nat → Prop) → Prop
  keep : ∀ {w w' : World} {F S : Nat → Prop}, at' w F → Only S w w' → (∀ x, F x → ¬ S x) → at' w' F
  lt : ∀ {w : World} {F : Nat → Prop}, at' w F → ∀ x, F x → x < w.heap.size
def Env (w0 w : World) (obs : List Ob) : Prop := ∃ own, St w0 own w ∧ ∀ (i : Nat) (ob : Ob), obs[i]? = some ob → ∃ F, ob.at' w F ∧ Own own (i + 1) w F
theorem Env.start (w : World) : Env w w [] := ⟨fun _ => 0, St.start w, fun i ob h => by simp at h⟩
theorem Env.base {w0 w : World} {obs : List Ob} (h : Env w0 w obs) : Below w0.heap.size w0 w := by
  obtain ⟨own, h1, _⟩ := h; exact h1.below
theorem Only.nothing {w w' : World} (h : Below w.heap.size w w') : Only (fun _ => False) w w' := Only.of_below h _
theorem Env.below {w0 w w' : World} {obs : List Ob} (h : Env w0 w obs) (hb : Below w.heap.size w w') : Env w0 w' obs := by
  obtain ⟨own, h1, h2⟩ := h
  refine ⟨grab own w.heap.size 7777777, h1.step (by omega) (Only.nothing hb) (fun _ h => h.elim), fun i ob hi => ?_⟩
  obtain ⟨F, h3, h4⟩ := h2 i ob hi
  exact ⟨F, ob.keep h3 (Only.nothing hb) (fun _ _ h => h), h4.keep hb.size⟩
theorem Env.draw {w0 w : World} {obs : List Ob} (h : Env w0 w obs) (n : Nat) : Env w0 (w.drewN n) obs := h.below ⟨rfl, rfl, rfl, Nat.le_refl _, fun _ _ => rfl⟩
theorem Env.push {w0 w w' : World} {obs : List Ob} (h : Env w0 w obs) {F' : Nat → Prop} (ob : Ob) (hat : ob.at' w' F') (hb : Below w.heap.size w w') (hn : ∀ x, F' x → w.heap.size ≤ x) : Env w0 w' (obs ++ [ob]) := by
  obtain ⟨own, h1, h2⟩ := h
  refine ⟨grab own w.heap.size (obs.length + 1), h1.step (by omega) (Only.nothing hb) (fun _ h => h.elim), fun i ob' hi => ?_⟩
  by_cases hlt : i < obs.length
  · rw [List.getElem?_append_left hlt] at hi
    obtain ⟨F, h3, h4⟩ := h2 i ob' hi
    exact ⟨F, ob'.keep h3 (Only.nothing hb) (fun _ _ h => h), h4.keep hb.size⟩
  · by_cases he : i = obs.length
    · subst he
      simp at hi
      subst hi
      exact ⟨F', hat, Own.new (ob.lt hat) hn⟩
    · rw [List.getElem?_eq_none (by simp; omega)] at hi
      cases hi
theorem Env.get {w0 w : World} {obs : List Ob} (h : Env w0 w obs) (i : Nat) {ob : Ob} (hi : obs[i]? = some ob) :
    ∃ F, ob.at' w F ∧ (∀ x, x < w0.heap.size → ¬ F x) ∧ (∀ (j : Nat) (ob2 : Ob), j ≠ i → obs[j]? = some ob2 → ∃ F2, ob2.at' w F2 ∧ ∀ x, F2 x → ¬ F x) ∧
      ∀ (w' : World) (F' : Nat → Prop) (ob' : Ob), ob'.at' w' F' → Only F w w' → (∀ x, F' x → F x ∨ w.heap.size ≤ x) → Env w0 w' (obs.set i ob') := by
  obtain ⟨own, h1, h2⟩ := h
  obtain ⟨F, h3, h4⟩ := h2 i ob hi
  refine ⟨F, h3, fun x hx hF => ?_, fun j ob2 hj hj2 => ?_, fun w' F' ob' hat ho hx => ?_⟩
  · have := (h4 x hF).1
    rw [h1.old x hx] at this
    omega
  · obtain ⟨F2, h5, h6⟩ := h2 j ob2 hj2
    exact ⟨F2, h5, h6.apart (j := i + 1) (fun x hx => (h4 x hx).1) (by omega)⟩
  · refine ⟨grab own w.heap.size (i + 1), h1.step (by omega) ho (fun x hx => (h4 x hx).1), fun j ob2 hj => ?_⟩
    by_cases e : j = i
    · subst e
      have hlt : j < obs.length := (List.getElem?_eq_some_iff.1 hi).1
      rw [List.getElem?_set_self hlt] at hj
      cases hj
      exact ⟨F', hat, h4.turn (ob'.lt hat) hx⟩
    · rw [List.getElem?_set_ne (fun h => e h.symm)] at hj
      obtain ⟨F2, h5, h6⟩ := h2 j ob2 hj
      exact ⟨F2, ob2.keep h5 ho (h6.apart (j := i + 1) (fun x hx => (h4 x hx).1) (by omega)), h6.keep ho.size⟩
/-- some of the things, in another order: 'f j' is where thing j stood -/
theorem Env.pick {w0 w : World} {obs obs' : List Ob} (h : Env w0 w obs) (f : Nat → Nat) (hinj : ∀ i j, i < obs'.length → j < obs'.length → f i = f j → i = j) (hf : ∀ (j : Nat) (ob : Ob), obs'[j]? = some ob → obs[f j]? = some ob) : Env w0 w obs' := by
  classical
  obtain ⟨own, h1, h2⟩ := h
  let own' : Nat → Nat := fun x => if hx : ∃ j, j < obs'.length ∧ f j + 1 = own x then (Classical.choose hx) + 1 else 0
  have hown : ∀ x j, j < obs'.length → own x = f j + 1 → own' x = j + 1 := by
    intro x j hj he
    have hx : ∃ j, j < obs'.length ∧ f j + 1 = own x := ⟨j, hj, he.symm⟩
    show (if hx : ∃ j, j < obs'.length ∧ f j + 1 = own x then (Classical.choose hx) + 1 else 0) = j + 1
    rw [dif_pos hx]
    have hs := Classical.choose_spec hx
    have := hinj _ _ hs.1 hj (by omega)
    omega
  refine ⟨own', ⟨h1.below, fun x hx => ?_⟩, fun j ob hj => ?_⟩
  · show (if hx : ∃ j, j < obs'.length ∧ f j + 1 = own x then (Classical.choose hx) + 1 else 0) = 0
    rw [dif_neg]
    rintro ⟨j, _, he⟩
    rw [h1.old x hx] at he
    omega
  · obtain ⟨F, h3, h4⟩ := h2 (f j) ob (hf j ob hj)
    have hlt : j < obs'.length := (List.getElem?_eq_some_iff.1 hj).1
    exact ⟨F, h3, fun x hx => ⟨hown x j hlt (h4 x hx).1, (h4 x hx).2⟩⟩
theorem ownsRow_keep {w w' : World} {base t size n : Nat} {v : Value} {cs : List Value} (h : w.ownsRow base t size v n cs) {S : Nat → Prop} (ho : Only S w w') (hd : ∀ x, fpv v x → ¬ S x) : w'.ownsRow base t size v n cs := by
  refine ⟨h.1, ?_⟩
  rcases h.2 with h2 | ⟨g, cap, cur, rfl, hb, hg, r⟩
  · exact .inl h2
  · exact .inr ⟨g, cap, cur, rfl, hb, (ho.block g (Array.getElem?_eq_some_iff.1 hg).1 (hd g rfl)).trans hg, r⟩
/-- a block of known cells -/
def obK (b : Nat) (t : TypeId) (cs : Array Value) : Ob := ⟨fun w F => Blk w b t cs ∧ F = fun x => x = b, fun h ho hd => ⟨h.1.only ho (hd b (by rw [h.2])), h.2⟩, fun h => by rw [h.2]; rintro x rfl; exact h.1.lt⟩
theorem Env.blk {w0 w : World} {obs : List Ob} (h : Env w0 w obs) (i : Nat) {b : Nat} {t : TypeId} {cs : Array Value} (hi : obs[i]? = some (obK b t cs)) : Blk w b t cs := by
  obtain ⟨F, h1, _⟩ := h.get i hi
  exact h1.1
theorem Env.pushK {w0 w w' : World} {obs : List Ob} (h : Env w0 w obs) {b : Nat} {t : TypeId} {cs : Array Value} (hb : Blk w' b t cs) (hw : Below w.heap.size w w') (hn : w.heap.size ≤ b) : Env w0 w' (obs ++ [obK b t cs]) :=
  h.push (F' := fun x => x = b) (obK b t cs) ⟨hb, rfl⟩ hw (fun x hx => by rw [hx]; exact hn)
theorem Env.newK {w0 w : World} {obs : List Ob} (h : Env w0 w obs) (t : TypeId) (cs : Array Value) : Env w0 (w.alloc (.cells cs t)) (obs ++ [obK w.heap.size t cs]) :=
  h.pushK (Blk.new w t cs) ((Below.refl _ _).alloc (Nat.le_refl _) _) (Nat.le_refl _)
theorem Env.turnBlk {w0 w w' : World} {obs : List Ob} (h : Env w0 w obs) (i : Nat) {b : Nat} {t : TypeId} {cs cs' : Array Value} (hi : obs[i]? = some (obK b t cs)) (hb : Blk w' b t cs') (ho : Only (fun x => x = b) w w') : Env w0 w' (obs.set i (obK b t cs')) := by
  obtain ⟨F, h1, _, _, h4⟩ := h.get i hi
  obtain ⟨_, rfl⟩ := h1
  exact h4 w' (fun x => x = b) (obK b t cs') ⟨hb, rfl⟩ ho (fun x hx => .inl hx)
/-- a slice value that owns the cells cs, at a row of its own -/
def obE (e : TypeId) (size : Nat) (v : Value) (n : Nat) (cs : List Value) : Ob := ⟨fun w F => w.ownsRow 0 e size v n cs ∧ F = fpv v, fun h ho hd => ⟨ownsRow_keep h.1 ho (by rw [← h.2]; exact hd), h.2⟩, fun h => by rw [h.2]; exact fun x hx => (World.ownsRow.lt h.1 x hx).2⟩
theorem Env.row {w0 w : World} {obs : List Ob} (h : Env w0 w obs) (i : Nat) {e : TypeId} {size n : Nat} {v : Value} {cs : List Value} (hi : obs[i]? = some (obE e size v n cs)) : w.ownsRow 0 e size v n cs := by
  obtain ⟨F, h1, _⟩ := h.get i hi
  exact h1.1
theorem Env.turnE {w0 w w' : World} {obs : List Ob} (h : Env w0 w obs) (i : Nat) {e : TypeId} {size n : Nat} {v : Value} {cs : List Value} (hi : obs[i]? = some (obE e size v n cs)) {n' : Nat} {cs' : List Value} (hb : w'.ownsRow 0 e size v n' cs') (ho : Only (fpv v) w w') :
    Env w0 w' (obs.set i (obE e size v n' cs')) := by
  obtain ⟨F, h1, _, _, h4⟩ := h.get i hi
  obtain ⟨_, rfl⟩ := h1
  exact h4 w' (fpv v) (obE e size v n' cs') ⟨hb, rfl⟩ ho (fun x hx => .inl hx)
theorem Env.pushE {w0 w w' : World} {obs : List Ob} (h : Env w0 w obs) {e : TypeId} {size n : Nat} {v : Value} {cs : List Value} (hb : w'.ownsRow 0 e size v n cs) (hw : Below w.heap.size w w') (hn : ∀ x, fpv v x → w.heap.size ≤ x) : Env w0 w' (obs ++ [obE e size v n cs]) :=
  h.push (obE e size v n cs) ⟨hb, rfl⟩ hw hn
end Go.Proofs.YtkidijjhedjifaaGreat
/- Ledgers: runs as plain data, what a note makes of them, how a ledger lies in memory. -/
namespace Go.Proofs.YtkidijjhedjifaaGreat
open Go.RowKit

/-! ### in memory -/
/-- the blocks of a slice value -/
def fp (v : Value) : Nat → Prop := fun x => v.ownBlock = some x
/-- a slice value that owns the runs rs, at a row of its own -/
def RunsAt (w : World) (v : Value) (rs : List Rn) : Prop := w.ownsRow 0 76 3 v rs.length (flatR rs)
theorem RunsAt.keep {w w' : World} {v : Value} {rs : List Rn} (h : RunsAt w v rs) {S : Nat → Prop} (ho : Only S w w') (hd : ∀ x, fp v x → ¬ S x) : RunsAt w' v rs := by
  refine ⟨h.1, ?_⟩
  rcases h.2 with h2 | ⟨g, cap, cur, rfl, hb, hg, r⟩
  · exact .inl h2
  · exact .inr ⟨g, cap, cur, rfl, hb, (ho.block g (Array.getElem?_eq_some_iff.1 hg).1 (hd g rfl)).trans hg, r⟩
theorem RunsAt.lt {w : World} {v : Value} {rs : List Rn} (h : RunsAt w v rs) : ∀ x, fp v x → x < w.heap.size := fun x hx => (World.ownsRow.lt h x hx).2
theorem RunsAt.nil (w : World) : RunsAt w (.slice none 0 0) [] := World.ownsRow_nil w 0 _ 3
theorem RunsAt.form {w : World} {v : Value} {rs : List Rn} (h : RunsAt w v rs) (h0 : 0 < rs.length) : ∃ g cap, v = .slice (some ⟨g, 0, none⟩) rs.length cap ∧ g < w.heap.size := by
  obtain ⟨g, cap, hv, _, hlt⟩ := World.ownsRow.form h h0
  exact ⟨g, cap, hv, hlt⟩
theorem RunsAt.any {w : World} {v : Value} {rs : List Rn} (h : RunsAt w v rs) : ∃ ao cap, v = .slice ao rs.length cap := by
  rcases h.2 with ⟨hv, h0⟩ | ⟨g, cap, cur, hv, _⟩
  · exact ⟨none, 0, by rw [h0]; exact hv⟩
  · exact ⟨some ⟨g, 0, none⟩, cap, hv⟩
theorem RunsAt.cells {w : World} {g cap : Nat} {rs : List Rn} (h : RunsAt w (.slice (some ⟨g, 0, none⟩) rs.length cap) rs) (i : Nat) (r : Rn) (hr : rs[i]? = some r) :
    w.cell? ⟨g, i * 3, none⟩ = some (.int .u8 r.k) ∧ w.cell? ⟨g, i * 3 + 1, none⟩ = some (.int .i64 r.s) ∧ w.cell? ⟨g, i * 3 + 2, none⟩ = some (.int .i64 r.c) := by
  have hi : i < rs.length := (List.getElem?_eq_some_iff.1 hr).1
  obtain ⟨h1, h2, h3⟩ := flatR_at rs i r hr
  refine ⟨?_, ?_, ?_⟩
  · rw [World.ownsRow.cellAt h (i * 3) (by omega), h1]
  · rw [World.ownsRow.cellAt h (i * 3 + 1) (by omega), h2]
  · rw [World.ownsRow.cellAt h (i * 3 + 2) (by omega), h3]

/-- the program's ledger: its block b holds the runs' slice v and the number of events -/
structure LedP (w : World) (b : Nat) (v : Value) (rs : List Rn) : Prop where
  blk : Blk w b 80 #[v, .int .i64 (tot rs)]
  row : RunsAt w v rs
  apart : ¬ fp v b
  posi : Posi rs
/-- the blocks of a ledger -/
def lfp (b : Nat) (v : Value) : Nat → Prop := fun x => x = b ∨ fp v x
theorem LedP.keep {w w' : World} {b : Nat} {v : Value} {rs : List Rn} (h : LedP w b v rs) {S : Nat → Prop} (ho : Only S w w') (hd : ∀ x, lfp b v x → ¬ S x) : LedP w' b v rs :=
  ⟨h.blk.only ho (hd b (.inl rfl)), h.row.keep ho (fun x hx => hd x (.inr hx)), h.apart, h.posi⟩
theorem LedP.lt {w : World} {b : Nat} {v : Value} {rs : List Rn} (h : LedP w b v rs) : ∀ x, lfp b v x → x < w.heap.size := fun x hx => by
  rcases hx with rfl | hx
  · exact h.blk.lt
  · exact h.row.lt x hx
/-- what a note leaves: the new runs, in the old blocks and new ones; nothing else has turned -/
def NotedP (b : Nat) (v : Value) (rs : List Rn) (w : World) (e : Ending) (w' : World) : Prop :=
  e = .returned (.tuple #[]) ∧ ∃ v', LedP w' b v' rs ∧ Only (lfp b v) w w' ∧ ∀ x, fp v' x → fp v x ∨ w.heap.size ≤ x
theorem flatR_set_last (rs : List Rn) (r : Rn) (c : Int) : (flatR (rs ++ [r])).set (rs.length * 3 + 2) (.int .i64 c) = flatR (rs ++ [⟨r.k, r.s, c⟩]) := by
  rw [flatR_append, flatR_append, flatR_one, flatR_one, List.set_append_right _ _ (by rw [flatR_length]; omega)]
  rw [flatR_length, show rs.length * 3 + 2 - rs.length * 3 = 2 from by omega]
  rfl
theorem RunsAt.last {w : World} {g cap : Nat} {rs : List Rn} {r : Rn} (h : RunsAt w (.slice (some ⟨g, 0, none⟩) (rs ++ [r]).length cap) (rs ++ [r])) (c : Int) :
    RunsAt (w.setCell ⟨g, rs.length * 3 + 2, none⟩ (.int .i64 c)) (.slice (some ⟨g, 0, none⟩) (rs ++ [r]).length cap) (rs ++ [⟨r.k, r.s, c⟩]) := by
  have h1 := (World.ownsRow.stored h (rs.length * 3 + 2) (.int .i64 c)).1
  rw [flatR_set_last] at h1
  have e : (rs ++ [(⟨r.k, r.s, c⟩ : Rn)]).length = (rs ++ [r]).length := by simp
  unfold RunsAt
  rw [e]
  exact h1
theorem LedP.draw {w : World} {b : Nat} {v : Value} {rs : List Rn} (h : LedP w b v rs) (n : Nat) : LedP (w.drewN n) b v rs := ⟨h.blk, h.row, h.apart, h.posi⟩
theorem Posi.last {rs : List Rn} {r : Rn} (h : Posi (rs ++ [r])) (n : Int) (hn : 1 ≤ n) : Posi (rs ++ [⟨r.k, r.s, r.c + n⟩]) := by
  have := h.note r.k r.s n hn
  rwa [noteL_same] at this
theorem NotedP.same {w w1 : World} {b g cap : Nat} {rs : List Rn} {r : Rn} {n : Int} (h : LedP w b (.slice (some ⟨g, 0, none⟩) (rs ++ [r]).length cap) (rs ++ [r])) (hn : 1 ≤ n) (ho : Only (fun x => x = b) w w1)
    (hb : Blk w1 b 80 #[.slice (some ⟨g, 0, none⟩) (rs ++ [r]).length cap, .int .i64 (tot (rs ++ [r]) + n)]) :
    NotedP b (.slice (some ⟨g, 0, none⟩) (rs ++ [r]).length cap) (rs ++ [⟨r.k, r.s, r.c + n⟩]) w (.returned (.tuple #[])) (w1.setCell ⟨g, rs.length * 3 + 2, none⟩ (.int .i64 (r.c + n))) := by
  have hne : ¬ g = b := fun e => h.apart (by rw [← e]; rfl)
  have hrow := h.row.keep ho (fun x hx he => h.apart (he ▸ hx))
  refine ⟨rfl, _, ⟨?_, hrow.last _, h.apart, h.posi.last n hn⟩, ?_, fun x hx => .inl hx⟩
  · have e : tot (rs ++ [⟨r.k, r.s, r.c + n⟩]) = tot (rs ++ [r]) + n := by rw [tot_append, tot_append, tot_one, tot_one]; simp; omega
    rw [e]
    exact hb.set_ne (fun e => hne e.symm) _
  · exact (ho.mono (fun x hx => .inl hx)).set (.inl (.inr rfl)) _
theorem NotedP.draw {b : Nat} {v : Value} {rs : List Rn} {w : World} {e : Ending} {w' : World} (h : NotedP b v rs w e w') (n : Nat) : NotedP b v rs w e (w'.drewN n) := by
  obtain ⟨he, v', h1, h2, h3⟩ := h
  exact ⟨he, v', h1.draw n, h2.draw n, h3⟩
/-- behind an append of one run: the slice is stored back -/
theorem NotedP.more {w w1 w2 : World} {b g cap : Nat} {v : Value} {rs : List Rn} {k s n : Int} {N : Nat} (hN : N = rs.length) (h : LedP w b v rs) (hn : 1 ≤ n) (ho : Only (fun x => x = b) w w1)
    (hb : Blk w1 b 80 #[v, .int .i64 (tot rs + n)]) (hown : w2.ownsRow 0 76 3 (.slice (some ⟨g, 0, none⟩) (N + 1) cap) (N + 1) (flatR rs ++ [.int .u8 k, .int .i64 s, .int .i64 n]))
    (hg : w1.grownBy w2 v.ownBlock) (hat : v.ownBlock = some g ∨ w.heap.size ≤ g) :
    NotedP b v (rs ++ [⟨k, s, n⟩]) w (.returned (.tuple #[])) (w2.setCell ⟨b, 0, none⟩ (.slice (some ⟨g, 0, none⟩) (N + 1) cap)) := by
  subst hN
  have hgb : ¬ g = b := by
    rintro rfl
    rcases hat with hat | hat
    · exact h.apart hat
    · have := h.blk.lt; omega
  have hvb : ¬ v.ownBlock = some b := h.apart
  refine ⟨rfl, .slice (some ⟨g, 0, none⟩) (rs.length + 1) cap, ⟨?_, ?_, ?_, ?_⟩, ?_, ?_⟩
  · have hb2 : Blk w2 b 80 #[v, .int .i64 (tot rs + n)] := (hg.block b hb.lt (fun e => hvb e.symm)).trans hb
    have e : tot (rs ++ [⟨k, s, n⟩]) = tot rs + n := by rw [tot_append, tot_one]
    rw [e]
    exact hb2.set 0 _
  · have hx : w2.ownsRow 0 76 3 (.slice (some ⟨g, 0, none⟩) (rs.length + 1) cap) (rs ++ [(⟨k, s, n⟩ : Rn)]).length (flatR (rs ++ [⟨k, s, n⟩])) := by
      rw [flatR_append, flatR_one]
      have e : (rs ++ [(⟨k, s, n⟩ : Rn)]).length = rs.length + 1 := by simp
      rw [e]
      exact hown
    refine RunsAt.keep (w := w2) hx ((Only.refl (fun x => x = b) w2).set (.inl rfl) _) (fun x hx he => ?_)
    have : g = x := by simpa [fp, Value.ownBlock] using hx
    omega
  · intro he
    exact hgb (by simpa [fp, Value.ownBlock] using he)
  · intro x hx
    rcases List.mem_append.1 hx with hx | hx
    · exact h.posi x hx
    · simp at hx; subst hx; exact hn
  · exact ((ho.mono (S' := lfp b v) (fun x hx => .inl hx)).grown hg (fun k hk => .inl (.inr hk))).set (.inl (.inl rfl)) _
  · intro x hx
    have e : g = x := by simpa [fp, Value.ownBlock] using hx
    subst e
    exact hat
end Go.Proofs.YtkidijjhedjifaaGreat
/- The contract of the program's NoteTimes: three ways (the last run's event; another event or the first; no event). Conditions: the sum of all counts stays below 2^63, at most 2^40 runs. -/
namespace Go.Proofs.YtkidijjhedjifaaGreat
open Go.RowKit
set_option maxRecDepth 100000
set_option maxHeartbeats 1000000 in
theorem noteTimes_same (b g cap : Nat) (rs : List Rn) (r : Rn) (n : Int) (w : World) (h : LedP w b (.slice (some ⟨g, 0, none⟩) (rs ++ [r]).length cap) (rs ++ [r])) (hn : 1 ≤ n) (hb : tot (rs ++ [r]) + n < 9223372036854775808) :
    Calls Tryz.prog 46 #[.pointer (some ⟨b, 0, none⟩), .agg #[.int .u8 r.k, .int .i64 r.s], .int .i64 n] w (NotedP b (.slice (some ⟨g, 0, none⟩) (rs ++ [r]).length cap) (rs ++ [⟨r.k, r.s, r.c + n⟩]) w) := by
  obtain ⟨d1, d2, d3⟩ := h.row.cells rs.length r (by simp)
  have hp := h.posi r (by simp)
  have ht : r.c ≤ tot (rs ++ [r]) := by
    have := tot_nonneg rs (fun x hx => h.posi x (by simp [hx]))
    rw [tot_append, tot_one]; omega
  have c0 := h.blk.cellAt 0 (v := .slice (some ⟨g, 0, none⟩) (rs ++ [r]).length cap) rfl
  have c1 := h.blk.cellAt 1 (v := .int .i64 (tot (rs ++ [r]))) rfl
  have f1 := h.blk.unfrozen 1
  have fg := World.ownsRow.frozenAt h.row (rs.length * 3 + 2)
  have hbl := h.blk.lt
  have hgl : g < w.heap.size := h.row.lt g rfl
  have hne : ¬ b = g := fun e => h.apart (by rw [e]; rfl)
  have hne' : ¬ g = b := fun e => hne e.symm
  have ht0 : 0 ≤ tot (rs ++ [r]) := by omega
  have H := Lib.hid h
  clear h
  have hlen : (rs ++ [r]).length = rs.length + 1 := by simp
  rw [hlen] at c0
  generalize hT : tot (rs ++ [r]) = T at hb c1 ht0 ht
  have HT := Lib.hid hT
  clear hT
  obtain ⟨rk, rs', rc⟩ := r
  generalize hL : rs.length = L at c0 d1 d2 d3 fg
  have HL := Lib.hid hL
  clear hL hlen
  have hl63 : L < 9223372036854775807 := by
    have h1 := tot_nonneg _ H.out.posi
    rw [List.length_append] at h1
    have h2 := HL.out
    simp only [List.length_cons, List.length_nil] at h1
    have h3 := HT.out
    omega
  go_enter Tryz.func46, Tryz.ntmps46
  go_wp2_with fail
  go_quiet (fail)
  go_wp2_with fail
  refine bodyPost_ret (results_none rfl _ _ _) rfl ?_
  have e := HL.out
  subst e
  have ho : Only (fun x => x = b) w (((w.setCell ⟨b, 1, none⟩ (.int .i64 (T + n))).alloc (.cells #[.int .u8 rk, .int .i64 rs'] 64)).drewN nq) := (((Only.refl (fun x => x = b) w).set (.inl rfl) _).alloc _).draw _
  have hb2 := (((H.out.blk.set 1 (.int .i64 (T + n))).alloc (.cells #[.int .u8 rk, .int .i64 rs'] 64)).draw nq)
  have hb3 : Blk (((w.setCell ⟨b, 1, none⟩ (.int .i64 (T + n))).alloc (.cells #[.int .u8 rk, .int .i64 rs'] 64)).drewN nq) b 80 #[.slice (some ⟨g, 0, none⟩) (rs ++ [(⟨rk, rs', rc⟩ : Rn)]).length cap, .int .i64 (tot (rs ++ [(⟨rk, rs', rc⟩ : Rn)]) + n)] := by
    rw [HT.out]
    exact hb2
  exact NotedP.same (r := ⟨rk, rs', rc⟩) H.out hn ho hb3

/-- behind the count: the ledger's block, the event's copy -/
structure NewS (b : Nat) (v : Value) (T k s : Int) (w w' : World) : Prop where
  only : Only (fun x => x = b) w w'
  blk : Blk w' b 80 #[v, .int .i64 T]
  ev : Blk w' w.heap.size 64 #[.int .u8 k, .int .i64 s]
  size : w'.heap.size = w.heap.size + 1
structure NewS' (b : Nat) (v : Value) (T k s n : Int) (w w' : World) : Prop where
  only : Only (fun x => x = b) w w'
  blk : Blk w' b 80 #[v, .int .i64 T]
  ev : Blk w' w.heap.size 64 #[.int .u8 k, .int .i64 s]
  lit : Blk w' (w.heap.size + 1) 76 #[.int .u8 k, .int .i64 s, .int .i64 n]
  size : w'.heap.size = w.heap.size + 2
theorem NewS.start {b : Nat} {v : Value} {rs : List Rn} {T k s n : Int} {w : World} (h : LedP w b v rs) (_hT : tot rs = T) (nq : Nat) :
    NewS b v (T + n) k s w (((w.setCell ⟨b, 1, none⟩ (.int .i64 (T + n))).alloc (.cells #[.int .u8 k, .int .i64 s] 64)).drewN nq) :=
  ⟨(((Only.refl (fun x => x = b) w).set (.inl rfl) _).alloc _).draw _, ((h.blk.set 1 (.int .i64 (T + n))).alloc _).draw nq, (Blk.at (by simp) rfl : Blk ((w.setCell ⟨b, 1, none⟩ (.int .i64 (T + n))).alloc (.cells #[.int .u8 k, .int .i64 s] 64)) w.heap.size 64 #[.int .u8 k, .int .i64 s]), by show ((w.setCell ⟨b, 1, none⟩ (.int .i64 (T + n))).alloc (.cells #[.int .u8 k, .int .i64 s] 64)).heap.size = _; simp⟩
theorem NewS.lit {b : Nat} {v : Value} {T k s : Int} {w w' : World} (h : NewS b v T k s w w') (n : Int) : NewS' b v T k s n w (w'.alloc (.cells #[.int .u8 k, .int .i64 s, .int .i64 n] 76)) :=
  ⟨h.only.alloc _, h.blk.alloc _, h.ev.alloc _, Blk.at h.size.symm rfl, by simp [h.size]⟩
theorem three_cells (k s n : Int) : ∀ u ∈ [Value.int .u8 k, .int .i64 s, .int .i64 n], u.oneCell' = true := by
  intro u hu
  simp at hu
  rcases hu with rfl | rfl | rfl <;> rfl
theorem maxl {n : Nat} (h : n ≤ 5497558138880) : n + 1 ≤ maxLen := by unfold maxLen; omega
theorem byt {n : Nat} (h : n ≤ 5497558138880) : (n + 1) * 24 ≤ 140737488355328 := by omega
theorem infoRun : (Tryz.prog.info? 76).map (fun i => (i.zero, i.size, i.bytes)) = some (some (.agg #[.int .u8 0, .int .i64 0, .int .i64 0]), 3, 24) := by kernel_rfl
theorem NewS.drawn {b : Nat} {v : Value} {T k s : Int} {w w' : World} (h : NewS b v T k s w w') (n : Nat) : NewS b v T k s w { w' with drawn := w'.drawn + n } := ⟨⟨h.only.os, h.only.tape, h.only.output, h.only.size, h.only.block⟩, h.blk, h.ev, h.size⟩
theorem NewS.reads {b : Nat} {v : Value} {T k s n : Int} {w w' : World} (h : NewS b v T k s w w' ∨ NewS' b v T k s n w w') :
    w'.cell? ⟨b, 0, none⟩ = some v ∧ w'.cell? ⟨w.heap.size, 0, none⟩ = some (.int .u8 k) ∧ w'.cell? ⟨w.heap.size, 1, none⟩ = some (.int .i64 s) ∧ b < w'.heap.size ∧ w.heap.size < w'.heap.size := by
  rcases h with h | h
  · exact ⟨h.blk.cellAt 0 rfl, h.ev.cellAt 0 rfl, h.ev.cellAt 1 rfl, h.blk.lt, h.ev.lt⟩
  · exact ⟨h.blk.cellAt 0 rfl, h.ev.cellAt 0 rfl, h.ev.cellAt 1 rfl, h.blk.lt, h.ev.lt⟩
/-- the first run, or one of another event -/
theorem noteTimes_new (b : Nat) (v : Value) (rs : List Rn) (k s n : Int) (w : World) (h : LedP w b v rs) (hn : 1 ≤ n) (hb : tot rs + n < 9223372036854775808) (hl : rs.length ≤ 5497558138880)
    (hd : rs = [] ∨ ∃ rs0 r, rs = rs0 ++ [r] ∧ ((r.k == k) = false ∨ ((r.k == k) = true ∧ (r.s == s) = false))) :
    Calls Tryz.prog 46 #[.pointer (some ⟨b, 0, none⟩), .agg #[.int .u8 k, .int .i64 s], .int .i64 n] w (NotedP b v (rs ++ [⟨k, s, n⟩]) w) := by
  have ht0 : 0 ≤ tot rs := by have := tot_nonneg rs h.posi; omega
  obtain ⟨ao, cap, hv⟩ := h.row.any
  have c0 := h.blk.cellAt 0 (v := v) rfl
  have c1 := h.blk.cellAt 1 (v := .int .i64 (tot rs)) rfl
  have f1 := h.blk.unfrozen 1
  have f0 := h.blk.unfrozen 0
  have hbl := h.blk.lt
  have H := Lib.hid h
  obtain ⟨i0, hi, hz0, hz1, hz2⟩ := info_parts infoRun
  have HI := Lib.hid (And.intro hi (And.intro hz0 (And.intro hz1 hz2)))
  clear hi hz0 hz1 hz2
  rcases hd with rfl | ⟨rs0, r, rfl, hd⟩
  · clear h
    have hlz : ([] : List Rn).length = 0 := rfl
    subst hv
    have HN0 : Hid (0 = ([] : List Rn).length) := rfl
    have HL0 : Hid (0 ≤ 5497558138880) := Nat.zero_le _
    have HROW : Hid (∀ {w1 : World}, Only (fun x => x = b) w w1 → w1.ownsRow 0 76 3 (.slice ao 0 cap) 0 (flatR [])) := fun {w1} ho => H.out.row.keep ho (fun x hx he => H.out.apart (he ▸ hx))
    generalize hT : tot ([] : List Rn) = T at hb c1 ht0
    have HT := Lib.hid hT
    clear hT
    rw [hlz] at c0
    clear hlz
    go_enter Tryz.func46, Tryz.ntmps46
    go_wp2_with fail
    go_quiet (fail)
    go_wp2_with fail
    have HSt : NewS b (.slice ao 0 cap) (T + n) k s w (((w.setCell ⟨b, 1, none⟩ (.int .i64 (T + n))).alloc (.cells #[.int .u8 k, .int .i64 s] 64)).drewN nq) := NewS.start H.out HT.out nq
    generalize (((w.setCell ⟨b, 1, none⟩ (.int .i64 (T + n))).alloc (.cells #[.int .u8 k, .int .i64 s] 64)).drewN nq) = W at HSt
    refine wp_region_tame3 8 (NewS b (.slice ao 0 cap) (T + n) k s w) (NewS' b (.slice ao 0 cap) (T + n) k s n w) 1 9 (by kernel_rfl) (by kernel_rfl) (fun _ _ d _ _ h => (by cases d <;> exact h)) (HSt.drawn 1) (.inl (by decide)) ?_
    clear HSt
    simp only [List.take_succ_cons, List.take_zero, List.drop_succ_cons, List.drop_zero]
    refine wpPre_run (v := ?_) rfl (fun w' => ?_) ?_
    rotate_left
    · (go_simp; rfl)
    simp only [Act.put, List.setIfInBounds_toArray, List.set_cons_zero, List.set_cons_succ]
    refine wpPre_nil ?_
    iterate 7
      refine wpTame_run2 (v := ?_) (by decide) rfl (fun w' hS => ?_) ?_
      rotate_left
      · (obtain ⟨c0, e0, e1, _, _⟩ := NewS.reads hS; clear hS; go_simp; rfl)
      simp only [Act.put, List.setIfInBounds_toArray, List.set_cons_zero, List.set_cons_succ]
    refine wpTame_bump (v := .slice (some ⟨w.heap.size + 1, 0, none⟩) 1 1) rfl rfl (fun w' hS => ?_) ?_
    · have hz := hS.size
      have HZ := Lib.hid hS
      clear hS
      go_simp
      exact ⟨rfl, HZ.out.lit n⟩
    simp only [Act.put, List.setIfInBounds_toArray, List.set_cons_zero, List.set_cons_succ]
    refine wpTame_nil ?_
    intro w1 hS
    obtain ⟨hi, hz0, hz1, hz2⟩ := HI.out
    obtain ⟨c0, _, _, hl1, _⟩ := NewS.reads (n := n) (.inr hS)
    have hrow : w1.ownsRow 0 76 3 (.slice ao 0 cap) 0 (flatR []) := HROW.out hS.only
    refine wpList_append_lies w1 rfl _ _ 33 rfl 0 76 i0 _ 3 24 Tryz.underlying33 hi hz0 hz1 hz2 rfl (by decide) (.slice ao 0 cap) 0 (flatR []) rfl hrow ⟨w.heap.size + 1, 0, none⟩ 1 1 [.int .u8 k, .int .i64 s, .int .i64 n] rfl rfl (World.news_of_block hS.lit) (three_cells k s n) (by decide) (maxl HL0.out) (byt HL0.out) (Nat.zero_le _) _ rfl ?_
    intro g cap' w2 hown hgrow hat hlt
    have hne : ¬ (Value.slice ao 0 cap).ownBlock = some b := H.out.apart
    have c2 : w2.cell? ⟨b, 0, none⟩ = some (.slice ao 0 cap) := (World.grownBy.cell_far hgrow ⟨b, 0, none⟩ hl1 (fun e => hne e.symm)).trans c0
    have f2 : w2.frozen? ⟨b, 0, none⟩ = false := (World.grownBy.frozen_far hgrow ⟨b, 0, none⟩ hl1 (fun e => hne e.symm)).trans (hS.blk.unfrozen 0)
    have hat' : (Value.slice ao 0 cap).ownBlock = some g ∨ w.heap.size ≤ g := hat.imp id (fun e => by rw [e, hS.size]; omega)
    have HN : Hid (NotedP b (.slice ao 0 cap) ([] ++ [⟨k, s, n⟩]) w (.returned (.tuple #[])) (w2.setCell ⟨b, 0, none⟩ (.slice (some ⟨g, 0, none⟩) (0 + 1) cap'))) :=
      NotedP.more HN0.out H.out hn hS.only (by rw [HT.out]; exact hS.blk) hown hgrow hat'
    clear hat hat' hown hgrow hS
    go_wp2
    refine bodyPost_ret (results_none rfl _ _ _) rfl ?_
    exact HN.out
  · have hlen : (rs0 ++ [r]).length = rs0.length + 1 := by simp
    obtain ⟨g0, cap0, hv1, hgl⟩ := h.row.form (by omega)
    subst hv1
    obtain ⟨d1, d2, d3⟩ := h.row.cells rs0.length r (by simp)
    have hne : ¬ b = g0 := fun e => h.apart (by rw [e]; rfl)
    have hne' : ¬ g0 = b := fun e => hne e.symm
    have hl63 : rs0.length < 9223372036854775807 := by omega
    have HLL : Hid ((rs0 ++ [r]).length ≤ 5497558138880) := hl
    clear h hl hv
    rw [hlen] at c0
    have HN0 : Hid (rs0.length + 1 = (rs0 ++ [r]).length) := Lib.hid hlen.symm
    have HL0 : Hid (rs0.length + 1 ≤ 5497558138880) := by rw [HN0.out]; exact HLL.out
    have HROW : Hid (∀ {w1 : World}, Only (fun x => x = b) w w1 → w1.ownsRow 0 76 3 (.slice (some ⟨g0, 0, none⟩) (rs0.length + 1) cap0) (rs0.length + 1) (flatR (rs0 ++ [r]))) := fun {w1} ho => by
      have h1 := H.out.row.keep ho (fun x hx he => H.out.apart (he ▸ hx))
      unfold RunsAt at h1
      rw [hlen] at h1
      exact h1
    have H : Hid (LedP w b (.slice (some ⟨g0, 0, none⟩) (rs0.length + 1) cap0) (rs0 ++ [r])) := by
      have h1 := H.out
      rw [hlen] at h1
      exact h1
    have HNP : Hid (NotedP b (.slice (some ⟨g0, 0, none⟩) (rs0.length + 1) cap0) (rs0 ++ [r] ++ [⟨k, s, n⟩]) w = NotedP b (.slice (some ⟨g0, 0, none⟩) (rs0 ++ [r]).length cap0) (rs0 ++ [r] ++ [⟨k, s, n⟩]) w) := by rw [hlen]; rfl
    rw [← HNP.out]
    clear hlen HNP
    generalize hT : tot (rs0 ++ [r]) = T at hb c1 ht0
    have HT := Lib.hid hT
    clear hT
    generalize rs0.length = L at c0 d1 d2 d3 hl63 HN0 HL0 HROW H ⊢
    obtain ⟨rk, rs', rc⟩ := r
    dsimp only at d1 d2 d3 hd
    rcases hd with hd | ⟨hd, hd'⟩
    all_goals
      go_enter Tryz.func46, Tryz.ntmps46
      go_wp2_with fail
      have hwL : IntKind.i64.wrap (L : Int) = L := IntWalk.i64_in _ (by omega)
      go_quiet (fail)
      clear hwL
      go_wp2_with fail
      have HSt : NewS b (.slice (some ⟨g0, 0, none⟩) (L + 1) cap0) (T + n) k s w (((w.setCell ⟨b, 1, none⟩ (.int .i64 (T + n))).alloc (.cells #[.int .u8 k, .int .i64 s] 64)).drewN nq) := NewS.start H.out HT.out nq
      generalize (((w.setCell ⟨b, 1, none⟩ (.int .i64 (T + n))).alloc (.cells #[.int .u8 k, .int .i64 s] 64)).drewN nq) = W at HSt
      refine wp_region_tame3 8 (NewS b (.slice (some ⟨g0, 0, none⟩) (L + 1) cap0) (T + n) k s w) (NewS' b (.slice (some ⟨g0, 0, none⟩) (L + 1) cap0) (T + n) k s n w) 1 9 (by kernel_rfl) (by kernel_rfl) (fun _ _ d _ _ h => (by cases d <;> exact h)) (HSt.drawn 1) (.inl (by decide)) ?_
      clear HSt
      simp only [List.take_succ_cons, List.take_zero, List.drop_succ_cons, List.drop_zero]
      refine wpPre_run (v := ?_) rfl (fun w' => ?_) ?_
      rotate_left
      · (go_simp; rfl)
      simp only [Act.put, List.setIfInBounds_toArray, List.set_cons_zero, List.set_cons_succ]
      refine wpPre_nil ?_
      iterate 7
        refine wpTame_run2 (v := ?_) (by decide) rfl (fun w' hS => ?_) ?_
        rotate_left
        · (obtain ⟨c0, e0, e1, _, _⟩ := NewS.reads hS; clear hS; go_simp; rfl)
        simp only [Act.put, List.setIfInBounds_toArray, List.set_cons_zero, List.set_cons_succ]
      refine wpTame_bump (v := .slice (some ⟨w.heap.size + 1, 0, none⟩) 1 1) rfl rfl (fun w' hS => ?_) ?_
      · have hz := hS.size
        have HZ := Lib.hid hS
        clear hS
        go_simp
        exact ⟨rfl, HZ.out.lit n⟩
      simp only [Act.put, List.setIfInBounds_toArray, List.set_cons_zero, List.set_cons_succ]
      refine wpTame_nil ?_
      intro w1 hS
      obtain ⟨hi, hz0, hz1, hz2⟩ := HI.out
      obtain ⟨c0, _, _, hl1, _⟩ := NewS.reads (n := n) (.inr hS)
      have hrow : w1.ownsRow 0 76 3 (.slice (some ⟨g0, 0, none⟩) (L + 1) cap0) (L + 1) (flatR (rs0 ++ [(⟨rk, rs', rc⟩ : Rn)])) := HROW.out hS.only
      refine wpList_append_lies w1 rfl _ _ 33 rfl 0 76 i0 _ 3 24 Tryz.underlying33 hi hz0 hz1 hz2 rfl (by decide) (.slice (some ⟨g0, 0, none⟩) (L + 1) cap0) (L + 1) (flatR (rs0 ++ [(⟨rk, rs', rc⟩ : Rn)])) rfl hrow ⟨w.heap.size + 1, 0, none⟩ 1 1 [.int .u8 k, .int .i64 s, .int .i64 n] rfl rfl (World.news_of_block hS.lit) (three_cells k s n) (by decide) (maxl HL0.out) (byt HL0.out) (Nat.zero_le _) _ rfl ?_
      intro g cap' w2 hown hgrow hat hlt
      have hne : ¬ (Value.slice (some ⟨g0, 0, none⟩) (L + 1) cap0).ownBlock = some b := H.out.apart
      have c2 : w2.cell? ⟨b, 0, none⟩ = some (.slice (some ⟨g0, 0, none⟩) (L + 1) cap0) := (World.grownBy.cell_far hgrow ⟨b, 0, none⟩ hl1 (fun e => hne e.symm)).trans c0
      have f2 : w2.frozen? ⟨b, 0, none⟩ = false := (World.grownBy.frozen_far hgrow ⟨b, 0, none⟩ hl1 (fun e => hne e.symm)).trans (hS.blk.unfrozen 0)
      have hat' : (Value.slice (some ⟨g0, 0, none⟩) (L + 1) cap0).ownBlock = some g ∨ w.heap.size ≤ g := hat.imp id (fun e => by rw [e, hS.size]; omega)
      have HN : Hid (NotedP b (.slice (some ⟨g0, 0, none⟩) (L + 1) cap0) ((rs0 ++ [(⟨rk, rs', rc⟩ : Rn)]) ++ [⟨k, s, n⟩]) w (.returned (.tuple #[])) (w2.setCell ⟨b, 0, none⟩ (.slice (some ⟨g, 0, none⟩) ((L + 1) + 1) cap'))) :=
        NotedP.more HN0.out H.out hn hS.only (by rw [HT.out]; exact hS.blk) hown hgrow hat'
      clear hat hat' hown hgrow hS
      go_wp2
      refine bodyPost_ret (results_none rfl _ _ _) rfl ?_
      exact HN.out

/-- nothing is noted -/
theorem noteTimes_off (b : Nat) (k s n : Int) (w : World) (hn : n < 1) :
    Calls Tryz.prog 46 #[.pointer (some ⟨b, 0, none⟩), .agg #[.int .u8 k, .int .i64 s], .int .i64 n] w fun e w' => e = .returned (.tuple #[]) ∧ Below w.heap.size w w' := by
  go_enter Tryz.func46, Tryz.ntmps46
  go_wp2_with fail
  refine bodyPost_ret (results_none rfl _ _ _) rfl ?_
  exact ⟨rfl, (Below.refl _ _).alloc (Nat.le_refl _) _⟩
theorem noteTimes_nil (k s n : Int) (w : World) :
    Calls Tryz.prog 46 #[.pointer none, .agg #[.int .u8 k, .int .i64 s], .int .i64 n] w fun e w' => e = .returned (.tuple #[]) ∧ Below w.heap.size w w' := by
  go_enter Tryz.func46, Tryz.ntmps46
  go_wp2_with fail
  refine bodyPost_ret (results_none rfl _ _ _) rfl ?_
  exact ⟨rfl, (Below.refl _ _).alloc (Nat.le_refl _) _⟩
/-- a note of n events, n above 0 -/
theorem noteTimes_any (b : Nat) (v : Value) (rs : List Rn) (k s n : Int) (w : World) (h : LedP w b v rs) (hn : 1 ≤ n) (hb : tot rs + n < 9223372036854775808) (hl : rs.length ≤ 5497558138880) :
    Calls Tryz.prog 46 #[.pointer (some ⟨b, 0, none⟩), .agg #[.int .u8 k, .int .i64 s], .int .i64 n] w (NotedP b v (noteL rs k s n) w) := by
  rcases List.eq_nil_or_concat rs with rfl | ⟨rs0, r, rfl⟩
  · exact noteTimes_new b v [] k s n w h hn hb hl (.inl rfl)
  · rw [List.concat_eq_append] at *
    by_cases hk : r.k = k
    · by_cases hs : r.s = s
      · subst hk; subst hs
        obtain ⟨g, cap, rfl, _⟩ := h.row.form (by simp)
        rw [noteL_same]
        exact noteTimes_same b g cap rs0 r n w h hn hb
      · rw [noteL_other _ _ _ _ _ (fun e => hs e.2)]
        exact noteTimes_new b v _ k s n w h hn hb hl (.inr ⟨rs0, r, rfl, .inr ⟨by rw [hk]; exact beq_self_eq_true _, beq_eq_false_iff_ne.2 hs⟩⟩)
    · rw [noteL_other _ _ _ _ _ (fun e => hk e.1)]
      exact noteTimes_new b v _ k s n w h hn hb hl (.inr ⟨rs0, r, rfl, .inl (beq_eq_false_iff_ne.2 hk)⟩)
set_option maxHeartbeats 400000 in
theorem note_any (b : Nat) (v : Value) (rs : List Rn) (k s : Int) (w : World) (h : LedP w b v rs) (hb : tot rs + 1 < 9223372036854775808) (hl : rs.length ≤ 5497558138880) :
    Calls Tryz.prog 18 #[.pointer (some ⟨b, 0, none⟩), .agg #[.int .u8 k, .int .i64 s]] w (NotedP b v (noteL rs k s 1) w) := by
  have H := Lib.hid h
  have HB := Lib.hid hb
  clear h hb
  go_enter Tryz.func18, Tryz.ntmps18
  go_wp2_with fail
  have h1 : LedP (w.alloc (.cells #[.int .u8 k, .int .i64 s] 64)) b v rs := H.out.keep ((Only.refl (fun _ => False) w).alloc _) (fun _ _ h => h)
  refine (noteTimes_any b v rs k s 1 _ h1 (by omega) HB.out hl).mono ?_
  rintro e w1 ⟨rfl, v', g1, g2, g3⟩
  have G1 := Lib.hid g1
  have G2 := Lib.hid g2
  have G3 := Lib.hid g3
  clear g1 g2 g3
  go_wp2
  refine bodyPost_end (results_none rfl _ _ _) rfl ?_
  refine ⟨rfl, v', G1.out, ((Only.refl _ w).alloc _).trans G2.out (fun x hx => .inl hx), fun x hx => (G3.out x hx).imp id (fun hh => ?_)⟩
  simp at hh
  omega
theorem note_nil (k s : Int) (w : World) :
    Calls Tryz.prog 18 #[.pointer none, .agg #[.int .u8 k, .int .i64 s]] w fun e w' => e = .returned (.tuple #[]) ∧ Below w.heap.size w w' := by
  go_enter Tryz.func18, Tryz.ntmps18
  go_wp2_with fail
  refine (noteTimes_nil k s 1 _).mono ?_
  rintro e w1 ⟨rfl, g1⟩
  go_wp2
  refine bodyPost_end (results_none rfl _ _ _) rfl ?_
  exact ⟨rfl, ((Below.refl _ _).alloc (Nat.le_refl _) _).trans (g1.mono (by simp))⟩
end Go.Proofs.YtkidijjhedjifaaGreat
/- The contract of the document's NoteTimes. Conditions: as of the program's. -/
namespace Go.Proofs.YtkidijjhedjifaaGreat
open Go.RowKit
set_option maxRecDepth 100000
end Go.Proofs.YtkidijjhedjifaaGreat
/- Slices that are read, whatever their elements' size, and append from any of them. No program in sight. -/
namespace Go.Proofs.YtkidijjhedjifaaGreat
open Go.RowKit

/-- v is a slice of n elements (size cells each) whose cells are xs -/
structure Sl (w : World) (size : Nat) (v : Value) (n : Nat) (xs : List Value) : Prop where
  len : xs.length = n * size
  one : ∀ u ∈ xs, u.oneCell' = true
  form : ∃ ao cap, v = .slice ao n cap ∧ n ≤ cap ∧ cap ≤ 9223372036854775807 ∧ (ao = none → cap = 0) ∧
    ∀ j u, xs[j]? = some u → ∃ b off, ao = some ⟨b, off, none⟩ ∧ w.cell? ⟨b, off + j, none⟩ = some u
theorem add_lit (b off j : Nat) : (⟨b, off, none⟩ : Addr).add j = ⟨b, off + j, none⟩ := by unfold Addr.add; split <;> simp_all
theorem Sl.keep {w w' : World} {size n : Nat} {v : Value} {xs : List Value} (h : Sl w size v n xs) (hk : ∀ b, v.ownBlock = some b → b < w.heap.size → w'.heap[b]? = w.heap[b]?) : Sl w' size v n xs := by
  obtain ⟨ao, cap, rfl, h1, h2, h3, h4⟩ := h.form
  refine ⟨h.len, h.one, ao, cap, rfl, h1, h2, h3, fun j u hj => ?_⟩
  obtain ⟨b, off, rfl, hc⟩ := h4 j u hj
  have hlt : b < w.heap.size := World.block_lt_of_cell? w _ hc
  exact ⟨b, off, rfl, (World.cell?_of_block (w := w) (hk b rfl hlt)).trans hc⟩
theorem Sl.only {S : Nat → Prop} {w w' : World} {size n : Nat} {v : Value} {xs : List Value} (h : Sl w size v n xs) (ho : Only S w w') (hv : ∀ b, v.ownBlock = some b → ¬ S b) : Sl w' size v n xs :=
  h.keep fun b hb hlt => ho.block b hlt (hv b hb)
theorem Sl.grow {w w' : World} {size n : Nat} {v : Value} {xs : List Value} (h : Sl w size v n xs) (hb : Below w.heap.size w w') : Sl w' size v n xs := h.keep fun b _ hlt => hb.block b hlt
theorem Sl.nil (w : World) (size : Nat) : Sl w size (.slice none 0 0) 0 [] := ⟨by simp, (fun _ h => by cases h), none, 0, rfl, Nat.le_refl _, by omega, fun _ => rfl, (fun j u h => by simp at h)⟩
theorem Sl.of_own {w : World} {base : Nat} {e : TypeId} {size n : Nat} {v : Value} {xs : List Value} (h : w.ownsRow base e size v n xs) (h1 : ∀ u ∈ xs, u.oneCell' = true) : Sl w size v n xs := by
  refine ⟨h.1, h1, ?_⟩
  rcases h.2 with ⟨rfl, rfl⟩ | ⟨g, cap, cur, rfl, _, hg, hnc, hcm, _, htake⟩
  · refine ⟨none, 0, rfl, Nat.le_refl _, by omega, fun _ => rfl, fun j u hj => ?_⟩
    have : xs = [] := List.eq_nil_of_length_eq_zero (by simpa using h.1)
    subst this
    simp at hj
  · refine ⟨some ⟨g, 0, none⟩, cap, rfl, hnc, hcm, (fun h => by cases h), fun j u hj => ⟨g, 0, rfl, ?_⟩⟩
    have := World.ownsRow.cells (w := w) (v := .slice (some ⟨g, 0, none⟩) n cap) h rfl j u hj
    rwa [add_lit] at this
theorem Sl.bytes {w : World} {v : Value} {l : List UInt8} (h : Sl w 1 v l.length (l.map B)) : Bs w v l := by
  obtain ⟨ao, cap, rfl, h1, h2, h3, h4⟩ := h.form
  refine ⟨ao, cap, rfl, h1, h2, h3, fun j hj => ?_⟩
  refine h4 j _ ?_
  rw [List.getElem?_map, List.getElem?_eq_getElem hj, List.getD_eq_getElem?_getD, List.getElem?_eq_getElem hj]
  rfl

section
variable {P : Program} (w : World)
/-- append onto a row of the call's own, from whatever slice -/
theorem run_append_sl (t ty e : TypeId) (i : TypeInfo) (z : Value) (size bytes : Nat) (ht : P.underlying t = some (.slice e)) (hi : P.info? e = some i) (hz : i.zero = some z)
    (hsize : i.size = size) (hby : i.bytes = bytes) (hzs : z.cells.size = size) (hsz : 0 < size)
    (v : Value) (n : Nat) (xs : List Value) (hown : w.ownsRow 0 e size v n xs) (y : Value) (m : Nat) (news : List Value) (hy : Sl w size y m news)
    (h63 : n + m ≤ maxLen) (hbytes : (n + m) * bytes ≤ 140737488355328) :
    ∃ v' w', (Builtin.append_ #[t, t] ty #[v, y]).run P w = .ok v' w' ∧ w'.ownsRow 0 e size v' (n + m) (xs ++ news) ∧ w.grownBy w' v.ownBlock ∧ (v'.ownBlock = v.ownBlock ∨ v'.ownBlock = some w.heap.size) ∧ (v ≠ .slice none 0 0 → v' ≠ .slice none 0 0) := by
  obtain ⟨ao, cap, rfl, h1, h2, h3, h4⟩ := hy.form
  cases ao with
  | none =>
    obtain rfl : cap = 0 := h3 rfl
    obtain rfl : m = 0 := by omega
    have hn : news = [] := List.eq_nil_of_length_eq_zero (by simpa using hy.len)
    subst hn
    exact ⟨v, w, run_append_owned_none (P := P) (w := w) 0 t ty e i size ht hi v n xs hown, by simpa using hown, ⟨rfl, rfl, rfl, Nat.le_refl _, fun _ _ _ => rfl⟩, .inl rfl, id⟩
  | some ad =>
    have hnews : ∀ j u, news[j]? = some u → w.cell? (ad.add j) = some u := fun j u hj => by
      obtain ⟨b, off, hab, hc⟩ := h4 j u hj
      injection hab with hab
      subst hab
      rw [add_lit]
      exact hc
    obtain ⟨v', w', hr, g1, g2, g3, g4⟩ := run_append_own_at (P := P) w 0 t ty e i z size bytes ht hi hz hsize hby hzs hsz v n xs hown ad m cap news hy.len hnews hy.one h63 hbytes (Nat.zero_le _)
    exact ⟨v', w', hr, g1, g2, g4, fun hv hv' => hv (g3.1 hv').1⟩
theorem wp_append_sl {o : Oper} {a : Act} {K : Act → World → Prop} {Q : Exit → Act → World → Prop} (s x : Operand) (t : TypeId)
    (ho : o.op = .call { callee := .builtin .append, args := #[s, x], argTypes := #[t, t] })
    (e : TypeId) (i : TypeInfo) (z : Value) (size bytes : Nat) (ht : P.underlying t = some (.slice e)) (hi : P.info? e = some i) (hz : i.zero = some z)
    (hsize : i.size = size) (hby : i.bytes = bytes) (hzs : z.cells.size = size) (hsz : 0 < size)
    (v : Value) (n : Nat) (xs : List Value) (hs : a.eval s = v) (hown : w.ownsRow 0 e size v n xs) (y : Value) (m : Nat) (news : List Value) (hx : a.eval x = y) (hy : Sl w size y m news)
    (h63 : n + m ≤ maxLen) (hbytes : (n + m) * bytes ≤ 140737488355328)
    (h : ∀ v' w', w'.ownsRow 0 e size v' (n + m) (xs ++ news) → w.grownBy w' v.ownBlock → (v'.ownBlock = v.ownBlock ∨ v'.ownBlock = some w.heap.size) → (v ≠ .slice none 0 0 → v' ≠ .slice none 0 0) → K (a.put o.dst v') w') : o.wp P a w K Q := by
  obtain ⟨v', w', hr, g1, g2, g3, g4⟩ := run_append_sl (P := P) w t o.type e i z size bytes ht hi hz hsize hby hzs hsz v n xs hown y m news hy h63 hbytes
  unfold Oper.wp execOp
  simp only [ho, resolve, invoke, builtin, Sem.run_bind, Sem.run_pure, Result.andThen_ok, List.map_toArray, List.map_cons, List.map_nil, hs, hx, hr]
  exact h v' w' g1 g2 g3 g4
theorem wpList_append_sl {ops : Array Oper} {rest : List Oper} {o : Oper} {a : Act} {Q : Exit → Act → World → Prop} (hgd : o.guard = none) (s x : Operand) (t : TypeId)
    (ho : o.op = .call { callee := .builtin .append, args := #[s, x], argTypes := #[t, t] })
    (e : TypeId) (i : TypeInfo) (z : Value) (size bytes : Nat) (ht : P.underlying t = some (.slice e)) (hi : P.info? e = some i) (hz : i.zero = some z)
    (hsize : i.size = size) (hby : i.bytes = bytes) (hzs : z.cells.size = size) (hsz : 0 < size)
    (v : Value) (n : Nat) (xs : List Value) (hs : a.eval s = v) (hown : w.ownsRow 0 e size v n xs) (y : Value) (m : Nat) (news : List Value) (hx : a.eval x = y) (hy : Sl w size y m news)
    (h63 : n + m ≤ maxLen) (hbytes : (n + m) * bytes ≤ 140737488355328)
    (h : ∀ v' w', w'.ownsRow 0 e size v' (n + m) (xs ++ news) → w.grownBy w' v.ownBlock → (v'.ownBlock = v.ownBlock ∨ v'.ownBlock = some w.heap.size) → (v ≠ .slice none 0 0 → v' ≠ .slice none 0 0) → wpList P ops Q rest (a.put o.dst v') w') : wpList P ops Q (o :: rest) a w :=
  wpList_plain hgd fun _ hK => wp_append_sl w s x t ho e i z size bytes ht hi hz hsize hby hzs hsz v n xs hs hown y m news hx hy h63 hbytes fun v' w' g1 g2 g3 g4 => hK _ _ (h v' w' g1 g2 g3 g4)
end
end Go.Proofs.YtkidijjhedjifaaGreat
/- The contracts of both ledgers' New, Runs, Len, and of the kit's SameRuns. Conditions: at most 2^40 runs; counts in their kind. -/
namespace Go.Proofs.YtkidijjhedjifaaGreat
open Go.RowKit
set_option maxRecDepth 100000

theorem flatR_one' (rs : List Rn) : ∀ u ∈ flatR rs, u.oneCell' = true := by
  intro u hu
  obtain ⟨r, _, hr⟩ := List.mem_flatMap.1 hu
  exact three_cells r.k r.s r.c u hr
/-- a slice of runs that is read -/
def RunsRd (w : World) (v : Value) (rs : List Rn) : Prop := Sl w 3 v rs.length (flatR rs)
theorem RunsAt.rd {w : World} {v : Value} {rs : List Rn} (h : RunsAt w v rs) : RunsRd w v rs := Sl.of_own h (flatR_one' rs)
theorem RunsRd.cells {w : World} {ao : Option Addr} {cap : Nat} {rs : List Rn} (h : RunsRd w (.slice ao rs.length cap) rs) (i : Nat) (r : Rn) (hr : rs[i]? = some r) :
    ∃ b off, ao = some ⟨b, off, none⟩ ∧ w.cell? ⟨b, off + i * 3, none⟩ = some (.int .u8 r.k) ∧ w.cell? ⟨b, off + i * 3 + 1, none⟩ = some (.int .i64 r.s) ∧ w.cell? ⟨b, off + i * 3 + 2, none⟩ = some (.int .i64 r.c) := by
  obtain ⟨ao', cap', hv, _, _, _, h4⟩ := h.form
  obtain ⟨h1, h2, h3⟩ := flatR_at rs i r hr
  injection hv with e1 e2 e3
  subst e1
  obtain ⟨b, off, hao, c1⟩ := h4 _ _ h1
  obtain ⟨b2, off2, hao2, c2⟩ := h4 _ _ h2
  obtain ⟨b3, off3, hao3, c3⟩ := h4 _ _ h3
  rw [hao] at hao2 hao3
  injection hao2 with e2; injection e2 with e4 e5; subst e4; subst e5
  injection hao3 with e3; injection e3 with e6 e7; subst e6; subst e7
  exact ⟨b, off, hao, c1, by rw [Nat.add_assoc]; exact c2, by rw [Nat.add_assoc]; exact c3⟩

theorem maxl0 {n : Nat} (h : n ≤ 5497558138880) : 0 + n ≤ maxLen := by unfold maxLen; omega
theorem byt0 {n : Nat} (h : n ≤ 5497558138880) : (0 + n) * 24 ≤ 140737488355328 := by omega
theorem newP_any (w : World) : Calls Tryz.prog 17 #[] w fun e w' => e = .returned (.pointer (some ⟨w.heap.size, 0, none⟩)) ∧ LedP w' w.heap.size (.slice none 0 0) [] ∧ Below w.heap.size w w' := by
  go_enter Tryz.func17, Tryz.ntmps17
  go_wp2
  go_ret
  exact ⟨rfl, ⟨Blk.at rfl rfl, RunsAt.nil _, fun h => by simp [fp, Value.ownBlock] at h, Posi.nil⟩, (Below.refl _ _).alloc (Nat.le_refl _) _⟩
/-- runs told in new memory -/
def NewRuns (rs : List Rn) (w : World) (e : Ending) (w' : World) : Prop :=
  ∃ v, e = .returned v ∧ RunsAt w' v rs ∧ Below w.heap.size w w' ∧ ∀ x, fp v x → w.heap.size ≤ x
set_option maxHeartbeats 400000 in
theorem runsP_any (b : Nat) (v : Value) (rs : List Rn) (w : World) (h : LedP w b v rs) (hl : rs.length ≤ 5497558138880) : Calls Tryz.prog 19 #[.pointer (some ⟨b, 0, none⟩)] w (NewRuns rs w) := by
  obtain ⟨i0, hi, hz0, hz1, hz2⟩ := info_parts infoRun
  have HI := Lib.hid (And.intro hi (And.intro hz0 (And.intro hz1 hz2)))
  clear hi hz0 hz1 hz2
  have c0 := h.blk.cellAt 0 (v := v) rfl
  have hb := h.blk.lt
  have H := Lib.hid h
  clear h
  go_enter Tryz.func19, Tryz.ntmps19
  have hown0 : (w.alloc (.cells #[] 76)).ownsRow 0 76 3 (.slice (some ⟨w.heap.size, 0, none⟩) 0 0) 0 [] := World.ownsRow_lit w #[] 0 (Nat.zero_le _) (by decide) rfl
  have hy : Sl (w.alloc (.cells #[] 76)) 3 v rs.length (flatR rs) := H.out.row.rd.grow ((Below.refl _ _).alloc (Nat.le_refl _) _)
  obtain ⟨hi, hz0, hz1, hz2⟩ := HI.out
  go_wp2_with (at_builtin; refine wpList_append_sl _ rfl _ _ 33 rfl 76 i0 _ 3 24 Tryz.underlying33 hi hz0 hz1 hz2 rfl (by decide) (.slice (some ⟨w.heap.size, 0, none⟩) 0 0) 0 [] rfl hown0 v rs.length (flatR rs) rfl hy (maxl0 hl) (byt0 hl) ?_)
  intro v' w1 hown hgrow hat _
  have HN : Hid (NewRuns rs w (.returned v') w1) := by
    refine ⟨v', rfl, ?_, ?_, ?_⟩
    · unfold RunsAt
      simpa using hown
    · exact ((Below.refl w.heap.size w).alloc (Nat.le_refl _) _).grown hgrow (by simp) (fun k hk => by simp [Value.ownBlock] at hk; omega)
    · intro x hx
      rcases hat with hat | hat
      · have : fp v' x := hx
        rw [fp, hat] at this
        simp [Value.ownBlock] at this
        omega
      · have : fp v' x := hx
        rw [fp, hat] at this
        simp at this
        omega
  clear hown hgrow hat hown0 hy hi hz0 hz1 hz2
  go_wp2
  go_ret
  exact HN.out

/-! ### SameRuns -/
def sameTo (xs ys : List Rn) : Nat → Nat → Bool
  | 0, _ => true
  | n + 1, k => if xs[k]? = ys[k]? then sameTo xs ys n (k + 1) else false
theorem sameTo_eq (xs ys : List Rn) (hl : xs.length = ys.length) : ∀ n k, k + n = xs.length → (sameTo xs ys n k = true ↔ ∀ j, k ≤ j → xs[j]? = ys[j]?)
  | 0, k, h => by
    simp only [sameTo, true_iff]
    intro j hj
    rw [List.getElem?_eq_none (by omega), List.getElem?_eq_none (by omega)]
  | n + 1, k, h => by
    simp only [sameTo]
    by_cases e : xs[k]? = ys[k]?
    · rw [if_pos e, sameTo_eq xs ys hl n (k + 1) (by omega)]
      constructor
      · intro hh j hj
        by_cases ejk : j = k
        · subst ejk; exact e
        · exact hh j (by omega)
      · intro hh j hj
        exact hh j (by omega)
    · rw [if_neg e]
      simp only [Bool.false_eq_true, false_iff]
      intro hh
      exact e (hh k (Nat.le_refl _))
theorem sameTo_all (xs ys : List Rn) (hl : xs.length = ys.length) : sameTo xs ys xs.length 0 = decide (xs = ys) := by
  rw [Bool.eq_iff_iff, sameTo_eq xs ys hl _ 0 (by omega), decide_eq_true_eq]
  constructor
  · intro h; exact List.ext_getElem? fun j => h j (Nat.zero_le _)
  · rintro rfl _ _; rfl
theorem three_eq (a x b y c z : Int) : ((a == x) = true ∧ (b == y) = true ∧ (c == z) = true ∧ (⟨a, b, c⟩ : Rn) = ⟨x, y, z⟩) ∨ ((a == x) = false ∧ ¬ (⟨a, b, c⟩ : Rn) = ⟨x, y, z⟩) ∨
    ((a == x) = true ∧ (b == y) = false ∧ ¬ (⟨a, b, c⟩ : Rn) = ⟨x, y, z⟩) ∨ ((a == x) = true ∧ (b == y) = true ∧ (c == z) = false ∧ ¬ (⟨a, b, c⟩ : Rn) = ⟨x, y, z⟩) := by
  by_cases h1 : a = x
  · by_cases h2 : b = y
    · by_cases h3 : c = z
      · left; simp [h1, h2, h3]
      · right; right; right; simp [h1, h2, h3]
    · right; right; left; simp [h1, h2]
  · right; left; simp [h1]
set_option maxHeartbeats 1000000 in
theorem sameRuns_any (u v : Value) (xs ys : List Rn) (w : World) (hu : RunsRd w u xs) (hv : RunsRd w v ys) :
    Calls Tryz.prog 10 #[u, v] w fun e w' => e = .returned (.bool (decide (xs = ys))) ∧ ∃ m, w' = w.drewN m := by
  have HU := Lib.hid hu
  have HV := Lib.hid hv
  obtain ⟨ao, cap, rfl, h1, h2, _, _⟩ := hu.form
  obtain ⟨bo, dap, rfl, h3, h4, _, _⟩ := hv.form
  clear hu hv
  have hla : xs.length ≤ 9223372036854775807 := by omega
  have hlb : ys.length ≤ 9223372036854775807 := by omega
  by_cases hl : xs.length = ys.length
  · have HS := Lib.hid (sameTo_all xs ys hl)
    have hlI : ((xs.length : Int) != (ys.length : Int)) = false := by rw [hl]; simp
    have HL := Lib.hid hl
    clear hl
    go_enter Tryz.func10, Tryz.ntmps10
    go_wp2_with fail
    go_loopw [5] (fun i w1 => ∃ k : Nat, k ≤ xs.length ∧ i = .int .i64 (k : Int) ∧ Hid (sameTo xs ys (xs.length - k) k = decide (xs = ys)) ∧ ∃ m, w1 = w.drewN m) (fun i _ => xs.length - (intOf i).toNat)
    case atStart => exact ⟨0, Nat.zero_le _, rfl, HS, 0, rfl⟩
    case round =>
      obtain ⟨k, hk, rfl, HE, m, rfl⟩ := hrel
      by_cases hlt : k < xs.length
      · obtain ⟨r, hrk⟩ : ∃ r, xs[k]? = some r := ⟨_, List.getElem?_eq_getElem hlt⟩
        have hlt2 : k < ys.length := by rw [← HL.out]; exact hlt
        obtain ⟨q, hqk⟩ : ∃ q, ys[k]? = some q := ⟨_, List.getElem?_eq_getElem hlt2⟩
        obtain ⟨g, off, rfl, d1, d2, d3⟩ := RunsRd.cells HU.out k r hrk
        obtain ⟨g2, off2, rfl, e1, e2, e3⟩ := RunsRd.cells HV.out k q hqk
        have HE2 : Hid ((if r = q then sameTo xs ys (xs.length - (k + 1)) (k + 1) else false) = decide (xs = ys)) := by
          have h := HE.out
          rw [show xs.length - k = (xs.length - (k + 1)) + 1 from by omega] at h
          simp only [sameTo, hrk, hqk, Option.some.injEq] at h
          exact h
        clear HE hrk hqk
        obtain ⟨rk, rs, rc⟩ := r
        obtain ⟨qk, qs, qc⟩ := q
        dsimp only at d1 d2 d3 e1 e2 e3
        rcases three_eq rk qk rs qs rc qc with ⟨h1, h2, h3, he⟩ | ⟨h1, hn⟩ | ⟨h1, h2, hn⟩ | ⟨h1, h2, h3, hn⟩
        · have HE3 : Hid (sameTo xs ys (xs.length - (k + 1)) (k + 1) = decide (xs = ys)) := by
            have h := HE2.out
            rw [if_pos he] at h
            exact h
          clear he HE2
          go_wp2_with fail
          go_quiet (fail)
          go_wp2_with fail
          go_roundw
          case rel => exact ⟨k + 1, by omega, by go_num, HE3, m + nq, rfl⟩
          case measure => simp [intOf]; omega
        all_goals
          have HE3 : Hid (decide (xs = ys) = false) := by
            have h := HE2.out
            rw [if_neg hn] at h
            exact h.symm
          clear hn HE2
          go_wp2_with fail
          go_quiet (fail)
          go_wp2
          go_ret
          exact ⟨by rw [HE3.out]; rfl, m + nq, by simp⟩
      · obtain rfl : k = xs.length := by omega
        have HF : Hid (decide (xs = ys) = true) := by
          have h := HE.out
          rw [Nat.sub_self] at h
          exact h.symm
        go_wp2
        go_ret
        exact ⟨by rw [HF.out]; rfl, m, rfl⟩
  · have hlI : ((xs.length : Int) != (ys.length : Int)) = true := by simp; omega
    have HF : Hid (decide (xs = ys) = false) := Lib.hid (by simp; intro h; exact hl (by rw [h]))
    clear hl
    go_enter Tryz.func10, Tryz.ntmps10
    go_wp2
    go_ret
    exact ⟨by rw [HF.out]; rfl, 0, rfl⟩
end Go.Proofs.YtkidijjhedjifaaGreat
namespace Go.Proofs.YtkidijjhedjifaaGreat
open Go.RowKit
set_option maxRecDepth 100000

/-- the program's ledger at a pointer: with its runs, or nil; F: its blocks -/
def LgP (w : World) (p : Value) (F : Nat → Prop) : Option (List Rn) → Prop
  | none => p = .pointer none ∧ F = fun _ => False
  | some rs => ∃ b v, p = .pointer (some ⟨b, 0, none⟩) ∧ F = lfp b v ∧ LedP w b v rs
/-- room for n more events -/
def Room (o : Option (List Rn)) (n : Int) : Prop := ∀ rs, o = some rs → tot rs + n < 9223372036854775808 ∧ rs.length ≤ 5497558138880
theorem Room.none (n : Int) : Room none n := fun _ h => by cases h
theorem Room.some {rs : List Rn} {n : Int} (h1 : tot rs + n < 9223372036854775808) (h2 : rs.length ≤ 5497558138880) : Room (some rs) n := fun _ h => by cases h; exact ⟨h1, h2⟩
def noteO (o : Option (List Rn)) (k s n : Int) : Option (List Rn) := o.map fun rs => noteL rs k s n
theorem LgP.keep {w w' : World} {p : Value} {F : Nat → Prop} {o : Option (List Rn)} (h : LgP w p F o) {S : Nat → Prop} (ho : Only S w w') (hd : ∀ x, F x → ¬ S x) : LgP w' p F o := by
  cases o with
  | none => exact h
  | some rs =>
    obtain ⟨b, v, hp, rfl, hl⟩ := h
    exact ⟨b, v, hp, rfl, hl.keep ho hd⟩
theorem LgP.lt {w : World} {p : Value} {F : Nat → Prop} {o : Option (List Rn)} (h : LgP w p F o) : ∀ x, F x → x < w.heap.size := by
  cases o with
  | none => obtain ⟨_, rfl⟩ := h; exact fun _ h => h.elim
  | some rs => obtain ⟨b, v, _, rfl, hl⟩ := h; exact hl.lt
theorem LgP.draw {w : World} {p : Value} {F : Nat → Prop} {o : Option (List Rn)} (h : LgP w p F o) (n : Nat) : LgP (w.drewN n) p F o :=
  h.keep ((Only.refl (fun _ => False) w).draw n) (fun _ _ h => h)
theorem LgP.nil (w : World) : LgP w (.pointer none) (fun _ => False) none := ⟨rfl, rfl⟩
/-- what a call leaves of a ledger: o, in the old blocks and new ones; nothing else has turned -/
def LaidP (p : Value) (F : Nat → Prop) (o : Option (List Rn)) (w w' : World) : Prop := ∃ F', LgP w' p F' o ∧ Only F w w' ∧ ∀ x, F' x → F x ∨ w.heap.size ≤ x
theorem LaidP.draw {p : Value} {F : Nat → Prop} {o : Option (List Rn)} {w w' : World} (h : LaidP p F o w w') (n : Nat) : LaidP p F o w (w'.drewN n) := by
  obtain ⟨F', h1, h2, h3⟩ := h
  exact ⟨F', h1.draw n, h2.draw n, h3⟩
theorem LaidP.same {p : Value} {F : Nat → Prop} {o : Option (List Rn)} {w w' : World} (h : LgP w p F o) (n : Nat) (e : w' = w.drewN n) : LaidP p F o w w' := by
  subst e
  exact ⟨F, h.draw n, (Only.refl F w).draw n, fun x hx => .inl hx⟩
theorem gnoteP_any (p : Value) (F : Nat → Prop) (o : Option (List Rn)) (k s : Int) (w : World) (h : LgP w p F o) (hb : Room o 1) :
    Calls Tryz.prog 18 #[p, .agg #[.int .u8 k, .int .i64 s]] w fun e w' => e = .returned (.tuple #[]) ∧ LaidP p F (noteO o k s 1) w w' := by
  cases o with
  | none =>
    obtain ⟨rfl, rfl⟩ := h
    refine (note_nil k s w).mono ?_
    rintro e w' ⟨rfl, hb⟩
    exact ⟨rfl, fun _ => False, ⟨rfl, rfl⟩, Only.of_below hb _, fun _ h => h.elim⟩
  | some rs =>
    obtain ⟨b, v, rfl, rfl, hl⟩ := h
    obtain ⟨b1, b2⟩ := hb rs rfl
    refine (note_any b v rs k s w hl b1 b2).mono ?_
    rintro e w' ⟨rfl, v', h1, h2, h3⟩
    refine ⟨rfl, lfp b v', ⟨b, v', rfl, rfl, h1⟩, h2, fun x hx => ?_⟩
    rcases hx with hx | hx
    · exact .inl (.inl hx)
    · exact (h3 x hx).imp .inr id
theorem LaidP.only {p : Value} {F : Nat → Prop} {o' : Option (List Rn)} {w w' : World} (hl : LaidP p F o' w w') : Only F w w' := by
  obtain ⟨_, _, h, _⟩ := hl; exact h
end Go.Proofs.YtkidijjhedjifaaGreat
