/- The contracts of package ct: note, unlike, Equal, Less, IsZero, Mask. Conditions: none on the lists; the ledger has room for one more event. -/
import Derived.Test.YtaphjdfpffhpfaaRows
import Derived.Test.YtaphjdfpffhpfaaLg
import Derived.Laws.BytesArg
namespace Go.Proofs.Ytaphjdfpffhpfaa
open Go.RowKit
set_option maxRecDepth 100000

/-! ### plain -/
/-- less, both as numbers: lists of one length -/
def ltL : List UInt8 → List UInt8 → Bool
  | x :: xs, y :: ys => if x = y then ltL xs ys else decide (x.toNat < y.toNat)
  | _, _ => false
theorem ltL_drop (xs ys : List UInt8) (k : Nat) (h1 : k < xs.length) (h2 : k < ys.length) :
    ltL (xs.drop k) (ys.drop k) = if xs.getD k 0 = ys.getD k 0 then ltL (xs.drop (k + 1)) (ys.drop (k + 1)) else decide ((xs.getD k 0).toNat < (ys.getD k 0).toNat) := by
  rw [List.drop_eq_getElem_cons h1, List.drop_eq_getElem_cons h2]
  rw [List.getD_eq_getElem?_getD, List.getD_eq_getElem?_getD, List.getElem?_eq_getElem h1, List.getElem?_eq_getElem h2]
  rfl
def b2i (b : Bool) : Int := if b then 1 else 0
theorem borrow_step (x y : UInt8) (b : Bool) : ((x.toNat : Int) - y.toNat - b2i b) / 256 % 2 = b2i (if x = y then b else decide (x.toNat < y.toNat)) := by
  have h1 := x.toNat_lt
  have h2 := y.toNat_lt
  by_cases h : x = y
  · subst h
    rw [if_pos rfl]
    cases b <;> simp [b2i]
  · have hn : ¬ x.toNat = y.toNat := fun e => h (UInt8.toNat_inj.1 e)
    rw [if_neg h]
    by_cases hlt : x.toNat < y.toNat
    · cases b <;> simp [b2i, hlt] <;> omega
    · cases b <;> simp [b2i, hlt] <;> omega
theorem borrow_bit (x y : UInt8) (b : Bool) : bits .and .i64 (((x.toNat : Int) - y.toNat - b2i b) / 256) 1 = b2i (if x = y then b else decide (x.toNat < y.toNat)) := by
  rw [← borrow_step]
  have h1 := x.toNat_lt
  have h2 := y.toNat_lt
  have h3 : 0 ≤ b2i b ∧ b2i b ≤ 1 := by cases b <;> simp [b2i]
  have h4 : ((x.toNat : Int) - y.toNat - b2i b) / 256 = 0 ∨ ((x.toNat : Int) - y.toNat - b2i b) / 256 = -1 := by omega
  rcases h4 with h | h
  · rw [h]; decide +kernel
  · rw [h]; decide +kernel
/-- all bytes are 0 -/
def zeroL (l : List UInt8) : Bool := l.all (· == 0)
def orTo (l : List UInt8) : Nat → Nat
  | 0 => 0
  | k + 1 => orTo l k ||| (l.getD k 0).toNat
def xorTo (xs ys : List UInt8) : Nat → Nat
  | 0 => 0
  | k + 1 => xorTo xs ys k ||| ((xs.getD k 0).toNat ^^^ (ys.getD k 0).toNat)
theorem or_zero_iff (a b : Nat) : a ||| b = 0 ↔ a = 0 ∧ b = 0 := by
  constructor
  · intro h
    constructor
    · exact Nat.eq_of_testBit_eq fun i => by have := congrArg (fun n => n.testBit i) h; simp [Nat.testBit_or] at this; simp [this.1]
    · exact Nat.eq_of_testBit_eq fun i => by have := congrArg (fun n => n.testBit i) h; simp [Nat.testBit_or] at this; simp [this.2]
  · rintro ⟨rfl, rfl⟩; rfl
theorem xor_zero_iff (a b : Nat) : a ^^^ b = 0 ↔ a = b := by
  constructor
  · intro h
    exact Nat.eq_of_testBit_eq fun i => by have := congrArg (fun n => n.testBit i) h; simpa [Nat.testBit_xor] using this
  · rintro rfl; exact Nat.xor_self a
theorem orTo_lt (l : List UInt8) : ∀ k, orTo l k < 256
  | 0 => by simp [orTo]
  | k + 1 => Nat.or_lt_two_pow (n := 8) (orTo_lt l k) (l.getD k 0).toNat_lt
theorem xorTo_lt (xs ys : List UInt8) : ∀ k, xorTo xs ys k < 256
  | 0 => by simp [xorTo]
  | k + 1 => Nat.or_lt_two_pow (n := 8) (xorTo_lt xs ys k) (Nat.xor_lt_two_pow (n := 8) (xs.getD k 0).toNat_lt (ys.getD k 0).toNat_lt)
theorem orTo_iff (l : List UInt8) : ∀ k, orTo l k = 0 ↔ ∀ j, j < k → l.getD j 0 = 0
  | 0 => by simp [orTo]
  | k + 1 => by
    rw [orTo, or_zero_iff, orTo_iff l k]
    have e : (l.getD k 0).toNat = 0 ↔ l.getD k 0 = 0 := ⟨fun h => UInt8.toNat_inj.1 h, fun h => by rw [h]; rfl⟩
    rw [e]
    constructor
    · rintro ⟨h1, h2⟩ j hj
      by_cases ejk : j = k
      · subst ejk; exact h2
      · exact h1 j (by omega)
    · intro h
      exact ⟨fun j hj => h j (by omega), h k (by omega)⟩
theorem xorTo_iff (xs ys : List UInt8) : ∀ k, xorTo xs ys k = 0 ↔ ∀ j, j < k → xs.getD j 0 = ys.getD j 0
  | 0 => by simp [xorTo]
  | k + 1 => by
    rw [xorTo, or_zero_iff, xorTo_iff xs ys k, xor_zero_iff, UInt8.toNat_inj]
    constructor
    · rintro ⟨h1, h2⟩ j hj
      by_cases ejk : j = k
      · subst ejk; exact h2
      · exact h1 j (by omega)
    · intro h
      exact ⟨fun j hj => h j (by omega), h k (by omega)⟩
theorem getD_ext (xs ys : List UInt8) (hl : xs.length = ys.length) (h : ∀ j, j < xs.length → xs.getD j 0 = ys.getD j 0) : xs = ys := by
  apply List.ext_getElem hl
  intro j h1 h2
  have := h j h1
  rwa [List.getD_eq_getElem?_getD, List.getD_eq_getElem?_getD, List.getElem?_eq_getElem h1, List.getElem?_eq_getElem h2] at this
theorem xorTo_all (xs ys : List UInt8) (hl : xs.length = ys.length) : ((xorTo xs ys xs.length : Int) == 0) = decide (xs = ys) := by
  rw [Bool.eq_iff_iff, decide_eq_true_eq, beq_iff_eq]
  have h := xorTo_iff xs ys xs.length
  constructor
  · intro e; exact getD_ext xs ys hl (h.1 (by omega))
  · rintro rfl; have := h.2 (fun _ _ => rfl); omega
theorem zeroL_iff (l : List UInt8) : zeroL l = true ↔ ∀ j, j < l.length → l.getD j 0 = 0 := by
  unfold zeroL
  rw [List.all_eq_true]
  constructor
  · intro h j hj
    rw [List.getD_eq_getElem?_getD, List.getElem?_eq_getElem hj]
    have := h _ (List.getElem_mem hj)
    simpa using this
  · intro h x hx
    obtain ⟨j, hj, rfl⟩ := List.getElem_of_mem hx
    have := h j hj
    rw [List.getD_eq_getElem?_getD, List.getElem?_eq_getElem hj] at this
    simpa using this
theorem orTo_all (l : List UInt8) : ((orTo l l.length : Int) == 0) = zeroL l := by
  rw [Bool.eq_iff_iff, beq_iff_eq, zeroL_iff, ← orTo_iff]
  omega

/-- what keeps a slice that is read; an empty one is kept by itself -/
theorem Bs.only' {S : Nat → Prop} {w w' : World} {v : Value} {l : List UInt8} (h : Bs w v l) (ho : Only S w w') (hv : l ≠ [] → ∀ b, v.ownBlock = some b → ¬ S b) : Bs w' v l := by
  by_cases h0 : l = []
  · obtain ⟨ao, cap, rfl, h1, h2, h3, h4⟩ := h.form
    exact ⟨ao, cap, rfl, h1, h2, h3, fun j hj => by rw [h0] at hj; simp at hj⟩
  · exact h.only ho (hv h0)

/-! ### the walks -/
set_option maxHeartbeats 400000 in
theorem ctNote_any (p : Value) (F : Nat → Prop) (o : Option (List Rn)) (k s : Int) (w : World) (h : LgP w p F o) (hb : Room o 1) :
    Calls Try.prog 39 #[p, .int .u8 k, .int .i64 s] w fun e w' => e = .returned (.tuple #[]) ∧ LaidP p F (noteO o k s 1) w w' := by
  have H := Lib.hid h
  clear h
  go_enter Try.func39, Try.ntmps39
  go_wp2_with fail
  refine (gnoteP_any p F o k s _ H.out hb).mono ?_
  rintro e w1 ⟨rfl, h1⟩
  go_wp2
  refine bodyPost_end (results_none rfl _ _ _) rfl ?_
  exact ⟨rfl, h1⟩
def maskI (b : Bool) : Int := if b then 255 else 0
set_option maxHeartbeats 1000000 in
theorem unlike_any (u v : Value) (xs ys : List UInt8) (w : World) (hu : Bs w u xs) (hv : Bs w v ys) (hl : xs.length = ys.length) :
    Calls Try.prog 41 #[u, v] w fun e w' => e = .returned (.int .u8 (xorTo xs ys xs.length : Nat)) ∧ ∃ m, w' = w.drewN m := by
  have HL := Lib.hid hl
  obtain ⟨ao, cap, rfl, h1, h2, _, c1⟩ := hu.form
  obtain ⟨bo, dap, rfl, h3, h4, _, c2⟩ := hv.form
  clear hu hv hl
  have C1 := Lib.hid c1
  have C2 := Lib.hid c2
  clear c1 c2
  have hla : xs.length ≤ 9223372036854775807 := by omega
  have hlb : ys.length ≤ 9223372036854775807 := by omega
  go_enter Try.func41, Try.ntmps41
  go_wp2_with fail
  go_loopw [5, 9] (fun d i w1 => ∃ k : Nat, k ≤ xs.length ∧ i = .int .i64 (k : Int) ∧ d = .int .u8 (xorTo xs ys k : Nat) ∧ ∃ m, w1 = w.drewN m) (fun _ i _ => xs.length - (intOf i).toNat)
  case atStart => exact ⟨0, Nat.zero_le _, rfl, rfl, 0, rfl⟩
  case round =>
    obtain ⟨k, hk, rfl, rfl, m, rfl⟩ := hrel
    by_cases hlt : k < xs.length
    · have hlt2 : k < ys.length := by rw [← HL.out]; exact hlt
      obtain ⟨g, off, rfl, d1⟩ := C1.out k hlt
      obtain ⟨g2, off2, rfl, e1⟩ := C2.out k hlt2
      have q1 := xorTo_lt xs ys k
      have HE : Hid (xorTo xs ys (k + 1) = xorTo xs ys k ||| ((xs.getD k 0).toNat ^^^ (ys.getD k 0).toNat)) := rfl
      have q2 := (xs.getD k 0).toNat_lt
      have q3 := (ys.getD k 0).toNat_lt
      generalize xs.getD k 0 = x at d1 HE q2
      generalize ys.getD k 0 = y at e1 HE q3
      have q4 : x.toNat ^^^ y.toNat < 256 := Nat.xor_lt_two_pow (n := 8) q2 q3
      have HB : Hid (bits .or .u8 (xorTo xs ys k : Int) (bits .xor .u8 (x.toNat : Int) (y.toNat : Int)) = (xorTo xs ys (k + 1) : Nat)) := Lib.hid (by
        rw [u8_xor_nat _ _ q2 q3, u8_or_nat _ _ q1 q4, HE.out])
      generalize xorTo xs ys k = z at HB q1
      clear HE q4
      go_wp2_with fail
      go_quiet (fail)
      go_wp2_with fail
      go_roundw
      case rel => exact ⟨k + 1, by omega, by go_num, by rw [HB.out], m + nq, by simp⟩
      case measure => simp [intOf]; omega
    · obtain rfl : k = xs.length := by omega
      go_wp2
      go_ret
      exact ⟨rfl, m, rfl⟩
set_option maxHeartbeats 400000 in
theorem equal_any (p : Value) (F : Nat → Prop) (o : Option (List Rn)) (u v : Value) (xs ys : List UInt8) (w : World) (h : LgP w p F o) (hb : Room o 1) (hu : Bs w u xs) (hv : Bs w v ys)
    (du : xs ≠ [] → ∀ b, u.ownBlock = some b → ¬ F b) (dv : ys ≠ [] → ∀ b, v.ownBlock = some b → ¬ F b) :
    Calls Try.prog 38 #[p, u, v] w fun e w' => e = .returned (.bool (decide (xs = ys))) ∧ LaidP p F (if xs.length = ys.length then noteO o 6 xs.length 1 else o) w w' := by
  have H := Lib.hid h
  have HU := Lib.hid hu
  have HV := Lib.hid hv
  obtain ⟨ao, cap, rfl, h1, h2, _, _⟩ := hu.form
  obtain ⟨bo, dap, rfl, h3, h4, _, _⟩ := hv.form
  clear hu hv h
  have hla : xs.length ≤ 9223372036854775807 := by omega
  have hlb : ys.length ≤ 9223372036854775807 := by omega
  by_cases hl : xs.length = ys.length
  · have hlI : ((xs.length : Int) != (ys.length : Int)) = false := by rw [hl]; simp
    have HL := Lib.hid hl
    rw [if_pos hl]
    clear hl
    go_enter Try.func38, Try.ntmps38
    go_wp2_with fail
    refine (ctNote_any p F o 6 xs.length _ H.out hb).mono ?_
    rintro e w1 ⟨rfl, h1⟩
    have HN := Lib.hid h1
    have H3 := Lib.hid (HU.out.only' h1.only du)
    have H4 := Lib.hid (HV.out.only' h1.only dv)
    clear h1
    go_wp2_with fail
    refine (unlike_any _ _ xs ys _ H3.out H4.out HL.out).mono ?_
    rintro e w2 ⟨rfl, m, rfl⟩
    have hx := xorTo_all xs ys HL.out
    go_wp2
    go_ret
    exact ⟨rfl, HN.out.draw m⟩
  · have hlI : ((xs.length : Int) != (ys.length : Int)) = true := by simp; omega
    have HF : Hid (decide (xs = ys) = false) := Lib.hid (by simp; intro h; exact hl (by rw [h]))
    rw [if_neg hl]
    clear hl
    go_enter Try.func38, Try.ntmps38
    go_wp2
    go_ret
    exact ⟨by rw [HF.out]; rfl, LaidP.same H.out 0 rfl⟩
theorem b2i_01 (b : Bool) : 0 ≤ b2i b ∧ b2i b ≤ 1 := by cases b <;> simp [b2i]
theorem b2i_one (b : Bool) : (b2i b == 1) = b := by cases b <;> rfl
end Go.Proofs.Ytaphjdfpffhpfaa
