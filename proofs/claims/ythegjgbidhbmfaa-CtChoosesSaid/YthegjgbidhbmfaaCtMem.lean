/- The contracts of the functions of packages ct and turnkeyref03 that make or write memory: Choose, Wipe, Wiped; and of Pick. Conditions: a list that is made has at most 2^47 bytes. -/
import Derived.Test.YthegjgbidhbmfaaRows
import Derived.Test.YthegjgbidhbmfaaCtRef
namespace Go.Proofs.Ythegjgbidhbmfaa
open Go.RowKit
set_option maxRecDepth 100000

theorem pick_mask (x y : UInt8) (m : Bool) : bits .xor .u8 (bits .and .u8 (bits .xor .u8 (x.toNat : Int) (y.toNat : Int)) (maskI m)) (y.toNat : Int) = ((if m then x else y).toNat : Int) := by
  have q1 := x.toNat_lt
  have q2 := y.toNat_lt
  have q3 : x.toNat ^^^ y.toNat < 256 := Nat.xor_lt_two_pow (n := 8) q1 q2
  rw [u8_xor_nat _ _ q1 q2]
  unfold maskI
  cases m
  · have h : ∀ n : Nat, n < 256 → bits .and .u8 (n : Int) 0 = 0 := by decide +kernel
    rw [if_neg (by simp), h _ q3, show (0 : Int) = ((0 : Nat) : Int) from rfl, u8_xor_nat _ _ (by omega) q2]
    simp
  · have h : ∀ n : Nat, n < 256 → bits .and .u8 (n : Int) 255 = n := by decide +kernel
    rw [if_pos rfl, h _ q3, u8_xor_nat _ _ q3 q2, Nat.xor_assoc, Nat.xor_self, Nat.xor_zero]
    rfl
/-- the first k bytes of l, noughts behind them -/
def fillTo (l : List UInt8) (k : Nat) : List UInt8 := l.take k ++ List.replicate (l.length - k) 0
theorem fillTo_len (l : List UInt8) (k : Nat) (h : k ≤ l.length) : (fillTo l k).length = l.length := by unfold fillTo; simp; omega
theorem fillTo_zero (l : List UInt8) : fillTo l 0 = List.replicate l.length 0 := by simp [fillTo]
theorem fillTo_end (l : List UInt8) : fillTo l l.length = l := by simp [fillTo]
theorem fillTo_succ (l : List UInt8) (k : Nat) (h : k < l.length) : (fillTo l k).set k (l.getD k 0) = fillTo l (k + 1) := by
  unfold fillTo
  rw [List.set_append_right _ _ (by simp; omega), List.length_take, Nat.min_eq_left (by omega), Nat.sub_self, show l.length - k = (l.length - (k + 1)) + 1 from by omega, List.replicate_succ, List.set_cons_zero,
    List.take_add_one, List.getElem?_eq_getElem h, List.append_assoc, List.getD_eq_getElem?_getD, List.getElem?_eq_getElem h]
  rfl
theorem made_zero (n : Nat) : (madeCells #[.int .u8 0] n).toList = (List.replicate n (0 : UInt8)).map B := by
  unfold madeCells
  rw [List.map_replicate]
  apply List.ext_getElem
  · simp
  · intro j h1 h2
    simp [B, Nat.mod_one]
theorem made_bs {w : World} {g n : Nat} (h : w.ownsRow 0 5 1 (.slice (some ⟨g, 0, none⟩) n n) n (madeCells #[.int .u8 0] n).toList) : OB w (.slice (some ⟨g, 0, none⟩) n n) (List.replicate n 0) := by
  unfold OB
  rw [made_zero] at h
  rw [List.length_replicate]
  exact h
theorem mk48 {n : Nat} (h : n ≤ 140737488355328) {b : Nat} (hb : b = 1) : b * n ≤ 281474976710656 := by subst hb; omega
theorem mkmax {n : Nat} (h : n ≤ 140737488355328) : n ≤ maxLen := by unfold maxLen; omega
/-- what Choose tells: the list in new memory -/
def sel (yes : Bool) (xs ys : List UInt8) : List UInt8 := if yes then xs else ys
theorem sel_len (yes : Bool) (xs ys : List UInt8) (h : xs.length = ys.length) : (sel yes xs ys).length = xs.length := by cases yes <;> simp [sel, h]
theorem sel_get (yes : Bool) (xs ys : List UInt8) (k : Nat) : (sel yes xs ys).getD k 0 = if yes then xs.getD k 0 else ys.getD k 0 := by cases yes <;> rfl
/-- behind a note: a list told in new memory, and the error 0 -/
def Chosen (L : World → World → Prop) (l : List UInt8) (w : World) (e : Ending) (w' : World) : Prop :=
  ∃ w1 v, L w w1 ∧ e = .returned (.tuple #[v, .int .i64 0]) ∧ OB w' v l ∧ Below w1.heap.size w1 w' ∧ ∀ x, fpv v x → w1.heap.size ≤ x
theorem u8get (l : List UInt8) (k : Nat) (h : k < l.length) : (l.map B)[k]? = some (.int .u8 ((l.getD k 0).toNat : Int)) := by
  rw [List.getElem?_map, List.getD_eq_getElem?_getD, List.getElem?_eq_getElem h]
  rfl
set_option maxHeartbeats 2000000 in
theorem choose_any (p : Value) (F : Nat → Prop) (o : Option (List Rn)) (yes : Bool) (u v : Value) (xs ys : List UInt8) (w : World) (h : LgP w p F o) (hb : Room o 1) (hu : Bs w u xs) (hv : Bs w v ys)
    (du : xs ≠ [] → ∀ b, u.ownBlock = some b → ¬ F b) (dv : ys ≠ [] → ∀ b, v.ownBlock = some b → ¬ F b) (hl : xs.length = ys.length) (hn : xs.length ≤ 140737488355328) :
    Calls Try.prog 21 #[p, .bool yes, u, v] w (Chosen (LaidP p F (noteO o 7 xs.length 1)) (sel yes xs ys) w) := by
  obtain ⟨i0, hi, hz0, hz1, hz2⟩ := info_parts info8
  have HI := Lib.hid (And.intro hi (And.intro hz0 (And.intro hz1 hz2)))
  clear hi hz0 hz1 hz2
  have H := Lib.hid h
  have HU := Lib.hid hu
  have HV := Lib.hid hv
  obtain ⟨ao, cap, rfl, h1, h2, _, _⟩ := hu.form
  obtain ⟨bo, dap, rfl, h3, h4, _, _⟩ := hv.form
  clear hu hv h
  have hla : xs.length ≤ 9223372036854775807 := by omega
  have hlb : ys.length ≤ 9223372036854775807 := by omega
  have hlI : ((xs.length : Int) != (ys.length : Int)) = false := by rw [hl]; simp
  have HL := Lib.hid hl
  clear hl
  go_enter Try.func21, Try.ntmps21
  go_wp2_with fail
  refine (ctNote_any p F o 7 xs.length _ H.out hb).mono ?_
  rintro e w1 ⟨rfl, h1⟩
  have HN := Lib.hid h1
  have H3 := HU.out.only' h1.only du
  have H4 := HV.out.only' h1.only dv
  clear h1
  have H3h := Lib.hid H3
  have H4h := Lib.hid H4
  clear H3 H4
  go_wp2_with fail
  refine (mask_any yes _).mono ?_
  rintro e w1' ⟨rfl, rfl⟩
  obtain ⟨hi, hz0, hz1, hz2⟩ := HI.out
  go_wp2_with (refine wpList_make_full _ rfl _ _ 22 rfl 0 5 i0 _ 1 Try.underlying22 hi hz0 hz1 .i64 .i64 _ _ xs.length rfl rfl rfl rfl (mk48 hn hz2) (mkmax hn) (Nat.zero_le _) ?_)
  intro w2 hown hgrow
  have HO := Lib.hid (made_bs hown)
  have HG := Lib.hid ((Below.refl w1.heap.size w1).grown hgrow (Nat.le_refl _) (fun k hk => by cases hk))
  clear hown hgrow hi hz0 hz1 hz2
  go_wp2_with fail
  have hsl := sel_len yes xs ys HL.out
  have HO0 : Hid (OB w2 (.slice (some ⟨w1.heap.size, 0, none⟩) xs.length xs.length) (fillTo (sel yes xs ys) 0)) := by
    have := HO.out
    rw [← hsl, ← fillTo_zero, hsl] at this
    exact this
  have HSL := Lib.hid hsl
  clear HO hsl
  go_loopw [30] (fun i w3 => ∃ k : Nat, k ≤ xs.length ∧ i = .int .i64 (k : Int) ∧ OB w3 (.slice (some ⟨w1.heap.size, 0, none⟩) xs.length xs.length) (fillTo (sel yes xs ys) k) ∧ Below w1.heap.size w1 w3) (fun i _ => xs.length - (intOf i).toNat)
  case atStart => exact ⟨0, Nat.zero_le _, rfl, HO0.out, HG.out⟩
  case round =>
    obtain ⟨k, hk, rfl, ho, hf⟩ := hrel
    by_cases hlt : k < xs.length
    · have hlt2 : k < ys.length := by rw [← HL.out]; exact hlt
      have hlen : (fillTo (sel yes xs ys) k).length = xs.length := by rw [fillTo_len _ _ (by rw [HSL.out]; omega), HSL.out]
      have ho' : OB wr (.slice (some ⟨w1.heap.size, 0, none⟩) (fillTo (sel yes xs ys) k).length xs.length) (fillTo (sel yes xs ys) k) := by rw [hlen]; exact ho
      have c1 : wr.cell? ⟨w1.heap.size, k, none⟩ = some (.int .u8 (((fillTo (sel yes xs ys) k).getD k 0).toNat : Int)) := by
        rw [World.ownsRow.cellAt ho' k (by omega)]
        exact u8get _ _ (by omega)
      have f1 := World.ownsRow.frozenAt ho' k
      obtain ⟨ao', cap', hv, _, _, _, dd1⟩ := (H3h.out.grow hf).form
      injection hv with e1 e2 e3
      subst e1
      obtain ⟨bo', dap', hv2, _, _, _, dd2⟩ := (H4h.out.grow hf).form
      injection hv2 with e4 e5 e6
      subst e4
      obtain ⟨g, off, rfl, d1⟩ := dd1 k hlt
      obtain ⟨g2, off2, rfl, d2⟩ := dd2 k hlt2
      have HO' := Lib.hid ho'
      have HF := Lib.hid hf
      have HLEN := Lib.hid hlen
      have HM := Lib.hid (pick_mask (xs.getD k 0) (ys.getD k 0) yes)
      have HGT := Lib.hid (sel_get yes xs ys k)
      generalize ((fillTo (sel yes xs ys) k).getD k 0) = z at c1
      generalize xs.getD k 0 = x at d1 HM HGT
      generalize ys.getD k 0 = y at d2 HM HGT
      clear ho ho' hf hlen e2 e3 e5 e6 dd1 dd2
      generalize maskI yes = m at *
      go_wp2_with fail
      rw [HM.out]
      go_roundw
      case rel =>
        refine ⟨k + 1, by omega, by go_num, ?_, HF.out.setCell (Nat.le_refl _) _⟩
        have h := HO'.out.set k (if yes then x else y)
        rw [← HGT.out, HLEN.out, fillTo_succ _ _ (by rw [HSL.out]; exact hlt), HGT.out] at h
        exact h
      case measure => simp [intOf]; omega
    · obtain rfl : k = xs.length := by omega
      have HF : Hid (OB wr (.slice (some ⟨w1.heap.size, 0, none⟩) xs.length xs.length) (sel yes xs ys)) := by
        rw [show fillTo (sel yes xs ys) xs.length = sel yes xs ys from by rw [← HSL.out, fillTo_end]] at ho
        exact ho
      have HB := Lib.hid hf
      clear ho hf
      go_wp2
      go_ret2
      exact ⟨w1, _, HN.out, rfl, HF.out, HB.out, fun x hx => by
        have e : w1.heap.size = x := by simpa [fpv, Value.ownBlock] using hx
        omega⟩
/-- two lists of two lengths -/
theorem choose_off (p : Value) (yes : Bool) (u v : Value) (xs ys : List UInt8) (w : World) (hu : Bs w u xs) (hv : Bs w v ys) (hl : ¬ xs.length = ys.length) :
    Calls Try.prog 21 #[p, .bool yes, u, v] w fun e w' => e = .returned (.tuple #[.slice none 0 0, .int .i64 2]) ∧ w = w' := by
  obtain ⟨ao, cap, rfl, h1, h2, _, _⟩ := hu.form
  obtain ⟨bo, dap, rfl, h3, h4, _, _⟩ := hv.form
  have hla : xs.length ≤ 9223372036854775807 := by omega
  have hlb : ys.length ≤ 9223372036854775807 := by omega
  have hlI : ((xs.length : Int) != (ys.length : Int)) = true := by simp; omega
  clear hl
  go_enter Try.func21, Try.ntmps21
  go_wp2
  go_ret2
  exact ⟨rfl, rfl⟩
theorem rchoose_off (p : Value) (yes : Bool) (u v : Value) (xs ys : List UInt8) (w : World) (hu : Bs w u xs) (hv : Bs w v ys) (hl : ¬ xs.length = ys.length) :
    Calls Try.prog 22 #[p, .bool yes, u, v] w fun e w' => e = .returned (.tuple #[.slice none 0 0, .int .i64 2]) ∧ w = w' := by
  obtain ⟨ao, cap, rfl, h1, h2, _, _⟩ := hu.form
  obtain ⟨bo, dap, rfl, h3, h4, _, _⟩ := hv.form
  have hla : xs.length ≤ 9223372036854775807 := by omega
  have hlb : ys.length ≤ 9223372036854775807 := by omega
  have hlI : ((xs.length : Int) != (ys.length : Int)) = true := by simp; omega
  clear hl
  go_enter Try.func22, Try.ntmps22
  go_wp2
  go_ret2
  exact ⟨rfl, rfl⟩
/-- behind an append to nothing -/
theorem chosen_append {L : World → World → Prop} {l : List UInt8} {w w1 w2 : World} {v' : Value} (hL : L w w1) (hown : w2.ownsRow 0 5 1 v' l.length (l.map B)) (hgrow : w1.grownBy w2 none)
    (hat : v'.ownBlock = (Value.slice none 0 0).ownBlock ∨ v'.ownBlock = some w1.heap.size) : Chosen L l w (.returned (.tuple #[v', .int .i64 0])) w2 := by
  refine ⟨w1, v', hL, rfl, ?_, (Below.refl w1.heap.size w1).grown hgrow (Nat.le_refl _) (fun k hk => by cases hk), ?_⟩
  · unfold OB
    simpa using hown
  · intro x hx
    have hx' : v'.ownBlock = some x := hx
    rcases hat with hat | hat
    · rw [hat] at hx'; simp [Value.ownBlock] at hx'
    · rw [hat] at hx'; simp at hx'; omega
set_option maxHeartbeats 1000000 in
theorem rchoose_any (p : Value) (F : Nat → Prop) (o : Option (List Rn)) (yes : Bool) (u v : Value) (xs ys : List UInt8) (w : World) (h : LgR w p F o) (hb : Room o 1) (hu : Bs w u xs) (hv : Bs w v ys)
    (du : xs ≠ [] → ∀ b, u.ownBlock = some b → ¬ F b) (dv : ys ≠ [] → ∀ b, v.ownBlock = some b → ¬ F b) (hl : xs.length = ys.length) (hn : xs.length ≤ 140737488355328) :
    Calls Try.prog 22 #[p, .bool yes, u, v] w (Chosen (LaidR p F (noteO o 7 xs.length 1)) (sel yes xs ys) w) := by
  obtain ⟨i0, hi, hz0, hz1, hz2⟩ := info_parts info8
  have HI := Lib.hid (And.intro hi (And.intro hz0 (And.intro hz1 hz2)))
  clear hi hz0 hz1 hz2
  have H := Lib.hid h
  have HU := Lib.hid hu
  have HV := Lib.hid hv
  obtain ⟨ao, cap, rfl, h1, h2, _, _⟩ := hu.form
  obtain ⟨bo, dap, rfl, h3, h4, _, _⟩ := hv.form
  clear hu hv h
  have hla : xs.length ≤ 9223372036854775807 := by omega
  have hlb : ys.length ≤ 9223372036854775807 := by omega
  have hn2 : ys.length ≤ 140737488355328 := by omega
  have hlI : ((xs.length : Int) != (ys.length : Int)) = false := by rw [hl]; simp
  have HL := Lib.hid hl
  clear hl
  cases yes
  · go_enter Try.func22, Try.ntmps22
    go_wp2_with fail
    refine (gnoteR_any p F o 7 xs.length _ H.out hb).mono ?_
    rintro e w1 ⟨rfl, h1⟩
    have HN := Lib.hid h1
    have hy := Sl.of_bytes (HV.out.only' h1.only dv)
    have hown0 : w1.ownsRow 0 5 1 (.slice none 0 0) 0 [] := World.ownsRow_nil w1 0 _ 1
    clear h1
    obtain ⟨hi, hz0, hz1, hz2⟩ := HI.out
    go_wp2_with (at_builtin; refine wpList_append_sl _ rfl _ _ 22 rfl 5 i0 _ 1 1 Try.underlying22 hi hz0 hz1 hz2 rfl (by decide) (.slice none 0 0) 0 [] rfl hown0 (.slice bo ys.length dap) ys.length (ys.map B) rfl hy (bl0 hn2) (bb0 hn2) ?_)
    intro v' w2 hown hgrow hat
    have HC := Lib.hid (chosen_append HN.out hown hgrow hat)
    clear hown hgrow hat hown0 hy hi hz0 hz1 hz2
    go_wp2
    go_ret2
    exact HC.out
  · go_enter Try.func22, Try.ntmps22
    go_wp2_with fail
    refine (gnoteR_any p F o 7 xs.length _ H.out hb).mono ?_
    rintro e w1 ⟨rfl, h1⟩
    have HN := Lib.hid h1
    have hy := Sl.of_bytes (HU.out.only' h1.only du)
    have hown0 : w1.ownsRow 0 5 1 (.slice none 0 0) 0 [] := World.ownsRow_nil w1 0 _ 1
    clear h1
    obtain ⟨hi, hz0, hz1, hz2⟩ := HI.out
    go_wp2_with (at_builtin; refine wpList_append_sl _ rfl _ _ 22 rfl 5 i0 _ 1 1 Try.underlying22 hi hz0 hz1 hz2 rfl (by decide) (.slice none 0 0) 0 [] rfl hown0 (.slice ao xs.length cap) xs.length (xs.map B) rfl hy (bl0 hn) (bb0 hn) ?_)
    intro v' w2 hown hgrow hat
    have HC := Lib.hid (chosen_append HN.out hown hgrow hat)
    clear hown hgrow hat hown0 hy hi hz0 hz1 hz2
    go_wp2
    go_ret2
    exact HC.out
/-- behind a note: a list told in new memory -/
def Told (L : World → World → Prop) (l : List UInt8) (w : World) (e : Ending) (w' : World) : Prop :=
  ∃ w1 v, L w w1 ∧ e = .returned v ∧ OB w' v l ∧ Below w1.heap.size w1 w' ∧ ∀ x, fpv v x → w1.heap.size ≤ x
set_option maxHeartbeats 1000000 in
theorem wiped_any (p : Value) (F : Nat → Prop) (o : Option (List Rn)) (u : Value) (xs : List UInt8) (w : World) (h : LgR w p F o) (hb : Room o 1) (hu : Bs w u xs)
    (hn : xs.length ≤ 140737488355328) :
    Calls Try.prog 14 #[p, u] w (Told (LaidR p F (noteO o 8 xs.length 1)) (List.replicate xs.length 0) w) := by
  obtain ⟨i0, hi, hz0, hz1, hz2⟩ := info_parts info8
  have HI := Lib.hid (And.intro hi (And.intro hz0 (And.intro hz1 hz2)))
  clear hi hz0 hz1 hz2
  have H := Lib.hid h
  obtain ⟨ao, cap, rfl, h1, h2, _, _⟩ := hu.form
  clear hu h
  have hla : xs.length ≤ 9223372036854775807 := by omega
  go_enter Try.func14, Try.ntmps14
  go_wp2_with fail
  refine (gnoteR_any p F o 8 xs.length _ H.out hb).mono ?_
  rintro e w1 ⟨rfl, h1⟩
  have HN := Lib.hid h1
  clear h1
  obtain ⟨hi, hz0, hz1, hz2⟩ := HI.out
  go_wp2_with (refine wpList_make_full _ rfl _ _ 22 rfl 0 5 i0 _ 1 Try.underlying22 hi hz0 hz1 .i64 .i64 _ _ xs.length rfl rfl rfl rfl (mk48 hn hz2) (mkmax hn) (Nat.zero_le _) ?_)
  intro w2 hown hgrow
  have HO := Lib.hid (made_bs hown)
  have HG := Lib.hid ((Below.refl w1.heap.size w1).grown hgrow (Nat.le_refl _) (fun k hk => by cases hk))
  clear hown hgrow hi hz0 hz1 hz2
  go_wp2
  go_ret
  exact ⟨w1, _, HN.out, rfl, HO.out, HG.out, fun x hx => by
    have e : w1.heap.size = x := by simpa [fpv, Value.ownBlock] using hx
    omega⟩
theorem pick_any (i n : Int) (w : World) (hn : 0 < n) (hn' : n ≤ 9223372036854775807) :
    Calls Try.prog 12 #[.int .i64 i, .int .i64 n] w fun e w' => e = .returned (.int .i64 (i % n)) ∧ w = w' := by
  have ht : i.tmod n = if i % n = 0 ∨ 0 ≤ i then i % n else i % n - n := by
    have := Int.emod_nonneg i (show n ≠ 0 by omega)
    rw [Int.tmod_eq_emod]
    have : (n.natAbs : Int) = n := by omega
    by_cases h : 0 ≤ i ∨ n ∣ i
    · rw [if_pos h]
      rcases h with h | h
      · rw [if_pos (.inr h)]; omega
      · rw [if_pos (.inl (Int.emod_eq_zero_of_dvd h))]; omega
    · rw [if_neg h]
      have : ¬ (i % n = 0 ∨ 0 ≤ i) := by
        rintro (h1 | h1)
        · exact h (.inr (Int.dvd_of_emod_eq_zero h1))
        · exact h (.inl h1)
      rw [if_neg this]
      omega
  have h1 := Int.emod_nonneg i (show n ≠ 0 by omega)
  have h2 := Int.emod_lt_of_pos i hn
  by_cases hc : i % n = 0 ∨ 0 ≤ i
  · rw [if_pos hc] at ht
    clear hc
    generalize i % n = r at ht h1 h2 ⊢
    go_enter Try.func12, Try.ntmps12
    go_wp2
    go_ret
    exact ⟨rfl, rfl⟩
  · rw [if_neg hc] at ht
    have h3 : ¬ i % n = 0 := fun e => hc (.inl e)
    clear hc
    generalize i % n = r at ht h1 h2 h3 ⊢
    have e : r - n + n = r := by omega
    go_enter Try.func12, Try.ntmps12
    go_wp2
    go_ret
    exact ⟨rfl, rfl⟩
/-- k bytes from off on are noughts -/
def wipeTo (l : List UInt8) (off k : Nat) : List UInt8 := l.take off ++ List.replicate k 0 ++ l.drop (off + k)
theorem wipeTo_zero (l : List UInt8) (off : Nat) : wipeTo l off 0 = l := by simp [wipeTo]
theorem wipeTo_len (l : List UInt8) (off k : Nat) (h : off + k ≤ l.length) : (wipeTo l off k).length = l.length := by simp [wipeTo]; omega
theorem wipeTo_succ (l : List UInt8) (off k : Nat) (h : off + k < l.length) : (wipeTo l off k).set (off + k) 0 = wipeTo l off (k + 1) := by
  unfold wipeTo
  have hlen : (l.take off ++ List.replicate k (0 : UInt8)).length = off + k := by simp; omega
  rw [List.set_append_right _ _ (by omega), hlen, Nat.sub_self, List.drop_eq_getElem_cons h, List.set_cons_zero, List.append_assoc, List.append_assoc, List.replicate_succ', List.append_assoc]
  rfl
set_option maxHeartbeats 1000000 in
theorem wipe_any (p : Value) (F : Nat → Prop) (o : Option (List Rn)) (g off n cap capL : Nat) (l : List UInt8) (w : World) (h : LgP w p F o) (hb : Room o 1) (hv : OB w (.slice (some ⟨g, 0, none⟩) l.length capL) l)
    (hn : off + n ≤ l.length) (hg : ¬ F g) (hl : l.length ≤ 140737488355328) :
    Calls Try.prog 13 #[p, .slice (some ⟨g, off, none⟩) n cap] w fun e w' => e = .returned (.tuple #[]) ∧
      ∃ w1, OB w1 (.slice (some ⟨g, 0, none⟩) l.length capL) (wipeTo l off n) ∧ Only (fun x => x = g) w w1 ∧ LaidP p F (noteO o 8 n 1) w1 w' := by
  have H := Lib.hid h
  have HV := Lib.hid hv
  clear hv h
  have hnn : n ≤ 140737488355328 := by omega
  go_enter Try.func13, Try.ntmps13
  go_wp2_with fail
  go_loopw [7] (fun i w1 => ∃ k : Nat, k ≤ n ∧ i = .int .i64 (k : Int) ∧ OB w1 (.slice (some ⟨g, 0, none⟩) l.length capL) (wipeTo l off k) ∧ Only (fun x => x = g) w w1) (fun i _ => n - (intOf i).toNat)
  case atStart => exact ⟨0, Nat.zero_le _, rfl, by rw [wipeTo_zero]; exact HV.out, Only.refl _ _⟩
  case round =>
    obtain ⟨k, hk, rfl, ho, hf⟩ := hrel
    by_cases hlt : k < n
    · have hlen := wipeTo_len l off k (by omega)
      have ho' : OB wr (.slice (some ⟨g, 0, none⟩) (wipeTo l off k).length capL) (wipeTo l off k) := by rw [hlen]; exact ho
      have c1 : wr.cell? ⟨g, off + k, none⟩ = some (.int .u8 (((wipeTo l off k).getD (off + k) 0).toNat : Int)) := by
        rw [World.ownsRow.cellAt ho' (off + k) (by omega)]
        exact u8get _ _ (by omega)
      have f1 := World.ownsRow.frozenAt ho' (off + k)
      have HO := Lib.hid ho'
      have HF := Lib.hid hf
      have HLEN := Lib.hid hlen
      generalize ((wipeTo l off k).getD (off + k) 0) = z at c1
      clear ho ho' hf hlen
      go_wp2_with fail
      go_roundw
      case rel =>
        refine ⟨k + 1, by omega, by go_num, ?_, HF.out.set (.inl rfl) _⟩
        have h := HO.out.set (off + k) 0
        rw [HLEN.out, wipeTo_succ l off k (by omega)] at h
        exact h
      case measure => simp [intOf]; omega
    · obtain rfl : k = n := by omega
      have HN := Lib.hid ho
      have HF := Lib.hid hf
      have HX := Lib.hid (H.out.keep hf (fun x hx he => hg (he ▸ hx)))
      clear ho hf
      go_wp2_with fail
      refine (ctNote_any p F o 8 k _ HX.out hb).mono ?_
      rintro e w2 ⟨rfl, h1⟩
      have HL := Lib.hid h1
      clear h1
      go_wp2
      refine bodyPost_end (results_none rfl _ _ _) rfl ?_
      exact ⟨rfl, wr, HN.out, HF.out, HL.out⟩
theorem wipe_none (p : Value) (F : Nat → Prop) (o : Option (List Rn)) (ao : Option Addr) (cap : Nat) (w : World) (h : LgP w p F o) (hb : Room o 1) :
    Calls Try.prog 13 #[p, .slice ao 0 cap] w fun e w' => e = .returned (.tuple #[]) ∧ LaidP p F (noteO o 8 0 1) w w' := by
  have H := Lib.hid h
  clear h
  go_enter Try.func13, Try.ntmps13
  go_wp2_with fail
  go_loop [7] (fun i => i = .int .i64 0) (fun _ => 0)
  case atStart => rfl
  case round =>
    subst hrel
    go_wp2_with fail
    refine (ctNote_any p F o 8 0 _ H.out hb).mono ?_
    rintro e w2 ⟨rfl, h1⟩
    have HL := Lib.hid h1
    clear h1
    go_wp2
    refine bodyPost_end (results_none rfl _ _ _) rfl ?_
    exact ⟨rfl, HL.out⟩
end Go.Proofs.Ythegjgbidhbmfaa
