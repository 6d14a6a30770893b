/- The contracts of the functions of packages ct and turnkeyref03 that make or write memory: Choose, Wipe, Wiped; and of Pick. Conditions: a list that is made has at most 2^47 bytes. -/
import Derived.Test.YtaphjdfpffhpfaaRows
import Derived.Test.YtaphjdfpffhpfaaCtRef
import Derived.Test.YtaphjdfpffhpfaaBytes
namespace Go.Proofs.Ytaphjdfpffhpfaa
open Go.RowKit
set_option maxRecDepth 100000

theorem pick_mask (x y : UInt8) (m : Bool) : bits .xor .u8 (bits .and .u8 (bits .xor .u8 (x.toNat : Int) (y.toNat : Int)) (maskI m)) (y.toNat : Int) = ((if m then x else y).toNat : Int) := by
  have q1 := x.toNat_lt
  have q2 := y.toNat_lt
  have q3 : x.toNat ^^^ y.toNat < 256 := Nat.xor_lt_two_pow (n := 8) q1 q2
  rw [u8_xor_nat _ _ q1 q2]
  unfold maskI
  cases m
  · have h : ∀ n : Nat, n < 256 → bits .and .u8 (n : Int) 0 = 0 := by decide +kernel
    rw [if_neg (by simp), h _ q3, show (0 : Int) = ((0 : Nat) : Int) from rfl, u8_xor_nat _ _ (by omega) q2]
    simp
  · have h : ∀ n : Nat, n < 256 → bits .and .u8 (n : Int) 255 = n := by decide +kernel
    rw [if_pos rfl, h _ q3, u8_xor_nat _ _ q3 q2, Nat.xor_assoc, Nat.xor_self, Nat.xor_zero]
    rfl
/-- the first k bytes of l, noughts behind them -/
def fillTo (l : List UInt8) (k : Nat) : List UInt8 := l.take k ++ List.replicate (l.length - k) 0
theorem fillTo_len (l : List UInt8) (k : Nat) (h : k ≤ l.length) : (fillTo l k).length = l.length := by unfold fillTo; simp; omega
theorem fillTo_zero (l : List UInt8) : fillTo l 0 = List.replicate l.length 0 := by simp [fillTo]
theorem fillTo_end (l : List UInt8) : fillTo l l.length = l := by simp [fillTo]
theorem fillTo_succ (l : List UInt8) (k : Nat) (h : k < l.length) : (fillTo l k).set k (l.getD k 0) = fillTo l (k + 1) := by
  unfold fillTo
  rw [List.set_append_right _ _ (by simp; omega), List.length_take, Nat.min_eq_left (by omega), Nat.sub_self, show l.length - k = (l.length - (k + 1)) + 1 from by omega, List.replicate_succ, List.set_cons_zero,
    List.take_add_one, List.getElem?_eq_getElem h, List.append_assoc, List.getD_eq_getElem?_getD, List.getElem?_eq_getElem h]
  rfl
theorem made_zero (n : Nat) : (madeCells #[.int .u8 0] n).toList = (List.replicate n (0 : UInt8)).map B := by
  unfold madeCells
  rw [List.map_replicate]
  apply List.ext_getElem
  · simp
  · intro j h1 h2
    simp [B, Nat.mod_one]
theorem made_bs {w : World} {g n : Nat} (h : w.ownsRow 0 5 1 (.slice (some ⟨g, 0, none⟩) n n) n (madeCells #[.int .u8 0] n).toList) : OB w (.slice (some ⟨g, 0, none⟩) n n) (List.replicate n 0) := by
  unfold OB
  rw [made_zero] at h
  rw [List.length_replicate]
  exact h
theorem mk48 {n : Nat} (h : n ≤ 140737488355328) {b : Nat} (hb : b = 1) : b * n ≤ 281474976710656 := by subst hb; omega
theorem mkmax {n : Nat} (h : n ≤ 140737488355328) : n ≤ maxLen := by unfold maxLen; omega
/-- what Choose tells: the list in new memory -/
def sel (yes : Bool) (xs ys : List UInt8) : List UInt8 := if yes then xs else ys
theorem sel_len (yes : Bool) (xs ys : List UInt8) (h : xs.length = ys.length) : (sel yes xs ys).length = xs.length := by cases yes <;> simp [sel, h]
theorem sel_get (yes : Bool) (xs ys : List UInt8) (k : Nat) : (sel yes xs ys).getD k 0 = if yes then xs.getD k 0 else ys.getD k 0 := by cases yes <;> rfl
/-- behind a note: a list told in new memory, and the error 0 -/
def Chosen (L : World → World → Prop) (l : List UInt8) (w : World) (e : Ending) (w' : World) : Prop :=
  ∃ w1 v, L w w1 ∧ e = .returned (.tuple #[v, .int .i64 0]) ∧ OB w' v l ∧ Below w1.heap.size w1 w' ∧ ∀ x, fpv v x → w1.heap.size ≤ x
theorem u8get (l : List UInt8) (k : Nat) (h : k < l.length) : (l.map B)[k]? = some (.int .u8 ((l.getD k 0).toNat : Int)) := by
  rw [List.getElem?_map, List.getD_eq_getElem?_getD, List.getElem?_eq_getElem h]
  rfl
/-- behind an append to nothing -/
theorem chosen_append {L : World → World → Prop} {l : List UInt8} {w w1 w2 : World} {v' : Value} (hL : L w w1) (hown : w2.ownsRow 0 5 1 v' l.length (l.map B)) (hgrow : w1.grownBy w2 none)
    (hat : v'.ownBlock = (Value.slice none 0 0).ownBlock ∨ v'.ownBlock = some w1.heap.size) : Chosen L l w (.returned (.tuple #[v', .int .i64 0])) w2 := by
  refine ⟨w1, v', hL, rfl, ?_, (Below.refl w1.heap.size w1).grown hgrow (Nat.le_refl _) (fun k hk => by cases hk), ?_⟩
  · unfold OB
    simpa using hown
  · intro x hx
    have hx' : v'.ownBlock = some x := hx
    rcases hat with hat | hat
    · rw [hat] at hx'; simp [Value.ownBlock] at hx'
    · rw [hat] at hx'; simp at hx'; omega
/-- behind a note: a list told in new memory -/
def Told (L : World → World → Prop) (l : List UInt8) (w : World) (e : Ending) (w' : World) : Prop :=
  ∃ w1 v, L w w1 ∧ e = .returned v ∧ OB w' v l ∧ Below w1.heap.size w1 w' ∧ ∀ x, fpv v x → w1.heap.size ≤ x
/-- k bytes from off on are noughts -/
def wipeTo (l : List UInt8) (off k : Nat) : List UInt8 := l.take off ++ List.replicate k 0 ++ l.drop (off + k)
theorem wipeTo_zero (l : List UInt8) (off : Nat) : wipeTo l off 0 = l := by simp [wipeTo]
theorem wipeTo_len (l : List UInt8) (off k : Nat) (h : off + k ≤ l.length) : (wipeTo l off k).length = l.length := by simp [wipeTo]; omega
theorem wipeTo_succ (l : List UInt8) (off k : Nat) (h : off + k < l.length) : (wipeTo l off k).set (off + k) 0 = wipeTo l off (k + 1) := by
  unfold wipeTo
  have hlen : (l.take off ++ List.replicate k (0 : UInt8)).length = off + k := by simp; omega
  rw [List.set_append_right _ _ (by omega), hlen, Nat.sub_self, List.drop_eq_getElem_cons h, List.set_cons_zero, List.append_assoc, List.append_assoc, List.replicate_succ', List.append_assoc]
  rfl
set_option maxHeartbeats 1000000 in
theorem wipeT_any (t : TypeId) (p : Value) (F : Nat → Prop) (o : Option (List Rn)) (g off n cap capL : Nat) (l : List UInt8) (w : World) (h : LgP w p F o) (hb : Room o 1) (hv : OT t w (.slice (some ⟨g, 0, none⟩) l.length capL) l)
    (hn : off + n ≤ l.length) (hg : ¬ F g) (hl : l.length ≤ 140737488355328) :
    Calls Try.prog 36 #[p, .slice (some ⟨g, off, none⟩) n cap] w fun e w' => e = .returned (.tuple #[]) ∧
      ∃ w1, OT t w1 (.slice (some ⟨g, 0, none⟩) l.length capL) (wipeTo l off n) ∧ Only (fun x => x = g) w w1 ∧ LaidP p F (noteO o 8 n 1) w1 w' := by
  have H := Lib.hid h
  have HV := Lib.hid hv
  clear hv h
  have hnn : n ≤ 140737488355328 := by omega
  go_enter Try.func36, Try.ntmps36
  go_wp2_with fail
  go_loopw [7] (fun i w1 => ∃ k : Nat, k ≤ n ∧ i = .int .i64 (k : Int) ∧ OT t w1 (.slice (some ⟨g, 0, none⟩) l.length capL) (wipeTo l off k) ∧ Only (fun x => x = g) w w1) (fun i _ => n - (intOf i).toNat)
  case atStart => exact ⟨0, Nat.zero_le _, rfl, by rw [wipeTo_zero]; exact HV.out, Only.refl _ _⟩
  case round =>
    obtain ⟨k, hk, rfl, ho, hf⟩ := hrel
    by_cases hlt : k < n
    · have hlen := wipeTo_len l off k (by omega)
      have ho' : OT t wr (.slice (some ⟨g, 0, none⟩) (wipeTo l off k).length capL) (wipeTo l off k) := by rw [hlen]; exact ho
      have c1 : wr.cell? ⟨g, off + k, none⟩ = some (.int .u8 (((wipeTo l off k).getD (off + k) 0).toNat : Int)) := by
        rw [World.ownsRow.cellAt ho' (off + k) (by omega)]
        exact u8get _ _ (by omega)
      have f1 := World.ownsRow.frozenAt ho' (off + k)
      have HO := Lib.hid ho'
      have HF := Lib.hid hf
      have HLEN := Lib.hid hlen
      generalize ((wipeTo l off k).getD (off + k) 0) = z at c1
      clear ho ho' hf hlen
      go_wp2_with fail
      go_roundw
      case rel =>
        refine ⟨k + 1, by omega, by go_num, ?_, HF.out.set (.inl rfl) _⟩
        have h := OT.set HO.out (off + k) 0
        rw [HLEN.out, wipeTo_succ l off k (by omega)] at h
        exact h
      case measure => simp [intOf]; omega
    · obtain rfl : k = n := by omega
      have HN := Lib.hid ho
      have HF := Lib.hid hf
      have HX := Lib.hid (H.out.keep hf (fun x hx he => hg (he ▸ hx)))
      clear ho hf
      go_wp2_with fail
      refine (ctNote_any p F o 8 k _ HX.out hb).mono ?_
      rintro e w2 ⟨rfl, h1⟩
      have HL := Lib.hid h1
      clear h1
      go_wp2
      refine bodyPost_end (results_none rfl _ _ _) rfl ?_
      exact ⟨rfl, wr, HN.out, HF.out, HL.out⟩
theorem wipe_any (p : Value) (F : Nat → Prop) (o : Option (List Rn)) (g off n cap capL : Nat) (l : List UInt8) (w : World) (h : LgP w p F o) (hb : Room o 1) (hv : OB w (.slice (some ⟨g, 0, none⟩) l.length capL) l)
    (hn : off + n ≤ l.length) (hg : ¬ F g) (hl : l.length ≤ 140737488355328) :
    Calls Try.prog 36 #[p, .slice (some ⟨g, off, none⟩) n cap] w fun e w' => e = .returned (.tuple #[]) ∧
      ∃ w1, OB w1 (.slice (some ⟨g, 0, none⟩) l.length capL) (wipeTo l off n) ∧ Only (fun x => x = g) w w1 ∧ LaidP p F (noteO o 8 n 1) w1 w' :=
  wipeT_any 5 p F o g off n cap capL l w h hb hv hn hg hl
theorem wipe_none (p : Value) (F : Nat → Prop) (o : Option (List Rn)) (ao : Option Addr) (cap : Nat) (w : World) (h : LgP w p F o) (hb : Room o 1) :
    Calls Try.prog 36 #[p, .slice ao 0 cap] w fun e w' => e = .returned (.tuple #[]) ∧ LaidP p F (noteO o 8 0 1) w w' := by
  have H := Lib.hid h
  clear h
  go_enter Try.func36, Try.ntmps36
  go_wp2_with fail
  go_loop [7] (fun i => i = .int .i64 0) (fun _ => 0)
  case atStart => rfl
  case round =>
    subst hrel
    go_wp2_with fail
    refine (ctNote_any p F o 8 0 _ H.out hb).mono ?_
    rintro e w2 ⟨rfl, h1⟩
    have HL := Lib.hid h1
    clear h1
    go_wp2
    refine bodyPost_end (results_none rfl _ _ _) rfl ?_
    exact ⟨rfl, HL.out⟩
end Go.Proofs.Ytaphjdfpffhpfaa
