/- The worlds that a sort of runs passes through, for a comparison that lays blocks of its own. -/
import Derived.Test.YtfielodchoghlaaRows
import Derived.Test.YtfielodchoghlaaRuns
import Derived.Shelf.SlSortFuncK.SWK
import Derived.Shelf.GgSortFunc.SmallK
import Derived.Sort.AssemblyPlain
namespace Go.Proofs.Ytfielodchoghlaa
open Go.RowKit Go.Lib
set_option maxRecDepth 100000
set_option linter.unusedVariables false
set_option linter.unusedSimpArgs false
instance : Inhabited Rn := ⟨⟨0, 0, 0⟩⟩
def encR (r : Rn) : List Value := [.int .u8 r.k, .int .i64 r.s, .int .i64 r.c]
theorem encR_len (r : Rn) : (encR r).length = 3 := rfl
/-- events rise: by kind, then by size -/
def ltR (x y : Rn) : Bool := if x.k = y.k then decide (x.s < y.s) else decide (x.k < y.k)
theorem swo_ltR : Sort.SWO ltR where
  irrefl := fun x => by simp [ltR]
  trans := fun x y z h1 h2 => by
    unfold ltR at *
    split at h1 <;> split at h2 <;> split <;> simp at * <;> omega
  ntrans := fun x y z h1 h2 => by
    unfold ltR at *
    split at h1 <;> split at h2 <;> split <;> simp at * <;> omega
def putR (w : World) (b : Nat) (d : Array Rn) : World := Sort.putRowK encR 3 w b 0 d
def HoldR (w : World) (b : Nat) (d : Array Rn) : Prop := Sort.HoldsK encR 3 w b 0 d
/-- the world w, its row in block b holding d, what is new behind it as it may be -/
def SQ (w : World) (b : Nat) (d : Array Rn) (w' : World) : Prop := Below w.heap.size (putR w b d) w'
theorem putR_size (w : World) (b : Nat) (d : Array Rn) : (putR w b d).heap.size = w.heap.size := Sort.size_putRowK encR 3 w b 0 d
theorem putR_other (w : World) (b : Nat) (d : Array Rn) {k : Nat} (h : k ≠ b) : (putR w b d).heap[k]? = w.heap[k]? := by
  unfold putR Sort.putRowK Sort.putRow Sort.mapBlock
  simp only [Array.getElem?_modify]
  rw [if_neg (fun e => h e.symm)]
theorem putR_at (w : World) (b : Nat) (d : Array Rn) : (putR w b d).heap[b]? = (w.heap[b]?).map (Sort.onCells (Sort.putCells id 0 (Sort.flatK encR 3 d))) := by
  unfold putR Sort.putRowK Sort.putRow Sort.mapBlock
  simp only [Array.getElem?_modify]
  rw [if_pos trivial]
theorem putR_putR (w : World) (b : Nat) (d d' : Array Rn) (h : d'.size = d.size) : putR (putR w b d) b d' = putR w b d' :=
  Sort.putRow_putRow id w b 0 _ _ (by simp [h])
theorem below_setCells {B b : Nat} (hb : b < B) : ∀ (vs : List Value) (o : Nat) {x w : World}, Below B x w → Below B (x.setCells b o vs) (w.setCells b o vs)
  | [], _, _, _, h => h
  | v :: r, o, x, w, h => by
    refine below_setCells hb r (o + 1) ⟨h.os, h.tape, h.output, ?_, fun k hk => ?_⟩
    · rw [Sort.setCell_eq, Sort.setCell_eq]
      simpa [Sort.mapBlock] using h.size
    · rw [Sort.setCell_eq, Sort.setCell_eq]
      unfold Sort.mapBlock
      simp only [Array.getElem?_modify]
      rw [h.block k hk]
section
variable {w w1 w2 : World} {b : Nat} {d d' : Array Rn}
theorem SQ.size (h : SQ w b d w1) : w.heap.size ≤ w1.heap.size := by
  have := Below.size h
  rw [putR_size] at this
  exact this
theorem SQ.start (h : HoldR w b d) : SQ w b d w := by
  unfold SQ
  rw [show putR w b d = w from Sort.putRowK_self encR 3 w b 0 d h]
  exact ⟨rfl, rfl, rfl, Nat.le_refl _, fun _ _ => rfl⟩
theorem SQ.below (h : SQ w b d w1) (hb : Below w1.heap.size w1 w2) : SQ w b d w2 := Below.trans h (hb.mono h.size)
theorem SQ.setNew (h : SQ w b d w1) {a : Addr} (ha : w.heap.size ≤ a.block) (v : Value) : SQ w b d (w1.setCell a v) := Below.setCell h ha v
theorem SQ.cell (h : SQ w b d w1) {a : Addr} (ha : a.block < w.heap.size) (hne : a.block ≠ b) : w1.cell? a = w.cell? a :=
  (Below.cell h ha).trans (Sort.cell?_putRowK_other encR 3 w b 0 d a hne)
theorem SQ.trans (h1 : SQ w b d w1) (h2 : SQ w1 b d' w2) (hs : d'.size = d.size) : SQ w b d' w2 := by
  have hz := h1.size
  have o1 : w1.os = w.os := (show _ = (putR w b d).os from Below.os h1)
  have o2 : w2.os = w1.os := (show _ = (putR w1 b d').os from Below.os h2)
  have t1 : w1.tape = w.tape := (show _ = (putR w b d).tape from Below.tape h1)
  have t2 : w2.tape = w1.tape := (show _ = (putR w1 b d').tape from Below.tape h2)
  have p1 : w1.output = w.output := (show _ = (putR w b d).output from Below.output h1)
  have p2 : w2.output = w1.output := (show _ = (putR w1 b d').output from Below.output h2)
  refine ⟨o2.trans o1, t2.trans t1, p2.trans p1, ?_, fun k hk => ?_⟩
  · rw [putR_size]
    exact Nat.le_trans hz h2.size
  · rw [Below.block h2 k (by omega)]
    by_cases e : k = b
    · subst e
      rw [putR_at, Below.block h1 k hk, ← putR_at, putR_putR w k d d' hs]
    · rw [putR_other _ _ _ e, Below.block h1 k hk, putR_other _ _ _ e, putR_other _ _ _ e]
theorem SQ.hold (h : SQ w b d' w1) (h0 : HoldR w b d) (hs : d'.size = d.size) (hb : b < w.heap.size) : HoldR w1 b d' := by
  have hp := Sort.holdsK_putRowK encR 3 w b 0 d d' h0 hs
  intro j hj
  obtain ⟨c1, c2⟩ := hp j hj
  exact ⟨(Below.cell h (p := ⟨b, 0 + j, none⟩) hb).trans c1, (Below.frozen h (p := ⟨b, 0 + j, none⟩) hb).trans c2⟩
theorem SQ.swap (h : SQ w b d w1) (hb : b < w.heap.size) {i j : Nat} (hi : i < d.size) (hj : j < d.size) :
    SQ w b (Sort.swp d i j) ((w1.setCells b (0 + i * 3) (encR d[j]!)).setCells b (0 + j * 3) (encR d[i]!)) := by
  unfold SQ putR
  rw [← Sort.putRowK_swp encR 3 encR_len w b 0 d i j hi hj]
  exact below_setCells hb _ _ (below_setCells hb _ _ h)
end
/-- what is asked of the comparison: it tells ltR, whatever lay stays as it was -/
def LessL (g : Nat) (lb : Array Value) (b size : Nat) (w : World) : Prop :=
  ∀ (d : Array Rn) (W : World), SQ w b d W → d.size = size → ∀ i j : Nat, i < size → j < size →
    Calls Try.prog g (#[.int .i64 i, .int .i64 j] ++ lb) W fun e W' => e = .returned (.bool (ltR d[i]! d[j]!)) ∧ Below W.heap.size W W'
/-- a sort's ground: its comparison, its swap, its row -/
structure CS (g : Nat) (lb : Array Value) (sf : Nat) (sb : Array Value) (b : Nat) (d : Array Rn) (w : World) : Prop where
  eg : ∀ args w, (callFunc g args).run Try.prog w = .ok (.enter g args) w
  less : LessL g lb b d.size w
  swap : SwapSwapsK Try.prog sf sb encR 3 b 0 d.size
  hold : HoldR w b d
  blk : b < w.heap.size
  sz : d.size < 4611686018427387904
section
variable {g : Nat} {lb : Array Value} {sf : Nat} {sb : Array Value} {b : Nat} {d d' : Array Rn} {w w1 w2 : World}
theorem CS.on (h : CS g lb sf sb b d w) (hq : SQ w b d' w1) (hs : d'.size = d.size) : CS g lb sf sb b d' w1 :=
  ⟨h.eg, fun d2 W hW hs2 i j hi hj => h.less d2 W (hq.trans hW hs2) (by omega) i j (by omega) (by omega), by rw [hs]; exact h.swap, hq.hold h.hold hs h.blk, Nat.lt_of_lt_of_le h.blk hq.size, by rw [hs]; exact h.sz⟩
theorem CS.start (h : CS g lb sf sb b d w) : SQ w b d w := SQ.start h.hold
/-- the call of the comparison, at whatever world of the sort -/
theorem CS.cmp (h : CS g lb sf sb b d w) (hq : SQ w b d' w1) (hs : d'.size = d.size) {i j : Nat} (hi : i < d.size) (hj : j < d.size) :
    Calls Try.prog g (#[.int .i64 i, .int .i64 j] ++ lb) w1 fun e w2 => e = .returned (.bool (ltR d'[i]! d'[j]!)) ∧ SQ w b d' w2 :=
  (h.less d' w1 hq hs i j hi hj).mono fun e w2 ⟨h1, h2⟩ => ⟨h1, hq.below h2⟩
/-- the swap -/
theorem CS.swp (h : CS g lb sf sb b d w) (hq : SQ w b d' w1) (hs : d'.size = d.size) {i j : Nat} (hi : i < d.size) (hj : j < d.size) :
    ∃ w2, (callFunc sf (#[.int .i64 i, .int .i64 j] ++ sb)).run Try.prog w1 = .ok (.value (.tuple #[])) w2 ∧ SQ w b (Sort.swp d' i j) w2 :=
  ⟨_, h.swap w1 d' (hq.hold h.hold hs h.blk) hs i j hi hj, hq.swap h.blk (by omega) (by omega)⟩
/-- what the sort's functions are handed -/
def boxV (g : Nat) (lb : Array Value) (sf : Nat) (sb : Array Value) : Value := .agg #[.func (.func g) #[] lb, .func (.func sf) #[] sb]
/-- a function's own box of it, at every world behind it -/
structure Bx (g : Nat) (lb : Array Value) (sf : Nat) (sb : Array Value) (B b : Nat) (d : Array Rn) (w0 w : World) : Prop where
  cs : CS g lb sf sb b d w
  lt : B < w.heap.size
  ne : B ≠ b
  c0 : w.cell? ⟨B, 0, none⟩ = some (.func (.func g) #[] lb)
  c1 : w.cell? ⟨B, 1, none⟩ = some (.func (.func sf) #[] sb)
  up : SQ w0 b d w
theorem Bx.new (h : CS g lb sf sb b d w) (t : TypeId) : Bx g lb sf sb w.heap.size b d w (w.alloc (.cells #[.func (.func g) #[] lb, .func (.func sf) #[] sb] t)) := by
  have hq : SQ w b d (w.alloc (.cells #[.func (.func g) #[] lb, .func (.func sf) #[] sb] t)) := h.start.below ((Below.refl _ _).alloc (Nat.le_refl _) _)
  refine ⟨h.on hq rfl, ?_, ?_, ?_, ?_, hq⟩
  · show w.heap.size < (w.heap.push _).size
    simp
  · have := h.blk
    omega
  · simp
  · simp
theorem Bx.cell0 {B : Nat} {w0 : World} (h : Bx g lb sf sb B b d w0 w) (hq : SQ w b d' w1) : w1.cell? ⟨B, 0, none⟩ = some (.func (.func g) #[] lb) := (hq.cell (a := ⟨B, 0, none⟩) h.lt h.ne).trans h.c0
theorem Bx.cell1 {B : Nat} {w0 : World} (h : Bx g lb sf sb B b d w0 w) (hq : SQ w b d' w1) : w1.cell? ⟨B, 1, none⟩ = some (.func (.func sf) #[] sb) := (hq.cell (a := ⟨B, 1, none⟩) h.lt h.ne).trans h.c1
end
end Go.Proofs.Ytfielodchoghlaa
