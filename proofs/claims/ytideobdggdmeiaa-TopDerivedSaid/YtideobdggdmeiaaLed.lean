/- Ledgers: runs as plain data, what a note makes of them, how a ledger lies in memory. -/
import Derived.Test.YtideobdggdmeiaaRows
import Derived.Test.YtideobdggdmeiaaMem
import Derived.Test.YtideobdggdmeiaaTame
import Derived.Test.YtideobdggdmeiaaRn
import Derived.Test.YtideobdggdmeiaaBase
import Derived.Deep.AppendLies
import Derived.StillTailTactics
namespace Go.Proofs.Ytideobdggdmeiaa
open Go.RowKit

/-! ### in memory -/
/-- the blocks of a slice value -/
def fp (v : Value) : Nat → Prop := fun x => v.ownBlock = some x
/-- a slice value that owns the runs rs, at a row of its own -/
def RunsAt (w : World) (v : Value) (rs : List Rn) : Prop := w.ownsRow 0 107 3 v rs.length (flatR rs)
theorem RunsAt.keep {w w' : World} {v : Value} {rs : List Rn} (h : RunsAt w v rs) {S : Nat → Prop} (ho : Only S w w') (hd : ∀ x, fp v x → ¬ S x) : RunsAt w' v rs := by
  refine ⟨h.1, ?_⟩
  rcases h.2 with h2 | ⟨g, cap, cur, rfl, hb, hg, r⟩
  · exact .inl h2
  · exact .inr ⟨g, cap, cur, rfl, hb, (ho.block g (Array.getElem?_eq_some_iff.1 hg).1 (hd g rfl)).trans hg, r⟩
theorem RunsAt.lt {w : World} {v : Value} {rs : List Rn} (h : RunsAt w v rs) : ∀ x, fp v x → x < w.heap.size := fun x hx => (World.ownsRow.lt h x hx).2
theorem RunsAt.nil (w : World) : RunsAt w (.slice none 0 0) [] := World.ownsRow_nil w 0 _ 3
theorem RunsAt.form {w : World} {v : Value} {rs : List Rn} (h : RunsAt w v rs) (h0 : 0 < rs.length) : ∃ g cap, v = .slice (some ⟨g, 0, none⟩) rs.length cap ∧ g < w.heap.size := by
  obtain ⟨g, cap, hv, _, hlt⟩ := World.ownsRow.form h h0
  exact ⟨g, cap, hv, hlt⟩
theorem RunsAt.nil_of {w : World} {v : Value} (h : RunsAt w v []) : ∃ ao cap, v = .slice ao 0 cap := by
  rcases h.2 with ⟨hv, _⟩ | ⟨g, cap, cur, hv, _⟩
  · exact ⟨none, 0, hv⟩
  · exact ⟨some ⟨g, 0, none⟩, cap, hv⟩
theorem RunsAt.any {w : World} {v : Value} {rs : List Rn} (h : RunsAt w v rs) : ∃ ao cap, v = .slice ao rs.length cap := by
  rcases h.2 with ⟨hv, h0⟩ | ⟨g, cap, cur, hv, _⟩
  · exact ⟨none, 0, by rw [h0]; exact hv⟩
  · exact ⟨some ⟨g, 0, none⟩, cap, hv⟩
theorem RunsAt.cells {w : World} {g cap : Nat} {rs : List Rn} (h : RunsAt w (.slice (some ⟨g, 0, none⟩) rs.length cap) rs) (i : Nat) (r : Rn) (hr : rs[i]? = some r) :
    w.cell? ⟨g, i * 3, none⟩ = some (.int .u8 r.k) ∧ w.cell? ⟨g, i * 3 + 1, none⟩ = some (.int .i64 r.s) ∧ w.cell? ⟨g, i * 3 + 2, none⟩ = some (.int .i64 r.c) := by
  have hi : i < rs.length := (List.getElem?_eq_some_iff.1 hr).1
  obtain ⟨h1, h2, h3⟩ := flatR_at rs i r hr
  refine ⟨?_, ?_, ?_⟩
  · rw [World.ownsRow.cellAt h (i * 3) (by omega), h1]
  · rw [World.ownsRow.cellAt h (i * 3 + 1) (by omega), h2]
  · rw [World.ownsRow.cellAt h (i * 3 + 2) (by omega), h3]

/-- the program's ledger: its block b holds the runs' slice v and the number of events -/
structure LedP (w : World) (b : Nat) (v : Value) (rs : List Rn) : Prop where
  blk : Blk w b 105 #[v, .int .i64 (tot rs)]
  row : RunsAt w v rs
  apart : ¬ fp v b
  posi : Posi rs
/-- the blocks of a ledger -/
def lfp (b : Nat) (v : Value) : Nat → Prop := fun x => x = b ∨ fp v x
theorem LedP.keep {w w' : World} {b : Nat} {v : Value} {rs : List Rn} (h : LedP w b v rs) {S : Nat → Prop} (ho : Only S w w') (hd : ∀ x, lfp b v x → ¬ S x) : LedP w' b v rs :=
  ⟨h.blk.only ho (hd b (.inl rfl)), h.row.keep ho (fun x hx => hd x (.inr hx)), h.apart, h.posi⟩
theorem LedP.lt {w : World} {b : Nat} {v : Value} {rs : List Rn} (h : LedP w b v rs) : ∀ x, lfp b v x → x < w.heap.size := fun x hx => by
  rcases hx with rfl | hx
  · exact h.blk.lt
  · exact h.row.lt x hx
/-- what a note leaves: the new runs, in the old blocks and new ones; nothing else has turned -/
def NotedP (b : Nat) (v : Value) (rs : List Rn) (w : World) (e : Ending) (w' : World) : Prop :=
  e = .returned (.tuple #[]) ∧ ∃ v', LedP w' b v' rs ∧ Only (lfp b v) w w' ∧ ∀ x, fp v' x → fp v x ∨ w.heap.size ≤ x
theorem flatR_set_last (rs : List Rn) (r : Rn) (c : Int) : (flatR (rs ++ [r])).set (rs.length * 3 + 2) (.int .i64 c) = flatR (rs ++ [⟨r.k, r.s, c⟩]) := by
  rw [flatR_append, flatR_append, flatR_one, flatR_one, List.set_append_right _ _ (by rw [flatR_length]; omega)]
  rw [flatR_length, show rs.length * 3 + 2 - rs.length * 3 = 2 from by omega]
  rfl
theorem RunsAt.last {w : World} {g cap : Nat} {rs : List Rn} {r : Rn} (h : RunsAt w (.slice (some ⟨g, 0, none⟩) (rs ++ [r]).length cap) (rs ++ [r])) (c : Int) :
    RunsAt (w.setCell ⟨g, rs.length * 3 + 2, none⟩ (.int .i64 c)) (.slice (some ⟨g, 0, none⟩) (rs ++ [r]).length cap) (rs ++ [⟨r.k, r.s, c⟩]) := by
  have h1 := (World.ownsRow.stored h (rs.length * 3 + 2) (.int .i64 c)).1
  rw [flatR_set_last] at h1
  have e : (rs ++ [(⟨r.k, r.s, c⟩ : Rn)]).length = (rs ++ [r]).length := by simp
  unfold RunsAt
  rw [e]
  exact h1
theorem LedP.draw {w : World} {b : Nat} {v : Value} {rs : List Rn} (h : LedP w b v rs) (n : Nat) : LedP (w.drewN n) b v rs := ⟨h.blk, h.row, h.apart, h.posi⟩
theorem Posi.last {rs : List Rn} {r : Rn} (h : Posi (rs ++ [r])) (n : Int) (hn : 1 ≤ n) : Posi (rs ++ [⟨r.k, r.s, r.c + n⟩]) := by
  have := h.note r.k r.s n hn
  rwa [noteL_same] at this
theorem NotedP.same {w w1 : World} {b g cap : Nat} {rs : List Rn} {r : Rn} {n : Int} (h : LedP w b (.slice (some ⟨g, 0, none⟩) (rs ++ [r]).length cap) (rs ++ [r])) (hn : 1 ≤ n) (ho : Only (fun x => x = b) w w1)
    (hb : Blk w1 b 105 #[.slice (some ⟨g, 0, none⟩) (rs ++ [r]).length cap, .int .i64 (tot (rs ++ [r]) + n)]) :
    NotedP b (.slice (some ⟨g, 0, none⟩) (rs ++ [r]).length cap) (rs ++ [⟨r.k, r.s, r.c + n⟩]) w (.returned (.tuple #[])) (w1.setCell ⟨g, rs.length * 3 + 2, none⟩ (.int .i64 (r.c + n))) := by
  have hne : ¬ g = b := fun e => h.apart (by rw [← e]; rfl)
  have hrow := h.row.keep ho (fun x hx he => h.apart (he ▸ hx))
  refine ⟨rfl, _, ⟨?_, hrow.last _, h.apart, h.posi.last n hn⟩, ?_, fun x hx => .inl hx⟩
  · have e : tot (rs ++ [⟨r.k, r.s, r.c + n⟩]) = tot (rs ++ [r]) + n := by rw [tot_append, tot_append, tot_one, tot_one]; simp; omega
    rw [e]
    exact hb.set_ne (fun e => hne e.symm) _
  · exact (ho.mono (fun x hx => .inl hx)).set (.inl (.inr rfl)) _
theorem NotedP.draw {b : Nat} {v : Value} {rs : List Rn} {w : World} {e : Ending} {w' : World} (h : NotedP b v rs w e w') (n : Nat) : NotedP b v rs w e (w'.drewN n) := by
  obtain ⟨he, v', h1, h2, h3⟩ := h
  exact ⟨he, v', h1.draw n, h2.draw n, h3⟩
/-- behind an append of one run: the slice is stored back -/
theorem NotedP.more {w w1 w2 : World} {b g cap : Nat} {v : Value} {rs : List Rn} {k s n : Int} {N : Nat} (hN : N = rs.length) (h : LedP w b v rs) (hn : 1 ≤ n) (ho : Only (fun x => x = b) w w1)
    (hb : Blk w1 b 105 #[v, .int .i64 (tot rs + n)]) (hown : w2.ownsRow 0 107 3 (.slice (some ⟨g, 0, none⟩) (N + 1) cap) (N + 1) (flatR rs ++ [.int .u8 k, .int .i64 s, .int .i64 n]))
    (hg : w1.grownBy w2 v.ownBlock) (hat : v.ownBlock = some g ∨ w.heap.size ≤ g) :
    NotedP b v (rs ++ [⟨k, s, n⟩]) w (.returned (.tuple #[])) (w2.setCell ⟨b, 0, none⟩ (.slice (some ⟨g, 0, none⟩) (N + 1) cap)) := by
  subst hN
  have hgb : ¬ g = b := by
    rintro rfl
    rcases hat with hat | hat
    · exact h.apart hat
    · have := h.blk.lt; omega
  have hvb : ¬ v.ownBlock = some b := h.apart
  refine ⟨rfl, .slice (some ⟨g, 0, none⟩) (rs.length + 1) cap, ⟨?_, ?_, ?_, ?_⟩, ?_, ?_⟩
  · have hb2 : Blk w2 b 105 #[v, .int .i64 (tot rs + n)] := (hg.block b hb.lt (fun e => hvb e.symm)).trans hb
    have e : tot (rs ++ [⟨k, s, n⟩]) = tot rs + n := by rw [tot_append, tot_one]
    rw [e]
    exact hb2.set 0 _
  · have hx : w2.ownsRow 0 107 3 (.slice (some ⟨g, 0, none⟩) (rs.length + 1) cap) (rs ++ [(⟨k, s, n⟩ : Rn)]).length (flatR (rs ++ [⟨k, s, n⟩])) := by
      rw [flatR_append, flatR_one]
      have e : (rs ++ [(⟨k, s, n⟩ : Rn)]).length = rs.length + 1 := by simp
      rw [e]
      exact hown
    refine RunsAt.keep (w := w2) hx ((Only.refl (fun x => x = b) w2).set (.inl rfl) _) (fun x hx he => ?_)
    have : g = x := by simpa [fp, Value.ownBlock] using hx
    omega
  · intro he
    exact hgb (by simpa [fp, Value.ownBlock] using he)
  · intro x hx
    rcases List.mem_append.1 hx with hx | hx
    · exact h.posi x hx
    · simp at hx; subst hx; exact hn
  · exact ((ho.mono (S' := lfp b v) (fun x hx => .inl hx)).grown hg (fun k hk => .inl (.inr hk))).set (.inl (.inl rfl)) _
  · intro x hx
    have e : g = x := by simpa [fp, Value.ownBlock] using hx
    subst e
    exact hat
end Go.Proofs.Ytideobdggdmeiaa
