/- The bytes of a constant string: a row that bears a mark behind its last cell. -/
import Derived.Test.YtideobdggdmeiaaRows
import Derived.Test.YtideobdggdmeiaaBytes
import Derived.Lib.SlBytesConst
namespace Go.Proofs.Ytideobdggdmeiaa
open Go.RowKit
theorem Bs.marked (w : World) (l : List UInt8) (e : TypeId) (fr : Nat × Nat) (hl : l.length ≤ 9223372036854775807) (g : Nat) (hg : g = w.heap.size) : Bs (w.alloc (.cells (barr l) e fr)) (.slice (some ⟨g, 0, none⟩) l.length l.length) l := by
  subst hg
  refine ⟨some ⟨w.heap.size, 0, none⟩, l.length, rfl, Nat.le_refl _, hl, (fun h => by cases h), fun j hj => ⟨w.heap.size, 0, rfl, ?_⟩⟩
  rw [Nat.zero_add]
  have := heap_alloc_new w (.cells (barr l) e fr)
  unfold World.cell?
  rw [this]
  exact barr_getD l j hj
theorem conv_const (w : World) (C : Array Value) (n g : Nat) (hg : g = w.heap.size) : (convert 22 22 (.slice (some ⟨g, 0, none⟩) n n)).run Try.prog (w.alloc (.cells C 5)) = .ok (.slice (some ⟨g, 0, none⟩) n n) (w.alloc (.cells C 5 (C.size, C.size + 1))) := by
  subst hg
  exact Lib.run_convert_bytes_const (P := Try.prog) w 22 5 C n n Try.underlying22 Try.underlying5
end Go.Proofs.Ytideobdggdmeiaa
