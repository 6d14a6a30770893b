/- The contracts of the document's functions on bytes: compare, Equal, IsZero, Less, Mask. -/
import Derived.Test.YtaphjdfpffhpfaaRows
import Derived.Test.YtaphjdfpffhpfaaCt
namespace Go.Proofs.Ytaphjdfpffhpfaa
open Go.RowKit
set_option maxRecDepth 100000

/-- a list of bytes as a string -/
def bstr (l : List UInt8) : ByteArray := ⟨l.toArray⟩
theorem bstr_eq (xs ys : List UInt8) : ((bstr xs).toList == (bstr ys).toList) = decide (xs = ys) := by
  unfold bstr
  rw [ByteArray.toList_mk, ByteArray.toList_mk, Bool.eq_iff_iff, beq_iff_eq, decide_eq_true_eq]
theorem bs_string {w : World} {v : Value} {l : List UInt8} (h : Bs w v l) (src e dst : TypeId) (hs : Try.prog.underlying src = some (.slice e)) (he : Try.prog.underlying e = some (.int .u8)) (hd : Try.prog.underlying dst = some .string) :
    (convert src dst v).run Try.prog w = .ok (.string (bstr l)) w := by
  obtain ⟨ao, cap, rfl, h1, h2, h3, h4⟩ := h.form
  rcases ao with _ | ⟨b, off, sp⟩
  · have h0 : l = [] := by
      rcases l with _ | ⟨x, l⟩
      · rfl
      · obtain ⟨_, _, hh, _⟩ := h4 0 (by simp)
        cases hh
    subst h0
    exact run_convert_bytes_nil w src e hs he _ _ dst hd
  · by_cases h0 : l.length = 0
    · have hl0 : l = [] := List.length_eq_zero_iff.1 h0
      subst hl0
      rw [run_convert_bytes_string w src dst e _ _ _ hs he hd]
      have hx := run_bytesToString (P := Try.prog) w ⟨b, off, sp⟩ 0 cap [] (by
        have := run_loadCells_list (P := Try.prog) w ⟨b, off, sp⟩ [] (fun j v hj => by simp at hj)
        exact this)
      exact hx
    · obtain ⟨b', off', hh, _⟩ := h4 0 (by omega)
      injection hh with hh
      injection hh with e1 e2 e3
      subst e3
      have hx := run_convert_bytes_arg (P := Try.prog) w src e hs he b off l.length cap (l.map fun x => (x.toNat : Int)) (by simp) (fun i hi => by
        obtain ⟨b2, off2, hh2, hc⟩ := h4 i hi
        injection hh2 with hh2
        injection hh2 with e4 e5 _
        rw [e4, e5, hc]
        rw [List.getD_eq_getElem?_getD, List.getD_eq_getElem?_getD, List.getElem?_map, List.getElem?_eq_getElem hi]
        rfl) dst hd
      rw [hx]
      congr 2
      unfold strOfNums bstr
      congr 2
      rw [List.map_map]
      have e : ((fun n : Int => UInt8.ofNat n.toNat) ∘ fun x : UInt8 => (x.toNat : Int)) = id := by
        funext x
        simp
      rw [e, List.map_id]
theorem rconv {w : World} {v : Value} {l : List UInt8} (h : Bs w v l) (n : Nat) : (convert 35 9 v).run Try.prog (w.drewN n) = .ok (.string (bstr l)) (w.drewN n) :=
  bs_string (w := w.drewN n) (h.grow ⟨rfl, rfl, rfl, Nat.le_refl _, fun _ _ => rfl⟩) _ 5 _ Try.underlying35 Try.underlying5 Try.underlying9
/-- all bytes from k on are 0 -/
theorem zeroL_at (l : List UInt8) (k : Nat) (hk : k < l.length) (hx : ¬ l.getD k 0 = 0) : zeroL l = false := by
  rw [Bool.eq_false_iff]
  intro h
  exact hx ((zeroL_iff l).1 h k hk)
end Go.Proofs.Ytaphjdfpffhpfaa
