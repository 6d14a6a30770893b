/- Opening a list of steps. -/
import Derived.Test.YtaphjdfpffhpfaaRows
import Derived.Test.YtaphjdfpffhpfaaOpenS
namespace Go.Proofs.Ytaphjdfpffhpfaa
open Go.RowKit Go.ChangeShapes Go.WideShapes Go.ChangeAt Go.Deep
set_option maxRecDepth 100000
structure Stp where
  d : Int
  k : UInt8
  o : UInt8
  p : List UInt8
def StpAt (W : World) (ao : Option Addr) (i : Nat) (s : Stp) : Prop := ∃ b off c, ao = some ⟨b, off, none⟩ ∧ W.cell? ⟨b, off + i * 4, none⟩ = some (.int .i64 s.d) ∧ W.cell? ⟨b, off + i * 4 + 1, none⟩ = some (.int .u8 (s.k.toNat : Int)) ∧ W.cell? ⟨b, off + i * 4 + 2, none⟩ = some (.int .u8 (s.o.toNat : Int)) ∧ W.cell? ⟨b, off + i * 4 + 3, none⟩ = some c ∧ Bs W c s.p ∧ s.p.length ≤ 140737488351232
def InS (W : World) (v : Value) (ls : List Stp) : Prop := ∃ (ao : Option Addr) (cap : Nat), v = .slice ao ls.length cap ∧ ls.length ≤ cap ∧ cap ≤ 9223372036854775807 ∧ ls.length ≤ 3518437208781 ∧ ∀ i s, ls[i]? = some s → StpAt W ao i s
theorem bytesStep : Try.prog.bytesOf 41 = 40 := by kernel_rfl
theorem u8_nat {a : Int} (h : (Lit.int .u8 a).wf = true) : ∃ n : UInt8, a = (n.toNat : Int) := by
  have := bounds_u8 h
  exact ⟨UInt8.ofNat a.toNat, by rw [u8_of _ (by omega)]; omega⟩
theorem openSteps {H : Type} {enc : TypeId × Value → H} {W : World} {base : Nat} {v : Value} {d : DataW H} {p : List MemPlace} {ts : List TypeId} {ds : List (DataW H)}
    (hsz : (DataW.weightsEach Try.prog ts ds).all (· ≤ reachBytes) = true) (j : Nat) (hj : ts[j]? = some 22) (hd : ds[j]? = some d)
    (hval : Value.okWide Try.prog W .any base 22 v) (h : DataW.Trod enc Try.prog W 0 (fun _ => true) true 22 v d p) : ∃ ls, InS W v ls := by
  obtain ⟨n, ao, cap, C, D, rfl, h1, h2, h3, h4⟩ := open_structs Try.underlying22 Try.underlying41 (by kernel_rfl) (by kernel_rfl) (by decide) hval h
  have hn : n ≤ 3518437208781 := by
    rcases h4 with rfl | ⟨el, sp, rfl, hl, _⟩
    · omega
    · have := sized_slice hsz hj hd Try.underlying22
      rw [bytesStep, hl] at this
      simp only [reachBytes] at this
      omega
  have key : ∀ i, i < n → ∃ s, StpAt W ao i s := by
    intro i hi
    obtain ⟨hc, m, xs, hD, hf⟩ := h3 i hi
    obtain ⟨c0, y0, e0, x0, t0⟩ := hf 0 _ rfl
    obtain ⟨c1, y1, e1, x1, t1⟩ := hf 1 _ rfl
    obtain ⟨c2, y2, e2, x2, t2⟩ := hf 2 _ rfl
    obtain ⟨c3, y3, e3, x3, t3⟩ := hf 3 _ rfl
    obtain ⟨a0, rfl, _⟩ := int_cell Try.underlying3 t0
    obtain ⟨a1, rfl, w1⟩ := int_cell Try.underlying5 t1
    obtain ⟨a2, rfl, w2⟩ := int_cell Try.underlying5 t2
    obtain ⟨l, hb, hl⟩ := bytes_cell2 Try.underlying35 Try.underlying5 cellsU8 t3
    obtain ⟨k, rfl⟩ := u8_nat w1
    obtain ⟨o, rfl⟩ := u8_nat w2
    obtain ⟨b, off, hao, g0⟩ := hc 0 _ e0
    obtain ⟨b1, off1, hao1, g1⟩ := hc 1 _ e1
    obtain ⟨b2, off2, hao2, g2⟩ := hc 2 _ e2
    obtain ⟨b3, off3, hao3, g3⟩ := hc 3 _ e3
    rw [hao] at hao1 hao2 hao3
    injection hao1 with hao1
    injection hao1 with q1 q2 _
    subst q1; subst q2
    injection hao2 with hao2
    injection hao2 with q1 q2 _
    subst q1; subst q2
    injection hao3 with hao3
    injection hao3 with q1 q2 _
    subst q1; subst q2
    refine ⟨⟨a0, k, o, l⟩, b, off, c3, hao, g0, g1, g2, g3, hb, ?_⟩
    rcases hl with rfl | ⟨es, sp, hy, hel⟩
    · simp
    · rcases h4 with rfl | ⟨el, sp2, rfl, hl2, hel2⟩
      · omega
      · have hw1 : (es.length + sp.length) * Try.prog.bytesOf 5 ∈ (DataW.slice es sp).weights Try.prog 35 := by simp [DataW.weights, Try.underlying35]
        have hw2 : (es.length + sp.length) * Try.prog.bytesOf 5 ∈ (D i).weights Try.prog 41 := by
          rw [hD]
          refine weights_part (i := 3) Try.underlying41 rfl (d := y3.1) ?_ _ (by rw [hy]; exact hw1)
          rw [List.getElem?_map, x3]
          rfl
        have hw3 := weights_elem (sp := sp2) Try.underlying22 (hel2 i hi) _ hw2
        have := List.all_eq_true.1 hsz _ (DataW.weights_mem_each hj hd _ hw3)
        rw [bytes8, decide_eq_true_eq] at this
        simp only [reachBytes] at this
        show l.length ≤ _
        omega
  obtain ⟨S, hS⟩ : ∃ S : Nat → Stp, ∀ i, i < n → StpAt W ao i (S i) :=
    ⟨fun i => if hh : i < n then Classical.choose (key i hh) else ⟨0, 0, 0, []⟩, fun i hh => by
      simp only [hh, dif_pos]
      exact Classical.choose_spec (key i hh)⟩
  refine ⟨(List.range n).map S, ao, cap, by simp, by simpa using h1, h2, by simpa using hn, fun i s hs => ?_⟩
  have hi : i < n := by
    have := (List.getElem?_eq_some_iff.1 hs).1
    simpa using this
  rw [List.getElem?_map, List.getElem?_range hi] at hs
  simp at hs
  subst hs
  exact hS i hi
end Go.Proofs.Ytaphjdfpffhpfaa
