/- Opening a list of elements of any kind. No program in sight. -/
import Derived.Test.YtfielodchoghlaaLst
import Derived.Deep.Slices
import Derived.ChangeSame
import Derived.OpenShut
namespace Go.Proofs.Ytfielodchoghlaa
open Go.RowKit Go.ChangeShapes Go.WideShapes Go.Deep
set_option maxRecDepth 100000
theorem open_elems {H : Type} {enc : TypeId × Value → H} {P : Program} {W : World} {base : Nat} {α : Type} (K : Knd α) (Q : α → Prop) {t e : TypeId} {v : Value} {d : DataW H} {p : List MemPlace} (ht : P.underlying t = some (.slice e)) (hC : P.cellsOf e = K.sz)
    (dec : ∀ n cs y, DataW.trod enc P W 0 (fun _ => true) true n e cs = some y → ∃ x, Q x ∧ cs = K.cv x)
    (hval : Value.okWide P W .any base t v) (h : DataW.Trod enc P W 0 (fun _ => true) true t v d p) : ∃ l : List α, K.R W v l ∧ (∀ x ∈ l, Q x) ∧ (l = [] ∨ ∃ es sp, d = .slice es sp ∧ es.length = l.length) := by
  obtain ⟨a0, len0, cap0, rfl⟩ := Go.WideShapes.okWide_slice ht hval
  obtain ⟨fuel, hf⟩ := h
  rcases open_slice ht hf with ⟨hcs, _⟩ | ⟨a, len, cap, m, n, D, Pl, hcs, _, hl, hm, hmm, hx, hi⟩
  · simp only [Value.cells] at hcs
    injection hcs with hcs _
    rw [hcs]
    exact ⟨[], Knd.R.nil W, (fun _ h => by cases h), .inl rfl⟩
  · simp only [Value.cells] at hcs
    injection hcs with hcs _
    rw [hcs]
    simp only [if_true] at hmm
    subst hmm
    rw [hC] at hi
    have key : ∀ k, k ≤ len → ∃ l : List α, l.length = k ∧ (∀ x ∈ l, Q x) ∧ ∀ i x, l[i]? = some x → W.cells? 0 (a.add (i * K.sz)) K.sz = some (K.cv x) := by
      intro k
      induction k with
      | zero => exact fun _ => ⟨[], rfl, (fun _ h => by cases h), fun i x hix => by simp at hix⟩
      | succ k ih =>
        intro hk
        obtain ⟨l, hl1, hl2, hl3⟩ := ih (by omega)
        obtain ⟨cs', h1, h2⟩ := hi k (by omega)
        obtain ⟨x, hq, rfl⟩ := dec _ _ _ h2
        refine ⟨l ++ [x], by simp [hl1], fun y hy => ?_, fun i y hy => ?_⟩
        · rcases List.mem_append.1 hy with hy | hy
          · exact hl2 y hy
          · simp at hy; subst hy; exact hq
        · by_cases hik : i < k
          · rw [List.getElem?_append_left (by omega)] at hy
            exact hl3 i y hy
          · have hik2 : i = k := by
              have := (List.getElem?_eq_some_iff.1 hy).1
              simp [hl1] at this
              omega
            subst hik2
            rw [List.getElem?_append_right (by omega), hl1, Nat.sub_self] at hy
            simp at hy
            subst hy
            exact h1
    obtain ⟨l, hl1, hl2, hl3⟩ := key len (Nat.le_refl _)
    injection hx with hx1 hx2
    refine ⟨l, ⟨K.fl_len l, K.fl_cells l, some a, m, by rw [hl1], by rw [hl1]; exact hl, by simp only [maxLen] at hm; omega, (fun h => by cases h), fun j u hj => ?_⟩, hl2, .inr ⟨_, _, hx1, by simp [hl1]⟩⟩
    have hpos := K.pos
    have hjl : j < l.length * K.sz := by
      have := (List.getElem?_eq_some_iff.1 hj).1
      rwa [K.fl_len] at this
    have hil : j / K.sz < l.length := Nat.div_lt_of_lt_mul (by rw [Nat.mul_comm]; exact hjl)
    have hlx : l[j / K.sz]? = some (l[j / K.sz]) := List.getElem?_eq_getElem hil
    have hc : j % K.sz < K.sz := Nat.mod_lt _ hpos
    have hcells := (World.cells?_some (hl3 _ _ hlx)).2.2 _ hc
    have hfl := K.fl_get l (j / K.sz) (j % K.sz) _ hlx hc
    have hdm : j / K.sz * K.sz + j % K.sz = j := by rw [Nat.mul_comm]; exact Nat.div_add_mod j K.sz
    rw [hdm] at hfl
    rw [hj] at hfl
    rw [← hfl] at hcells
    obtain ⟨b, off, spot⟩ := a
    have hsp : spot = none := by
      cases spot with
      | none => rfl
      | some s =>
        have hl0 : 0 < l.length := Nat.lt_of_le_of_lt (Nat.zero_le _) hil
        have h0 := (World.cells?_some (hl3 0 _ (List.getElem?_eq_getElem hl0))).2.2 0 hpos
        rw [Nat.zero_mul, show ((⟨b, off, some s⟩ : Addr).add 0).add 0 = ⟨b, off, some s⟩ from by simp [Addr.add], List.getElem?_eq_getElem (by rw [K.len]; exact hpos)] at h0
        unfold World.cell? at h0
        split at h0 <;> simp at h0
    subst hsp
    refine ⟨b, off, rfl, ?_⟩
    rw [add_lit, add_lit, Nat.add_assoc, hdm] at hcells
    exact hcells
end Go.Proofs.Ytfielodchoghlaa
