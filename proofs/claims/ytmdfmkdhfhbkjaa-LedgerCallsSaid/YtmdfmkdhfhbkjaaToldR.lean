/- Lists of runs that were told, kept in a list of lists: one thing of a law's world (obTR); another one behind, read one, all of them handed to ApartRuns. No statement's program in sight but the kit's ApartRuns. -/
import Derived.Test.YtmdfmkdhfhbkjaaRows
import Derived.Test.YtmdfmkdhfhbkjaaLL
import Derived.Test.YtmdfmkdhfhbkjaaLenv
import Derived.Test.YtmdfmkdhfhbkjaaRuns
import Derived.Deep.AppendLies
namespace Go.Proofs.Ytmdfmkdhfhbkjaa
open Go.RowKit
set_option maxRecDepth 100000
set_option linter.unusedVariables false
set_option linter.unusedSimpArgs false

def mkMR (p : Value × List Rn) : Mem1 := ⟨p.1, p.2.length, KN.fl p.2⟩
def obTR (u : Value) (ts : List (Value × List Rn)) : Ob := obLL 32 61 3 u (ts.map (·.1)) (ts.map mkMR)
theorem obTR_form {w0 w : World} {obs : List Ob} (h : Env w0 w obs) (i : Nat) {u : Value} {ts : List (Value × List Rn)} (hi : obs[i]? = some (obTR u ts)) : ∃ ao cap, u = .slice ao ts.length cap ∧ ts.length ≤ cap ∧ cap ≤ 9223372036854775807 := by
  have hl := (h.ll i hi).row
  rw [List.length_map] at hl
  rcases hl.2 with ⟨rfl, h0⟩ | ⟨g, cap, cur, rfl, _, hg, hnc, hcm, _, htake⟩
  · exact ⟨none, 0, by rw [h0], by omega, by omega⟩
  · exact ⟨some ⟨g, 0, none⟩, cap, rfl, hnc, hcm⟩
/-- one list more, that was the last thing -/
theorem obTR_more {w0 w w' : World} {obs : List Ob} {v : Value} {l : List Rn} (h : Env w0 w (obs ++ [obRuns v l])) (hb : Below w.heap.size w w') (i : Nat) {u u' : Value} {ts : List (Value × List Rn)} (hi : obs[i]? = some (obTR u ts)) {w2 : World}
    (hown : w2.ownsRow 0 32 1 u' (ts.length + 1) (ts.map (·.1) ++ [v])) (hg : w'.grownBy w2 u.ownBlock) (hat : u'.ownBlock = u.ownBlock ∨ u'.ownBlock = some w'.heap.size) : Env w0 w2 (obs.set i (obTR u' (ts ++ [(v, l)]))) := by
  have h1 : Env w0 w (obs.set i (obLL 32 61 3 u (ts.map (·.1)) (ts.map mkMR ++ [mkMR (v, l)]))) := Env.llIn (e := 61) (sz := 3) (v := v) (n := l.length) (cs := KN.fl l) h i hi
  have hil : i < obs.length := (List.getElem?_eq_some_iff.1 hi).1
  have h2 := (h1.below hb).llRow i (u' := u') (vs' := ts.map (·.1) ++ [v]) (List.getElem?_set_self hil) (by rw [List.length_append, List.length_map, List.length_singleton]; exact hown) hg hat
  rw [List.set_set] at h2
  unfold obTR
  rw [List.map_append, List.map_append]
  exact h2
theorem one_sliceR {ao : Option Addr} {n c : Nat} : ∀ u ∈ [Value.slice ao n c], u.oneCell' = true := by
  intro u hu
  simp at hu
  subst hu
  rfl
theorem wpList_append_TR {w0 w1 : World} {obs : List Ob} {ao : Option Addr} {c : Nat} {l : List Rn} (h : Env w0 w1 (obs ++ [obRuns (.slice ao l.length c) l])) (i : Nat) {u : Value} {ts : List (Value × List Rn)} (hi : obs[i]? = some (obTR u ts)) {a : Act} {o : Oper} {Q : Exit → Act → World → Prop} {ops : Array Oper} {rest : List Oper}
    (s x : Operand) (hgd : o.guard = none) (ho : o.op = .call { callee := .builtin .append, args := #[s, x], argTypes := #[29, 29] }) (hs : a.eval s = u) (hx : a.eval x = .slice (some ⟨w1.heap.size, 0, none⟩) 1 1) (hn : ts.length ≤ 5000000000000)
    (kk : ∀ u' w', Env w0 w' (obs.set i (obTR u' (ts ++ [(.slice ao l.length c, l)]))) → wpList Try.prog ops Q rest (a.put o.dst u') w') : wpList Try.prog ops Q (o :: rest) a (w1.alloc (.cells #[.slice ao l.length c] 32)) := by
  obtain ⟨i0, hi0, hz0, hz1, hz2⟩ := info_parts infoNs
  have hb : Below w1.heap.size w1 (w1.alloc (.cells #[.slice ao l.length c] 32)) := (Below.refl _ _).alloc (Nat.le_refl _) _
  have hil : i < obs.length := (List.getElem?_eq_some_iff.1 hi).1
  have hi2 : (obs ++ [obRuns (.slice ao l.length c) l])[i]? = some (obTR u ts) := by rw [List.getElem?_append_left hil]; exact hi
  have hrow := ((h.below hb).ll i hi2).row
  rw [List.length_map] at hrow
  refine wpList_append_lies _ hgd s x 29 ho 0 32 i0 _ 1 24 Try.underlying29 hi0 hz0 hz1 hz2 rfl (by decide) u ts.length (ts.map (·.1)) hs hrow ⟨w1.heap.size, 0, none⟩ 1 1 [.slice ao l.length c] hx rfl (World.news_of_block (heap_alloc_new w1 (.cells #[.slice ao l.length c] 32))) one_sliceR (by decide) (by unfold maxLen; omega) (by omega) (Nat.zero_le _) _ rfl ?_
  intro g cap w' h1 h2 h3 h4
  exact kk _ _ (obTR_more h hb i hi h1 h2 (by
    rcases h3 with h3 | h3
    · exact .inl (by rw [h3]; rfl)
    · exact .inr (by rw [h3]; rfl)))
theorem obTR_get {w0 w : World} {obs : List Ob} (h : Env w0 w obs) (i : Nat) {u : Value} {ts : List (Value × List Rn)} (hi : obs[i]? = some (obTR u ts)) {j : Nat} {v : Value} {l : List Rn} (hj : ts[j]? = some (v, l)) : KN.R w v l := by
  have := (h.ll i hi).mem j (mkMR (v, l)) (by rw [List.getElem?_map, hj]; rfl)
  exact Knd.O.rd this
theorem obTR_cell {w0 w : World} {obs : List Ob} (h : Env w0 w obs) (i : Nat) {g n c : Nat} {ts : List (Value × List Rn)} (hi : obs[i]? = some (obTR (.slice (some ⟨g, 0, none⟩) n c) ts)) {j : Nat} {v : Value} {l : List Rn} (hj : ts[j]? = some (v, l)) : w.cell? ⟨g, j, none⟩ = some v := by
  have hr := (h.ll i hi).row
  rcases hr.2 with ⟨hv, _⟩ | ⟨g', cap', cur, hv, _⟩
  · cases hv
  · injection hv with _ e2 _
    have hn : n = ts.length := by rw [e2]; exact List.length_map _
    rw [← e2] at hr
    have hl : j < ts.length := (List.getElem?_eq_some_iff.1 hj).1
    rw [World.ownsRow.cellAt hr j (by omega), List.getElem?_map, hj]
    rfl
theorem obTR_slice {w0 w : World} {obs : List Ob} (h : Env w0 w obs) (i : Nat) {u : Value} {ts : List (Value × List Rn)} (hi : obs[i]? = some (obTR u ts)) (h0 : 0 < ts.length) : ∃ g c, u = .slice (some ⟨g, 0, none⟩) ts.length c ∧ ts.length ≤ c ∧ c ≤ 9223372036854775807 := by
  have hr := (h.ll i hi).row
  rw [List.length_map] at hr
  rcases hr.2 with ⟨_, hv⟩ | ⟨g', cap', cur, hv, _, _, h1, h2, _⟩
  · omega
  · exact ⟨g', cap', hv, h1, h2⟩
/-- all of them lie apart, and of other things -/
theorem apart_toldR {w0 w : World} {u : Value} {ts : List (Value × List Rn)} {rest : List Ob} (h : Env w0 w (obTR u ts :: rest)) (hs : ∀ p ∈ ts, p.2.length ≤ 5864062014799) (hl : ts.length ≤ 900000) :
    Calls Try.prog 15 #[u] w fun e w' => e = .returned (.bool true) ∧ Env w0 w' rest := by
  have h1 := h.llOut (fun j => obE 61 3 (Tv (ts.map (·.1)) j) ((ts[j]?.map (fun p => p.2.length)).getD 0) ((ts[j]?.map (fun p => KN.fl p.2)).getD [])) (by
    intro j p hp
    rw [List.getElem?_map] at hp
    rcases hq : ts[j]? with _ | q
    · rw [hq] at hp; cases hp
    · rw [hq] at hp
      injection hp with hp
      subst hp
      have e : Tv (ts.map (·.1)) j = q.1 := by unfold Tv; rw [List.getD_eq_getElem?_getD, List.getElem?_map, hq]; rfl
      rw [e]
      rfl)
  rw [show (ts.map mkMR).length = ts.length from List.length_map _, show (ts.map (·.1)).length = ts.length from List.length_map _] at h1
  refine apartRuns_any u (ts.map (·.1)) (fun j => (ts[j]?.map (fun p => p.2.length)).getD 0) (fun j => (ts[j]?.map (fun p => KN.fl p.2)).getD []) rest ?_ ?_ (by simpa using hl)
  · unfold AEnv
    have e : (ts.map (·.1)).length = ts.length := List.length_map _
    rw [e]
    exact h1
  · intro j hj
    have hj2 : j < ts.length := by simpa using hj
    have e : ts[j]? = some ts[j] := List.getElem?_eq_getElem hj2
    rw [e]
    exact hs _ (List.getElem_mem hj2)
end Go.Proofs.Ytmdfmkdhfhbkjaa
