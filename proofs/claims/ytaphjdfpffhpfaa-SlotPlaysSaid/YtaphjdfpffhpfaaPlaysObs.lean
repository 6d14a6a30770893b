/- What SlotPlays holds between two steps. -/
import Derived.Test.YtaphjdfpffhpfaaRows
import Derived.Test.YtaphjdfpffhpfaaRef18
import Derived.Test.YtaphjdfpffhpfaaTold
import Derived.Test.YtaphjdfpffhpfaaOpenStep
namespace Go.Proofs.Ytaphjdfpffhpfaa
open Go.RowKit
set_option maxRecDepth 100000
set_option linter.unusedVariables false
set_option linter.unusedSimpArgs false

def upd (f : Nat → Mst) (k : Nat) (s : Mst) : Nat → Mst := fun j => if j = k then s else f j
theorem upd_self (f : Nat → Mst) (k : Nat) (s : Mst) : upd f k s k = s := by simp [upd]
/-- ledgers, memories, their tables, what was told and must be told -/
def sObs (l q : Value) (o o' : Option (List Rn)) (ps rs : Nat → Value) (ms ns : Nat → Mst) (gs gr : Nat) (tu wu : Value) (ts ws : List (Value × List UInt8)) : List Ob :=
  [obP l o, obR q o', obM (ps 0) (ms 0), obM (ps 1) (ms 1), obM (ps 2) (ms 2), obM (ps 3) (ms 3), obN (rs 0) (ns 0), obN (rs 1) (ns 1), obN (rs 2) (ns 2), obN (rs 3) (ns 3),
    obK gs 27 #[ps 0, ps 1, ps 2, ps 3], obK gr 33 #[rs 0, rs 1, rs 2, rs 3], obT tu ts, obT wu ws]
section
variable {l q : Value} {o o' : Option (List Rn)} {ps rs : Nat → Value} {ms ns : Nat → Mst} {gs gr : Nat} {tu wu : Value} {ts ws : List (Value × List UInt8)} {rest : List Ob}
theorem sObs_M (k : Nat) (hk : k < 4) : (sObs l q o o' ps rs ms ns gs gr tu wu ts ws ++ rest)[2 + k]? = some (obM (ps k) (ms k)) := by
  match k, hk with
  | 0, _ => rfl
  | 1, _ => rfl
  | 2, _ => rfl
  | 3, _ => rfl
theorem sObs_N (k : Nat) (hk : k < 4) : (sObs l q o o' ps rs ms ns gs gr tu wu ts ws ++ rest)[6 + k]? = some (obN (rs k) (ns k)) := by
  match k, hk with
  | 0, _ => rfl
  | 1, _ => rfl
  | 2, _ => rfl
  | 3, _ => rfl
theorem sObs_setM (k : Nat) (hk : k < 4) (s : Mst) : (sObs l q o o' ps rs ms ns gs gr tu wu ts ws ++ rest).set (2 + k) (obM (ps k) s) = sObs l q o o' ps rs (upd ms k s) ns gs gr tu wu ts ws ++ rest := by
  match k, hk with
  | 0, _ => rfl
  | 1, _ => rfl
  | 2, _ => rfl
  | 3, _ => rfl
theorem sObs_setN (k : Nat) (hk : k < 4) (s : Mst) : (sObs l q o o' ps rs ms ns gs gr tu wu ts ws ++ rest).set (6 + k) (obN (rs k) s) = sObs l q o o' ps rs ms (upd ns k s) gs gr tu wu ts ws ++ rest := by
  match k, hk with
  | 0, _ => rfl
  | 1, _ => rfl
  | 2, _ => rfl
  | 3, _ => rfl
theorem sObs_p {w0 w : World} (h : Env w0 w (sObs l q o o' ps rs ms ns gs gr tu wu ts ws ++ rest)) (k : Nat) (hk : k < 4) : w.cell? ⟨gs, k, none⟩ = some (ps k) := by
  have hb := h.blk 10 (b := gs) rfl
  match k, hk with
  | 0, _ => exact hb.cellAt 0 rfl
  | 1, _ => exact hb.cellAt 1 rfl
  | 2, _ => exact hb.cellAt 2 rfl
  | 3, _ => exact hb.cellAt 3 rfl
theorem sObs_r {w0 w : World} (h : Env w0 w (sObs l q o o' ps rs ms ns gs gr tu wu ts ws ++ rest)) (k : Nat) (hk : k < 4) : w.cell? ⟨gr, k, none⟩ = some (rs k) := by
  have hb := h.blk 11 (b := gr) rfl
  match k, hk with
  | 0, _ => exact hb.cellAt 0 rfl
  | 1, _ => exact hb.cellAt 1 rfl
  | 2, _ => exact hb.cellAt 2 rfl
  | 3, _ => exact hb.cellAt 3 rfl
end
theorem Sl.lit1 (w : World) (v : Value) (hv : v.oneCell' = true) (t : TypeId) (g : Nat) (hg : g = w.heap.size) : Sl (w.alloc (.cells #[v] t)) 1 (.slice (some ⟨g, 0, none⟩) 1 1) 1 [v] := by
  subst hg
  refine ⟨rfl, fun u hu => by simp at hu; subst hu; exact hv, some ⟨w.heap.size, 0, none⟩, 1, rfl, Nat.le_refl _, by omega, (fun h => by cases h), fun j u hj => ⟨w.heap.size, 0, rfl, ?_⟩⟩
  rw [Nat.zero_add]
  refine (Blk.new w t #[v]).cellAt j ?_
  rcases j with _ | j
  · simpa using hj
  · simp at hj
theorem sObs_swap {l q : Value} {o o' : Option (List Rn)} {ps rs : Nat → Value} {ms ns ns' : Nat → Mst} {gs gr : Nat} {tu wu : Value} {ts ws : List (Value × List UInt8)} (h : ∀ k, k < 4 → ns k = ns' k) : sObs l q o o' ps rs ms ns gs gr tu wu ts ws = sObs l q o o' ps rs ms ns' gs gr tu wu ts ws := by
  unfold sObs
  rw [h 0 (by omega), h 1 (by omega), h 2 (by omega), h 3 (by omega)]
theorem Env.left {w0 w : World} {A B : List Ob} (h : Env w0 w (A ++ B)) : Env w0 w A :=
  h.pick id (fun _ _ _ _ he => he) (fun j ob hj => by rw [id, List.getElem?_append_left (List.getElem?_eq_some_iff.1 hj).1]; exact hj)
def Stat (gs gr G k o : Nat) (ps rs : Nat → Value) (c : Value) (wx : World) : Prop := wx.cell? ⟨gs, k, none⟩ = some (ps k) ∧ wx.cell? ⟨gs, o, none⟩ = some (ps o) ∧ wx.cell? ⟨gr, k, none⟩ = some (rs k) ∧ wx.cell? ⟨gr, o, none⟩ = some (rs o) ∧ wx.cell? ⟨G, 3, none⟩ = some c
section
variable {gs gr G k o : Nat} {ps rs : Nat → Value} {c : Value} {wx : World}
theorem Stat.p (wx : World) (h : Stat gs gr G k o ps rs c wx) : wx.cell? ⟨gs, k, none⟩ = some (ps k) := h.1
theorem Stat.p2 (wx : World) (h : Stat gs gr G k o ps rs c wx) : wx.cell? ⟨gs, o, none⟩ = some (ps o) := h.2.1
theorem Stat.r (wx : World) (h : Stat gs gr G k o ps rs c wx) : wx.cell? ⟨gr, k, none⟩ = some (rs k) := h.2.2.1
theorem Stat.r2 (wx : World) (h : Stat gs gr G k o ps rs c wx) : wx.cell? ⟨gr, o, none⟩ = some (rs o) := h.2.2.2.1
theorem Stat.e (wx : World) (h : Stat gs gr G k o ps rs c wx) : wx.cell? ⟨G, 3, none⟩ = some c := h.2.2.2.2
theorem Stat.of {w0 : World} {l q : Value} {oo o' : Option (List Rn)} {ms ns : Nat → Mst} {tu wu : Value} {ts ws : List (Value × List UInt8)} {t : TypeId} {a1 a2 a3 : Value} {rest : List Ob} (hk : k < 4) (ho : o < 4)
    (h : Env w0 wx (sObs l q oo o' ps rs ms ns gs gr tu wu ts ws ++ (obK G t #[a1, a2, a3, c] :: rest))) : Stat gs gr G k o ps rs c wx :=
  ⟨sObs_p h k hk, sObs_p h o ho, sObs_r h k hk, sObs_r h o ho, (h.blk 14 rfl).cellAt 3 rfl⟩
end
theorem Few.le {rs : List Rn} {n m : Nat} (h : Few rs n) (hm : n ≤ m) : Few rs m := ⟨by have := h.1; omega, by have := h.2; omega⟩
theorem noteC_few {led : List Rn} {n : Nat} (h : Few led n) (c : Bool) (k s : Int) : ∃ led', noteC c (some led) k s = some led' ∧ Few led' (n + 1) := by
  unfold noteC
  cases c with
  | false => exact ⟨led, rfl, h.le (Nat.le_succ n)⟩
  | true => exact ⟨_, rfl, h.note k s⟩
theorem sObs_small {w0 w : World} {l q : Value} {o o' : Option (List Rn)} {ps rs : Nat → Value} {ms ns : Nat → Mst} {gs gr : Nat} {tu wu : Value} {ts ws : List (Value × List UInt8)} {rest : List Ob} (h : Env w0 w (sObs l q o o' ps rs ms ns gs gr tu wu ts ws ++ rest)) (k : Nat) (hk : k < 4) : (ns k).bs.length ≤ 1024 := by
  obtain ⟨F, h1, _⟩ := h.nem (6 + k) (sObs_N k hk)
  rcases nem_cases h1 with ⟨hs, _⟩ | ⟨b, ao, cap, _, _, _, h3, _⟩
  · rw [hs]; simp [Mst.bs]
  · exact h3
/-- the cells of the two tables -/
def Sta (gs gr k o : Nat) (ps rs : Nat → Value) (wx : World) : Prop := wx.cell? ⟨gs, k, none⟩ = some (ps k) ∧ wx.cell? ⟨gs, o, none⟩ = some (ps o) ∧ wx.cell? ⟨gr, k, none⟩ = some (rs k) ∧ wx.cell? ⟨gr, o, none⟩ = some (rs o)
section
variable {gs gr k o : Nat} {ps rs : Nat → Value} {wx : World}
theorem Sta.p (wx : World) (h : Sta gs gr k o ps rs wx) : wx.cell? ⟨gs, k, none⟩ = some (ps k) := h.1
theorem Sta.p2 (wx : World) (h : Sta gs gr k o ps rs wx) : wx.cell? ⟨gs, o, none⟩ = some (ps o) := h.2.1
theorem Sta.r (wx : World) (h : Sta gs gr k o ps rs wx) : wx.cell? ⟨gr, k, none⟩ = some (rs k) := h.2.2.1
theorem Sta.r2 (wx : World) (h : Sta gs gr k o ps rs wx) : wx.cell? ⟨gr, o, none⟩ = some (rs o) := h.2.2.2
theorem Sta.of {w0 : World} {l q : Value} {oo o' : Option (List Rn)} {ms ns : Nat → Mst} {tu wu : Value} {ts ws : List (Value × List UInt8)} {rest : List Ob} (hk : k < 4) (ho : o < 4)
    (h : Env w0 wx (sObs l q oo o' ps rs ms ns gs gr tu wu ts ws ++ rest)) : Sta gs gr k o ps rs wx := ⟨sObs_p h k hk, sObs_p h o ho, sObs_r h k hk, sObs_r h o ho⟩
end
/-- without what was told -/
def sCut (l q : Value) (o o' : Option (List Rn)) (ps rs : Nat → Value) (ms ns : Nat → Mst) (gs gr : Nat) : List Ob :=
  [obP l o, obR q o', obM (ps 0) (ms 0), obM (ps 1) (ms 1), obM (ps 2) (ms 2), obM (ps 3) (ms 3), obN (rs 0) (ns 0), obN (rs 1) (ns 1), obN (rs 2) (ns 2), obN (rs 3) (ns 3), obK gs 27 #[ps 0, ps 1, ps 2, ps 3], obK gr 33 #[rs 0, rs 1, rs 2, rs 3]]
theorem sObs_told {w0 w : World} {l q : Value} {o o' : Option (List Rn)} {ps rs : Nat → Value} {ms ns : Nat → Mst} {gs gr : Nat} {tu wu : Value} {ts ws : List (Value × List UInt8)} (h : Env w0 w (sObs l q o o' ps rs ms ns gs gr tu wu ts ws)) : Env w0 w (obT tu ts :: sCut l q o o' ps rs ms ns gs gr) := by
  refine h.pick (fun j => if j = 0 then 12 else j - 1) ?_ ?_
  · intro i j hi hj
    simp [sCut] at hi hj
    exact (by decide : ∀ i, i < 13 → ∀ j, j < 13 → (if i = 0 then 12 else i - 1) = (if j = 0 then 12 else j - 1) → i = j) i hi j hj
  · intro j ob hj
    match j, hj with
    | 0, hj | 1, hj | 2, hj | 3, hj | 4, hj | 5, hj | 6, hj | 7, hj | 8, hj | 9, hj | 10, hj | 11, hj | 12, hj => exact hj
    | j + 13, hj => simp [sCut] at hj
theorem Sta.cut {w0 : World} {l q : Value} {oo o' : Option (List Rn)} {ps rs : Nat → Value} {ms ns : Nat → Mst} {gs gr : Nat} {wx : World}
    (h : Env w0 wx (sCut l q oo o' ps rs ms ns gs gr)) : Sta gs gr 0 1 ps rs wx := ⟨(h.blk 10 rfl).cellAt 0 rfl, (h.blk 10 rfl).cellAt 1 rfl, (h.blk 11 rfl).cellAt 0 rfl, (h.blk 11 rfl).cellAt 1 rfl⟩
/-- the tables' cells, and one more -/
def Stq (gs gr k : Nat) (ps rs : Nat → Value) (g n : Nat) (v : Value) (wx : World) : Prop := wx.cell? ⟨gs, k, none⟩ = some (ps k) ∧ wx.cell? ⟨gr, k, none⟩ = some (rs k) ∧ wx.cell? ⟨g, n, none⟩ = some v
section
variable {gs gr k g n : Nat} {ps rs : Nat → Value} {v : Value} {wx : World}
theorem Stq.p (wx : World) (h : Stq gs gr k ps rs g n v wx) : wx.cell? ⟨gs, k, none⟩ = some (ps k) := h.1
theorem Stq.r (wx : World) (h : Stq gs gr k ps rs g n v wx) : wx.cell? ⟨gr, k, none⟩ = some (rs k) := h.2.1
theorem Stq.e (wx : World) (h : Stq gs gr k ps rs g n v wx) : wx.cell? ⟨g, n, none⟩ = some v := h.2.2
theorem Stq.of {w0 : World} {l q : Value} {oo o' : Option (List Rn)} {ms ns : Nat → Mst} {tu : Value} {m c : Nat} {ts ws : List (Value × List UInt8)} {rest : List Ob} {x : List UInt8} (hk : k < 4)
    (h : Env w0 wx (sObs l q oo o' ps rs ms ns gs gr tu (.slice (some ⟨g, 0, none⟩) m c) ts ws ++ rest)) (hj : ws[n]? = some (v, x)) : Stq gs gr k ps rs g n v wx := ⟨sObs_p h k hk, sObs_r h k hk, obT_cell h 13 rfl hj⟩
end
/-- two cells -/
def St2 (g h n : Nat) (u v : Value) (wx : World) : Prop := wx.cell? ⟨g, n, none⟩ = some u ∧ wx.cell? ⟨h, n, none⟩ = some v
theorem St2.a {g h n : Nat} {u v : Value} (wx : World) (hh : St2 g h n u v wx) : wx.cell? ⟨g, n, none⟩ = some u := hh.1
theorem St2.b {g h n : Nat} {u v : Value} (wx : World) (hh : St2 g h n u v wx) : wx.cell? ⟨h, n, none⟩ = some v := hh.2
end Go.Proofs.Ytaphjdfpffhpfaa
