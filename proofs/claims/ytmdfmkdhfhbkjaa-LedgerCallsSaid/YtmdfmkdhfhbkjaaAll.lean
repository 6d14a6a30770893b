/- The iterator of a ledger's events: what it gives, whatever the loop's body does to blocks of its own. -/
import Derived.Test.YtmdfmkdhfhbkjaaRows
import Derived.Test.YtmdfmkdhfhbkjaaAllNil
namespace Go.Proofs.Ytmdfmkdhfhbkjaa
open Go.RowKit
set_option maxRecDepth 100000
set_option linter.unusedVariables false
set_option linter.unusedSimpArgs false

/-- the events of runs, one by one -/
def evs (rs : List Rn) : List (Int × Int) := rs.flatMap fun r => List.replicate r.c.toNat (r.k, r.s)
theorem evs_succ (rs : List Rn) (i : Nat) (r : Rn) (h : rs[i]? = some r) : evs (rs.take (i + 1)) = evs (rs.take i) ++ List.replicate r.c.toNat (r.k, r.s) := by
  have hl : i < rs.length := (List.getElem?_eq_some_iff.1 h).1
  have he : rs[i] = r := (List.getElem?_eq_some_iff.1 h).2
  rw [List.take_succ_eq_append_getElem hl, he]
  simp [evs]
theorem evs_split (rs : List Rn) (i : Nat) : evs rs = evs (rs.take i) ++ evs (rs.drop i) := by
  unfold evs
  rw [← List.flatMap_append, List.take_append_drop]
theorem evs_drop (rs : List Rn) (i : Nat) (r : Rn) (h : rs[i]? = some r) : evs (rs.drop i) = List.replicate r.c.toNat (r.k, r.s) ++ evs (rs.drop (i + 1)) := by
  have hl : i < rs.length := (List.getElem?_eq_some_iff.1 h).1
  have he : rs[i] = r := (List.getElem?_eq_some_iff.1 h).2
  rw [List.drop_eq_getElem_cons hl, he]
  simp [evs]
/-- what a loop's body keeps: cells of blocks that are not its own -/
structure Kpt (S : Nat → Prop) (W W' : World) : Prop where
  size : W.heap.size ≤ W'.heap.size
  same : ∀ (k : Nat) (o : Obj), W.heap[k]? = some o → o.isCells = true → ¬ S k → W'.heap[k]? = some o
theorem Kpt.refl (S : Nat → Prop) (W : World) : Kpt S W W := ⟨Nat.le_refl _, fun _ _ h _ _ => h⟩
theorem Kpt.trans {S : Nat → Prop} {A B C : World} (h : Kpt S A B) (k : Kpt S B C) : Kpt S A C := ⟨Nat.le_trans h.size k.size, fun i o hi ho hs => k.same i o (h.same i o hi ho hs) ho hs⟩
theorem Kpt.put {S : Nat → Prop} (W : World) (l : Nat) (o o' : Obj) (h : W.heap[l]? = some o) (ho : o.isCells = false) : Kpt S W (W.putObj l o') :=
  ⟨(grownBy_putObj' W l o').size, fun k x hk hx _ => ((grownBy_putObj' W l o').block k (Array.getElem?_eq_some_iff.1 hk).1 (fun e => by injection e with e; subst e; rw [h] at hk; injection hk with hk; subst hk; rw [ho] at hx; cases hx)).trans hk⟩
theorem Kpt.of_only {S : Nat → Prop} {W W' : World} (h : Only S W W') : Kpt S W W' := ⟨h.size, fun k o hk _ hs => (h.block k (Array.getElem?_eq_some_iff.1 hk).1 hs).trans hk⟩
theorem Kpt.cell {S : Nat → Prop} {W W' : World} (h : Kpt S W W') {a : Addr} {v : Value} (hc : W.cell? a = some v) (hs : ¬ S a.block) : W'.cell? a = some v := by
  have hb : ∃ cs t f, W.heap[a.block]? = some (.cells cs t f) := by
    unfold World.cell? at hc
    split at hc
    · exact ⟨_, _, _, by assumption⟩
    · cases hc
  obtain ⟨cs, t, f, hb⟩ := hb
  have := h.same a.block _ hb rfl hs
  unfold World.cell? at hc ⊢
  rw [hb] at hc
  rw [this]
  exact hc
/-- a row of runs, cell by cell -/
def RowC (W : World) (b off : Nat) (rs : List Rn) : Prop := ∀ i r, rs[i]? = some r → W.cell? ⟨b, off + i * 3, none⟩ = some (.int .u8 r.k) ∧ W.cell? ⟨b, off + i * 3 + 1, none⟩ = some (.int .i64 r.s) ∧ W.cell? ⟨b, off + i * 3 + 2, none⟩ = some (.int .i64 r.c)
theorem RowC.kept {S : Nat → Prop} {W W' : World} {b off : Nat} {rs : List Rn} (h : RowC W b off rs) (hk : Kpt S W W') (hs : ¬ S b) : RowC W' b off rs := fun i r hr =>
  ⟨hk.cell (h i r hr).1 hs, hk.cell (h i r hr).2.1 hs, hk.cell (h i r hr).2.2 hs⟩
def enc2 (x : Int × Int) : Array Value := #[.agg #[.int .u8 x.1, .int .i64 x.2]]
set_option maxHeartbeats 4000000 in
theorem all1_seq (n : Nat) (hn : 1 ≤ n) (Bx : Nat) (b off cap : Nat) (ao : Option Addr) (rs : List Rn) (w : World) (S : Nat → Prop) (hS : ∀ x, S x → x < w.heap.size) (hBS : ¬ S Bx) (hlen : rs.length ≤ 9223372036854775807) (hpos : ∀ r ∈ rs, r.c ≤ 9223372036854775807)
    (hB : w.cell? ⟨Bx, 0, none⟩ = some (.slice ao rs.length cap)) (hao : rs ≠ [] → ao = some ⟨b, off, none⟩) (hbS : ¬ S b) (hR : RowC w b off rs) :
    SeqStopsK Fence.wide n Try.prog 46 #[.pointer (some ⟨Bx, 0, none⟩)] enc2 (Kpt S) (fun xs => xs = evs rs) (fun pre => pre <+: evs rs) (evs rs).length w := by
  intro l J Jx W hW hJ hJx hY h0
  have hBl : Bx < w.heap.size := World.block_lt_of_cell? w _ hB
  have hB1 : W.cell? ⟨Bx, 0, none⟩ = some (.slice ao rs.length cap) := (hW.cell (p := ⟨Bx, 0, none⟩) hBl).trans hB
  have hR1 : RowC W b off rs := fun i r hr => by
    obtain ⟨c0, c1, c2⟩ := hR i r hr
    exact ⟨(hW.cell (World.block_lt_of_cell? w _ c0)).trans c0, (hW.cell (World.block_lt_of_cell? w _ c1)).trans c1, (hW.cell (World.block_lt_of_cell? w _ c2)).trans c2⟩
  have hSW : ∀ x, S x → x < W.heap.size := fun x hx => Nat.lt_of_lt_of_le (hS x hx) hW.size
  have HSW := Lib.hid hSW
  have HY := Lib.hid hY
  have HJ := Lib.hid hJ
  have HR := Lib.hid hR1
  have HAO := Lib.hid hao
  have HBS := Lib.hid hbS
  have HPOS := Lib.hid hpos
  have H0 : Hid (J (evs (rs.take 0)) W) := Lib.hid h0
  have HZ : Hid (W.heap.size ≤ W.heap.size) := Lib.hid (Nat.le_refl _)
  clear hB hBl hR hR1 hS hSW hW hJx hY hJ h0 hao hbS hpos hBS
  refine callsIn_of_wp Try.func46 rfl trivial ?_ rfl
  simp only [Try.ntmps46, List.size_toArray, List.length_cons, List.length_nil, Nat.reduceAdd, Nat.reduceSub, Array.replicate_succ, Array.replicate_zero, List.push_toArray, List.append_toArray, List.nil_append, List.cons_append]
  gi_wp2
  gi_loopw [7] (fun iv wr => ∃ i : Nat, i ≤ rs.length ∧ iv = .int .i64 (i : Int) ∧ Hid (J (evs (rs.take i)) wr) ∧ Hid (RowC wr b off rs) ∧ Hid (W.heap.size ≤ wr.heap.size)) (fun iv _ => rs.length - (intOf iv).toNat)
  case atStart => exact ⟨0, Nat.zero_le _, rfl, H0, HR, HZ⟩
  case round =>
    obtain ⟨i, hi, rfl, HJ1, HR1, HZ1⟩ := hrel
    clear H0 HR HZ
    by_cases hlt : i < rs.length
    · obtain ⟨r, hr⟩ : ∃ r, rs[i]? = some r := ⟨_, List.getElem?_eq_getElem hlt⟩
      obtain rfl := HAO.out (by intro e; subst e; simp at hlt)
      obtain ⟨c0, c1, c2⟩ := HR1.out i r hr
      have HRI := Lib.hid hr
      have hrc : r.c ≤ 9223372036854775807 := HPOS.out r (List.mem_of_getElem? hr)
      clear hr
      gi_wp2
      have hJa : J (evs (rs.take i) ++ List.replicate 0 (r.k, r.s)) (wr.alloc (.cells #[.int .u8 r.k, .int .i64 r.s, .int .i64 r.c] 61)) := by
        have := HJ.out _ wr _ none HJ1.out (World.grownBy_alloc wr (.cells #[.int .u8 r.k, .int .i64 r.s, .int .i64 r.c] 61) none) (fun r e => by cases e)
        simpa using this
      have hRa : RowC (wr.alloc (.cells #[.int .u8 r.k, .int .i64 r.s, .int .i64 r.c] 61)) b off rs := HR1.out.kept (S := S) (Kpt.of_only ((Only.refl S wr).alloc _)) HBS.out
      have g0 : (wr.alloc (.cells #[.int .u8 r.k, .int .i64 r.s, .int .i64 r.c] 61)).cell? ⟨wr.heap.size, 0, none⟩ = some (.int .u8 r.k) := by rw [World.cell?_alloc_new]; rfl
      have g1 : (wr.alloc (.cells #[.int .u8 r.k, .int .i64 r.s, .int .i64 r.c] 61)).cell? ⟨wr.heap.size, 1, none⟩ = some (.int .i64 r.s) := by rw [World.cell?_alloc_new]; rfl
      have hza : W.heap.size ≤ (wr.alloc (.cells #[.int .u8 r.k, .int .i64 r.s, .int .i64 r.c] 61)).heap.size := by have := HZ1.out; simp; omega
      have hGS : ¬ S wr.heap.size := fun hh => by have := HSW.out _ hh; have := HZ1.out; omega
      have HJA := Lib.hid hJa
      have HRA := Lib.hid hRa
      have HG := Lib.hid (And.intro g0 g1)
      have HZA := Lib.hid hza
      have HGS := Lib.hid hGS
      clear hJa hRa g0 g1 hza hGS c0 c1 c2 HJ1 HR1 HZ1
      generalize wr.alloc (.cells #[.int .u8 r.k, .int .i64 r.s, .int .i64 r.c] 61) = w1 at HJA HRA HG HZA ⊢
      generalize wr.heap.size = G at HG HGS ⊢
      gi_loopw [13] (fun jv wq => ∃ j : Nat, j ≤ r.c.toNat ∧ jv = .int .i64 (j : Int) ∧ Hid (J (evs (rs.take i) ++ List.replicate j (r.k, r.s)) wq) ∧ Hid (RowC wq b off rs) ∧ Hid (wq.cell? ⟨G, 0, none⟩ = some (.int .u8 r.k) ∧ wq.cell? ⟨G, 1, none⟩ = some (.int .i64 r.s)) ∧ Hid (W.heap.size ≤ wq.heap.size)) (fun jv _ => r.c.toNat - (intOf jv).toNat)
      case atStart => exact ⟨0, Nat.zero_le _, rfl, HJA, HRA, HG, HZA⟩
      case round =>
        obtain ⟨j, hj, rfl, HJ2, HR2, HG2, HZ2⟩ := hrel
        clear HJA HRA HG HZA
        by_cases hjl : j < r.c.toNat
        · obtain ⟨g0, g1⟩ := HG2.out
          have t1 : decide ((j : Int) < r.c) = true := by rw [decide_eq_true_eq]; omega
          obtain ⟨fn, tmps, assign, body, hy, hRr⟩ := HY.out _ (r.k, r.s) wr HJ2.out (by
            rw [evs_split rs i, evs_drop rs i r HRI.out]
            simp
            omega)
          dsimp only [enc2] at hy
          have HRr := Lib.hid hRr
          clear hRr
          gi_wp2
          refine HRr.out.mono ?_
          rintro e W3 (⟨rfl, hJ3, hk3⟩ | ⟨rfl, hJx3⟩)
          · have HJ3 : Hid (J (evs (rs.take i) ++ List.replicate (j + 1) (r.k, r.s)) W3) := by
              rw [List.append_assoc] at hJ3
              rw [List.replicate_succ']
              exact Lib.hid hJ3
            have HR3 : Hid (RowC W3 b off rs) := Lib.hid (HR2.out.kept hk3 HBS.out)
            have HG3 : Hid (W3.cell? ⟨G, 0, none⟩ = some (.int .u8 r.k) ∧ W3.cell? ⟨G, 1, none⟩ = some (.int .i64 r.s)) := Lib.hid ⟨hk3.cell HG2.out.1 HGS.out, hk3.cell HG2.out.2 HGS.out⟩
            have HZ3 : Hid (W.heap.size ≤ W3.heap.size) := Lib.hid (by have := hk3.size; have := HZ2.out; omega)
            clear hJ3 hk3 g0 g1 HJ2 HR2 HG2 HZ2 HRr hy t1
            gi_wp2
            go_roundw
            case rel => exact ⟨j + 1, by omega, by go_num, HJ3, HR3, HG3, HZ3⟩
            case measure => simp [intOf]; omega
          · have HX : Hid (∃ pre, pre <+: evs rs ∧ Jx pre W3) := Lib.hid ⟨_, ⟨List.replicate (r.c.toNat - (j + 1)) (r.k, r.s) ++ evs (rs.drop (i + 1)), by
              rw [evs_split rs i, evs_drop rs i r HRI.out, show r.c.toNat = (j + 1) + (r.c.toNat - (j + 1)) by omega, ← List.replicate_append_replicate, List.replicate_succ']
              simp [show j + 1 + (r.c.toNat - (j + 1)) - (j + 1) = r.c.toNat - (j + 1) by omega]⟩, hJx3⟩
            clear hJx3
            gi_wp2
            refine bodyPost_ret (results_none rfl _ _ _) rfl ?_
            exact ⟨⟨_, rfl⟩, .inr HX.out⟩
        · obtain rfl : j = r.c.toNat := by omega
          have t1 : decide ((r.c.toNat : Int) < r.c) = false := by rw [decide_eq_false_iff_not]; omega
          have HJ3 : Hid (J (evs (rs.take (i + 1))) wr) := by
            rw [evs_succ rs i r HRI.out]
            exact HJ2
          clear HJ2
          gi_wp2
          go_roundw
          case rel => exact ⟨i + 1, by omega, by go_num, HJ3, HR2, HZ2⟩
          case measure => simp [intOf]; omega
    · obtain rfl : i = rs.length := by omega
      have HJ3 : Hid (J (evs rs) wr) := by
        have := HJ1.out
        rw [List.take_length] at this
        exact Lib.hid this
      gi_wp2
      go_end0
      exact ⟨⟨_, rfl⟩, .inl ⟨_, rfl, HJ3.out⟩⟩
/-- a range over a function, in a plain walk: the loop's variable is boxed -/
theorem wp_range_H {P : Program} {α : Type} {g : Operand} {ps : Array Tmp} {assign body : Code} {Q : Exit → Act → World → Prop} {a : Act} {w : World} {gf : Nat} {lb : Array Value} (hg : a.eval g = .func (.func gf) #[] lb) (eg : ∀ args w, (callFunc gf args).run P w = .ok (.enter gf args) w)
    {encs : α → Array Value} {S : Nat → Prop} {Sx Sp : List α → Prop} {N : Nat} (hseq : SeqStopsK Fence.wide 2 P gf lb encs (Kpt S) Sx Sp N w) (hps : ∀ x, (encs x).size = ps.size)
    (I : List α → World → Prop) (Ix : Code → List α → World → Prop) (hI : OwnFrom w.heap.size I) (hIx : ∀ c, OwnFrom w.heap.size (Ix c)) (h0 : I [] w) (Ax : α → Act → World → Prop) (hAx : ∀ x a', OwnFrom w.heap.size (fun (_ : Unit) W => Ax x a' W))
    (hassign : ∀ (l : Nat) (pre : List α) (x : α) (W : World) (K : Act → World → Prop), I pre W → (∀ a' W', KeepsFrom w.heap.size W W' → Kpt S W W' → I pre W' → Ax x a' W' → K a' W') →
      assign.wpIn (Fence.wide.inRound l) 1 P (Exit.then K (fun _ _ _ => False)) { tmps := (ps.zip (encs x)).foldl (fun t (p, v) => t.setIfInBounds p v) a.tmps, defers := [] } W)
    (hbody : ∀ (l : Nat) (pre : List α) (x : α) (a' : Act) (W : World), I pre W → Ax x a' W → pre.length < N → body.wpIn (Fence.wide.inRound l) 1 P (ownPostG w.heap.size (Kpt S) I Ix (pre ++ [x]) W) a' W)
    (hdone : ∀ (D : Nat) (xs : List α) (W : World), w.heap.size ≤ D → Sx xs → I xs W → W.heap[D]? = some (.deferred (some [])) → Q .normal { a with defers := { target := .collected D, args := #[] } :: a.defers } W)
    (hstop : ∀ (D : Nat) (c : Code) (pre : List α) (W : World), w.heap.size ≤ D → Sp pre → Ix c pre W → W.heap[D]? = some (.deferred (some [])) → c.wp P Q { a with defers := { target := .collected D, args := #[] } :: a.defers } W) :
    (Code.rangeFunc g ps assign body).wp P Q a w :=
  wpIn_wide.1 (wpIn_rangeFunc_ownH (n := 3) rfl (by omega) hg trivial eg hseq (fun h k => h.trans k) (fun W l o o' _ h ho _ => Kpt.put W l o o' h ho) (Below.refl _ _) hps I Ix hI hIx h0 Ax hAx hassign (fun l pre x a' W _ _ hi hax hl => hbody l pre x a' W hi hax hl) hdone (fun D c pre W h1 h2 h3 h4 => wpIn_wide.2 (hstop D c pre W h1 h2 h3 h4)))
/-- .. whose variable is an event in a box -/
def evA (a : Act) (j k : Tmp) (x : Int × Int) (b : Nat) : Act := { tmps := (a.tmps.setIfInBounds k (.agg #[.int .u8 x.1, .int .i64 x.2])).setIfInBounds j (.pointer (some ⟨b, 0, none⟩)), defers := [] }
theorem wp_range_ev {P : Program} {g : Operand} (j : Tmp) {k : Tmp} {assign body : Code} {Q : Exit → Act → World → Prop} {a : Act} {w : World} {gf : Nat} {lb : Array Value} (hg : a.eval g = .func (.func gf) #[] lb) (eg : ∀ args w, (callFunc gf args).run P w = .ok (.enter gf args) w)
    {S : Nat → Prop} {Sx Sp : List (Int × Int) → Prop} {N : Nat} (hseq : SeqStopsK Fence.wide 2 P gf lb enc2 (Kpt S) Sx Sp N w)
    (I : List (Int × Int) → World → Prop) (Ix : Code → List (Int × Int) → World → Prop) (hI : OwnFrom w.heap.size I) (hIx : ∀ c, OwnFrom w.heap.size (Ix c)) (h0 : I [] w)
    (hassign : ∀ (l : Nat) (pre : List (Int × Int)) (x : Int × Int) (W : World) (K : Act → World → Prop), I pre W →
      (∀ (b : Nat) W', KeepsFrom w.heap.size W W' → Kpt S W W' → I pre W' → w.heap.size ≤ b → W'.cell? ⟨b, 0, none⟩ = some (.int .u8 x.1) → W'.cell? ⟨b, 1, none⟩ = some (.int .i64 x.2) → K (evA a j k x b) W') →
      assign.wpIn (Fence.wide.inRound l) 1 P (Exit.then K (fun _ _ _ => False)) { tmps := a.tmps.setIfInBounds k (.agg #[.int .u8 x.1, .int .i64 x.2]), defers := [] } W)
    (hbody : ∀ (l : Nat) (pre : List (Int × Int)) (x : Int × Int) (b : Nat) (W : World), I pre W → w.heap.size ≤ b → W.cell? ⟨b, 0, none⟩ = some (.int .u8 x.1) → W.cell? ⟨b, 1, none⟩ = some (.int .i64 x.2) → pre.length < N →
      body.wpIn (Fence.wide.inRound l) 1 P (ownPostG w.heap.size (Kpt S) I Ix (pre ++ [x]) W) (evA a j k x b) W)
    (hdone : ∀ (D : Nat) (xs : List (Int × Int)) (W : World), w.heap.size ≤ D → Sx xs → I xs W → W.heap[D]? = some (.deferred (some [])) → Q .normal { a with defers := { target := .collected D, args := #[] } :: a.defers } W)
    (hstop : ∀ (D : Nat) (c : Code) (pre : List (Int × Int)) (W : World), w.heap.size ≤ D → Sp pre → Ix c pre W → W.heap[D]? = some (.deferred (some [])) → c.wp P Q { a with defers := { target := .collected D, args := #[] } :: a.defers } W) :
    (Code.rangeFunc g #[k] assign body).wp P Q a w :=
  wp_range_H hg eg hseq (fun _ => rfl) I Ix hI hIx h0 (fun x a' W => ∃ b, w.heap.size ≤ b ∧ W.cell? ⟨b, 0, none⟩ = some (.int .u8 x.1) ∧ W.cell? ⟨b, 1, none⟩ = some (.int .i64 x.2) ∧ a' = evA a j k x b)
    (fun x a' s W W' row hs hg hr => by
      obtain ⟨b, h1, h2, h3, h4⟩ := hs
      exact ⟨b, h1, cell_kept h2 hg (fun r e => (hr r e).2), cell_kept h3 hg (fun r e => (hr r e).2), h4⟩)
    (fun l pre x W K hi hK => by
      have e : (#[k].zip (enc2 x)).foldl (fun t (p, v) => t.setIfInBounds p v) a.tmps = a.tmps.setIfInBounds k (.agg #[.int .u8 x.1, .int .i64 x.2]) := by simp [enc2]
      rw [e]
      exact hassign l pre x W K hi (fun b W' h1 h2 h3 h4 h5 h6 => hK _ W' h1 h2 h3 ⟨b, h4, h5, h6, rfl⟩))
    (fun l pre x a' W hi hax hl => by
      obtain ⟨b, h1, h2, h3, rfl⟩ := hax
      exact hbody l pre x b W hi h1 h2 h3 hl)
    hdone hstop
theorem Env.apartK {w0 w : World} {obs : List Ob} (h : Env w0 w obs) (i j : Nat) (hij : j ≠ i) {b : Nat} {t : TypeId} {cs : Array Value} (hi : obs[i]? = some (obK b t cs)) {ob : Ob} (hj : obs[j]? = some ob) : ∃ F, ob.at' w F ∧ ¬ F b := by
  obtain ⟨F, ⟨_, rfl⟩, _, h3, _⟩ := h.get i hi
  obtain ⟨F2, h5, h6⟩ := h3 j ob hij hj
  exact ⟨F2, h5, fun hb => h6 b hb rfl⟩
theorem Env.apartKK {w0 w : World} {obs : List Ob} (h : Env w0 w obs) (i j : Nat) (hij : j ≠ i) {b c : Nat} {t u : TypeId} {cs ds : Array Value} (hi : obs[i]? = some (obK b t cs)) (hj : obs[j]? = some (obK c u ds)) : b ≠ c := by
  obtain ⟨F, ⟨_, rfl⟩, h2⟩ := h.apartK i j hij hi hj
  exact h2
theorem Env.apartKR {w0 w : World} {obs : List Ob} (h : Env w0 w obs) (i j : Nat) (hij : j ≠ i) {b : Nat} {t : TypeId} {cs : Array Value} {v : Value} {rs : List Rn} (hi : obs[i]? = some (obK b t cs)) (hj : obs[j]? = some (obRuns v rs)) : v.ownBlock ≠ some b := by
  obtain ⟨F, ⟨_, hF⟩, h2⟩ := h.apartK i j hij hi hj
  intro e
  rw [hF] at h2
  exact h2 e
/-- some things at the end have turned: the others stay -/
theorem Env.except {w0 w w' : World} {A B : List Ob} (h : Env w0 w (A ++ B)) {S : Nat → Prop} (ho : Only S w w') (hS : ∀ x, S x → ∃ (j : Nat) (t : TypeId) (cs : Array Value), B[j]? = some (obK x t cs)) : Env w0 w' A := by
  obtain ⟨own, h1, h2⟩ := h
  have hown : ∀ x, S x → A.length + 1 ≤ own x := by
    intro x hx
    obtain ⟨j, t, cs, hj⟩ := hS x hx
    obtain ⟨F, ⟨_, rfl⟩, h4⟩ := h2 (A.length + j) _ (by rw [List.getElem?_append_right (by omega), Nat.add_sub_cancel_left]; exact hj)
    rw [(h4 x rfl).1]
    omega
  have hst : St w0 (fun x => if A.length + 1 ≤ own x then A.length + 1 else own x) w := ⟨h1.below, fun x hx => by
    show (if A.length + 1 ≤ own x then A.length + 1 else own x) = 0
    rw [h1.old x hx, if_neg (by omega)]⟩
  refine ⟨_, hst.step (i := A.length + 1) (by omega) ho (fun x hx => by rw [if_pos (hown x hx)]), fun i ob hi => ?_⟩
  have hlt : i < A.length := (List.getElem?_eq_some_iff.1 hi).1
  obtain ⟨F, h3, h4⟩ := h2 i ob (by rw [List.getElem?_append_left hlt]; exact hi)
  refine ⟨F, ob.keep h3 ho (fun x hx hs => ?_), Own.keep (fun x hx => ⟨?_, (h4 x hx).2⟩) ho.size⟩
  · have := hown x hs
    rw [(h4 x hx).1] at this
    omega
  · show (if A.length + 1 ≤ own x then A.length + 1 else own x) = i + 1
    rw [(h4 x hx).1, if_neg (by omega)]
theorem KeepsFrom.of_only {S : Nat → Prop} {B : Nat} {W W' : World} (h : Only S W W') (hS : ∀ x, S x → x < B) : KeepsFrom B W W' :=
  ⟨h.size, fun k o hB hk _ => (h.block k (Array.getElem?_eq_some_iff.1 hk).1 (fun hs => absurd (hS k hs) (by omega))).trans hk⟩
/-- a variable in a box -/
def Bx (W : World) (b : Nat) (v : Value) : Prop := W.cell? ⟨b, 0, none⟩ = some v ∧ W.frozen? ⟨b, 0, none⟩ = false
theorem Bx.kept {W W' : World} {b : Nat} {v : Value} (h : Bx W b v) {row : Option Nat} (hg : W.grownBy W' row) (hr : ∀ r, row = some r → ∃ o : Obj, W.heap[r]? = some o ∧ o.isCells = false) : Bx W' b v :=
  ⟨cell_kept h.1 hg hr, (frozen_kept h.1 hg hr).trans h.2⟩
theorem Bx.set {W : World} {b : Nat} {v : Value} (h : Bx W b v) (u : Value) : Bx (W.setCell ⟨b, 0, none⟩ u) b u :=
  ⟨World.cell?_setCell_same' _ _ _ (by rw [h.1]; rfl), by rw [World.frozen?_setCell]; exact h.2⟩
theorem Bx.other {W : World} {b c : Nat} {v : Value} (h : Bx W b v) (hne : b ≠ c) (u : Value) : Bx (W.setCell ⟨c, 0, none⟩ u) b v :=
  ⟨by rw [World.cell?_setCell_far _ _ _ _ (fun e => hne e.symm)]; exact h.1, by rw [World.frozen?_setCell]; exact h.2⟩
theorem Bx.drew {W : World} {b : Nat} {v : Value} (h : Bx W b v) : Bx W.drew b v := ⟨h.1, h.2⟩
theorem Bx.only {S : Nat → Prop} {W W' : World} {b : Nat} {v : Value} (h : Bx W b v) (ho : Only S W W') (hs : ¬ S b) : Bx W' b v := by
  have hl := World.block_lt_of_cell? W _ h.1
  exact ⟨(ho.cell hl hs).trans h.1, (ho.frozen hl hs).trans h.2⟩
theorem Bx.new (W : World) (v : Value) (t : TypeId) (b : Nat) (hb : b = W.heap.size) : Bx (W.alloc (.cells #[v] t)) b v := by
  subst hb
  exact ⟨by rw [World.cell?_alloc_new]; rfl, (Blk.new W t #[v]).unfrozen 0⟩
theorem all_env {w0 w : World} {obs : List Ob} (h : Env w0 w obs) (i : Nat) {p : Value} {rs : List Rn} (hi : obs[i]? = some (obP p (some rs))) (hl : rs.length ≤ 5497558138880) :
    Calls Try.prog 19 #[p] w fun e w' => ∃ (ao : Option Addr) (cap b : Nat), e = .returned (.func (.func 46) #[] #[.pointer (some ⟨b, 0, none⟩)]) ∧ Env w0 w' (obs ++ [obRuns (.slice ao rs.length cap) rs, obK b 32 #[.slice ao rs.length cap]]) := by
  go_enter Try.func19, Try.ntmps19
  have H := Lib.hid h
  clear h
  go_wp2_with fail
  refine (runsP_env' H.out i hi hl).mono ?_
  rintro e w1 ⟨v, rfl, h5⟩
  obtain ⟨ao, cap, rfl, _⟩ := header (h5.runs (v := v) (l := rs) obs.length (by simp))
  have H1 := Lib.hid h5
  clear h5 H
  go_wp2
  go_ret
  have h6 := H1.out.newK 32 #[.slice ao rs.length cap]
  rw [List.append_assoc] at h6
  exact ⟨ao, cap, _, rfl, h6⟩
end Go.Proofs.Ytmdfmkdhfhbkjaa
