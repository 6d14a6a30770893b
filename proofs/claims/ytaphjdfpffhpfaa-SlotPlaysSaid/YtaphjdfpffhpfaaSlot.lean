/- The contracts of package slot: a memory is nil, or one that New did not make, or the bytes that were put last with noughts behind them. -/
import Derived.Test.YtaphjdfpffhpfaaRows
import Derived.Test.YtaphjdfpffhpfaaCtEnv
import Derived.Test.YtaphjdfpffhpfaaCtLaws
import Derived.Test.YtaphjdfpffhpfaaCopy
namespace Go.Proofs.Ytaphjdfpffhpfaa
open Go.RowKit
set_option maxRecDepth 100000
set_option linter.unusedVariables false

/-- a memory: nil; not made; the bytes that were put last -/
inductive Mst where
  | no
  | raw
  | is (l : List UInt8)
def Mst.made : Mst → Bool
  | .is _ => true
  | _ => false
def Mst.bs : Mst → List UInt8
  | .is l => l
  | _ => []
def pad (l : List UInt8) : List UInt8 := l ++ List.replicate (1024 - l.length) 0
theorem pad_len (l : List UInt8) (h : l.length ≤ 1024) : (pad l).length = 1024 := by simp [pad]; omega
theorem pad_nil : pad [] = List.replicate 1024 0 := by simp [pad]
theorem pad_take (l : List UInt8) : (pad l).take l.length = l := by simp [pad]
def MemP (w : World) (p : Value) (F : Nat → Prop) : Mst → Prop
  | .no => p = .pointer none ∧ F = fun _ => False
  | .raw => ∃ b, p = .pointer (some ⟨b, 0, none⟩) ∧ F = (fun x => x = b) ∧ Blk w b 31 #[.pointer none, .int .i64 0]
  | .is l => ∃ b g, p = .pointer (some ⟨b, 0, none⟩) ∧ F = (fun x => x = b ∨ x = g) ∧ Blk w b 31 #[.pointer (some ⟨g, 0, none⟩), .int .i64 (l.length : Int)] ∧ Blk w g 49 (barr (pad l)) ∧ l.length ≤ 1024 ∧ b ≠ g
theorem MemP.keep {w w' : World} {p : Value} {F S : Nat → Prop} {s : Mst} (h : MemP w p F s) (ho : Only S w w') (hd : ∀ x, F x → ¬ S x) : MemP w' p F s := by
  cases s with
  | no => exact h
  | raw => obtain ⟨b, h1, rfl, h2⟩ := h; exact ⟨b, h1, rfl, h2.only ho (hd b rfl)⟩
  | is l => obtain ⟨b, g, h1, rfl, h2, h3, h4⟩ := h; exact ⟨b, g, h1, rfl, h2.only ho (hd b (.inl rfl)), h3.only ho (hd g (.inr rfl)), h4⟩
theorem MemP.lt {w : World} {p : Value} {F : Nat → Prop} {s : Mst} (h : MemP w p F s) : ∀ x, F x → x < w.heap.size := by
  cases s with
  | no => obtain ⟨_, rfl⟩ := h; exact fun _ h => h.elim
  | raw => obtain ⟨b, _, rfl, h2⟩ := h; rintro x rfl; exact h2.lt
  | is l => obtain ⟨b, g, _, rfl, h2, h3, _⟩ := h; intro x hx; rcases hx with rfl | rfl; exact h2.lt; exact h3.lt
def obM (p : Value) (s : Mst) : Ob := ⟨fun w F => MemP w p F s, fun h ho hd => h.keep ho hd, fun h => h.lt⟩

theorem isM_any (p : Value) (F : Nat → Prop) (s : Mst) (w : World) (h : MemP w p F s) : Calls Try.prog 35 #[p] w fun e w' => e = .returned (.bool s.made) ∧ w = w' := by
  cases s with
  | no =>
    obtain ⟨rfl, rfl⟩ := h
    go_enter Try.func35, Try.ntmps35
    go_wp2
    go_ret
    exact ⟨rfl, rfl⟩
  | raw =>
    obtain ⟨b, rfl, rfl, h2⟩ := h
    have c0 := h2.cellAt 0 (v := .pointer none) rfl
    have hb := h2.lt
    go_enter Try.func35, Try.ntmps35
    go_wp2
    go_ret
    exact ⟨rfl, rfl⟩
  | is l =>
    obtain ⟨b, g, rfl, rfl, h2, h3, _⟩ := h
    have c0 := h2.cellAt 0 (v := .pointer (some ⟨g, 0, none⟩)) rfl
    have hb := h2.lt
    go_enter Try.func35, Try.ntmps35
    go_wp2
    go_ret
    exact ⟨rfl, rfl⟩
theorem zero1024 (w : World) : (zeroValue 49).run Try.prog w = .ok (.agg (barr (List.replicate 1024 0))) w := by kernel_rfl
theorem newM_env {w0 w : World} {obs : List Ob} (h : Env w0 w obs) : Calls Try.prog 9 #[] w fun e w' => ∃ p : Nat, e = .returned (.pointer (some ⟨p, 0, none⟩)) ∧ Env w0 w' (obs ++ [obM (.pointer (some ⟨p, 0, none⟩)) (.is [])]) := by
  have HE := Lib.hid h
  have hz := zero1024
  generalize hZ : barr (List.replicate 1024 0) = Z at hz
  have HZ := Lib.hid hZ
  clear hZ h
  go_enter Try.func9, Try.ntmps9
  go_wp2
  go_ret
  refine ⟨_, rfl, HE.out.push (F' := fun x => x = w.heap.size + 1 ∨ x = w.heap.size) (obM _ (.is [])) ⟨w.heap.size + 1, w.heap.size, rfl, rfl, Blk.at (by simp) rfl, ?_, by simp, by omega⟩ ?_ ?_⟩
  · rw [pad_nil, HZ.out]
    exact (Blk.at rfl rfl).alloc _
  · exact ((Below.refl _ _).alloc (Nat.le_refl _) _).alloc (by simp) _
  · intro x hx; rcases hx with rfl | rfl <;> omega
/-- what a call leaves of a memory -/
def LaidM (p : Value) (F : Nat → Prop) (s : Mst) (w w' : World) : Prop := MemP w' p F s ∧ Only F w w'
theorem splice_pad (xs : List UInt8) (h : xs.length ≤ 1024) : splice ((List.replicate 1024 (0 : UInt8)).map B) 0 (xs.map B) = (pad xs).map B := by
  unfold splice pad
  rw [List.take_zero, List.nil_append, List.length_map, List.map_append, List.map_replicate, List.map_replicate, List.drop_replicate, Nat.zero_add]
theorem wiped_pad (l : List UInt8) (h : l.length ≤ 1024) : wipeTo (pad l) 0 1024 = List.replicate 1024 0 := by
  unfold wipeTo
  rw [List.take_zero, List.nil_append, List.drop_of_length_le (by rw [pad_len l h]; omega), List.append_nil]
set_option maxHeartbeats 1000000 in
theorem putM_no (p : Value) (F : Nat → Prop) (s : Mst) (u : Value) (w : World) (h : MemP w p F s) (hs : s.made = false) : Calls Try.prog 12 #[p, u] w fun e w' => e = .returned (.int .i64 1) ∧ w = w' := by
  have H := Lib.hid h
  clear h
  go_enter Try.func12, Try.ntmps12
  go_wp2_with fail
  refine (isM_any p F s _ H.out).mono ?_
  rintro e w' ⟨he, rfl⟩
  rw [hs] at he
  subst he
  go_wp2
  go_ret
  exact ⟨rfl, rfl⟩
set_option maxHeartbeats 1000000 in
theorem putM_long (p : Value) (F : Nat → Prop) (l : List UInt8) (u : Value) (xs : List UInt8) (w : World) (h : MemP w p F (.is l)) (hu : Bs w u xs) (hl : 1024 < xs.length) : Calls Try.prog 12 #[p, u] w fun e w' => e = .returned (.int .i64 9) ∧ w = w' := by
  have H := Lib.hid h
  clear h
  obtain ⟨ao, cap, rfl, h1, h2, _, _⟩ := hu.form
  have hlt : decide (xs.length > 1024) = true := by simp; omega
  have hlt2 : decide ((xs.length : Int) > 1024) = true := by simp; omega
  have hla : xs.length ≤ 9223372036854775807 := by omega
  clear hu
  go_enter Try.func12, Try.ntmps12
  go_wp2_with fail
  refine (isM_any p F _ _ H.out).mono ?_
  rintro e w' ⟨rfl, rfl⟩
  go_wp2
  go_ret
  exact ⟨rfl, rfl⟩
set_option maxHeartbeats 1000000 in
theorem putM_any (p : Value) (F : Nat → Prop) (l : List UInt8) (u : Value) (xs : List UInt8) (w : World) (h : MemP w p F (.is l)) (hu : Bs w u xs) (hl : xs.length ≤ 1024) (hd : xs ≠ [] → ∀ x, u.ownBlock = some x → ¬ F x) :
    Calls Try.prog 12 #[p, u] w fun e w' => e = .returned (.int .i64 0) ∧ LaidM p F (.is xs) w w' := by
  have H := Lib.hid h
  obtain ⟨b, g, rfl, rfl, h1, h2, h3, h4⟩ := h
  have HU := Lib.hid hu
  obtain ⟨ao, cap, rfl, h5, h6, _, _⟩ := hu.form
  have hlt : decide (xs.length > 1024) = false := by simp; omega
  have hlt2 : decide ((xs.length : Int) > 1024) = false := by simp; omega
  have hla : xs.length ≤ 9223372036854775807 := by omega
  have c0 := h1.cellAt 0 (v := .pointer (some ⟨g, 0, none⟩)) rfl
  have hb := h1.lt
  have hg := h2.lt
  have H1 := Lib.hid h1
  have H2 := Lib.hid h2
  have HD := Lib.hid hd
  clear hu h1 h2 hd
  go_enter Try.func12, Try.ntmps12
  go_wp2_with fail
  refine (isM_any _ _ _ _ H.out).mono ?_
  rintro e w' ⟨rfl, rfl⟩
  go_wp2_with fail
  have hw : OT 49 w (.slice (some ⟨g, 0, none⟩) (pad l).length 1024) (pad l) := by
    have := H2.out.owns (by rw [pad_len l h3]; omega)
    rw [show (pad l).length = 1024 from pad_len l h3] at this ⊢
    exact this
  refine (wipeT_any 49 _ _ none g 0 1024 1024 1024 (pad l) _ (LgP.nil w) (Room.none 1) hw (by rw [pad_len l h3]; omega) (fun h => h) (by rw [pad_len l h3]; omega)).mono ?_
  rintro e w2 ⟨rfl, w1, q1, q2, q3⟩
  have q4 := q3.nothing
  rw [wiped_pad l h3, show (pad l).length = 1024 from pad_len l h3] at q1
  have b1 : Blk w1 g 49 (barr (List.replicate 1024 0)) := Blk.of_owns (by rw [List.length_replicate]; exact q1)
  have b2 : w2.heap[g]? = some (.cells ((List.replicate 1024 (0 : UInt8)).map B).toArray 49 (0, 0)) := b1.below q4 b1.lt
  have o2 : Only (fun x => x = g) w w2 := q2.trans (Only.of_below q4 _) (fun x hx => .inl hx)
  have H3 := Lib.hid (H1.out.only o2 h4)
  have O2 := Lib.hid o2
  have U2 := Lib.hid (HU.out.only' o2 (fun hx x hh he => HD.out hx x hh (.inr he)))
  have c1 := H3.out.cellAt 0 (v := .pointer (some ⟨g, 0, none⟩)) rfl
  have f1 := H3.out.unfrozen 1
  have hb2 := H3.out.lt
  have hg2 : g < w2.heap.size := (Array.getElem?_eq_some_iff.1 b2).1
  have GG := Lib.hid b2
  obtain ⟨Z, hZ⟩ : ∃ Z, Z = (List.replicate 1024 (0 : UInt8)).map B := ⟨_, rfl⟩
  obtain ⟨C, hC⟩ : ∃ C, C = xs.map B := ⟨_, rfl⟩
  rw [← hZ] at GG
  have hCl : C.length = xs.length := by rw [hC, List.length_map]
  have hZl : Z.length = 1024 := by rw [hZ]; simp
  have hpos : 0 < C.length → ∃ ad, ao = some ad ∧ ∀ j v, C[j]? = some v → w2.cell? (ad.add j) = some v := by
    intro hp
    rw [hCl] at hp
    obtain ⟨ao', cap', hv, _, _, _, c⟩ := U2.out.form
    injection hv with e1 _ _
    subst e1
    obtain ⟨gb, off, hb, _⟩ := c 0 hp
    refine ⟨⟨gb, off, none⟩, hb, fun j v hj => ?_⟩
    rw [hC, List.getElem?_map] at hj
    have hjl : j < xs.length := by
      rcases Nat.lt_or_ge j xs.length with h | h
      · exact h
      · rw [List.getElem?_eq_none h] at hj; cases hj
    obtain ⟨gb2, off2, hb2, hc⟩ := c j hjl
    rw [hb] at hb2
    injection hb2 with hb2
    injection hb2 with e1 e2
    subst e1; subst e2
    rw [add_lit, hc]
    rw [List.getElem?_eq_getElem hjl] at hj
    rw [List.getD_eq_getElem?_getD, List.getElem?_eq_getElem hjl]
    simpa [B] using hj
  have hone : ∀ v ∈ C, v.oneCell' = true := by rw [hC]; exact bytes_one xs
  have hmin : C.length = Nat.min xs.length 1024 := by rw [hCl]; exact (Nat.min_eq_left hl).symm
  have hZC := Lib.hid (And.intro hZ hC)
  have HPOS := Lib.hid hpos
  clear hZ hC b2 b1 q1 q2 q3 q4 hw o2 hpos
  go_wp2_with ((with_reducible change wpList _ _ _ (Oper.mk _ (Op.call { callee := .builtin .copy, args := _, argTypes := _ }) _ _ _ _ :: _) _ _); refine wpList_copy_only rfl _ _ _ _ rfl 5 Try.underlying35 (by kernel_rfl) _ _ _ _ _ _ rfl rfl g 0 Z 49 GG.out C hmin (fun hp => ⟨rfl, HPOS.out hp⟩) (by omega) hone ?_)
  intro w3 G3 O3
  have H4 := Lib.hid (H3.out.only O3 h4)
  have hb3 := H4.out.lt
  have f4 := H4.out.unfrozen 1
  have c4 := H4.out.cellAt 1 (v := .int .i64 (l.length : Int)) rfl
  have OO := Lib.hid O3
  clear O3 c1 f1
  go_wp2
  go_ret
  refine ⟨rfl, ⟨b, g, rfl, rfl, ?_, ?_, hl, h4⟩, ?_⟩
  · have h := H4.out.set 1 (.int .i64 (xs.length : Int))
    first | exact h | (rw [hCl]; exact h)
  · have h := G3.out
    rw [hZC.out.1, hZC.out.2, splice_pad xs hl] at h
    exact Blk.set_ne h (fun e => h4 e.symm) _
  · exact Only.set ((O2.out.mono (S' := fun x => x = b ∨ x = g) (fun x hx => .inr hx)).trans (OO.out.mono (S' := fun x => x = b ∨ x = g) (fun x hx => .inr hx)) (fun x hx => .inl hx)) (.inl (.inl rfl)) _
theorem size1024 : (Try.prog.info? 49).map (·.size) = some 1024 := by kernel_rfl
theorem barr1024 (l : List UInt8) (h : l.length ≤ 1024) : (barr (pad l)).size = 1024 := by rw [barr_size, pad_len l h]
theorem barr0_1024 : (barr (List.replicate 1024 0)).size = 1024 := by rw [barr_size]; simp
set_option maxHeartbeats 1000000 in
theorem lookM_any (p : Value) (F : Nat → Prop) (s : Mst) (w : World) (h : MemP w p F s) : Calls Try.prog 19 #[p] w fun e w' => e = .returned (.agg (barr (pad s.bs))) ∧ Below w.heap.size w w' := by
  have H := Lib.hid h
  have hz := zero1024
  generalize hZ : barr (List.replicate 1024 0) = Z at hz
  have HZ := Lib.hid hZ
  have hZs : Z.size = 1024 := by rw [← hZ]; exact barr0_1024
  clear hZ
  have B0 : Blk (w.alloc (.cells Z 49)) w.heap.size 49 Z := Blk.new _ _ _
  cases s with
  | no =>
    have H2 := Lib.hid (H.out.keep ((Only.refl (fun _ => False) w).alloc (.cells Z 49)) (fun _ _ h => h))
    clear h
    go_enter Try.func19, Try.ntmps19
    go_wp2_with fail
    refine (isM_any p F _ _ H2.out).mono ?_
    rintro e w' ⟨rfl, rfl⟩
    go_wp2_with (first | ((with_reducible change wpList _ _ _ (Oper.mk _ (Op.store 49 _ _) _ _ _ _ :: _) _ _); refine wpList_store_blk (ty := 49) w.heap.size Z rfl rfl B0 size1024 hZs hZs (by rw [← HZ.out]; exact barr_one _) ?_))
    refine bodyPost_ret (results_cell_blk rfl _ _ w.heap.size rfl (B0.row _) Try.underlying49 rfl size1024 hZs) rfl ⟨?_, ?_⟩
    · rw [← HZ.out, ← pad_nil]; rfl
    · exact below_row ((Below.refl w.heap.size w).alloc (Nat.le_refl _) _) (Nat.le_refl _) _
  | raw =>
    have H2 := Lib.hid (H.out.keep ((Only.refl (fun _ => False) w).alloc (.cells Z 49)) (fun _ _ h => h))
    clear h
    go_enter Try.func19, Try.ntmps19
    go_wp2_with fail
    refine (isM_any p F _ _ H2.out).mono ?_
    rintro e w' ⟨rfl, rfl⟩
    go_wp2_with (first | ((with_reducible change wpList _ _ _ (Oper.mk _ (Op.store 49 _ _) _ _ _ _ :: _) _ _); refine wpList_store_blk (ty := 49) w.heap.size Z rfl rfl B0 size1024 hZs hZs (by rw [← HZ.out]; exact barr_one _) ?_))
    refine bodyPost_ret (results_cell_blk rfl _ _ w.heap.size rfl (B0.row _) Try.underlying49 rfl size1024 hZs) rfl ⟨?_, ?_⟩
    · rw [← HZ.out, ← pad_nil]; rfl
    · exact below_row ((Below.refl w.heap.size w).alloc (Nat.le_refl _) _) (Nat.le_refl _) _
  | is l =>
    have H2 := Lib.hid (H.out.keep ((Only.refl (fun _ => False) w).alloc (.cells Z 49)) (fun _ _ h => h))
    obtain ⟨b, g, rfl, rfl, h1, h2, h3, h4⟩ := h
    have c0 := h1.cellAt 0 (v := .pointer (some ⟨g, 0, none⟩)) rfl
    have hb := h1.lt
    have hg := h2.lt
    have hl := barr1024 l h3
    have hone := barr_one (pad l)
    have G := Lib.hid (h2.alloc (.cells Z 49))
    generalize hL : barr (pad l) = L at hl hone
    have HL := Lib.hid hL
    rw [hL] at G
    clear h2 h1 hL
    go_enter Try.func19, Try.ntmps19
    go_wp2_with fail
    refine (isM_any _ _ _ _ H2.out).mono ?_
    rintro e w' ⟨rfl, rfl⟩
    go_wp2_with (first | ((with_reducible change wpList _ _ _ (Oper.mk _ (Op.load 49 _) _ _ _ _ :: _) _ _); refine wpList_load_blk (ty := 49) g rfl G.out Try.underlying49 rfl size1024 hl ?_) | ((with_reducible change wpList _ _ _ (Oper.mk _ (Op.store 49 _ _) _ _ _ _ :: _) _ _); refine wpList_store_blk (ty := 49) w.heap.size L rfl rfl B0 size1024 hl hZs hone ?_))
    refine bodyPost_ret (results_cell_blk rfl _ _ w.heap.size rfl (B0.row _) Try.underlying49 rfl size1024 hl) rfl ⟨?_, ?_⟩
    · rw [← HL.out]; rfl
    · exact below_row ((Below.refl w.heap.size w).alloc (Nat.le_refl _) _) (Nat.le_refl _) _
set_option maxHeartbeats 1000000 in
theorem lenM_any (p : Value) (F : Nat → Prop) (s : Mst) (w : World) (h : MemP w p F s) : Calls Try.prog 21 #[p] w fun e w' => e = .returned (.int .i64 (s.bs.length : Int)) ∧ w = w' := by
  have H := Lib.hid h
  cases s with
  | no =>
    clear h
    go_enter Try.func21, Try.ntmps21
    go_wp2_with fail
    refine (isM_any p F _ _ H.out).mono ?_
    rintro e w' ⟨rfl, rfl⟩
    go_wp2
    go_ret
    exact ⟨rfl, rfl⟩
  | raw =>
    clear h
    go_enter Try.func21, Try.ntmps21
    go_wp2_with fail
    refine (isM_any p F _ _ H.out).mono ?_
    rintro e w' ⟨rfl, rfl⟩
    go_wp2
    go_ret
    exact ⟨rfl, rfl⟩
  | is l =>
    obtain ⟨b, g, rfl, rfl, h1, h2, h3, h4⟩ := h
    have c0 := h1.cellAt 1 (v := .int .i64 (l.length : Int)) rfl
    have hb := h1.lt
    clear h1 h2
    go_enter Try.func21, Try.ntmps21
    go_wp2_with fail
    refine (isM_any _ _ _ _ H.out).mono ?_
    rintro e w' ⟨rfl, rfl⟩
    go_wp2
    go_ret
    exact ⟨rfl, rfl⟩
set_option maxHeartbeats 1000000 in
theorem wipeM_no (p : Value) (F : Nat → Prop) (s : Mst) (u : Value) (w : World) (h : MemP w p F s) (hs : s.made = false) : Calls Try.prog 23 #[p, u] w fun e w' => e = .returned (.int .i64 1) ∧ w = w' := by
  have H := Lib.hid h
  clear h
  go_enter Try.func23, Try.ntmps23
  go_wp2_with fail
  refine (isM_any p F s _ H.out).mono ?_
  rintro e w' ⟨he, rfl⟩
  rw [hs] at he
  subst he
  go_wp2
  go_ret
  exact ⟨rfl, rfl⟩
set_option maxHeartbeats 1000000 in
theorem wipeM_any (p : Value) (F : Nat → Prop) (l : List UInt8) (q : Value) (G : Nat → Prop) (o : Option (List Rn)) (w : World) (h : MemP w p F (.is l)) (hq : LgP w q G o) (hb : Room o 1) (hFG : ∀ x, F x → ¬ G x) :
    Calls Try.prog 23 #[p, q] w fun e w' => e = .returned (.int .i64 0) ∧ MemP w' p F (.is []) ∧ ∃ G', LgP w' q G' (noteO o 8 1024 1) ∧ Only (fun x => F x ∨ G x) w w' ∧ ∀ x, G' x → G x ∨ w.heap.size ≤ x := by
  have H := Lib.hid h
  have HQ := Lib.hid hq
  obtain ⟨b, g, rfl, rfl, h1, h2, h3, h4⟩ := h
  have c0 := h1.cellAt 0 (v := .pointer (some ⟨g, 0, none⟩)) rfl
  have hbl := h1.lt
  have hg := h2.lt
  have H1 := Lib.hid h1
  have H2 := Lib.hid h2
  have HF := Lib.hid hFG
  clear h1 h2 hFG hq
  go_enter Try.func23, Try.ntmps23
  go_wp2_with fail
  refine (isM_any _ _ _ _ H.out).mono ?_
  rintro e w' ⟨rfl, rfl⟩
  go_wp2_with fail
  have hw : OT 49 w (.slice (some ⟨g, 0, none⟩) (pad l).length 1024) (pad l) := by
    have := H2.out.owns (by rw [pad_len l h3]; omega)
    rw [show (pad l).length = 1024 from pad_len l h3] at this ⊢
    exact this
  refine (wipeT_any 49 _ G o g 0 1024 1024 1024 (pad l) _ HQ.out hb hw (by rw [pad_len l h3]; omega) (HF.out g (.inr rfl)) (by rw [pad_len l h3]; omega)).mono ?_
  rintro e w2 ⟨rfl, w1, q1, q2, G', q3, q4, q5⟩
  rw [wiped_pad l h3, show (pad l).length = 1024 from pad_len l h3] at q1
  have b1 : Blk w1 g 49 (barr (List.replicate 1024 0)) := Blk.of_owns (by rw [List.length_replicate]; exact q1)
  have H3 := Lib.hid (b1.only q4 (HF.out g (.inr rfl)))
  have h5 : Blk w1 b 31 #[.pointer (some ⟨g, 0, none⟩), .int .i64 (l.length : Int)] := H1.out.only q2 h4
  have h6 := h5.only q4 (HF.out b (.inl rfl))
  have H4 := Lib.hid h6
  have hb2 := h6.lt
  have c1 := h6.cellAt 1 (v := .int .i64 (l.length : Int)) rfl
  have f1 := h6.unfrozen 1
  have HL : Hid (∃ G', LgP w2 q G' (noteO o 8 1024 1) ∧ Only (fun x => (x = b ∨ x = g) ∨ G x) w w2 ∧ ∀ x, G' x → G x ∨ w.heap.size ≤ x) :=
    ⟨G', q3, (q2.mono (S' := fun x => (x = b ∨ x = g) ∨ G x) (fun x hx => .inl (.inr hx))).trans (q4.mono (S' := fun x => (x = b ∨ x = g) ∨ G x) (fun x hx => .inr hx)) (fun x hx => .inl hx), fun x hx => (q5 x hx).imp id (fun hh => Nat.le_trans q2.size hh)⟩
  clear h5 h6 hw b1 q1 q2 q3 q4 q5
  go_wp2
  go_ret
  obtain ⟨G', q3, q4, q5⟩ := HL.out
  refine ⟨rfl, ⟨b, g, rfl, rfl, ?_, ?_, by simp, h4⟩, G', ?_, ?_, q5⟩
  · exact H4.out.set 1 (.int .i64 0)
  · rw [pad_nil]
    exact H3.out.set_ne (fun e => h4 e.symm) _
  · refine q3.keep (Only.set (S := fun x => x = b) (Only.refl _ _) (.inl rfl) _) (fun x hx hh => ?_)
    subst hh
    rcases q5 x hx with hh | hh
    · exact HF.out x (.inl rfl) hh
    · omega
  · exact Only.set q4 (.inl (.inl (.inl rfl))) _
set_option maxHeartbeats 1000000 in
theorem bytesM_no (p : Value) (F : Nat → Prop) (s : Mst) (w : World) (h : MemP w p F s) (hs : s.made = false) : Calls Try.prog 16 #[p] w fun e w' => e = .returned (.slice none 0 0) ∧ w = w' := by
  have H := Lib.hid h
  clear h
  go_enter Try.func16, Try.ntmps16
  go_wp2_with fail
  refine (isM_any p F s _ H.out).mono ?_
  rintro e w' ⟨he, rfl⟩
  rw [hs] at he
  subst he
  go_wp2
  go_ret
  exact ⟨rfl, rfl⟩
theorem slice1024 (g n : Nat) (h : n ≤ 1024) (W : World) : (Instr.sliceAt 49 (.pointer (some ⟨g, 0, none⟩)) none (some (.int .i64 (n : Int))) none).run Try.prog W = .ok (.slice (some ⟨g, 0, none⟩) n 1024) W := by
  have hal : Try.prog.arrayLen 49 = 1024 := by kernel_rfl
  rw [run_sliceAt_array_h W 49 ⟨g, 0, none⟩ (by simp [Program.arrayLen, Program.elem, Try.underlying49]) .i64 (n : Int) (by omega) (by rw [hal]; omega)]
  go_simp
set_option maxHeartbeats 1000000 in
theorem bytesM_any (p : Value) (F : Nat → Prop) (l : List UInt8) (w : World) (h : MemP w p F (.is l)) : Calls Try.prog 16 #[p] w (NewBytes l w) := by
  have H := Lib.hid h
  obtain ⟨b, g, rfl, rfl, h1, h2, h3, h4⟩ := h
  have c0 := h1.cellAt 0 (v := .pointer (some ⟨g, 0, none⟩)) rfl
  have c1 := h1.cellAt 1 (v := .int .i64 (l.length : Int)) rfl
  have hbl := h1.lt
  have hg := h2.lt
  have H2 := Lib.hid h2
  have hsl := slice1024 g l.length h3
  clear h1 h2
  go_enter Try.func16, Try.ntmps16
  go_wp2_with fail
  refine (isM_any _ _ _ _ H.out).mono ?_
  rintro e w' ⟨rfl, rfl⟩
  go_wp2_with fail
  refine wp_region_tame (fun w' => w' = w.drewN 1) 0 10 (by kernel_rfl) (by kernel_rfl) (fun _ _ d _ _ h => (by cases d <;> exact h)) rfl (by decide) ?_
  simp only [List.take_succ_cons, List.take_zero, List.drop_succ_cons, List.drop_zero]
  refine wpPre_nil ?_
  refine wpTame_run (v := ?_) (by decide) rfl (fun w' hS => ?_) ?_
  rotate_left
  focus (subst hS; go_simp; try rfl; done)
  simp only [Act.put, List.setIfInBounds_toArray, List.set_cons_zero, List.set_cons_succ]
  refine wpTame_run (v := ?_) (by decide) rfl (fun w' hS => ?_) ?_
  rotate_left
  focus (subst hS; go_simp; try rfl; done)
  simp only [Act.put, List.setIfInBounds_toArray, List.set_cons_zero, List.set_cons_succ]
  refine wpTame_run (v := ?_) (by decide) rfl (fun w' hS => ?_) ?_
  rotate_left
  focus (subst hS; go_simp; try rfl; done)
  simp only [Act.put, List.setIfInBounds_toArray, List.set_cons_zero, List.set_cons_succ]
  refine wpTame_run (v := ?_) (by decide) rfl (fun w' hS => ?_) ?_
  rotate_left
  focus (subst hS; go_simp; try rfl; done)
  simp only [Act.put, List.setIfInBounds_toArray, List.set_cons_zero, List.set_cons_succ]
  refine wpTame_run (v := ?_) (by decide) rfl (fun w' hS => ?_) ?_
  rotate_left
  focus (subst hS; go_simp; try rfl; done)
  simp only [Act.put, List.setIfInBounds_toArray, List.set_cons_zero, List.set_cons_succ]
  refine wpTame_run (v := ?_) (by decide) rfl (fun w' hS => ?_) ?_
  rotate_left
  focus (subst hS; go_simp; try rfl; done)
  simp only [Act.put, List.setIfInBounds_toArray, List.set_cons_zero, List.set_cons_succ]
  refine wpTame_run (v := ?_) (by decide) rfl (fun w' hS => ?_) ?_
  rotate_left
  focus (subst hS; go_simp; try rfl; done)
  simp only [Act.put, List.setIfInBounds_toArray, List.set_cons_zero, List.set_cons_succ]
  refine wpTame_run (v := ?_) (by decide) rfl (fun w' hS => ?_) ?_
  rotate_left
  focus (subst hS; go_simp; try rfl; done)
  simp only [Act.put, List.setIfInBounds_toArray, List.set_cons_zero, List.set_cons_succ]
  refine wpTame_run (v := ?_) (by decide) rfl (fun w' hS => ?_) ?_
  rotate_left
  focus (subst hS; go_simp; try rfl; done)
  simp only [Act.put, List.setIfInBounds_toArray, List.set_cons_zero, List.set_cons_succ]
  refine wpTame_run (v := ?_) (by decide) rfl (fun w' hS => ?_) ?_
  rotate_left
  focus (subst hS; go_simp; try rfl; done)
  simp only [Act.put, List.setIfInBounds_toArray, List.set_cons_zero, List.set_cons_succ]
  refine wpTame_nil ?_
  intro w5 hw'
  have H5 : Hid (Blk w5 g 49 (barr (pad l))) := by rw [hw']; exact Lib.hid (H2.out.draw 1)
  have hu : Bs w5 (.slice (some ⟨g, 0, none⟩) l.length 1024) l := by
    have h := (H5.out.owns (by rw [pad_len l h3]; omega)).rd
    rw [show (pad l).length = 1024 from pad_len l h3] at h
    have h2 := Bs.take (l := pad l) h l.length (by rw [pad_len l h3]; exact h3)
    rw [pad_take] at h2
    exact h2
  obtain ⟨i0, hi, hz0, hz1, hz2⟩ := info_parts info8
  have hy := Sl.of_bytes hu
  have hown0 : w5.ownsRow 0 5 1 (.slice none 0 0) 0 [] := World.ownsRow_nil w5 0 _ 1
  have hw5 : Hid (w5 = w.drewN 1) := hw'
  clear hu hw'
  go_wp2_with (at_builtin; refine wpList_append_sl _ rfl _ _ 35 rfl 5 i0 _ 1 1 Try.underlying35 hi hz0 hz1 hz2 rfl (by decide) (.slice none 0 0) 0 [] rfl hown0 (.slice (some ⟨g, 0, none⟩) l.length 1024) l.length (l.map B) rfl hy (bl0 (by omega)) (bb0 (by omega)) ?_)
  intro v' w1 hown hgrow hat
  have HN : Hid (NewBytes l w (.returned v') w1) := by
    rw [hw5.out] at hgrow hat
    refine ⟨v', rfl, ?_, Below.grown (w := w.drewN 1) ⟨rfl, rfl, rfl, Nat.le_refl _, fun _ _ => rfl⟩ hgrow (Nat.le_refl _) (fun k hk => by simp [Value.ownBlock] at hk), ?_⟩
    · unfold OB
      simpa using hown
    · intro x hx
      have hx' : v'.ownBlock = some x := hx
      rcases hat with hat | hat
      · rw [hat] at hx'; simp [Value.ownBlock] at hx'
      · rw [hat] at hx'; simp at hx'; omega
  clear hown hgrow hat hown0 hy hi hz0 hz1 hz2
  go_wp2
  go_ret
  exact HN.out
end Go.Proofs.Ytaphjdfpffhpfaa
