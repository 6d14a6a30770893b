/- The document's memories (turnkeyref18): contracts over a law's things. -/
import Derived.Test.YtaphjdfpffhpfaaRows
import Derived.Test.YtaphjdfpffhpfaaSlotNil
import Derived.Test.YtaphjdfpffhpfaaSlotLast
namespace Go.Proofs.Ytaphjdfpffhpfaa
open Go.RowKit
set_option maxRecDepth 100000
set_option linter.unusedVariables false
set_option linter.unusedSimpArgs false

/-- the document's memory: nil, or a block with a list and a mark -/
def NemP (w : World) (p : Value) (F : Nat → Prop) (s : Mst) : Prop :=
  (s = .no ∧ p = .pointer none ∧ F = fun _ => False) ∨
  (s ≠ .no ∧ ∃ b v, p = .pointer (some ⟨b, 0, none⟩) ∧ F = (fun x => x = b ∨ fpv v x) ∧ Blk w b 37 #[v, .bool s.made] ∧ OB w v s.bs ∧ s.bs.length ≤ 1024 ∧ ¬ fpv v b)
def obN (p : Value) (s : Mst) : Ob where
  at' w F := NemP w p F s
  keep h ho hd := by
    rcases h with ⟨h1, h2, h3⟩ | ⟨h1, b, v, h2, rfl, h3, h4, h5, h6⟩
    · exact .inl ⟨h1, h2, h3⟩
    · exact .inr ⟨h1, b, v, h2, rfl, h3.only ho (hd b (.inl rfl)), h4.keep ho (fun x hx => hd x (.inr hx)), h5, h6⟩
  lt h := by
    rcases h with ⟨h1, h2, rfl⟩ | ⟨h1, b, v, h2, rfl, h3, h4, h5, h6⟩
    · exact fun _ h => h.elim
    · rintro x (rfl | hx)
      · exact h3.lt
      · exact h4.lt x hx
theorem nem_cases {w : World} {p : Value} {F : Nat → Prop} {s : Mst} (h : NemP w p F s) : (s = .no ∧ p = .pointer none) ∨ (∃ b ao cap, p = .pointer (some ⟨b, 0, none⟩) ∧ Blk w b 37 #[.slice ao s.bs.length cap, .bool s.made] ∧ OB w (.slice ao s.bs.length cap) s.bs ∧ s.bs.length ≤ 1024 ∧ F = (fun x => x = b ∨ fpv (.slice ao s.bs.length cap) x) ∧ s ≠ .no) := by
  rcases h with ⟨h1, h2, h3⟩ | ⟨h1, b, v, h2, h3, h4, h5, h6, h7⟩
  · exact .inl ⟨h1, h2⟩
  · obtain ⟨ao, cap, rfl⟩ := h5.any
    exact .inr ⟨b, ao, cap, h2, h4, h5, h6, h3, h1⟩
section
variable {w0 w : World} {obs : List Ob}
theorem Env.nem (h : Env w0 w obs) (i : Nat) {p : Value} {s : Mst} (hi : obs[i]? = some (obN p s)) :
    ∃ F, NemP w p F s ∧ (∀ x, x < w0.heap.size → ¬ F x) ∧ ∀ w' F' s', NemP w' p F' s' → Only F w w' → (∀ x, F' x → F x ∨ w.heap.size ≤ x) → Env w0 w' (obs.set i (obN p s')) := by
  obtain ⟨F, h1, h2, _, h4⟩ := h.get i hi
  exact ⟨F, h1, h2, fun w' F' s' => h4 w' F' (obN p s')⟩
theorem newN_env (h : Env w0 w obs) : Calls Try.prog 10 #[] w fun e w' => ∃ p : Nat, e = .returned (.pointer (some ⟨p, 0, none⟩)) ∧ Env w0 w' (obs ++ [obN (.pointer (some ⟨p, 0, none⟩)) (.is [])]) := by
  have HE := Lib.hid h
  clear h
  go_enter Try.func10, Try.ntmps10
  go_wp2
  go_ret
  refine ⟨_, rfl, HE.out.push (F' := fun x => x = w.heap.size ∨ fpv (.slice none 0 0) x) (obN _ (.is [])) (.inr ⟨by simp, w.heap.size, .slice none 0 0, rfl, rfl, Blk.new _ _ _, OB.nil _, by simp [Mst.bs], by simp [fpv, Value.ownBlock]⟩) ((Below.refl _ _).alloc (Nat.le_refl _) _) ?_⟩
  rintro x (rfl | hx)
  · exact Nat.le_refl _
  · simp [fpv, Value.ownBlock] at hx
theorem lenN_env (h : Env w0 w obs) (i : Nat) {p : Value} {s : Mst} (hi : obs[i]? = some (obN p s)) :
    Calls Try.prog 22 #[p] w fun e w' => e = .returned (.int .i64 (s.bs.length : Int)) ∧ w = w' := by
  obtain ⟨F, f1, _⟩ := h.nem i hi
  rcases nem_cases f1 with ⟨rfl, rfl⟩ | ⟨b, ao, cap, rfl, h1, h2, h3, h4, h5⟩
  · go_enter Try.func22, Try.ntmps22
    go_wp2
    go_ret
    exact ⟨rfl, rfl⟩
  · have c0 := h1.cellAt 0 (v := .slice ao s.bs.length cap) rfl
    have hb := h1.lt
    have H := Lib.hid h
    clear h f1 h1 h2 h3 h4 h5 hi
    go_enter Try.func22, Try.ntmps22
    go_wp2
    go_ret
    exact ⟨rfl, rfl⟩
set_option maxHeartbeats 1000000 in
theorem bytesN_env (h : Env w0 w obs) (i : Nat) {p : Value} {s : Mst} (hi : obs[i]? = some (obN p s)) :
    Calls Try.prog 17 #[p] w fun e w' => ∃ v, e = .returned v ∧ Env w0 w' (obs ++ [obB v s.bs]) := by
  obtain ⟨F, f1, _⟩ := h.nem i hi
  rcases nem_cases f1 with ⟨rfl, rfl⟩ | ⟨b, ao, cap, rfl, h1, h2, h3, h4, h5⟩
  · have H := Lib.hid h
    clear h
    go_enter Try.func17, Try.ntmps17
    go_wp2
    go_ret
    exact ⟨_, rfl, H.out.pushB (OB.nil w) (Below.refl _ _) (fun x hx => by simp [fpv, Value.ownBlock] at hx)⟩
  · have c0 := h1.cellAt 0 (v := .slice ao s.bs.length cap) rfl
    have hb := h1.lt
    have hy := Sl.of_bytes h2.rd
    have H := Lib.hid h
    obtain ⟨i0, hi0, hz0, hz1, hz2⟩ := info_parts info8
    have hown0 : w.ownsRow 0 5 1 (.slice none 0 0) 0 [] := World.ownsRow_nil w 0 _ 1
    have hxl : s.bs.length ≤ 140737488355328 := by omega
    clear h f1 h1 h2 h4 h5 hi
    go_enter Try.func17, Try.ntmps17
    go_wp2_with (at_builtin; refine wpList_append_sl _ rfl _ _ 35 rfl 5 i0 _ 1 1 Try.underlying35 hi0 hz0 hz1 hz2 rfl (by decide) (.slice none 0 0) 0 [] rfl hown0 (.slice ao s.bs.length cap) s.bs.length (s.bs.map B) rfl hy (bl0 hxl) (bb0 hxl) ?_)
    intro v' w1 hown hgrow hat
    have hOB : OB w1 v' s.bs := by
      unfold OB
      simpa using hown
    have HE : Hid (Env w0 w1 (obs ++ [obB v' s.bs])) := by
      refine Lib.hid (H.out.pushB hOB ((Below.refl w.heap.size w).grown hgrow (Nat.le_refl _) (fun k hk => by simp [Value.ownBlock] at hk)) (fun x hx => ?_))
      have hx' : v'.ownBlock = some x := hx
      rcases hat with hat | hat
      · rw [hat] at hx'; simp [Value.ownBlock] at hx'
      · rw [hat] at hx'; simp at hx'; omega
    clear hown hgrow hat hown0 hy hi0 hz0 hz1 hz2 hOB
    go_wp2
    go_ret
    exact ⟨_, rfl, HE.out⟩
set_option maxHeartbeats 2000000 in
theorem putN_env (h : Env w0 w obs) (i : Nat) {p : Value} {s : Mst} (hi : obs[i]? = some (obN p s)) {u : Value} {xs : List UInt8} (hu : Bs w u xs) :
    Calls Try.prog 14 #[p, u] w fun e w' => e = .returned (.int .i64 (putC s xs)) ∧ Env w0 w' (obs.set i (obN p (putS s xs))) := by
  obtain ⟨F, f1, f2, f3⟩ := h.nem i hi
  obtain ⟨uo, uc, rfl, k1, k2, _, _⟩ := hu.form
  have hul : xs.length ≤ 9223372036854775807 := by omega
  rcases nem_cases f1 with ⟨rfl, rfl⟩ | ⟨b, ao, cap, rfl, h1, h2, h3, rfl, h5⟩
  · have H : Hid (Env w0 w (obs.set i (obN (.pointer none) .no))) := by rw [set_same obs i _ hi]; exact Lib.hid h
    clear h f1 f2 f3 hu
    go_enter Try.func14, Try.ntmps14
    go_wp2
    go_ret
    exact ⟨rfl, H.out⟩
  · have c1 := h1.cellAt 1 (v := .bool s.made) rfl
    have c0 := h1.cellAt 0 (v := .slice ao s.bs.length cap) rfl
    have g0 := h1.unfrozen 0
    have hb := h1.lt
    cases s with
    | no => exact absurd rfl h5
    | raw =>
      have H : Hid (Env w0 w (obs.set i (obN (.pointer (some ⟨b, 0, none⟩)) .raw))) := by rw [set_same obs i _ hi]; exact Lib.hid h
      clear h f1 f2 f3 hu h1 h2 h3 h5
      go_enter Try.func14, Try.ntmps14
      go_wp2
      go_ret
      exact ⟨rfl, H.out⟩
    | is l =>
      by_cases hl : xs.length ≤ 1024
      · rw [putC_fit _ _ rfl hl, putS_fit _ _ rfl hl]
        have t1 : decide ((1024 : Int) < (xs.length : Int)) = false := by rw [decide_eq_false_iff_not]; omega
        have hy := Sl.of_bytes hu
        obtain ⟨i0, hi0, hz0, hz1, hz2⟩ := info_parts info8
        have hown0 : w.ownsRow 0 5 1 (.slice none 0 0) 0 [] := World.ownsRow_nil w 0 _ 1
        have hxl : xs.length ≤ 140737488355328 := by omega
        have H1 := Lib.hid h1
        have F3 := Lib.hid f3
        have HXL := Lib.hid hl
        clear h f1 f2 f3 hu h1 h2 h3 h5 hl
        go_enter Try.func14, Try.ntmps14
        go_wp2_with (at_builtin; refine wpList_append_sl _ rfl _ _ 35 rfl 5 i0 _ 1 1 Try.underlying35 hi0 hz0 hz1 hz2 rfl (by decide) (.slice none 0 0) 0 [] rfl hown0 (.slice uo xs.length uc) xs.length (xs.map B) rfl hy (bl0 hxl) (bb0 hxl) ?_)
        intro v' w1 hown hgrow hat
        have hOB : OB w1 v' xs := by
          unfold OB
          simpa using hown
        have hw1 : Below w.heap.size w w1 := (Below.refl w.heap.size w).grown hgrow (Nat.le_refl _) (fun k hk => by simp [Value.ownBlock] at hk)
        have hnew : ∀ x, fpv v' x → w.heap.size ≤ x := fun x hx => by
          have hx' : v'.ownBlock = some x := hx
          rcases hat with hat | hat
          · rw [hat] at hx'; simp [Value.ownBlock] at hx'
          · rw [hat] at hx'; simp at hx'; omega
        obtain ⟨vo, vc, rfl⟩ := hOB.any
        have B1 : Blk w1 b 37 #[.slice ao (Mst.is l).bs.length cap, .bool true] := H1.out.below hw1 hb
        have hres : Hid (Env w0 (w1.setCell ⟨b, 0, none⟩ (.slice vo xs.length vc)) (obs.set i (obN (.pointer (some ⟨b, 0, none⟩)) (.is xs)))) := by
          have ho1 : Only (fun x => x = b) w w1 := Only.of_below hw1 _
          refine Lib.hid (F3.out _ (fun x => x = b ∨ fpv (.slice vo xs.length vc) x) (.is xs) (.inr ⟨by simp, b, _, rfl, rfl, B1.set 0 (.slice vo xs.length vc), hOB.keep ((Only.refl (fun x => x = b) w1).set (p := ⟨b, 0, none⟩) (Or.inl rfl) _) (fun x hx hxb => ?_), HXL.out, fun hx => ?_⟩) ((ho1.set (p := ⟨b, 0, none⟩) (Or.inl rfl) _).mono (fun x hx => .inl hx)) (fun x hx => ?_))
          · have := hnew x hx
            omega
          · have := hnew b hx
            omega
          · rcases hx with hx | hx
            · exact .inl (.inl hx)
            · exact .inr (hnew x hx)
        have e0 := B1.cellAt 0 (v := .slice ao (Mst.is l).bs.length cap) rfl
        have e1 := B1.unfrozen 0
        clear hown hgrow hat hown0 hy hi0 hz0 hz1 hz2 hOB hnew c0 c1 g0 B1 hw1
        go_wp2_with fail
        go_ret
        exact ⟨rfl, hres.out⟩
      · rw [putC_long _ _ rfl (by omega), putS_long _ _ rfl (by omega)]
        have t1 : decide ((1024 : Int) < (xs.length : Int)) = true := by rw [decide_eq_true_eq]; omega
        have H : Hid (Env w0 w (obs.set i (obN (.pointer (some ⟨b, 0, none⟩)) (.is l)))) := by rw [set_same obs i _ hi]; exact Lib.hid h
        clear h f1 f2 f3 hu h1 h2 h3 h5 hl
        go_enter Try.func14, Try.ntmps14
        go_wp2
        go_ret
        exact ⟨rfl, H.out⟩
set_option maxHeartbeats 2000000 in
theorem lookN_env (h : Env w0 w obs) (i : Nat) {p : Value} {s : Mst} (hi : obs[i]? = some (obN p s)) :
    Calls Try.prog 20 #[p] w fun e w' => e = .returned (.agg (barr (pad s.bs))) ∧ Env w0 w' obs := by
  obtain ⟨F, f1, _⟩ := h.nem i hi
  have H := Lib.hid h
  have hz := zero1024
  generalize hZ : barr (List.replicate 1024 0) = Z at hz
  have HZ := Lib.hid hZ
  have hZs : Z.size = 1024 := by rw [← hZ]; exact barr0_1024
  clear hZ
  have B1 : Blk ((w.alloc (.cells Z 49)).alloc (.cells Z 49)) w.heap.size 49 Z := (Blk.new _ _ _).alloc _
  have B2 : Blk ((w.alloc (.cells Z 49)).alloc (.cells Z 49)) (w.heap.size + 1) 49 Z := Blk.at (by simp) rfl
  have hbw : Below w.heap.size w ((w.alloc (.cells Z 49)).alloc (.cells Z 49)) := ((Below.refl _ _).alloc (Nat.le_refl _) _).alloc (by simp) _
  have hl0 : s.bs.length ≤ 1024 := by
    rcases nem_cases f1 with ⟨rfl, rfl⟩ | ⟨b, ao, cap, rfl, h1, h2, h3, h4, h5⟩
    · simp [Mst.bs]
    · exact h3
  have START : Hid (Blk ((w.alloc (.cells Z 49)).alloc (.cells Z 49)) w.heap.size 49 Z ∧ Blk ((w.alloc (.cells Z 49)).alloc (.cells Z 49)) (w.heap.size + 1) 49 (barr (fillTo (pad s.bs) 0)) ∧ Below w.heap.size w ((w.alloc (.cells Z 49)).alloc (.cells Z 49))) := by
    rw [fill_zero _ hl0, HZ.out]
    exact Lib.hid ⟨B1, B2, hbw⟩
  clear B1 B2 hbw
  rcases nem_cases f1 with ⟨rfl, rfl⟩ | ⟨b, ao, cap, rfl, h1, h2, h3, h4, h5⟩
  · clear h f1
    go_enter Try.func20, Try.ntmps20
    go_wp2_with fail
    go_loopw [4] (fun iv wx => iv = .int .i64 0 ∧ Hid (Blk wx w.heap.size 49 Z ∧ Blk wx (w.heap.size + 1) 49 (barr (fillTo (pad []) 0)) ∧ Below w.heap.size w wx)) (fun _ _ => 0)
    case atStart => exact ⟨rfl, START⟩
    case round =>
      obtain ⟨rfl, HS⟩ := hrel
      have hs := HS.out
      rw [fill_zero [] (by simp), HZ.out] at hs
      obtain ⟨b1, b2, b3⟩ := hs
      clear START HS
      go_wp2_with (first | ((with_reducible change wpList _ _ _ (Oper.mk _ (Op.load 49 _) _ _ _ _ :: _) _ _); refine wpList_load_blk (ty := 49) (w.heap.size + 1) rfl b2 Try.underlying49 rfl size1024 hZs ?_) | ((with_reducible change wpList _ _ _ (Oper.mk _ (Op.store 49 _ _) _ _ _ _ :: _) _ _); refine wpList_store_blk (ty := 49) w.heap.size Z rfl rfl b1 size1024 hZs hZs (by rw [← HZ.out]; exact barr_one _) ?_))
      refine bodyPost_ret (results_cell_blk rfl _ _ w.heap.size rfl (b1.row _) Try.underlying49 rfl size1024 hZs) rfl ⟨?_, ?_⟩
      · rw [← HZ.out, ← pad_nil]; rfl
      · exact H.out.below (below_row b3 (Nat.le_refl _) _)
  · have c0' := h1.cellAt 0 (v := .slice ao s.bs.length cap) rfl
    have hb := h1.lt
    have HR := Lib.hid h2.rd
    have HC := Lib.hid c0'
    have hla : s.bs.length ≤ 9223372036854775807 := by omega
    obtain ⟨L, hL⟩ : ∃ L, s.bs = L := ⟨_, rfl⟩
    rw [hL] at START HR HC hla hl0 ⊢
    clear h f1 h1 h2 h3 h4 h5 c0' hL hi
    go_enter Try.func20, Try.ntmps20
    go_wp2_with fail
    go_loopw [4] (fun iv wx => ∃ k : Nat, k ≤ L.length ∧ iv = .int .i64 (k : Int) ∧ Hid (Blk wx w.heap.size 49 Z ∧ Blk wx (w.heap.size + 1) 49 (barr (fillTo (pad L) k)) ∧ Below w.heap.size w wx)) (fun k _ => L.length - (intOf k).toNat)
    case atStart => exact ⟨0, Nat.zero_le _, rfl, START⟩
    case round =>
      obtain ⟨k, hk, rfl, HS⟩ := hrel
      have c0 : wr.cell? ⟨b, 0, none⟩ = some (.slice ao L.length cap) := (HS.out.2.2.cell hb).trans HC.out
      by_cases hk2 : k < L.length
      · have U := HR.out.grow HS.out.2.2
        obtain ⟨ao', cap', hv1, _, _, _, C1⟩ := U.form
        injection hv1 with e2 _ e3
        subst e2; subst e3
        obtain ⟨g1, off1, rfl, d1⟩ := C1 k hk2
        obtain ⟨b1, b2, b3⟩ := HS.out
        have hfl : (fillTo (pad L) k).length = 1024 := by rw [fillTo_len _ _ (by rw [pad_len L hl0]; omega), pad_len L hl0]
        have f2 := b2.unfrozen k
        obtain ⟨ov, co1⟩ : ∃ ov, wr.cell? ⟨w.heap.size + 1, k, none⟩ = some ov := ⟨_, b2.cellAt k (Array.getElem?_eq_getElem (by rw [barr_size, hfl]; omega))⟩
        have b4 := b2.set k (.int .u8 ((L.getD k 0).toNat : Int))
        rw [barr_set, fill_succ L hl0 k hk2] at b4
        have b5 := b1.set_ne (a := ⟨w.heap.size + 1, k, none⟩) (by simp) (.int .u8 ((L.getD k 0).toNat : Int))
        have b6 : Below w.heap.size w (wr.setCell ⟨w.heap.size + 1, k, none⟩ (.int .u8 ((L.getD k 0).toNat : Int))) := ((Only.of_below b3 (fun _ => False)).set (p := ⟨w.heap.size + 1, k, none⟩) (Or.inr (Nat.le_succ _)) _).below0 (fun _ _ h => h) (Nat.le_refl _)
        have HN := Lib.hid (And.intro b5 (And.intro b4 b6))
        generalize L.getD k 0 = z at d1 HN
        have bk : 0 ≤ (k : Int) ∧ (k : Int) < (L.length : Int) := by omega
        have bk2 : 0 ≤ (k : Int) ∧ (k : Int) < 1024 := by omega
        have t1 : decide ((k : Int) < (L.length : Int)) = true := by rw [decide_eq_true_eq]; omega
        clear U C1 b1 b2 b3 b4 b5 b6 hfl HS START
        go_upto_region 4 with fail
        generalize wr.setCell ⟨w.heap.size + 1, k, none⟩ (.int .u8 (z.toNat : Int)) = w9 at HN
        clear d1 co1 f2
        go_wp2_with fail
        go_roundw
        case rel => exact ⟨k + 1, by omega, by go_num, HN⟩
        case measure => simp [intOf]; omega
      · obtain rfl : k = L.length := by omega
        have hs := HS.out
        rw [fill_end L hl0] at hs
        obtain ⟨b1, b2, b3⟩ := hs
        have hl1 := barr1024 L hl0
        have hone := barr_one (pad L)
        generalize hY : barr (pad L) = Y at hl1 hone b2
        have HY := Lib.hid hY
        clear START HS hY
        go_wp2_with (first | ((with_reducible change wpList _ _ _ (Oper.mk _ (Op.load 49 _) _ _ _ _ :: _) _ _); refine wpList_load_blk (ty := 49) (w.heap.size + 1) rfl b2 Try.underlying49 rfl size1024 hl1 ?_) | ((with_reducible change wpList _ _ _ (Oper.mk _ (Op.store 49 _ _) _ _ _ _ :: _) _ _); refine wpList_store_blk (ty := 49) w.heap.size Y rfl rfl b1 size1024 hl1 hZs hone ?_))
        refine bodyPost_ret (results_cell_blk rfl _ _ w.heap.size rfl (b1.row _) Try.underlying49 rfl size1024 hl1) rfl ⟨?_, ?_⟩
        · rw [← HY.out]
        · exact H.out.below (below_row b3 (Nat.le_refl _) _)
theorem noteR_env (h : Env w0 w obs) (i : Nat) {p : Value} {o : Option (List Rn)} (hi : obs[i]? = some (obR p o)) (k s : Int) (hb : Room o 1) :
    Calls Try.prog 37 #[p, .agg #[.int .u8 k, .int .i64 s]] w fun e w' => e = .returned (.tuple #[]) ∧ Env w0 w' (obs.set i (obR p (noteO o k s 1))) := by
  obtain ⟨F, f1, f2, f3, f4⟩ := h.ledR i hi
  exact (gnoteR_any p F o k s w f1 hb).mono fun e w' ⟨he, hl⟩ => ⟨he, f4 w' _ hl⟩
set_option maxHeartbeats 2000000 in
theorem wipeN_env (h : Env w0 w obs) (i j : Nat) (hij : i ≠ j) {p q : Value} {s : Mst} {o : Option (List Rn)} (hi : obs[i]? = some (obN p s)) (hj : obs[j]? = some (obR q o)) (hb : Room o 1) :
    Calls Try.prog 24 #[p, q] w fun e w' => e = .returned (.int .i64 (wipeC s)) ∧ Env w0 w' ((obs.set i (obN p (wipeS s))).set j (obR q (noteC s.made o 8 1024))) := by
  obtain ⟨F, f1, _⟩ := h.nem i hi
  unfold wipeC wipeS noteC
  rcases nem_cases f1 with ⟨rfl, rfl⟩ | ⟨b, ao, cap, rfl, h1, h2, h3, h4, h5⟩
  · have H : Hid (Env w0 w ((obs.set i (obN (.pointer none) .no)).set j (obR q o))) := by
      rw [set_same obs i _ hi, set_same obs j _ hj]
      exact Lib.hid h
    clear h f1
    go_enter Try.func24, Try.ntmps24
    go_wp2
    go_ret
    exact ⟨rfl, H.out⟩
  · have c1 := h1.cellAt 1 (v := .bool s.made) rfl
    have hbl := h1.lt
    cases s with
    | no => exact absurd rfl h5
    | raw =>
      have H : Hid (Env w0 w ((obs.set i (obN (.pointer (some ⟨b, 0, none⟩)) .raw)).set j (obR q o))) := by
        rw [set_same obs i _ hi, set_same obs j _ hj]
        exact Lib.hid h
      clear h f1 h1 h2 h3 h4 h5
      go_enter Try.func24, Try.ntmps24
      go_wp2
      go_ret
      exact ⟨rfl, H.out⟩
    | is l =>
      simp only [Mst.made, if_true]
      have H := Lib.hid h
      have HIJ := Lib.hid (And.intro hi (And.intro hj hij))
      clear h f1 h1 h2 h3 h4 h5 hi hj hij
      go_enter Try.func24, Try.ntmps24
      go_wp2_with fail
      refine (noteR_env H.out j HIJ.out.2.1 8 1024 hb).mono ?_
      rintro e w2 ⟨rfl, h5⟩
      have hi2 : (obs.set j (obR q (noteO o 8 1024 1)))[i]? = some (obN (.pointer (some ⟨b, 0, none⟩)) (.is l)) := by
        rw [List.getElem?_set_ne (by have := HIJ.out.2.2; omega)]
        exact HIJ.out.1
      obtain ⟨F2, g1, g2, g3⟩ := h5.nem i hi2
      rcases nem_cases g1 with ⟨hh, _⟩ | ⟨b2, ao2, cap2, hb2, k1, k2, k3, k4, k5⟩
      · cases hh
      injection hb2 with hb2
      injection hb2 with hb2
      injection hb2 with hb2 _ _
      subst hb2
      have c0 := k1.cellAt 0 (v := .slice ao2 (Mst.is l).bs.length cap2) rfl
      have u0 := k1.unfrozen 0
      have hbl2 := k1.lt
      have HR : Hid (Env w0 (w2.setCell ⟨b, 0, none⟩ (.slice none 0 0)) ((obs.set i (obN (.pointer (some ⟨b, 0, none⟩)) (.is []))).set j (obR q (noteO o 8 1024 1)))) := by
        have := g3 (w2.setCell ⟨b, 0, none⟩ (.slice none 0 0)) (fun x => x = b ∨ fpv (.slice none 0 0) x) (.is []) (.inr ⟨by simp, b, _, rfl, rfl, k1.set 0 (.slice none 0 0), OB.nil _, by simp [Mst.bs], by simp [fpv, Value.ownBlock]⟩) (((Only.refl (fun x => x = b) w2).set (p := ⟨b, 0, none⟩) (Or.inl rfl) _).mono (fun x hx => by rw [k4]; exact .inl hx)) (fun x hx => by
          rcases hx with hx | hx
          · exact .inl (by rw [k4]; exact .inl hx)
          · simp [fpv, Value.ownBlock] at hx)
        rw [List.set_comm _ _ (by have := HIJ.out.2.2; omega)] at this
        exact Lib.hid this
      clear g1 g2 g3 k1 k2 k3 k4 k5 h5 hi2 c1 H
      go_wp2_with fail
      go_ret
      exact ⟨rfl, HR.out⟩
set_option maxHeartbeats 2000000 in
theorem sameN_env (h : Env w0 w obs) (i j k : Nat) (hik : i ≠ k) (hjk : j ≠ k) {p r q : Value} {s t : Mst} {o : Option (List Rn)} (hi : obs[i]? = some (obN p s)) (hj : obs[j]? = some (obN r t)) (hk : obs[k]? = some (obR q o)) (hb : Room o 1) :
    Calls Try.prog 26 #[q, p, r] w fun e w' => e = .returned (.bool (sameC s t)) ∧ Env w0 w' (obs.set k (obR q (noteC (s.made && t.made) o 6 1024))) := by
  obtain ⟨F, f1, _⟩ := h.nem i hi
  obtain ⟨G, g1, _⟩ := h.nem j hj
  unfold sameC noteC
  have HS : Hid (Env w0 w (obs.set k (obR q o))) := by rw [set_same obs k _ hk]; exact Lib.hid h
  rcases nem_cases f1 with ⟨rfl, rfl⟩ | ⟨b, ao, cap, rfl, h1, h2, h3, h4, h5⟩
  · clear h f1 g1
    go_enter Try.func26, Try.ntmps26
    go_wp2
    go_ret
    exact ⟨rfl, HS.out⟩
  · have c1 := h1.cellAt 1 (v := .bool s.made) rfl
    have hbl := h1.lt
    have L1 := Lib.hid h3
    rcases nem_cases g1 with ⟨rfl, rfl⟩ | ⟨b2, ao2, cap2, rfl, k1, k2, k3, k4, k5⟩
    · rw [show (s.made && Mst.no.made) = false by cases s <;> rfl]
      clear h f1 g1 h1 h2 h3 h4 h5
      go_enter Try.func26, Try.ntmps26
      go_wp2
      go_ret
      exact ⟨rfl, HS.out⟩
    · have c2 := k1.cellAt 1 (v := .bool t.made) rfl
      have hbl2 := k1.lt
      have L2 := Lib.hid k3
      have HI := Lib.hid (And.intro hi (And.intro hj hk))
      have HKK := Lib.hid (And.intro hik hjk)
      have H := Lib.hid h
      clear h f1 g1 h1 h2 h3 h4 h5 k1 k2 k3 k4 k5 hi hj hk hik hjk
      obtain ⟨m1, hm1⟩ : ∃ m, s.made = m := ⟨_, rfl⟩
      obtain ⟨m2, hm2⟩ : ∃ m, t.made = m := ⟨_, rfl⟩
      rw [hm1] at c1 ⊢
      rw [hm2] at c2 ⊢
      clear hm1 hm2
      cases m1 with
      | false =>
        go_enter Try.func26, Try.ntmps26
        go_wp2
        go_ret
        exact ⟨rfl, HS.out⟩
      | true =>
        cases m2 with
        | false =>
          go_enter Try.func26, Try.ntmps26
          go_wp2
          go_ret
          exact ⟨rfl, HS.out⟩
        | true =>
          simp only [Bool.and_self, Bool.true_and, if_true]
          obtain ⟨bb, hbb⟩ : ∃ bb : Bool, decide (pad s.bs = pad t.bs) = bb := ⟨_, rfl⟩
          rw [hbb]
          have heq : ∀ w, (Op.equalIn 10000 49 (.agg (barr (pad s.bs))) (.agg (barr (pad t.bs)))).run Try.prog w = .ok bb w := fun w => eqPads s.bs t.bs L1.out L2.out bb (by rw [← hbb]; by_cases hh : pad s.bs = pad t.bs <;> simp [hh]) w
          have HEQ := Lib.hid heq
          clear heq hbb
          go_enter Try.func26, Try.ntmps26
          go_wp2_with fail
          refine (noteR_env H.out k HI.out.2.2 6 1024 hb).mono ?_
          rintro e w2 ⟨rfl, h5⟩
          have hi2 : (obs.set k (obR q (noteO o 6 1024 1)))[i]? = some (obN (.pointer (some ⟨b, 0, none⟩)) s) := by
            rw [List.getElem?_set_ne (by have := HKK.out.1; omega)]
            exact HI.out.1
          have hj2 : (obs.set k (obR q (noteO o 6 1024 1)))[j]? = some (obN (.pointer (some ⟨b2, 0, none⟩)) t) := by
            rw [List.getElem?_set_ne (by have := HKK.out.2; omega)]
            exact HI.out.2.1
          have H5 := Lib.hid h5
          have HI2 := Lib.hid (And.intro hi2 hj2)
          clear h5 hi2 hj2 H c1 c2
          go_wp2_with fail
          refine (lookN_env H5.out i HI2.out.1).mono ?_
          rintro e w3 ⟨rfl, h5⟩
          have H6 := Lib.hid h5
          clear h5 H5
          go_wp2_with fail
          refine (lookN_env H6.out j HI2.out.2).mono ?_
          rintro e w4 ⟨rfl, h5⟩
          have H7 := Lib.hid h5
          clear h5 H6
          obtain ⟨X, hX⟩ : ∃ X, pad s.bs = X := ⟨_, rfl⟩
          obtain ⟨Y, hY⟩ : ∃ Y, pad t.bs = Y := ⟨_, rfl⟩
          rw [hX, hY] at HEQ
          rw [hX, hY]
          clear hX hY
          go_wp2_with ((with_reducible change wpList _ _ _ (Oper.mk _ (Op.binOp BinOp.eql 49 _ _ _) _ _ _ _ :: _) _ _); refine wpList_eql_arr X Y bb rfl rfl rfl slotGuard HEQ.out ?_)
          go_ret
          exact ⟨rfl, H7.out⟩
end
end Go.Proofs.Ytaphjdfpffhpfaa
