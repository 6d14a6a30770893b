/- What the laws on naive begin with; the walk of NaiveBoxes. -/
import Derived.Test.YtpbplcbdejoolaaRows
import Derived.Test.YtpbplcbdejoolaaNaive
import Derived.Test.YtpbplcbdejoolaaMark
namespace Go.Proofs.Ytpbplcbdejoolaa
open Go.RowKit
set_option maxRecDepth 100000
set_option linter.unusedVariables false
set_option linter.unusedSimpArgs false

def notesL : List Rn → List Int → List Rn
  | rs, [] => rs
  | rs, s :: l => notesL (noteL rs 9 s 1) l
set_option maxHeartbeats 2000000 in
theorem branches_any (v : Value) (ls : List Int) (w : World) (hv : Sl w 1 v ls.length (ls.map (Value.int .i64))) (hl : ls.length ≤ 1000) :
    Calls Try.prog 35 #[v] w fun e w' => ∃ u, e = .returned u ∧ RunsAt w' u (notesL [] ls) ∧ Below w.heap.size w w' ∧ ∀ x, fp u x → w.heap.size ≤ x := by
  have HV := Lib.hid hv
  obtain ⟨ao, cap, rfl, h1, h2, _, _⟩ := hv.form
  have hla : ls.length ≤ 9223372036854775807 := by omega
  clear hv
  go_enter Try.func35, Try.ntmps35
  go_wp2_with fail
  refine (newR_env (Env.start w)).mono ?_
  rintro e w1 ⟨q, rfl, h5⟩
  have H1 := Lib.hid h5
  clear h5
  go_wp2_with fail
  go_loopw [4] (fun i w1 => ∃ (k : Nat) (rs : List Rn), k ≤ ls.length ∧ i = .int .i64 (k : Int) ∧ Hid (notesL rs (ls.drop k) = notesL [] ls) ∧ Hid (Few rs k) ∧ Hid (Env w w1 [obR q (some rs)])) (fun i _ => ls.length - (intOf i).toNat)
  case atStart => exact ⟨0, [], Nat.zero_le _, rfl, Lib.hid rfl, Lib.hid Few.nil, H1⟩
  case round =>
    obtain ⟨k, rs, hk, rfl, HE, HF, H⟩ := hrel
    clear H1
    by_cases hlt : k < ls.length
    · have V := HV.out.grow H.out.base
      obtain ⟨ao', cap', hv1, _, _, _, C⟩ := V.form
      injection hv1 with e1 _ e3
      subst e1; subst e3
      obtain ⟨s, hs⟩ : ∃ s, ls[k]? = some s := ⟨_, List.getElem?_eq_getElem hlt⟩
      obtain ⟨g, off, rfl, c0⟩ := C k (.int .i64 s) (by rw [List.getElem?_map, hs]; rfl)
      have he := HE.out
      have hd : ls.drop k = s :: ls.drop (k + 1) := by
        rw [List.drop_eq_getElem_cons hlt]
        rw [List.getElem?_eq_getElem hlt] at hs
        injection hs with hs
        rw [hs]
      rw [hd, notesL] at he
      have HE2 := Lib.hid he
      have hbl := World.block_lt_of_cell? wr _ c0
      clear he hd hs V C HE
      go_wp2_with fail
      obtain ⟨F, f1, f2, f4⟩ := H.out.lgR 0 rfl
      refine (gnoteR_any q F (some rs) 9 s wr f1 (HF.out.room (by omega))).mono ?_
      rintro e w2 ⟨rfl, hl2⟩
      have H2 := Lib.hid (f4 w2 _ hl2)
      have HF2 := Lib.hid (HF.out.note 9 s)
      clear f1 f2 f4 hl2
      go_wp2
      go_roundw
      case rel => exact ⟨k + 1, _, by omega, by go_num, HE2, HF2, H2⟩
      case measure => simp [intOf]; omega
    · obtain rfl : k = ls.length := by omega
      have he := HE.out
      rw [List.drop_of_length_le (Nat.le_refl _), notesL] at he
      subst he
      clear HE
      go_wp2_with fail
      obtain ⟨F, f1, _⟩ := H.out.lgR 0 rfl
      obtain ⟨b, v2, rfl, rfl, f2⟩ := f1
      refine (runsR_any b v2 _ wr f2 (HF.out.len (by omega))).mono ?_
      rintro e w2 ⟨u, rfl, g1, g2, g3⟩
      have HG := Lib.hid ((And.intro g1 (And.intro (H.out.base.trans (g2.mono H.out.base.size)) (fun x hx => Nat.le_trans H.out.base.size (g3 x hx)))) : RunsAt w2 u (notesL [] ls) ∧ Below w.heap.size w w2 ∧ ∀ x, fp u x → w.heap.size ≤ x)
      clear g1 g2 g3
      go_wp2
      go_ret
      exact ⟨u, rfl, HG.out⟩
/-- a literal of ints, read -/
theorem Sl.ints (w : World) (ls : List Int) (g : Nat) (hg : g = w.heap.size) (hl : ls.length ≤ 1000) : Sl (w.alloc (.cells (ls.map (Value.int .i64)).toArray 3)) 1 (.slice (some ⟨g, 0, none⟩) ls.length ls.length) ls.length (ls.map (Value.int .i64)) := by
  subst hg
  refine ⟨by simp, fun u hu => ?_, some ⟨w.heap.size, 0, none⟩, ls.length, rfl, Nat.le_refl _, by omega, (fun h => by cases h), fun j u hj => ⟨w.heap.size, 0, rfl, ?_⟩⟩
  · obtain ⟨x, _, rfl⟩ := List.mem_map.1 hu
    rfl
  · rw [Nat.zero_add]
    refine (Blk.new w 3 (ls.map (Value.int .i64)).toArray).cellAt j ?_
    rw [List.getElem?_toArray]
    exact hj
theorem nEqual_fresh {w0 w1 w2 : World} {obs : List Ob} (h : Env w0 w1 obs) (i : Nat) {l : Value} {o : Option (List Rn)} (hi : obs[i]? = some (obP l o)) (hb : Below w1.heap.size w1 w2) {u v : Value} {xs ys : List UInt8} (hu : Bs w2 u xs) (hv : Bs w2 v ys)
    (du : ∀ b, u.ownBlock = some b → w1.heap.size ≤ b) (dv : ∀ b, v.ownBlock = some b → w1.heap.size ≤ b) (N : Nat) (hF : FewO o N) (hN : N + xs.length ≤ 1000000) :
    Calls Try.prog 16 #[l, u, v] w2 fun e w' => e = .returned (.bool (nEq xs ys o).1) ∧ Env w0 w' (obs.set i (obP l (nEq xs ys o).2)) := by
  obtain ⟨F, f1, f2, f4⟩ := h.lgP i hi
  refine (nEqual_any l F o u v xs ys N w2 (f1.keep (Only.nothing hb) (fun _ _ h => h)) hF hN hu hv (fun _ b hb2 hh => ?_) (fun _ b hb2 hh => ?_)).mono fun e w' ⟨he, hl⟩ => ⟨he, f4 w' _ (LaidP.pre hb hl)⟩
  · have := f1.lt b hh
    have := du b hb2
    omega
  · have := f1.lt b hh
    have := dv b hb2
    omega
def abcd : List UInt8 := [97, 98, 99, 100]
def axcd : List UInt8 := [97, 120, 99, 100]
set_option maxHeartbeats 4000000 in
theorem naiveLives_any (w : World) : Calls Try.prog 13 #[] w fun e w' => e = .returned (.bool true) ∧ Below w.heap.size w w' := by
  go_enter Try.func13, Try.ntmps13
  go_wp2_with fail
  refine (newP_env (Env.start w)).mono ?_
  rintro e w1 ⟨l, rfl, h5⟩
  have H1 := Lib.hid h5
  clear h5
  have c1 := conv_const w1 #[.int .u8 97, .int .u8 98, .int .u8 99, .int .u8 100] 4 w1.heap.size rfl
  have c2 := conv_const (w1.alloc (.cells #[.int .u8 97, .int .u8 98, .int .u8 99, .int .u8 100] 5 (4, 5))) #[.int .u8 97, .int .u8 98, .int .u8 99, .int .u8 100] 4 (w1.heap.size + 1) (by simp)
  have hb1 : Below w1.heap.size w1 (w1.alloc (.cells #[.int .u8 97, .int .u8 98, .int .u8 99, .int .u8 100] 5 (4, 5))) := (Below.refl _ _).alloc (Nat.le_refl _) _
  have hb2 : Below (w1.alloc (.cells #[.int .u8 97, .int .u8 98, .int .u8 99, .int .u8 100] 5 (4, 5))).heap.size (w1.alloc (.cells #[.int .u8 97, .int .u8 98, .int .u8 99, .int .u8 100] 5 (4, 5))) ((w1.alloc (.cells #[.int .u8 97, .int .u8 98, .int .u8 99, .int .u8 100] 5 (4, 5))).alloc (.cells #[.int .u8 97, .int .u8 98, .int .u8 99, .int .u8 100] 5 (4, 5))) := (Below.refl _ _).alloc (Nat.le_refl _) _
  have HB := Lib.hid (hb1.trans (hb2.mono hb1.size))
  have hu : Bs ((w1.alloc (.cells #[.int .u8 97, .int .u8 98, .int .u8 99, .int .u8 100] 5 (4, 5))).alloc (.cells #[.int .u8 97, .int .u8 98, .int .u8 99, .int .u8 100] 5 (4, 5))) (.slice (some ⟨w1.heap.size, 0, none⟩) 4 4) abcd := Bs.grow (Bs.marked w1 abcd 5 (4, 5) (by decide) w1.heap.size rfl) hb2
  have hv : Bs ((w1.alloc (.cells #[.int .u8 97, .int .u8 98, .int .u8 99, .int .u8 100] 5 (4, 5))).alloc (.cells #[.int .u8 97, .int .u8 98, .int .u8 99, .int .u8 100] 5 (4, 5))) (.slice (some ⟨w1.heap.size + 1, 0, none⟩) 4 4) abcd := Bs.marked _ abcd 5 (4, 5) (by decide) (w1.heap.size + 1) (by simp)
  have HU := Lib.hid hu
  have HV := Lib.hid hv
  clear hu hv hb1 hb2
  go_wp2_with fail
  refine (nEqual_fresh H1.out 0 rfl HB.out HU.out HV.out (fun b hb => by simp [Value.ownBlock] at hb; omega) (fun b hb => by simp [Value.ownBlock] at hb; omega) 0 (FewO.of Few.nil) (by decide)).mono ?_
  rintro e w2 ⟨he, h5⟩
  have he' : e = .returned (.bool true) := he
  subst he'
  have H2 : Hid (Env w w2 [obP l (some [⟨9, 1, 4⟩])]) := Lib.hid h5
  clear h5 he HU HV HB c1 c2 H1
  go_wp2_with fail
  refine (newP_env H2.out).mono ?_
  rintro e w3 ⟨k, rfl, h5⟩
  have H3 := Lib.hid h5
  clear h5 H2
  have c1 := conv_const w3 #[.int .u8 97, .int .u8 98, .int .u8 99, .int .u8 100] 4 w3.heap.size rfl
  have c2 := conv_const (w3.alloc (.cells #[.int .u8 97, .int .u8 98, .int .u8 99, .int .u8 100] 5 (4, 5))) #[.int .u8 97, .int .u8 120, .int .u8 99, .int .u8 100] 4 (w3.heap.size + 1) (by simp)
  have hb1 : Below w3.heap.size w3 (w3.alloc (.cells #[.int .u8 97, .int .u8 98, .int .u8 99, .int .u8 100] 5 (4, 5))) := (Below.refl _ _).alloc (Nat.le_refl _) _
  have hb2 : Below (w3.alloc (.cells #[.int .u8 97, .int .u8 98, .int .u8 99, .int .u8 100] 5 (4, 5))).heap.size (w3.alloc (.cells #[.int .u8 97, .int .u8 98, .int .u8 99, .int .u8 100] 5 (4, 5))) ((w3.alloc (.cells #[.int .u8 97, .int .u8 98, .int .u8 99, .int .u8 100] 5 (4, 5))).alloc (.cells #[.int .u8 97, .int .u8 120, .int .u8 99, .int .u8 100] 5 (4, 5))) := (Below.refl _ _).alloc (Nat.le_refl _) _
  have HB := Lib.hid (hb1.trans (hb2.mono hb1.size))
  have hu : Bs ((w3.alloc (.cells #[.int .u8 97, .int .u8 98, .int .u8 99, .int .u8 100] 5 (4, 5))).alloc (.cells #[.int .u8 97, .int .u8 120, .int .u8 99, .int .u8 100] 5 (4, 5))) (.slice (some ⟨w3.heap.size, 0, none⟩) 4 4) abcd := Bs.grow (Bs.marked w3 abcd 5 (4, 5) (by decide) w3.heap.size rfl) hb2
  have hv : Bs ((w3.alloc (.cells #[.int .u8 97, .int .u8 98, .int .u8 99, .int .u8 100] 5 (4, 5))).alloc (.cells #[.int .u8 97, .int .u8 120, .int .u8 99, .int .u8 100] 5 (4, 5))) (.slice (some ⟨w3.heap.size + 1, 0, none⟩) 4 4) axcd := Bs.marked _ axcd 5 (4, 5) (by decide) (w3.heap.size + 1) (by simp)
  have HU := Lib.hid hu
  have HV := Lib.hid hv
  clear hu hv hb1 hb2
  go_wp2_with fail
  refine (nEqual_fresh H3.out 1 rfl HB.out HU.out HV.out (fun b hb => by simp [Value.ownBlock] at hb; omega) (fun b hb => by simp [Value.ownBlock] at hb; omega) 0 (FewO.of Few.nil) (by decide)).mono ?_
  rintro e w4 ⟨he, h5⟩
  have he' : e = .returned (.bool false) := he
  subst he'
  have H4 : Hid (Env w w4 [obP l (some [⟨9, 1, 4⟩]), obP k (some [⟨9, 1, 1⟩, ⟨9, 0, 1⟩])]) := Lib.hid h5
  clear h5 he HU HV HB c1 c2 H3
  go_wp2_with fail
  refine (runsP_env H4.out 0 rfl (by simp)).mono ?_
  rintro e w5 ⟨v1, rfl, h5⟩
  have H5 := Lib.hid h5
  clear h5 H4
  go_wp2_with fail
  refine (branches_any _ [1, 1, 1, 1] _ (Sl.ints w5 [1, 1, 1, 1] w5.heap.size rfl (by decide)) (by decide)).mono ?_
  rintro e w6 ⟨u1, rfl, g1, g2, g3⟩
  have hb : Below w5.heap.size w5 w6 := Below.trans ((Below.refl w5.heap.size w5).alloc (Nat.le_refl _) _) (g2.mono (by simp))
  have H6 := Lib.hid (H5.out.pushRuns g1 hb (fun x hx => by have := g3 x hx; simp at this; omega))
  clear g1 g2 g3 hb H5
  go_wp2_with fail
  refine (sameRuns_env H6.out (H6.out.runs 2 rfl).rd (H6.out.runs 3 rfl).rd).mono ?_
  rintro e w7 ⟨he, h5⟩
  have he' : e = .returned (.bool true) := by rw [he]; rfl
  subst he'
  have H7 : Hid (Env w w7 [obP l (some [⟨9, 1, 4⟩]), obP k (some [⟨9, 1, 1⟩, ⟨9, 0, 1⟩])]) := Lib.hid (Env.drop (obs := [_, _]) (Env.drop (obs := [_, _, _]) h5))
  clear h5 he H6
  go_wp2_with fail
  refine (runsP_env H7.out 1 rfl (by simp)).mono ?_
  rintro e w8 ⟨v2, rfl, h5⟩
  have H8 := Lib.hid h5
  clear h5 H7
  go_wp2_with fail
  refine (branches_any _ [1, 0] _ (Sl.ints w8 [1, 0] w8.heap.size rfl (by decide)) (by decide)).mono ?_
  rintro e w9 ⟨u2, rfl, g1, g2, g3⟩
  have hb : Below w8.heap.size w8 w9 := Below.trans ((Below.refl w8.heap.size w8).alloc (Nat.le_refl _) _) (g2.mono (by simp))
  have H9 := Lib.hid (H8.out.pushRuns g1 hb (fun x hx => by have := g3 x hx; simp at this; omega))
  clear g1 g2 g3 hb H8
  go_wp2_with fail
  refine (sameRuns_env H9.out (H9.out.runs 2 rfl).rd (H9.out.runs 3 rfl).rd).mono ?_
  rintro e w10 ⟨he, h5⟩
  have he' : e = .returned (.bool true) := by rw [he]; rfl
  subst he'
  have H10 := Lib.hid h5
  clear h5 he H9
  go_wp2
  go_ret
  exact ⟨rfl, H10.out.base⟩
set_option maxHeartbeats 4000000 in
theorem naiveBoxes.walk (w : World) : Calls Try.prog 3 #[] w fun e w' => e = .returned (.bool true) ∧ Below w.heap.size w w' := by
  go_enter Try.func3, Try.ntmps3
  go_wp2_with fail
  go_loopw [1] (fun i w1 => ∃ a : Nat, a ≤ 256 ∧ i = .int .i64 (a : Int) ∧ Hid (Below w.heap.size w w1)) (fun i _ => 256 - (intOf i).toNat)
  case atStart => exact ⟨0, by omega, rfl, Lib.hid (Below.refl _ _)⟩
  case round =>
    obtain ⟨a, ha, rfl, HB⟩ := hrel
    by_cases hlt : a < 256
    · have hmod : (a : Int) % 256 = (a : Int) := by omega
      have hg0 := gboxI_lo (a : Int)
      have hg1 := gboxI_hi (a : Int)
      generalize hgg : gboxI (a : Int) = G at hg0 hg1
      have HG := Lib.hid hgg
      clear hgg
      go_wp2_with fail
      refine (newP_env (Env.start wr)).mono ?_
      rintro e w1 ⟨l, rfl, h5⟩
      have H1 := Lib.hid h5
      clear h5
      go_wp2_with fail
      obtain ⟨F, f1, f2, f4⟩ := H1.out.lgP 0 rfl
      refine (nBox_any l F _ (a : Int) w1 f1 (Few.nil.room (by omega)) (by omega) (by omega)).mono ?_
      rintro e w2 ⟨he, hl⟩
      rw [HG.out] at he
      subst he
      have H2 : Hid (Env wr w2 [obP l (some [⟨10, (a : Int), 1⟩])]) := Lib.hid (f4 w2 _ hl)
      clear f1 f2 f4 hl H1
      go_wp2_with fail
      refine (box_any (a : Int) w2 (by omega) (by omega)).mono ?_
      rintro e w3 ⟨he, m, rfl⟩
      rw [HG.out] at he
      subst he
      have H3 := Lib.hid (H2.out.draw m)
      clear H2
      go_wp2_with fail
      refine (runsP_env H3.out 0 rfl (by simp)).mono ?_
      rintro e w4 ⟨vp, rfl, h5⟩
      have H4 := Lib.hid h5
      clear h5 H3
      go_wp2_with fail
      have H5 := Lib.hid (H4.out.litRuns w4.heap.size rfl [⟨10, (a : Int), 1⟩] (by simp))
      clear H4
      refine (sameRuns_env H5.out (H5.out.runs 1 rfl).rd (H5.out.runs 2 rfl).rd).mono ?_
      rintro e w5 ⟨he, h5⟩
      rw [decide_eq_true rfl] at he
      subst he
      have H6 := Lib.hid (HB.out.trans (h5.base.mono HB.out.size))
      clear h5 H5
      go_wp2
      go_roundw
      case rel => exact ⟨a + 1, by omega, by go_num, H6⟩
      case measure => simp [intOf]; omega
    · obtain rfl : a = 256 := by omega
      go_wp2_with fail
      refine (naiveLives_any wr).mono ?_
      rintro e w2 ⟨rfl, hb⟩
      have H6 := Lib.hid (HB.out.trans (hb.mono HB.out.size))
      clear hb
      go_wp2
      go_ret
      exact ⟨rfl, H6.out⟩
end Go.Proofs.Ytpbplcbdejoolaa
