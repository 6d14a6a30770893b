/- The walk of CtCompares. Conditions: each list has at most 2^47 - 4096 bytes (the form's own reach). -/
import Derived.Test.YthegjgbidhbmfaaRows
import Derived.Test.YthegjgbidhbmfaaCtEnv
import Derived.Test.YthegjgbidhbmfaaOpen
namespace Go.Proofs.Ythegjgbidhbmfaa
open Go.RowKit
set_option maxRecDepth 100000

/-- a note, if c -/
def noteIf (c : Prop) [Decidable c] (rs : List Rn) (k s : Int) : List Rn := if c then noteL rs k s 1 else rs
theorem noteIf_some (c : Prop) [Decidable c] (rs : List Rn) (k s : Int) : (if c then noteO (some rs) k s 1 else some rs) = some (noteIf c rs k s) := by
  unfold noteIf noteO
  by_cases h : c <;> simp [h]
theorem noteO_some (rs : List Rn) (k s n : Int) : noteO (some rs) k s n = some (noteL rs k s n) := rfl
/-- at most n events, in at most n runs -/
def Few (rs : List Rn) (n : Nat) : Prop := tot rs ≤ n ∧ rs.length ≤ n
theorem Few.nil : Few [] 0 := ⟨by simp [tot], by simp⟩
theorem noteL_len (rs : List Rn) (k s n : Int) : (noteL rs k s n).length ≤ rs.length + 1 := by
  rcases List.eq_nil_or_concat rs with rfl | ⟨r0, r, rfl⟩
  · simp [noteL]
  · rw [List.concat_eq_append]
    by_cases h : r.k = k ∧ r.s = s
    · obtain ⟨rfl, rfl⟩ := h
      rw [noteL_same]; simp
    · rw [noteL_other _ _ _ _ _ h]; simp
theorem Few.note {rs : List Rn} {n : Nat} (h : Few rs n) (k s : Int) : Few (noteL rs k s 1) (n + 1) :=
  ⟨by rw [tot_note]; have := h.1; omega, by have := noteL_len rs k s 1; have := h.2; omega⟩
theorem Few.noteIf {rs : List Rn} {n : Nat} (h : Few rs n) (c : Prop) [Decidable c] (k s : Int) : Few (noteIf c rs k s) (n + 1) := by
  unfold Proofs.Ythegjgbidhbmfaa.noteIf
  split
  · exact h.note k s
  · exact ⟨by have := h.1; omega, by have := h.2; omega⟩
theorem Few.room {rs : List Rn} {n : Nat} (h : Few rs n) (hn : n ≤ 1000000) : Room (some rs) 1 := Room.some (by have := h.1; omega) (by have := h.2; omega)
theorem Few.len {rs : List Rn} {n : Nat} (h : Few rs n) (hn : n ≤ 1000000) : rs.length ≤ 1099511627776 := by have := h.2; omega

set_option maxHeartbeats 4000000 in
theorem ctCompares_walk (va vb : Value) (a b : List UInt8) (w : World) (ha : Bs w va a) (hb : Bs w vb b) (la : a.length ≤ 140737488351232) (lb : b.length ≤ 140737488351232) :
    Calls Try.prog 5 #[va, vb] w fun e w' => e = .returned (.bool true) ∧ Below w.heap.size w w' := by
  have HA := Lib.hid ha
  have HB := Lib.hid hb
  obtain ⟨ao, cap, rfl, h1, h2, _, _⟩ := ha.form
  obtain ⟨bo, dap, rfl, h3, h4, _, _⟩ := hb.form
  clear ha hb
  go_enter Try.func5, Try.ntmps5
  go_wp2_with fail
  refine (newP_env (Env.start w)).mono ?_
  rintro e w1 ⟨p, rfl, h1'⟩
  have H1 := Lib.hid h1'
  clear h1'
  go_wp2_with fail
  refine (newR_env H1.out).mono ?_
  rintro e w2 ⟨q, rfl, h1'⟩
  have H2 := Lib.hid h1'
  clear h1' H1
  go_wp2_with fail
  refine (lent_env H2.out (H2.out.old HA.out) (by omega)).mono ?_
  rintro e w3 ⟨g, cg, rfl, h1'⟩
  have H3 := Lib.hid h1'
  clear h1' H2
  go_wp2_with fail
  refine (lent_env H3.out (H3.out.old HB.out) (by omega)).mono ?_
  rintro e w4 ⟨g2, cg2, rfl, h1'⟩
  have H4 := Lib.hid h1'
  clear h1' H3
  have HX := H4.out.bytes 2 rfl
  have HY := H4.out.bytes 3 rfl
  obtain ⟨x1, x2⟩ := HX.caps
  obtain ⟨y1, y2⟩ := HY.caps
  rw [lent_length] at x1 y1
  clear HX HY
  have hwa : IntKind.i64.wrap (a.length : Int) = a.length := IntWalk.i64_in _ (by omega)
  have hwb : IntKind.i64.wrap (b.length : Int) = b.length := IntWalk.i64_in _ (by omega)
  go_wp2_with fail
  go_quiet (fail)
  have E4 : Hid (Env w (w4.drewN nq) [obP p (some []), obR q (some []), obB (.slice (some ⟨g, 0, none⟩) (lent a).length cg) (lent a), obB (.slice (some ⟨g2, 0, none⟩) (lent b).length cg2) (lent b)]) := Lib.hid (H4.out.draw nq)
  clear H4
  go_wp2_with fail
  have HEB : ∃ eb, Hid (decide (a = b) = eb) := ⟨_, Lib.hid rfl⟩
  have HLT : ∃ lt, Hid ((if a.length = b.length then ltL a b else false) = lt) := ⟨_, Lib.hid rfl⟩
  have HER : ∃ er : Int, Hid ((if a.length = b.length then (0 : Int) else 2) = er) := ⟨_, Lib.hid rfl⟩
  have HZA : ∃ za, Hid (zeroL a = za) := ⟨_, Lib.hid rfl⟩
  have HZB : ∃ zb, Hid (zeroL b = zb) := ⟨_, Lib.hid rfl⟩
  obtain ⟨eb, HEB⟩ := HEB
  obtain ⟨lt, HLT⟩ := HLT
  obtain ⟨er, HER⟩ := HER
  obtain ⟨za, HZA⟩ := HZA
  obtain ⟨zb, HZB⟩ := HZB
  have R1 : ∃ r1, Hid (noteIf (a.length = b.length) [] 6 a.length = r1 ∧ Few r1 1) := ⟨_, Lib.hid ⟨rfl, Few.nil.noteIf (a.length = b.length) 6 a.length⟩⟩
  obtain ⟨r1, R1⟩ := R1
  have R2 : ∃ r2, Hid (noteIf (a.length = b.length) r1 6 a.length = r2 ∧ Few r2 2) := ⟨_, Lib.hid ⟨rfl, R1.out.2.noteIf (a.length = b.length) 6 a.length⟩⟩
  obtain ⟨r2, R2⟩ := R2
  have R3 : ∃ r3, Hid (noteL r2 6 a.length 1 = r3 ∧ Few r3 3) := ⟨_, Lib.hid ⟨rfl, R2.out.2.note 6 a.length⟩⟩
  obtain ⟨r3, R3⟩ := R3
  have R4 : ∃ r4, Hid (noteL r3 6 b.length 1 = r4 ∧ Few r4 4) := ⟨_, Lib.hid ⟨rfl, R3.out.2.note 6 b.length⟩⟩
  obtain ⟨r4, R4⟩ := R4
  refine (equal_env E4.out 0 rfl (Few.nil.room (by omega)) (Src.lent E4.out 0 2 (by decide) rfl) (Src.lent E4.out 0 3 (by decide) rfl)).mono ?_
  rintro e w5 ⟨he, h5⟩
  rw [noteIf_some, R1.out.1] at h5
  rw [HEB.out] at he
  subst he
  have E5 := Lib.hid h5
  clear h5 E4
  go_wp2_with fail
  refine (requal_env E5.out 1 rfl (Few.nil.room (by omega)) (Src.old E5.out 1 HA.out) (Src.old E5.out 1 HB.out)).mono ?_
  rintro e w6 ⟨he, h5⟩
  rw [noteIf_some, R1.out.1] at h5
  rw [HEB.out] at he
  subst he
  have E6 := Lib.hid h5
  clear h5 E5
  go_wp2_with fail
  refine (equal_nil E6.out (Src.lent E6.out 0 2 (by decide) rfl).1 (Src.lent E6.out 0 3 (by decide) rfl).1).mono ?_
  rintro e w7 ⟨he, h5⟩
  rw [HEB.out] at he
  subst he
  have E7 := Lib.hid h5
  clear h5 E6
  go_wp2_with fail
  refine (less_env E7.out 0 rfl (R1.out.2.room (by omega)) (Src.lent E7.out 0 2 (by decide) rfl) (Src.lent E7.out 0 3 (by decide) rfl)).mono ?_
  rintro e w8 ⟨he, h5⟩
  rw [noteIf_some, R2.out.1] at h5
  rw [HLT.out, HER.out] at he
  subst he
  have E8 := Lib.hid h5
  clear h5 E7
  go_wp2_with fail
  refine (rless_env E8.out 1 rfl (R1.out.2.room (by omega)) (Src.old E8.out 1 HA.out) (Src.old E8.out 1 HB.out)).mono ?_
  rintro e w9 ⟨he, h5⟩
  rw [noteIf_some, R2.out.1] at h5
  rw [HLT.out, HER.out] at he
  subst he
  have E9 := Lib.hid h5
  clear h5 E8
  go_wp2_with fail
  refine (less_nil E9.out (Src.lent E9.out 0 2 (by decide) rfl).1 (Src.lent E9.out 0 3 (by decide) rfl).1).mono ?_
  rintro e w10 ⟨he, h5⟩
  rw [HLT.out, HER.out] at he
  subst he
  have E10 := Lib.hid h5
  clear h5 E9
  go_wp2_with fail
  refine (isZero_env E10.out 0 rfl (R2.out.2.room (by omega)) (Src.lent E10.out 0 2 (by decide) rfl)).mono ?_
  rintro e w11 ⟨he, h5⟩
  rw [noteO_some, R3.out.1] at h5
  rw [HZA.out] at he
  subst he
  have E11 := Lib.hid h5
  clear h5 E10
  go_wp2_with fail
  refine (risZero_env E11.out 1 rfl (R2.out.2.room (by omega)) (Src.old E11.out 1 HA.out)).mono ?_
  rintro e w12 ⟨he, h5⟩
  rw [noteO_some, R3.out.1] at h5
  rw [HZA.out] at he
  subst he
  have E12 := Lib.hid h5
  clear h5 E11
  go_wp2_with fail
  refine (isZero_nil E12.out (Src.lent E12.out 0 2 (by decide) rfl).1).mono ?_
  rintro e w13 ⟨he, h5⟩
  rw [HZA.out] at he
  subst he
  have E13 := Lib.hid h5
  clear h5 E12
  go_wp2_with fail
  refine (isZero_env E13.out 0 rfl (R3.out.2.room (by omega)) (Src.lent E13.out 0 3 (by decide) rfl)).mono ?_
  rintro e w14 ⟨he, h5⟩
  rw [noteO_some, R4.out.1] at h5
  rw [HZB.out] at he
  subst he
  have E14 := Lib.hid h5
  clear h5 E13
  go_wp2_with fail
  refine (risZero_env E14.out 1 rfl (R3.out.2.room (by omega)) (Src.old E14.out 1 HB.out)).mono ?_
  rintro e w15 ⟨he, h5⟩
  rw [noteO_some, R4.out.1] at h5
  rw [HZB.out] at he
  subst he
  have E15 := Lib.hid h5
  clear h5 E14
  go_wp2_with fail
  refine (runsP_env E15.out 0 rfl (R4.out.2.len (by omega))).mono ?_
  rintro e w16 ⟨vp, rfl, h5⟩
  have E16 := Lib.hid h5
  clear h5 E15
  go_wp2_with fail
  refine (runsR_env E16.out 1 rfl (R4.out.2.len (by omega))).mono ?_
  rintro e w17 ⟨vr, rfl, h5⟩
  have E17 := Lib.hid h5
  clear h5 E16
  go_wp2_with fail
  refine (sameRuns_env E17.out (E17.out.runs 4 rfl).rd (E17.out.runs 5 rfl).rd).mono ?_
  rintro e w18 ⟨he, h5⟩
  rw [decide_eq_true rfl] at he
  subst he
  have E18 := Lib.hid h5
  clear h5 E17
  go_wp2_with fail
  refine (kept_env E18.out (E18.out.bytes 2 rfl).rd (E18.out.old HA.out) (by omega)).mono ?_
  rintro e w19 ⟨he, h5⟩
  rw [decide_eq_true rfl] at he
  subst he
  have E19 := Lib.hid h5
  clear h5 E18
  go_wp2_with fail
  refine (kept_env E19.out (E19.out.bytes 3 rfl).rd (E19.out.old HB.out) (by omega)).mono ?_
  rintro e w20 ⟨he, h5⟩
  rw [decide_eq_true rfl] at he
  subst he
  have E20 := Lib.hid h5
  clear h5 E19
  go_wp2
  go_ret
  exact ⟨rfl, E20.out.base⟩
theorem ctCompares.walk {w : World} (va : Value) (a : List UInt8) (ha : In w va a) (vb : Value) (b : List UInt8) (hb : In w vb b) :
    Calls Try.prog 5 #[va, vb] w fun e w' => e = .returned (.bool true) ∧ Below w.heap.size w w' := ctCompares_walk va vb a b w ha.1 hb.1 ha.2 hb.2
end Go.Proofs.Ythegjgbidhbmfaa
