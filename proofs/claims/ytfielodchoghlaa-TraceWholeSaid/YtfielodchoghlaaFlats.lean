/- The walk of TraceFlats. Conditions: the form's own reach. -/
import Derived.Test.YtfielodchoghlaaRows
import Derived.Test.YtfielodchoghlaaFlat
import Derived.Test.YtfielodchoghlaaKenv
import Derived.Test.YtfielodchoghlaaOpenR
namespace Go.Proofs.Ytfielodchoghlaa
open Go.RowKit
set_option maxRecDepth 100000
set_option linter.unusedVariables false
theorem flatV_len (rs : List Rn) (most : Int) : (flatV rs most).length ≤ 16777216 := by
  unfold flatV
  by_cases h : flatC rs most = 0
  · rw [if_pos h]
    unfold flatC at h
    by_cases h1 : mayL rs = false ∨ most < 0 ∨ 16777216 < most
    · rw [if_pos h1] at h; omega
    · rw [if_neg h1] at h
      by_cases h2 : most < tot rs
      · rw [if_pos h2] at h; omega
      · have hm : mayL rs = true := by cases hm : mayL rs <;> simp_all
        have hk := (may_ok hm).2
        have := flatL_len rs (fun r hr => by have := (hk r hr).1; omega)
        omega
  · rw [if_neg h]; simp
theorem apart2E {w0 w : World} {a b : Ob} {v1 v2 : Value} {l1 l2 : List Ev} (h : Env w0 w [a, KE.ob v1 l1, KE.ob v2 l2, b]) (h1 : l1.length ≤ 8796093022202) (h2 : l2.length ≤ 8796093022202) (g : Nat) (hg : g = w.heap.size) :
    Calls Try.prog 22 #[.slice (some ⟨g, 0, none⟩) 2 2] (w.alloc (.cells #[v1, v2] 34)) fun e w' => e = .returned (.bool true) ∧ Env w0 w' [] := by
  refine apartEvents_any (w0 := w0) (.slice (some ⟨g, 0, none⟩) 2 2) [v1, v2] (fun j => if j = 0 then l1.length else l2.length) (fun j => if j = 0 then KE.fl l1 else KE.fl l2) []
    (AEnv.lit h g hg (fun j => j + 1) (fun i j _ _ he => by simpa using he) (by simp) (fun j hj => ?_) (fun j ob hj => by simp at hj)) (fun j hj => ?_) (by simp)
  · have hj4 : j < 2 := hj
    match j, hj4 with
    | 0, _ => rfl
    | 1, _ => rfl
  · split
    · exact h1
    · exact h2
set_option maxHeartbeats 4000000 in
theorem traceFlats.walk {w : World} (va : Value) (a : List Rn) (ha : InN w va a) (most : Int) (hw : (Lit.int .i64 most).wf = true) :
    Calls Try.prog 4 #[va, .int .i64 most] w fun e w' => e = .returned (.bool true) ∧ Below w.heap.size w w' := by
  have la := ha.2.2
  have HA := Lib.hid ha.1
  obtain ⟨ao, cap, rfl, h1, h2, _⟩ := ha.1.any
  clear ha
  obtain ⟨m1, m2⟩ := bounds_i64' hw
  clear hw
  go_enter Try.func4, Try.ntmps4
  go_wp2_with fail
  refine (lentN_any _ a w HA.out (by omega)).mono ?_
  rintro e w1 hn
  obtain ⟨x, rfl, h5⟩ := Knd.New.env (Env.start w) hn
  clear hn
  have H1 := Lib.hid h5
  clear h5
  obtain ⟨g, cg, rfl, x1, x2⟩ := H1.out.lentF 0 rfl
  have hwa : IntKind.i64.wrap (a.length : Int) = a.length := IntWalk.i64_in _ (by omega)
  have na : a.length ≤ cg := by omega
  obtain ⟨c, hc⟩ : ∃ c, flatC a most = c := ⟨_, rfl⟩
  obtain ⟨F, hF⟩ : ∃ F, flatV a most = F := ⟨_, rfl⟩
  have HC := Lib.hid hc
  have HF := Lib.hid hF
  have HL := Lib.hid (flatV_len a most)
  clear hc hF
  go_wp2_with fail
  refine (flat_any _ a most w1 (H1.out.kR 0 rfl).lent).mono ?_
  rintro e w2 ⟨v2, he, hn⟩
  rw [HC.out] at he
  rw [HF.out] at hn
  subst he
  obtain ⟨x2, hx, h5⟩ := Knd.New.env H1.out hn
  injection hx with hx
  subst hx
  clear hn
  have H2 := Lib.hid h5
  clear h5 H1
  go_wp2_with fail
  refine (flat_any _ a most w2 (H2.out.kR 0 rfl).lent).mono ?_
  rintro e w3 ⟨v3, he, hn⟩
  rw [HC.out] at he
  rw [HF.out] at hn
  subst he
  obtain ⟨x2, hx, h5⟩ := Knd.New.env H2.out hn
  injection hx with hx
  subst hx
  clear hn
  have H3 := Lib.hid h5
  clear h5 H2
  go_wp2_with fail
  refine (rflat_any _ a most w3 (H3.out.oldK HA.out)).mono ?_
  rintro e w4 ⟨v4, he, hn⟩
  rw [HC.out] at he
  rw [HF.out] at hn
  subst he
  obtain ⟨x2, hx, h5⟩ := Knd.New.env H3.out hn
  injection hx with hx
  subst hx
  clear hn
  have H4 := Lib.hid h5
  clear h5 H3
  go_wp2_with fail
  refine (keptN_any _ _ (lentM mkN a) a w4 (H4.out.kR 0 rfl) (H4.out.oldK HA.out) (by omega)).mono ?_
  rintro e w5 ⟨he, hb⟩
  rw [sameL_refl eqN (fun x => by simp [eqN])] at he
  subst he
  have h5 := H4.out.below hb
  clear hb
  have H5 := Lib.hid h5
  clear h5 H4
  go_wp2_with fail
  refine (sameE_any _ _ F F w5 (H5.out.kR 1 rfl) (H5.out.kR 3 rfl)).mono ?_
  rintro e w6 ⟨he, m, hw⟩
  rw [sameL_refl eqE (fun x => by simp [eqE])] at he
  subst he
  have h5 := H5.out.draw m
  rw [← hw] at h5
  clear hw
  have H6 := Lib.hid h5
  clear h5 H5
  go_wp2_with fail
  refine (sameE_any _ _ F F w6 (H6.out.kR 2 rfl) (H6.out.kR 3 rfl)).mono ?_
  rintro e w7 ⟨he, m, hw⟩
  rw [sameL_refl eqE (fun x => by simp [eqE])] at he
  subst he
  have h5 := H6.out.draw m
  rw [← hw] at h5
  clear hw
  have H7 := Lib.hid h5
  clear h5 H6
  obtain ⟨o3, c3, rfl⟩ := H7.out.any 1 (K := KE) rfl
  obtain ⟨o4, c4, rfl⟩ := H7.out.any 2 (K := KE) rfl
  go_wp2_with fail
  refine (apart2E H7.out (by rw [← HF.out]; have := HL.out; omega) (by rw [← HF.out]; have := HL.out; omega) w7.heap.size rfl).mono ?_
  rintro e w8 ⟨rfl, h5⟩
  have H8 := Lib.hid h5
  clear h5 H7
  go_wp2
  go_ret
  exact ⟨rfl, H8.out.base⟩
end Go.Proofs.Ytfielodchoghlaa
