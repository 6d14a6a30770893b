/- The chapter 22's plain law: what an operation records is framed and bounded; all of them joined; what comes behind, and what a kind does not use, says nothing. No program in sight. -/
import Derived.Test.YtkidijjhedjifaaQCostRows2
namespace Go.Proofs.Ytkidijjhedjifaa
set_option linter.unusedVariables false
set_option linter.unusedSimpArgs false
theorem foldl_times (l a : List Rn) : l.foldl timesN a = noteAll a l := rfl
/-- the counts' sum -/
def sumE (l : List Rn) : Int := (l.map (·.c)).sum
theorem sumE_nil : sumE [] = 0 := rfl
theorem sumE_cons (r : Rn) (l : List Rn) : sumE (r :: l) = r.c + sumE l := by simp [sumE]
structure OKe (r : Rn) : Prop where
  k0 : 1 ≤ r.k
  k1 : r.k ≤ 8
  s0 : 0 ≤ r.s
  s1 : r.s ≤ 1024
  c0 : 0 ≤ r.c
  c1 : r.c ≤ 40000000
theorem OKe.of {k s c : Int} (h1 : 1 ≤ k) (h2 : k ≤ 8) (h3 : 0 ≤ s) (h4 : s ≤ 1024) (h5 : 0 ≤ c) (h6 : c ≤ 40000000) : OKe ⟨k, s, c⟩ := ⟨h1, h2, h3, h4, h5, h6⟩
/-- how many at most -/
def capB (n : Int) : Int := min (max n 0) 16777216
def boundS (s : Sk) : Int := 64 + capB s.data + capB s.out + (capB s.more + 512) * (capB s.out / 32 + 1) / 16 + 4 * capB s.count * (capB s.out / 32 + 1)
theorem capB_nonneg (n : Int) : 0 ≤ capB n ∧ capB n ≤ 16777216 := by unfold capB; omega
theorem capB_is {n : Int} (h0 : 0 ≤ n) (h1 : n ≤ 16777216) : capB n = n := by unfold capB; omega
theorem wk_ok {m : Int} {t : Th} (h : OKt m t) : 1 ≤ wkK t ∧ wkK t ≤ 8 ∧ 0 ≤ wkS t ∧ wkS t ≤ 1024 := by
  have := h.k0
  have := h.k1
  unfold wkK wkS evkA wideA
  split
  · omega
  split
  · omega
  · split <;> omega
theorem evk_ok (a : Int) : 1 ≤ evkA a ∧ evkA a ≤ 2 ∧ 64 ≤ wideA a ∧ wideA a ≤ 128 := by
  unfold evkA wideA
  split <;> omega
theorem begin_ok {m : Int} {t : Th} (h : OKt m t) (ha : 1 ≤ t.alg) : (∀ r ∈ beginE t, OKe r) ∧ 1 ≤ sumE (beginE t) ∧ sumE (beginE t) ≤ 16 := by
  have h1 := h.k0
  have h2 := h.k1
  have h3 := h.c0
  have h4 := h.c1
  unfold beginE
  split
  · refine ⟨fun r hr => ?_, by simp [sumE], by simp [sumE]⟩
    simp at hr
    rcases hr with rfl | rfl
    · exact OKe.of (by decide) (by decide) h1 (by omega) (by decide) (by decide)
    · exact OKe.of (by decide) (by decide) h1 (by omega) (by decide) (by decide)
  split
  · have q1 := codedA_rng (n := 4) (by decide)
    have q2 := codedA_rng h3
    have q3 := codedA_rng h1
    have p1 := paddedA_rng (n := codedA 4 + codedA t.custom) (rateA_two t.alg) (by omega)
    have p2 := paddedA_rng (n := codedA t.key) (rateA_two t.alg) (by omega)
    refine ⟨fun r hr => ?_, by simp [sumE]; omega, by simp [sumE]; omega⟩
    simp at hr
    subst hr
    exact OKe.of (by decide) (by decide) (by decide) (by decide) (by omega) (by omega)
  · have q1 := keyB_rng (a := t.alg) h1
    have q2 := evk_ok t.alg
    refine ⟨fun r hr => ?_, by simp [sumE]; omega, by simp [sumE]; omega⟩
    simp at hr
    subst hr
    exact ⟨q2.1, by show evkA t.alg ≤ 8; omega, by show 0 ≤ wideA t.alg; omega, by show wideA t.alg ≤ 1024; omega, by show 0 ≤ keyB t.alg t.key; omega, by show keyB t.alg t.key ≤ _; omega⟩
/-- n rounds of at most (x + 65) / 64 + 3 -/
theorem round_le {n o x : Int} (h0 : 0 ≤ n) (hn : n ≤ o) (hx : 0 ≤ x) : n * ((x + 65) / 64 + 3) ≤ (x + 512) * o / 16 := by
  have h1 : n * ((x + 65) / 64 + 3) ≤ o * ((x + 65) / 64 + 3) := Int.mul_le_mul_of_nonneg_right hn (by omega)
  have h2 : o * ((x + 65) / 64 + 3) * 16 ≤ (x + 512) * o := by
    have e : o * ((x + 65) / 64 + 3) * 16 = o * (((x + 65) / 64 + 3) * 16) := by rw [Int.mul_assoc]
    rw [e, Int.mul_comm (x + 512) o]
    exact Int.mul_le_mul_of_nonneg_left (by omega) (by omega)
  omega
theorem events_ok {m : Int} {σ : Hs} (h : OKh m σ) {s : Sk} (hd : 0 ≤ s.data) (hm : 0 ≤ s.more) (hc : codeS σ s = 0) : (∀ r ∈ evS σ s, OKe r) ∧ 0 ≤ sumE (evS σ s) ∧ sumE (evS σ s) + 2 ≤ boundS s := by
  have hcap : ∀ n, 0 ≤ capB n ∧ capB n ≤ 16777216 := capB_nonneg
  have hb0 : 64 ≤ boundS s := by
    unfold boundS
    have h1 := hcap s.data
    have h2 := hcap s.out
    have h3 := hcap s.more
    have h4 := hcap s.count
    have q1 : 0 ≤ (capB s.more + 512) * (capB s.out / 32 + 1) := Int.mul_nonneg (by omega) (by omega)
    have q2 : 0 ≤ 4 * capB s.count * (capB s.out / 32 + 1) := Int.mul_nonneg (by omega) (by omega)
    omega
  have hdata : s.data ≤ 16777216 → 64 + s.data ≤ boundS s := by
    intro hle
    unfold boundS
    rw [capB_is hd hle]
    have h2 := hcap s.out
    have h3 := hcap s.more
    have h4 := hcap s.count
    have q1 : 0 ≤ (capB s.more + 512) * (capB s.out / 32 + 1) := Int.mul_nonneg (by omega) (by omega)
    have q2 : 0 ≤ 4 * capB s.count * (capB s.out / 32 + 1) := Int.mul_nonneg (by omega) (by omega)
    omega
  have wipe : OKe ⟨8, 1024, 1⟩ := ⟨by decide, by decide, by decide, by decide, by decide, by decide⟩
  unfold codeS at hc
  unfold evS
  simp only
  by_cases k1 : s.kind = 1
  · rw [if_neg (by omega), if_neg (by omega), if_neg (by omega), if_neg (by omega), if_neg (by omega), if_neg (by omega), if_neg (by omega), sumE_nil]
    exact ⟨fun r hr => by simp at hr, Int.le_refl 0, by omega⟩
  rw [if_neg k1] at hc
  by_cases k2 : s.kind = 2
  · rw [if_pos k2] at hc ⊢
    obtain ⟨t, h1, h2, h3, h4, h5, h6, h7, h8, h9, h10⟩ := beginC_zero hc
    rw [h1]
    have ht := h.ok _ _ h1
    have := mostA_le s.alg
    have hb := begin_ok (m := 0) (t := thB t s) ⟨by show 0 ≤ s.alg; omega, by show s.alg ≤ 7; omega, by show 0 ≤ s.out; omega, fun _ => h8, by show s.out ≤ 64; omega, ht.k0, ht.k1, hd, h7, Int.le_refl 0, Int.le_refl 0⟩ h3
    exact ⟨hb.1, by have := hb.2; show 0 ≤ sumE (beginE (thB t s)); omega, by have := hb.2; show sumE (beginE (thB t s)) + 2 ≤ _; omega⟩
  rw [if_neg k2] at hc ⊢
  by_cases k3 : s.kind = 3
  · rw [if_pos k3] at hc ⊢
    obtain ⟨t, h1, h2, h3⟩ := updC_zero hc
    rw [h1]
    have ht := h.ok _ _ h1
    have q := wk_ok ht
    have g := takenA_rng (t := t) (a := t.msg) (b := t.msg + s.data) ht.m0 (by omega)
    have := hdata (by omega)
    refine ⟨fun r hr => ?_, ?_, ?_⟩
    · simp at hr
      subst hr
      exact ⟨q.1, q.2.1, q.2.2.1, q.2.2.2, g.1, by show takenA t t.msg (t.msg + s.data) ≤ _; omega⟩
    · simp [sumE]; omega
    · simp [sumE]; omega
  rw [if_neg k3] at hc ⊢
  by_cases k4 : s.kind = 4
  · rw [if_pos k4] at hc ⊢
    obtain ⟨t, h1, h2⟩ := sesC_zero hc
    rw [h1]
    have ht := h.ok _ _ h1
    have q := wk_ok ht
    have g := summedA_rng ht
    refine ⟨fun r hr => ?_, ?_, ?_⟩
    · simp at hr
      rcases hr with rfl | rfl
      · exact ⟨q.1, q.2.1, q.2.2.1, q.2.2.2, by show 0 ≤ summedA t; omega, by show summedA t ≤ _; omega⟩
      · exact wipe
    · simp [sumE]; omega
    · simp [sumE]; omega
  rw [if_neg k4] at hc ⊢
  by_cases k5 : s.kind = 5
  · rw [if_pos k5] at hc ⊢
    obtain ⟨t, h1, h2, h3⟩ := verC_zero hc
    rw [h1]
    have ht := h.ok _ _ h1
    have q := wk_ok ht
    have g := summedA_rng ht
    refine ⟨fun r hr => ?_, ?_, ?_⟩
    · simp at hr
      rcases hr with rfl | rfl | rfl
      · exact ⟨q.1, q.2.1, q.2.2.1, q.2.2.2, by show 0 ≤ summedA t; omega, by show summedA t ≤ _; omega⟩
      · exact OKe.of (by decide) (by decide) ht.o0 (by have := ht.o2; omega) (by decide) (by decide)
      · exact wipe
    · simp [sumE]; omega
    · simp [sumE]; omega
  rw [if_neg k5] at hc ⊢
  by_cases k6 : s.kind = 6
  · rw [if_neg (by omega), if_neg (by omega), if_neg (by omega), sumE_nil]
    exact ⟨fun r hr => by simp at hr, Int.le_refl 0, by omega⟩
  rw [if_neg k6] at hc
  by_cases k7 : s.kind = 7
  · rw [if_pos k7] at hc ⊢
    obtain ⟨t, h1, h2, h3, h4, h5, h6, h7, h8⟩ := hkdfC_zero hc
    rw [h1]
    have ht := h.ok _ _ h1
    have q := evk_ok s.alg
    have g := hk0_rng ht h3 hd h4
    have gn := hkN_rng h3 h6 h7
    have gt := hkTo_rng h3 hm (hkN s)
    have hk := ht.k1
    have hr1 := round_le (n := (hkN s : Int)) (o := s.out / 32 + 1) (x := s.more) (by omega) gn.2.2.1 hm
    have hr2 : (hkN s : Int) * ((s.more + 65) / 64 + 3) ≤ 16 * 1100 := by
      refine Int.le_trans (Int.mul_le_mul_of_nonneg_right gn.2.2.2 (by omega)) ?_
      omega
    have hb1 : 64 + s.data + s.out + (s.more + 512) * (s.out / 32 + 1) / 16 ≤ boundS s := by
      unfold boundS
      rw [capB_is hd (by omega), capB_is (by omega : (0 : Int) ≤ s.out) (by omega), capB_is hm (by omega)]
      have h4 := hcap s.count
      have q2 : 0 ≤ 4 * capB s.count * (s.out / 32 + 1) := Int.mul_nonneg (by omega) (by omega)
      omega
    refine ⟨fun r hr => ?_, ?_, ?_⟩
    · simp at hr
      subst hr
      exact ⟨q.1, by show evkA s.alg ≤ 8; omega, by show 0 ≤ wideA s.alg; omega, by show wideA s.alg ≤ 1024; omega, by show 0 ≤ hk0 t s + hkTo s (hkN s); omega, by show hk0 t s + hkTo s (hkN s) ≤ _; omega⟩
    · simp [sumE]; omega
    · simp [sumE]; omega
  rw [if_neg k7] at hc ⊢
  by_cases k8 : s.kind = 8
  · rw [if_pos k8] at hc ⊢
    obtain ⟨t, h1, h2, h3, h4, h5, h6, h7, h8, h9⟩ := pbkC_zero hc
    rw [h1]
    have ht := h.ok _ _ h1
    have q := evk_ok s.alg
    have gk := keyB_rng (a := s.alg) ht.k0
    have hk := ht.k1
    have gt := tagB_rng (a := s.alg) (n := s.data + 4) (by omega)
    have gn := hkN_rng h3 h7 h8
    have e1 : pbA t s = keyB s.alg t.key + (hkN s : Int) * (tagB s.alg (s.data + 4) + (s.count - 1) * 2) := by
      unfold pbA
      rw [tagB_hash h3, gn.2.1]
    have hb1 : 64 + s.data + 512 / 16 + 4 * s.count * (s.out / 32 + 1) ≤ boundS s := by
      unfold boundS
      rw [capB_is hd (by omega), capB_is (by omega : (0 : Int) ≤ s.out) (by omega), capB_is (by omega : (0 : Int) ≤ s.count) (by omega)]
      have h4 := hcap s.more
      have q2 : 512 * 1 ≤ (capB s.more + 512) * (s.out / 32 + 1) := Int.le_trans (Int.mul_le_mul_of_nonneg_right (by omega : (512 : Int) ≤ capB s.more + 512) (by decide)) (Int.mul_le_mul_of_nonneg_left (by omega) (by omega))
      omega
    have hn : hkN s = 1 ∨ hkN s = 2 ∨ hkN s = 3 ∨ hkN s = 4 ∨ hkN s = 5 ∨ hkN s = 6 ∨ hkN s = 7 ∨ hkN s = 8 ∨ hkN s = 9 ∨ hkN s = 10 ∨ hkN s = 11 ∨ hkN s = 12 ∨ hkN s = 13 ∨ hkN s = 14 ∨ hkN s = 15 ∨ hkN s = 16 := by omega
    have hle : 4 * s.count * (hkN s : Int) ≤ 4 * s.count * (s.out / 32 + 1) := Int.mul_le_mul_of_nonneg_left gn.2.2.1 (by omega)
    have hsum : 0 ≤ pbA t s ∧ pbA t s ≤ 40000000 ∧ pbA t s + 2 ≤ 64 + s.data + 512 / 16 + 4 * s.count * (hkN s : Int) := by
      rw [e1]
      rcases hn with e | e | e | e | e | e | e | e | e | e | e | e | e | e | e | e <;> rw [e] <;> omega
    refine ⟨fun r hr => ?_, ?_, ?_⟩
    · simp at hr
      subst hr
      exact ⟨q.1, by show evkA s.alg ≤ 8; omega, by show 0 ≤ wideA s.alg; omega, by show wideA s.alg ≤ 1024; omega, hsum.1, hsum.2.1⟩
    · simp [sumE]; omega
    · simp [sumE]; omega
  rw [if_neg k8]
  by_cases k10 : s.kind = 10
  · rw [if_pos k10]
    refine ⟨fun r hr => ?_, by simp [sumE], by simp [sumE]; omega⟩
    simp at hr
    subst hr
    exact wipe
  rw [if_neg k10]
  simp [sumE_nil]
  omega
/-! ### the frame -/
theorem noteL_head (h : Rn) (mid : List Rn) (k s n : Int) (hk : k ≤ 8) (hh : h.k = 11) : ∃ mid', noteL (h :: mid) k s n = h :: mid' ∧ ((∀ x ∈ mid, x.k ≤ 8) → ∀ x ∈ mid', x.k ≤ 8) := by
  rcases List.eq_nil_or_concat mid with rfl | ⟨m0, r, rfl⟩
  · refine ⟨[⟨k, s, n⟩], ?_, fun _ x hx => ?_⟩
    · exact noteL_other [] h k s n (by omega)
    · simp at hx
      subst hx
      exact hk
  · rw [List.concat_eq_append]
    by_cases he : r.k = k ∧ r.s = s
    · obtain ⟨rfl, rfl⟩ := he
      refine ⟨m0 ++ [⟨r.k, r.s, r.c + n⟩], ?_, fun hm x hx => ?_⟩
      · rw [← List.cons_append, noteL_same]
        rfl
      · rcases List.mem_append.1 hx with hx | hx
        · exact hm x (by simp [hx])
        · simp at hx
          subst hx
          exact hk
    · refine ⟨m0 ++ [r] ++ [⟨k, s, n⟩], ?_, fun hm x hx => ?_⟩
      · rw [← List.cons_append, noteL_other _ _ _ _ _ he]
        rfl
      · rcases List.mem_append.1 hx with hx | hx
        · exact hm x hx
        · simp at hx
          subst hx
          exact hk
theorem noteAll_head (h : Rn) (hh : h.k = 11) : ∀ (l mid : List Rn), (∀ r ∈ l, r.k ≤ 8) → (∀ x ∈ mid, x.k ≤ 8) → ∃ mid', noteAll (h :: mid) l = h :: mid' ∧ ∀ x ∈ mid', x.k ≤ 8
  | [], mid, _, hm => ⟨mid, rfl, hm⟩
  | r :: l, mid, hl, hm => by
    show ∃ mid', noteAll (noteT (h :: mid) r) l = _ ∧ _
    unfold noteT
    split
    · exact noteAll_head h hh l mid (fun x hx => hl x (by simp [hx])) hm
    · obtain ⟨m1, e, hm1⟩ := noteL_head h mid r.k r.s r.c (hl r (by simp)) hh
      rw [e]
      exact noteAll_head h hh l m1 (fun x hx => hl x (by simp [hx])) (hm1 hm)
theorem tot_noteAll : ∀ (l a : List Rn), (∀ r ∈ l, 0 ≤ r.c) → tot (noteAll a l) = tot a + sumE l
  | [], a, _ => by show tot a = tot a + sumE []; rw [sumE_nil]; omega
  | r :: l, a, h => by
    have h0 := h r (by simp)
    have ih := fun a => tot_noteAll l a (fun x hx => h x (by simp [hx]))
    show tot (noteAll (noteT a r) l) = _
    rw [ih, sumE_cons]
    unfold noteT
    split
    · omega
    · rw [tot_note]; omega
structure Framed (kind code : Int) (rs : List Rn) : Prop where
  ex : ∃ mid, rs = ⟨11, kind, 1⟩ :: (mid ++ [⟨12, code, 1⟩])
  nrm : Nrm rs
  off : code ≠ 0 → rs.length = 2
theorem Framed.len {kind code : Int} {rs : List Rn} (h : Framed kind code rs) : 2 ≤ rs.length ∧ rs[0]? = some ⟨11, kind, 1⟩ ∧ rs[rs.length - 1]? = some ⟨12, code, 1⟩ := by
  obtain ⟨mid, rfl⟩ := h.ex
  refine ⟨by simp, rfl, ?_⟩
  have e : (⟨11, kind, 1⟩ :: (mid ++ [⟨12, code, 1⟩]) : List Rn).length - 1 = mid.length + 1 := by simp
  rw [e]
  simp
theorem runsD_ok {m : Int} {σ : Hs} (h : OKh m σ) (s : Sk) : Framed s.kind (codeD σ s) (runsD σ s) ∧ tot (runsD σ s) ≤ boundS s ∧ 2 ≤ tot (runsD σ s) ∧ tot (runsD σ s) ≤ 200000000 := by
  have hev : (∀ r ∈ (if codeD σ s = 0 then evS σ s.clip else []), OKe r) ∧ 0 ≤ sumE (if codeD σ s = 0 then evS σ s.clip else []) ∧ sumE (if codeD σ s = 0 then evS σ s.clip else []) + 2 ≤ boundS s := by
    have hbe : boundS s.clip = boundS s := by
      unfold boundS Sk.clip
      have e1 : capB (max 0 s.data) = capB s.data := by unfold capB; omega
      have e2 : capB (max 0 s.more) = capB s.more := by unfold capB; omega
      simp only [e1, e2]
    split
    · rename_i hc
      have := events_ok h (s := s.clip) (by show 0 ≤ max 0 s.data; omega) (by show 0 ≤ max 0 s.more; omega) hc
      rw [hbe] at this
      exact this
    · refine ⟨fun r hr => by simp at hr, Int.le_refl 0, ?_⟩
      rw [sumE_nil]
      unfold boundS
      have h1 := capB_nonneg s.data
      have h2 := capB_nonneg s.out
      have h3 := capB_nonneg s.more
      have h4 := capB_nonneg s.count
      have q1 : 0 ≤ (capB s.more + 512) * (capB s.out / 32 + 1) := Int.mul_nonneg (by omega) (by omega)
      have q2 : 0 ≤ 4 * capB s.count * (capB s.out / 32 + 1) := Int.mul_nonneg (by omega) (by omega)
      omega
  have hlen3 : (if codeD σ s = 0 then evS σ s.clip else []).length ≤ 3 := by
    split
    · unfold evS beginE
      simp only
      split
      · split
        · simp
        · split <;> simp
      split
      · simp
      split
      · simp
      split
      · simp
      split
      · simp
      split
      · simp
      split <;> simp
    · simp
  have hoff : codeD σ s ≠ 0 → (if codeD σ s = 0 then evS σ s.clip else []) = [] := fun hc => if_neg hc
  obtain ⟨E, hE⟩ : ∃ E, (if codeD σ s = 0 then evS σ s.clip else []) = E := ⟨_, rfl⟩
  unfold runsD
  rw [hE] at hev hoff hlen3 ⊢
  rw [foldl_times, noteL_nil]
  obtain ⟨mid, e, hm⟩ := noteAll_head ⟨11, s.kind, 1⟩ rfl E [] (fun r hr => (hev.1 r hr).k1) (fun x hx => by simp at hx)
  have e2 : noteL (noteAll [⟨11, s.kind, 1⟩] E) 12 (codeD σ s) 1 = ⟨11, s.kind, 1⟩ :: (mid ++ [⟨12, codeD σ s, 1⟩]) := by
    rw [e]
    rcases List.eq_nil_or_concat mid with rfl | ⟨m0, r, rfl⟩
    · exact noteL_other [] ⟨11, s.kind, 1⟩ 12 _ 1 (by simp)
    · rw [List.concat_eq_append] at hm ⊢
      have := hm r (by simp)
      rw [← List.cons_append, noteL_other _ r 12 _ 1 (by omega)]
      rfl
  have ht : tot (noteL (noteAll [⟨11, s.kind, 1⟩] E) 12 (codeD σ s) 1) = 1 + sumE E + 1 := by
    rw [tot_note, tot_noteAll E _ (fun r hr => (hev.1 r hr).c0)]
    rfl
  have hs3 : sumE E ≤ 3 * 40000000 := by
    match E, hlen3, hev.1 with
    | [], _, _ => rw [sumE_nil]; omega
    | [a], _, h => have := (h a (by simp)).c1; rw [sumE_cons, sumE_nil]; omega
    | [a, b], _, h => have := (h a (by simp)).c1; have := (h b (by simp)).c1; rw [sumE_cons, sumE_cons, sumE_nil]; omega
    | [a, b, c], _, h => have := (h a (by simp)).c1; have := (h b (by simp)).c1; have := (h c (by simp)).c1; rw [sumE_cons, sumE_cons, sumE_cons, sumE_nil]; omega
    | a :: b :: c :: d :: l, hl, _ => simp at hl
  refine ⟨⟨⟨mid, e2⟩, ?_, fun hc => ?_⟩, by rw [ht]; omega, by rw [ht]; omega, by rw [ht]; omega⟩
  · exact (Nrm.all E (a := [⟨11, s.kind, 1⟩]) (Int.le_refl 1)).note 12 _ 1 (Int.le_refl 1)
  · rw [hoff hc]
    show (noteL [⟨11, s.kind, 1⟩] 12 (codeD σ s) 1).length = 2
    rw [show noteL [⟨11, s.kind, 1⟩] 12 (codeD σ s) 1 = [] ++ [⟨11, s.kind, 1⟩] ++ [⟨12, codeD σ s, 1⟩] from noteL_other [] ⟨11, s.kind, 1⟩ 12 _ 1 (by simp)]
    rfl
/-! ### all operations -/
def eachTo (l : List Sk) : Nat → List (List Rn)
  | 0 => []
  | n + 1 => eachTo l n ++ [runsD (stTo l n) (l.getD n ⟨0, 0, 0, 0, 0, 0, 0⟩)]
def codesTo (l : List Sk) : Nat → List Int
  | 0 => []
  | n + 1 => codesTo l n ++ [codeD (stTo l n) (l.getD n ⟨0, 0, 0, 0, 0, 0, 0⟩)]
def eachL (l : List Sk) : List (List Rn) := eachTo l l.length
def codesL (l : List Sk) : List Int := codesTo l l.length
/-- the whole ledger of n operations -/
def allTo (l : List Sk) : Nat → List Rn
  | 0 => []
  | n + 1 => noteAll (allTo l n) (runsD (stTo l n) (l.getD n ⟨0, 0, 0, 0, 0, 0, 0⟩))
theorem eachTo_len (l : List Sk) : ∀ n, (eachTo l n).length = n
  | 0 => rfl
  | n + 1 => by unfold eachTo; rw [List.length_append, eachTo_len l n]; rfl
theorem codesTo_len (l : List Sk) : ∀ n, (codesTo l n).length = n
  | 0 => rfl
  | n + 1 => by unfold codesTo; rw [List.length_append, codesTo_len l n]; rfl
theorem eachTo_get (l : List Sk) : ∀ n i, i < n → (eachTo l n)[i]? = some (runsD (stTo l i) (l.getD i ⟨0, 0, 0, 0, 0, 0, 0⟩))
  | 0, i, h => by omega
  | n + 1, i, h => by
    unfold eachTo
    by_cases e : i < n
    · rw [List.getElem?_append_left (by rw [eachTo_len]; exact e)]
      exact eachTo_get l n i e
    · have : i = n := by omega
      subst this
      rw [List.getElem?_append_right (by rw [eachTo_len]; exact Nat.le_refl _), eachTo_len, Nat.sub_self]
      rfl
theorem allTo_ok (l : List Sk) : ∀ n : Nat, Nrm (allTo l n) ∧ 0 ≤ tot (allTo l n) ∧ tot (allTo l n) ≤ 200000000 * n
  | 0 => ⟨trivial, Int.le_refl 0, Int.le_refl 0⟩
  | n + 1 => by
    obtain ⟨h1, h2, h3⟩ := allTo_ok l n
    have h4 := runsD_ok (stTo_ok l n) (l.getD n ⟨0, 0, 0, 0, 0, 0, 0⟩)
    unfold allTo
    have hp := h4.1.nrm.posi
    have e := tot_noteAll (runsD (stTo l n) (l.getD n ⟨0, 0, 0, 0, 0, 0, 0⟩)) (allTo l n) (fun r hr => by have := hp r hr; omega)
    have e2 : sumE (runsD (stTo l n) (l.getD n ⟨0, 0, 0, 0, 0, 0, 0⟩)) = tot (runsD (stTo l n) (l.getD n ⟨0, 0, 0, 0, 0, 0, 0⟩)) := rfl
    exact ⟨Nrm.all _ h1, by omega, by omega⟩
/-! ### what comes behind says nothing -/
theorem stTo_take (l : List Sk) (n : Nat) : ∀ k, k ≤ n → stTo (l.take n) k = stTo l k
  | 0, _ => rfl
  | k + 1, h => by
    unfold stTo
    rw [stTo_take l n k (by omega), List.getElem?_take, if_pos (by omega)]
theorem eachTo_take (l : List Sk) (n : Nat) : ∀ k, k ≤ n → eachTo (l.take n) k = eachTo l k
  | 0, _ => rfl
  | k + 1, h => by
    unfold eachTo
    rw [eachTo_take l n k (by omega), stTo_take l n k (by omega), List.getD_eq_getElem?_getD, List.getD_eq_getElem?_getD, List.getElem?_take, if_pos (by omega)]
theorem codesTo_take (l : List Sk) (n : Nat) : ∀ k, k ≤ n → codesTo (l.take n) k = codesTo l k
  | 0, _ => rfl
  | k + 1, h => by
    unfold codesTo
    rw [codesTo_take l n k (by omega), stTo_take l n k (by omega), List.getD_eq_getElem?_getD, List.getD_eq_getElem?_getD, List.getElem?_take, if_pos (by omega)]
theorem codesTo_pre (l : List Sk) (k : Nat) : ∀ n, k ≤ n → (codesTo l n).take k = codesTo l k
  | 0, h => by
    have : k = 0 := by omega
    subst this
    rfl
  | n + 1, h => by
    by_cases e : k = n + 1
    · subst e
      exact List.take_of_length_le (by rw [codesTo_len]; exact Nat.le_refl _)
    · show (codesTo l n ++ [_]).take k = codesTo l k
      rw [List.take_append_of_le_length (by rw [codesTo_len]; omega)]
      exact codesTo_pre l k n (by omega)
/-! ### what a kind does not use says nothing -/
end Go.Proofs.Ytkidijjhedjifaa
