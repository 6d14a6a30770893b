/- What TraceWhole's walk leans on: totals, a ledger's runs, the rising pairs. -/
import Derived.Test.YtfielodchoghlaaRows
import Derived.Test.YtfielodchoghlaaSizes
import Derived.Test.YtfielodchoghlaaFar
import Derived.Test.YtfielodchoghlaaFlats
import Derived.Test.YtfielodchoghlaaLenv
namespace Go.Proofs.Ytfielodchoghlaa
open Go.RowKit
set_option maxRecDepth 100000
set_option linter.unusedVariables false
set_option linter.unusedSimpArgs false
theorem total_any (u : Value) (rs : List Rn) (w : World) (hu : KN.R w u rs) (hl : rs.length ≤ 1048576) (hb : ∀ k, -1000000000000000000 ≤ tot (rs.take k) ∧ tot (rs.take k) ≤ 1000000000000000000) :
    Calls Try.prog 32 #[u] w fun e w' => e = .returned (.int .i64 (tot rs)) ∧ w = w' := by
  have HU := Lib.hid hu
  have HB := Lib.hid hb
  obtain ⟨ao, cap, rfl, _, _, _⟩ := hu.any
  clear hu hb
  go_enter Try.func32, Try.ntmps32
  go_wp2_with fail
  go_loop [3, 4] (fun n i => ∃ (k : Nat) (t : Int), k ≤ rs.length ∧ i = .int .i64 (k : Int) ∧ n = .int .i64 t ∧ Hid (tot (rs.take k) = t)) (fun _ i => rs.length - (intOf i).toNat)
  case atStart => exact ⟨0, 0, Nat.zero_le _, rfl, rfl, Lib.hid (by simp [tot])⟩
  case round =>
    obtain ⟨k, t, hk, rfl, rfl, HS⟩ := hrel
    by_cases hlt : k < rs.length
    · obtain ⟨⟨rk, rsz, rc⟩, hx⟩ : ∃ x, rs[k]? = some x := ⟨_, List.getElem?_eq_getElem hlt⟩
      obtain ⟨g, off, rfl, _, d1, d2, d3⟩ := runAt HU.out (Below.refl _ _) hx
      have hs := tot_take1 hx
      rw [HS.out] at hs
      have b1 := HB.out k
      have b2 := HB.out (k + 1)
      rw [HS.out] at b1
      rw [hs] at b2
      dsimp only at b2
      have HS2 := Lib.hid hs
      have hwr : IntKind.i64.wrap (t + rc) = t + rc := IntWalk.i64_in _ (by omega)
      clear hx hs HS b1 b2
      go_wp2
      go_round
      case rel => exact ⟨k + 1, t + rc, by omega, by go_num, rfl, HS2⟩
      case measure => simp [intOf]; omega
    · obtain rfl : k = rs.length := by omega
      have ht : tot rs = t := by have h := HS.out; rw [List.take_length] at h; exact h
      have HT := Lib.hid ht
      clear HS ht
      go_wp2
      go_ret
      exact ⟨by rw [HT.out]; rfl, rfl⟩
/-- a ledger's runs: new memory, all else as it was -/
theorem runsP_envB {w0 w : World} {obs : List Ob} (h : Env w0 w obs) (i : Nat) {p : Value} {rs : List Rn} (hi : obs[i]? = some (obP p (some rs))) (hl : rs.length ≤ 5497558138880) :
    Calls Try.prog 35 #[p] w (KN.New rs w) := by
  obtain ⟨F, f1, _⟩ := h.lgP i hi
  obtain ⟨b, v, rfl, rfl, f2⟩ := f1
  exact (runsP_any b v rs w f2 hl).mono fun e w' ⟨v, he, h1, h2, h3⟩ => ⟨v, he, h1, h2, h3⟩
/-! ### the plain law, at the walk's places -/
theorem okRn_note {a : List Rn} {r : Rn} (ha : ∀ x ∈ a, okE x.ev) (hr : okE r.ev) : ∀ x ∈ noteL a r.k r.s r.c, okE x.ev := by
  rcases List.eq_nil_or_concat a with rfl | ⟨a0, y, rfl⟩
  · intro x hx
    rw [noteL_nil, List.mem_singleton] at hx
    subst hx
    exact hr
  · rw [List.concat_eq_append] at *
    by_cases h : y.k = r.k ∧ y.s = r.s
    · rw [← h.1, ← h.2, noteL_same]
      intro x hx
      rcases List.mem_append.1 hx with hx | hx
      · exact ha x (by simp [hx])
      · rw [List.mem_singleton] at hx
        subst hx
        exact ha y (by simp)
    · rw [noteL_other _ _ _ _ _ h]
      intro x hx
      rcases List.mem_append.1 hx with hx | hx
      · exact ha x hx
      · rw [List.mem_singleton] at hx
        subst hx
        exact hr
theorem evs_H : ∀ (n : Nat) (rs : List Rn), rs.length = n → (∀ r ∈ rs, okE r.ev) → ∀ x ∈ noteH rs, okE x.ev
  | 0, rs, hn, _ => by
    have : rs = [] := List.eq_nil_of_length_eq_zero hn
    subst this
    intro x hx
    simp [noteH] at hx
  | n + 1, rs, hn, h => by
    rcases List.eq_nil_or_concat rs with rfl | ⟨l, r, rfl⟩
    · simp at hn
    · rw [List.concat_eq_append] at *
      rw [noteH_snoc]
      exact okRn_note (evs_H n l (by simpa using hn) (fun x hx => h x (by simp [hx]))) (h r (by simp))
theorem posi_le : ∀ (l : List Rn), Posi l → ∀ r ∈ l, r.c ≤ tot l
  | [], _, r, hr => by simp at hr
  | y :: l, hp, r, hr => by
    rw [tot_cons]
    have h3 : 1 ≤ y.c := hp y (by simp)
    have h4 := tot_nonneg l (fun z hz => hp z (by simp [hz]))
    rcases List.mem_cons.1 hr with h5 | h5
    · subst h5; omega
    · have := posi_le l (fun z hz => hp z (by simp [hz])) r h5
      omega
theorem okRn_H {rs : List Rn} (hm : mayL rs = true) (hok : ∀ r ∈ rs, okRn r) : ∀ x ∈ noteH rs, okRn x := by
  obtain ⟨h1, h2⟩ := may_ok hm
  have L := ledH _ rs rfl h2
  have he := evs_H _ rs rfl (fun r hr => okRn_ev (hok r hr))
  have hb := (tot_bd h2 rs.length).2
  rw [List.take_length] at hb
  intro x hx
  have hp : 1 ≤ x.c := L.pos x hx
  have hc := posi_le _ L.pos x hx
  rw [L.tot] at hc
  obtain ⟨e1, e2⟩ := he x hx
  have : (rs.length : Int) * 4294967296 ≤ 4503599627370496 := by omega
  exact ⟨e1, e2, by omega, by omega⟩
theorem tot_bdW {rs : List Rn} (hm : mayL rs = true) (k : Nat) : 0 ≤ tot (rs.take k) ∧ tot (rs.take k) ≤ 4503599627370496 := by
  obtain ⟨h1, h2⟩ := may_ok hm
  have a := (tot_bd h2 k).1
  by_cases hk : k ≤ rs.length
  · have := (tot_bd h2 k).2
    omega
  · have := (tot_bd h2 rs.length).2
    rw [List.take_length] at this
    rw [List.take_of_length_le (by omega)] at a ⊢
    omega
theorem tot_pos : ∀ (l : List Rn), (∀ x ∈ l, 1 ≤ x.c) → 0 ≤ tot l
  | [], _ => by simp [tot]
  | x :: l, h => by
    have := h x (by simp)
    have := tot_pos l (fun y hy => h y (by simp [hy]))
    rw [tot_cons]
    omega
theorem hist_bdW {rs h : List Rn} (hm : mayL rs = true) (a : IsHist rs h) (k : Nat) : 0 ≤ tot (h.take k) ∧ tot (h.take k) ≤ 4503599627370496 := by
  have hp := a.pos (may_ok hm).2
  have h1 := tot_pos (h.take k) (fun x hx => hp x (List.mem_of_mem_take hx))
  have h2 := tot_pos (h.drop k) (fun x hx => hp x (List.mem_of_mem_drop hx))
  have h3 := tot_split h k
  have h4 := (tot_bdW hm rs.length).2
  rw [List.take_length] at h4
  rw [a.tot] at h3
  omega
theorem noteTo_succ {rs : List Rn} {k : Nat} {kk s c : Int} (hx : rs[k]? = some ⟨kk, s, c⟩) (hc : 1 ≤ c) {w0 w : World} {a : Ob} {p : Value} :
    Env w0 w ([a, obP p (some (noteH (rs.take k)))].set 1 (obP p (timesO (some (noteH (rs.take k))) kk s c))) = Env w0 w [a, obP p (some (noteH (rs.take (k + 1))))] := by
  have e : noteH (rs.take (k + 1)) = noteL (noteH (rs.take k)) kk s c := by
    rw [List.take_add_one, hx]
    exact noteH_snoc _ _
  rw [e]
  unfold timesO noteO
  rw [if_neg (by omega)]
  rfl
theorem ins_mono {rs : List Rn} (hok : ∀ r ∈ rs, okC r) (p : Int → Bool) : 0 ≤ insK rs p ∧ insK rs p ≤ tot rs := by
  have := ins_bd hok p rs.length (Nat.le_refl _)
  rw [List.take_length] at this
  exact this
theorem cntd_bd {rs h : List Rn} (hm : mayL rs = true) (a : IsHist rs h) (i : Nat) (hi : i ≤ h.length := by omega) : 0 ≤ cntdK rs h i ∧ cntdK rs h i ≤ tot rs := by
  rw [cntd_ins hm a.up i hi]
  exact ins_mono (may_ok hm).2 _
theorem ser_inv {rs : List Rn} (hok : ∀ r ∈ rs, okC r) (kk : Int) : SerInv rs rs.length (serTo rs kk rs.length) :=
  (ser_ins hok kk (fun k => decide (k = kk)) (fun k _ _ => by simp) rs.length (Nat.le_refl _)).1
theorem series_len {rs : List Rn} (hm : mayL rs = true) (kk : Int) : (seriesL rs kk).length ≤ 1048576 := by
  have h := (ser_inv (may_ok hm).2 kk).len
  unfold seriesL
  rw [if_pos hm]
  rw [List.take_length] at h
  unfold mayL at hm
  rw [decide_eq_true_eq] at hm
  omega
theorem series_nn {rs : List Rn} (hm : mayL rs = true) (kk : Int) : ∀ x ∈ seriesL rs kk, 0 ≤ x := by
  have h := (ser_inv (may_ok hm).2 kk).bd
  unfold seriesL
  rw [if_pos hm]
  exact fun x hx => (h x hx).1
theorem sum_nn : ∀ (l : List Int), (∀ x ∈ l, 0 ≤ x) → 0 ≤ l.sum
  | [], _ => by simp
  | x :: l, h => by
    have := h x (by simp)
    have := sum_nn l (fun y hy => h y (by simp [hy]))
    rw [List.sum_cons]
    omega
theorem sum_take_le {l : List Int} (h : ∀ x ∈ l, 0 ≤ x) (j : Nat) : 0 ≤ (l.take j).sum ∧ (l.take j).sum ≤ l.sum := by
  have h1 := sum_nn (l.take j) (fun x hx => h x (List.mem_of_mem_take hx))
  have h2 := sum_nn (l.drop j) (fun x hx => h x (List.mem_of_mem_drop hx))
  have h3 : l.sum = (l.take j).sum + (l.drop j).sum := by rw [← List.sum_append, List.take_append_drop]
  omega
theorem sizes_pos {h : List Rn} {i : Nat} {r : Rn} (hx : h[i]? = some r) : 1 ≤ (sizesL h r.k).length := by
  have hm : r.s ∈ sizesL h r.k := by
    unfold sizesL
    exact List.mem_map.2 ⟨r, List.mem_filter.2 ⟨List.mem_of_getElem? hx, by simp⟩, rfl⟩
  exact List.length_pos_of_mem hm
theorem oneH_tot : ∀ (l : List Ev) (a : List Rn), tot (oneH l a) = tot a + l.length
  | [], a => by simp [oneH]
  | e :: l, a => by
    have := oneH_tot l (noteL a e.k e.s 1)
    rw [tot_note] at this
    show tot (oneH l (noteL a e.k e.s 1)) = _
    rw [this, List.length_cons]
    omega
theorem oneH_len : ∀ (l : List Ev) (a : List Rn), (oneH l a).length ≤ a.length + l.length
  | [], a => by simp [oneH]
  | e :: l, a => by
    have := oneH_len l (noteL a e.k e.s 1)
    have h2 := noteL_lenH a e.k e.s 1
    show (oneH l (noteL a e.k e.s 1)).length ≤ _
    rw [List.length_cons]
    omega
theorem oneTo_succ {F : List Ev} {j : Nat} {k s : Int} (hx : F[j]? = some ⟨k, s⟩) {w0 w : World} {a b : Ob} {p : Value} :
    Env w0 w ([a, b, obP p (some (oneH (F.take j) []))].set 2 (obP p (noteO (some (oneH (F.take j) [])) k s 1))) = Env w0 w [a, b, obP p (some (oneH (F.take (j + 1)) []))] := by
  have e : oneH (F.take (j + 1)) [] = noteL (oneH (F.take j) []) k s 1 := by
    rw [List.take_add_one, hx]
    unfold oneH
    rw [List.foldl_append]
    rfl
  rw [e]
  rfl
end Go.Proofs.Ytfielodchoghlaa
