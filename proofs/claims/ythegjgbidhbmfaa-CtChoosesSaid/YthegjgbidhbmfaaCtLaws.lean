/- The law's own helpers: awake, record; the rest of the contracts over a law's world. -/
import Derived.Test.YthegjgbidhbmfaaRows
import Derived.Test.YthegjgbidhbmfaaCompares
namespace Go.Proofs.Ythegjgbidhbmfaa
open Go.RowKit
set_option maxRecDepth 100000
set_option linter.unusedVariables false

theorem Env.lit {w0 w : World} {obs : List Ob} (h : Env w0 w obs) (g : Nat) (hg : g = w.heap.size) (l : List UInt8) (hl : l.length ≤ 1000) :
    Env w0 (w.alloc (.cells (l.map B).toArray 5)) (obs ++ [obB (.slice (some ⟨g, 0, none⟩) l.length l.length) l]) := by
  subst hg
  refine h.pushB ?_ ((Below.refl _ _).alloc (Nat.le_refl _) _) (fun x hx => ?_)
  · have := World.ownsRow_lit (base := 0) (e := 5) (size := 1) w (l.map B).toArray l.length (Nat.zero_le _) (by unfold maxLen; omega) (by simp)
    simpa [OB] using this
  · have e : w.heap.size = x := by simpa [fpv, Value.ownBlock] using hx
    omega
theorem lenP_env {w0 w : World} {obs : List Ob} (h : Env w0 w obs) (i : Nat) {p : Value} {rs : List Rn} (hi : obs[i]? = some (obP p (some rs))) :
    Calls Try.prog 37 #[p] w fun e w' => e = .returned (.int .i64 (tot rs)) ∧ w = w' := by
  obtain ⟨F, f1, _⟩ := h.ledP i hi
  obtain ⟨b, v, rfl, rfl, f2⟩ := f1
  exact lenP_any b v rs w f2
theorem Env.drop {w0 w : World} {obs : List Ob} {x : Ob} (h : Env w0 w (obs ++ [x])) : Env w0 w obs := by
  obtain ⟨own, h1, h2⟩ := h
  refine ⟨own, h1, fun i ob hi => h2 i ob ?_⟩
  have hlt : i < obs.length := (List.getElem?_eq_some_iff.1 hi).1
  rw [List.getElem?_append_left hlt]
  exact hi
theorem Bs.take {w : World} {ao : Option Addr} {n cap : Nat} {l : List UInt8} (h : Bs w (.slice ao n cap) l) (k : Nat) (hk : k ≤ l.length) : Bs w (.slice ao k cap) (l.take k) := by
  obtain ⟨ao', cap', hv, h1, h2, h3, h4⟩ := h.form
  injection hv with e1 e2 e3
  subst e1; subst e3
  have hlen : (l.take k).length = k := by simp; omega
  refine ⟨ao, cap, by rw [hlen], by omega, h2, h3, fun j hj => ?_⟩
  rw [hlen] at hj
  obtain ⟨b, off, hb, hc⟩ := h4 j (by omega)
  refine ⟨b, off, hb, ?_⟩
  rw [hc, List.getD_eq_getElem?_getD, List.getD_eq_getElem?_getD, List.getElem?_take, if_pos hj]
/-- Choose: what it leaves of the ledger -/
theorem chooseL_env {w0 w : World} {obs : List Ob} (h : Env w0 w obs) (i : Nat) {p : Value} {o : Option (List Rn)} (hi : obs[i]? = some (obP p o)) (hb : Room o 1) (yes : Bool) {u v : Value} {xs ys : List UInt8} (hu : Src w0 w obs i u xs) (hv : Src w0 w obs i v ys) (hn : xs.length ≤ 140737488355328) :
    Calls Try.prog 21 #[p, .bool yes, u, v] w fun e w' => (∃ r er, e = .returned (.tuple #[r, .int .i64 er])) ∧ Env w0 w' (obs.set i (obP p (if xs.length = ys.length then noteO o 7 xs.length 1 else o))) := by
  obtain ⟨F, f1, f2, f3, f4⟩ := h.ledP i hi
  by_cases hl : xs.length = ys.length
  · rw [if_pos hl]
    exact (choose_any p F o yes u v xs ys w f1 hb hu.1 hv.1 (hu.apart f2 f3) (hv.apart f2 f3) hl hn).mono fun e w' ⟨w1, r, h1, he, _, h3, _⟩ => ⟨⟨r, 0, he⟩, (f4 w1 _ h1).below h3⟩
  · rw [if_neg hl]
    exact (choose_off p yes u v xs ys w hu.1 hv.1 hl).mono fun e w' ⟨he, hw⟩ => ⟨⟨_, 2, he⟩, f4 w' _ (LaidP.same f1 0 (by rw [World.drewN_zero]; exact hw.symm))⟩
/-- Choose, on lists of one length: the answer is a thing too -/
theorem choose_env {w0 w : World} {obs : List Ob} (h : Env w0 w obs) (i : Nat) {p : Value} {o : Option (List Rn)} (hi : obs[i]? = some (obP p o)) (hb : Room o 1) (yes : Bool) {u v : Value} {xs ys : List UInt8} (hu : Src w0 w obs i u xs) (hv : Src w0 w obs i v ys) (hl : xs.length = ys.length) (hn : xs.length ≤ 140737488355328) :
    Calls Try.prog 21 #[p, .bool yes, u, v] w fun e w' => ∃ r, e = .returned (.tuple #[r, .int .i64 0]) ∧ Env w0 w' (obs.set i (obP p (noteO o 7 xs.length 1)) ++ [obB r (sel yes xs ys)]) := by
  obtain ⟨F, f1, f2, f3, f4⟩ := h.ledP i hi
  exact (choose_any p F o yes u v xs ys w f1 hb hu.1 hv.1 (hu.apart f2 f3) (hv.apart f2 f3) hl hn).mono fun e w' ⟨w1, r, h1, he, h2, h3, h4⟩ => ⟨r, he, (f4 w1 _ h1).pushB h2 h3 h4⟩
theorem choose_nil {w0 w : World} {obs : List Ob} (h : Env w0 w obs) (yes : Bool) {u v : Value} {xs ys : List UInt8} (hu : Bs w u xs) (hv : Bs w v ys) (hl : xs.length = ys.length) (hn : xs.length ≤ 140737488355328) :
    Calls Try.prog 21 #[.pointer none, .bool yes, u, v] w fun e w' => ∃ r, e = .returned (.tuple #[r, .int .i64 0]) ∧ Env w0 w' (obs ++ [obB r (sel yes xs ys)]) :=
  (choose_any _ _ none yes u v xs ys w (LgP.nil w) (Room.none 1) hu hv (fun _ _ _ h => h) (fun _ _ _ h => h) hl hn).mono fun e w' ⟨w1, r, h1, he, h2, h3, h4⟩ => ⟨r, he, (h.below h1.nothing).pushB h2 h3 h4⟩
theorem rchoose_env {w0 w : World} {obs : List Ob} (h : Env w0 w obs) (i : Nat) {p : Value} {o : Option (List Rn)} (hi : obs[i]? = some (obR p o)) (hb : Room o 1) (yes : Bool) {u v : Value} {xs ys : List UInt8} (hu : Src w0 w obs i u xs) (hv : Src w0 w obs i v ys) (hl : xs.length = ys.length) (hn : xs.length ≤ 140737488355328) :
    Calls Try.prog 22 #[p, .bool yes, u, v] w fun e w' => ∃ r, e = .returned (.tuple #[r, .int .i64 0]) ∧ Env w0 w' (obs.set i (obR p (noteO o 7 xs.length 1)) ++ [obB r (sel yes xs ys)]) := by
  obtain ⟨F, f1, f2, f3, f4⟩ := h.ledR i hi
  exact (rchoose_any p F o yes u v xs ys w f1 hb hu.1 hv.1 (hu.apart f2 f3) (hv.apart f2 f3) hl hn).mono fun e w' ⟨w1, r, h1, he, h2, h3, h4⟩ => ⟨r, he, (f4 w1 _ h1).pushB h2 h3 h4⟩
theorem wiped_env {w0 w : World} {obs : List Ob} (h : Env w0 w obs) (i : Nat) {p : Value} {o : Option (List Rn)} (hi : obs[i]? = some (obR p o)) (hb : Room o 1) {u : Value} {xs : List UInt8} (hu : Bs w u xs) (hn : xs.length ≤ 140737488355328) :
    Calls Try.prog 14 #[p, u] w fun e w' => ∃ r, e = .returned r ∧ Env w0 w' (obs.set i (obR p (noteO o 8 xs.length 1)) ++ [obB r (List.replicate xs.length 0)]) := by
  obtain ⟨F, f1, f2, f3, f4⟩ := h.ledR i hi
  exact (wiped_any p F o u xs w f1 hb hu hn).mono fun e w' ⟨w1, r, h1, he, h2, h3, h4⟩ => ⟨r, he, (f4 w1 _ h1).pushB h2 h3 h4⟩
theorem wipe_env {w0 w : World} {obs : List Ob} (h : Env w0 w obs) (i j : Nat) (hij : i ≠ j) {p : Value} {o : Option (List Rn)} (hi : obs[i]? = some (obP p o)) (hb : Room o 1) {g capL : Nat} {l : List UInt8} (hj : obs[j]? = some (obB (.slice (some ⟨g, 0, none⟩) l.length capL) l))
    (off n cap : Nat) (hn : off + n ≤ l.length) (hl : l.length ≤ 140737488355328) :
    Calls Try.prog 13 #[p, .slice (some ⟨g, off, none⟩) n cap] w fun e w' => e = .returned (.tuple #[]) ∧ Env w0 w' ((obs.set i (obP p (noteO o 8 n 1))).set j (obB (.slice (some ⟨g, 0, none⟩) l.length capL) (wipeTo l off n))) := by
  obtain ⟨F, G, f1, g1, f2, g2, fg, hup⟩ := h.get2 i j hij hi hj
  obtain ⟨g1, rfl⟩ := g1
  have hg : ¬ F g := fun hf => fg g hf rfl
  refine (wipe_any p F o g off n cap capL l w f1 hb g1 hn hg hl).mono fun e w' ⟨he, w1, h1, h2, F', h3, h4, h5⟩ => ⟨he, ?_⟩
  have hgl : g < w1.heap.size := h1.lt g rfl
  refine hup w' F' (fpv _) (obP p (noteO o 8 n 1)) (obB _ (wipeTo l off n)) h3 ⟨h1.keep h4 (fun x hx hf => hg ?_), rfl⟩ ?_ (fun x hx => ?_) (fun x hx => .inl hx) (fun x hx hgx => ?_)
  · have e : g = x := by simpa [fpv, Value.ownBlock] using hx
    rw [e]; exact hf
  · refine (h2.mono (S' := fun x => F x ∨ fpv (.slice (some ⟨g, 0, none⟩) l.length capL) x) (fun x hx => .inr (by rw [hx]; rfl))).trans (h4.mono (S' := fun x => F x ∨ fpv (.slice (some ⟨g, 0, none⟩) l.length capL) x) (fun x hx => .inl hx)) (fun x hx => .inl hx)
  · exact (h5 x hx).imp id (fun hh => Nat.le_trans h2.size hh)
  · have e : g = x := by simpa [fpv, Value.ownBlock] using hgx
    subst e
    rcases h5 g hx with hh | hh
    · exact hg hh
    · omega
theorem wipe0_env {w0 w : World} {obs : List Ob} (h : Env w0 w obs) (i : Nat) {p : Value} {o : Option (List Rn)} (hi : obs[i]? = some (obP p o)) (hb : Room o 1) (ao : Option Addr) (cap : Nat) :
    Calls Try.prog 13 #[p, .slice ao 0 cap] w fun e w' => e = .returned (.tuple #[]) ∧ Env w0 w' (obs.set i (obP p (noteO o 8 0 1))) := by
  obtain ⟨F, f1, f2, f3, f4⟩ := h.ledP i hi
  exact (wipe_none p F o ao cap w f1 hb).mono fun e w' ⟨he, h1⟩ => ⟨he, f4 w' _ h1⟩
/-- a whole list, just made: wiped, and forgotten -/
theorem wipeNew_env {w0 w : World} {obs : List Ob} {v : Value} {l : List UInt8} (h : Env w0 w (obs ++ [obB v l])) (i : Nat) {p : Value} {o : Option (List Rn)} (hi : obs[i]? = some (obP p o)) (hb : Room o 1) (hl : l.length ≤ 140737488355328) :
    Calls Try.prog 13 #[p, v] w fun e w' => e = .returned (.tuple #[]) ∧ Env w0 w' (obs.set i (obP p (noteO o 8 l.length 1))) := by
  have hlt : i < obs.length := (List.getElem?_eq_some_iff.1 hi).1
  have hi' : (obs ++ [obB v l])[i]? = some (obP p o) := by rw [List.getElem?_append_left hlt]; exact hi
  have hj : (obs ++ [obB v l])[obs.length]? = some (obB v l) := by simp
  by_cases h0 : l = []
  · subst h0
    obtain ⟨ao, cap, rfl⟩ := (h.bytes _ hj).any
    refine (wipe0_env h i hi' hb ao cap).mono fun e w' ⟨he, h1⟩ => ⟨he, ?_⟩
    rw [List.set_append_left _ _ hlt] at h1
    exact h1.drop
  · obtain ⟨g, cap, rfl⟩ := (h.bytes _ hj).form (List.length_pos_iff.2 h0)
    refine (wipe_env h i obs.length (by omega) hi' hb hj 0 l.length cap (by omega) hl).mono fun e w' ⟨he, h1⟩ => ⟨he, ?_⟩
    rw [List.set_append_left _ _ hlt, List.set_append_right _ _ (by simp), List.length_set, Nat.sub_self, List.set_cons_zero] at h1
    exact h1.drop
set_option maxHeartbeats 4000000 in
theorem ctAwake_any (w : World) : Calls Try.prog 34 #[] w fun e w' => e = .returned (.bool true) ∧ Below w.heap.size w w' := by
  go_enter Try.func34, Try.ntmps34
  go_wp2_with fail
  refine (newP_env (Env.start w)).mono ?_
  rintro e w1 ⟨p, rfl, h1'⟩
  have H1 := Lib.hid h1'
  clear h1'
  go_wp2_with fail
  have H2 := Lib.hid ((H1.out.lit w1.heap.size rfl [1, 255] (by decide)).lit (w1.heap.size + 1) (by simp) [2, 0] (by decide))
  clear H1
  refine (less_env H2.out 0 rfl (Few.nil.room (by omega)) (Src.whole H2.out 0 1 (by decide) rfl) (Src.whole H2.out 0 2 (by decide) rfl)).mono ?_
  rintro e w2 ⟨he, h5⟩
  have he' : e = .returned (.tuple #[.bool true, .int .i64 0]) := he
  subst he'
  obtain ⟨r1, hr1⟩ : ∃ r1, r1 = [(⟨6, 2, 1⟩ : Rn)] := ⟨_, rfl⟩
  obtain ⟨x1, hx1⟩ : ∃ x, x = obB (.slice (some ⟨w1.heap.size, 0, none⟩) 2 2) [1, 255] := ⟨_, rfl⟩
  obtain ⟨x2, hx2⟩ : ∃ x, x = obB (.slice (some ⟨w1.heap.size + 1, 0, none⟩) 2 2) [2, 0] := ⟨_, rfl⟩
  have H3 : Hid (Env w w2 [obP p (some r1), x1, x2]) := Lib.hid (by subst hr1 hx1 hx2; exact h5)
  have R1 := Lib.hid hr1
  clear h5 he H2 hr1 hx1 hx2
  go_wp2_with fail
  have H4 := Lib.hid ((H3.out.lit w2.heap.size rfl [1, 2] (by decide)).lit (w2.heap.size + 1) (by simp) [1, 2] (by decide))
  clear H3
  refine (equal_env H4.out 0 rfl (by rw [R1.out]; exact Room.some (by decide) (by decide)) (Src.whole H4.out 0 3 (by decide) rfl) (Src.whole H4.out 0 4 (by decide) rfl)).mono ?_
  rintro e w3 ⟨he, h5⟩
  have he' : e = .returned (.bool true) := he
  subst he'
  obtain ⟨r2, hr2⟩ : ∃ r, r = [(⟨6, 2, 2⟩ : Rn)] := ⟨_, rfl⟩
  obtain ⟨x3, hx3⟩ : ∃ x, x = obB (.slice (some ⟨w2.heap.size, 0, none⟩) 2 2) [1, 2] := ⟨_, rfl⟩
  obtain ⟨x4, hx4⟩ : ∃ x, x = obB (.slice (some ⟨w2.heap.size + 1, 0, none⟩) 2 2) [1, 2] := ⟨_, rfl⟩
  have H5 : Hid (Env w w3 [obP p (some r2), x1, x2, x3, x4]) := Lib.hid (by rw [R1.out] at h5; subst hr2 hx3 hx4; exact h5)
  have R2 := Lib.hid hr2
  clear h5 he H4 hr2 hx3 hx4
  go_wp2_with fail
  have H6 := Lib.hid ((H5.out.lit w3.heap.size rfl [1, 2] (by decide)).lit (w3.heap.size + 1) (by simp) [1, 3] (by decide))
  clear H5
  refine (equal_env H6.out 0 rfl (by rw [R2.out]; exact Room.some (by decide) (by decide)) (Src.whole H6.out 0 5 (by decide) rfl) (Src.whole H6.out 0 6 (by decide) rfl)).mono ?_
  rintro e w4 ⟨he, h5⟩
  have he' : e = .returned (.bool false) := he
  subst he'
  obtain ⟨r3, hr3⟩ : ∃ r, r = [(⟨6, 2, 3⟩ : Rn)] := ⟨_, rfl⟩
  obtain ⟨x5, hx5⟩ : ∃ x, x = obB (.slice (some ⟨w3.heap.size, 0, none⟩) 2 2) [1, 2] := ⟨_, rfl⟩
  obtain ⟨x6, hx6⟩ : ∃ x, x = obB (.slice (some ⟨w3.heap.size + 1, 0, none⟩) 2 2) [1, 3] := ⟨_, rfl⟩
  have H7 : Hid (Env w w4 [obP p (some r3), x1, x2, x3, x4, x5, x6]) := Lib.hid (by rw [R2.out] at h5; subst hr3 hx5 hx6; exact h5)
  have R3 := Lib.hid hr3
  clear h5 he H6 hr3 hx5 hx6
  go_wp2_with fail
  refine (lenP_env H7.out 0 rfl).mono ?_
  rintro e w5 ⟨he, rfl⟩
  have he' : e = .returned (.int .i64 3) := by rw [he, R3.out]; rfl
  subst he'
  clear he
  go_wp2_with fail
  refine (mask_any true _).mono ?_
  rintro e w5 ⟨he, rfl⟩
  have he' : e = .returned (.int .u8 255) := he
  subst he'
  clear he
  go_wp2_with fail
  refine (mask_any false _).mono ?_
  rintro e w5 ⟨he, rfl⟩
  have he' : e = .returned (.int .u8 0) := he
  subst he'
  clear he
  go_wp2
  go_ret
  exact ⟨rfl, H7.out.base⟩
end Go.Proofs.Ythegjgbidhbmfaa
