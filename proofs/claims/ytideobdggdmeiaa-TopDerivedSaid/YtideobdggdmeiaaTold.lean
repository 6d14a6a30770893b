/- PBKDF2: HMAC of pieces by a Mac that is reset ahead of it. -/
import Derived.Test.YtideobdggdmeiaaPbk
namespace Go.Proofs.Ytideobdggdmeiaa
open Go.RowKit
set_option maxRecDepth 100000
set_option linter.unusedVariables false
set_option linter.unusedSimpArgs false
def cat (ps : List (Value × List UInt8)) : List UInt8 := ps.flatMap (·.2)
/-- bytes told in new memory by a Mac that may have another inner state then -/
structure MacTold (g : Bool) (w : World) (b bo bf : Nat) (k m : List UInt8) (v : Value) (w' : World) : Prop where
  row : OB w' v ((HA g).tag k m)
  new : ∀ x, fpv v x → w.heap.size ≤ x
  mac : ∃ bi s, w.heap.size ≤ bi ∧ (∀ x, fpv v x → x ≠ bi) ∧ HMac g w' b bi bo bf k s
  only : Only (fun x => x = b) w w'
structure TInv (g : Bool) (w : World) (b bi bo bf : Nat) (k : List UInt8) (ps : List (Value × List UInt8)) (i : Nat) (wr : World) : Prop where
  mac : HMac g wr b bi bo bf k ((HA g).feed ((HA g).inner k) (cat (ps.take i)))
  only : Only (fun x => x = b) w wr
theorem cat_succ (ps : List (Value × List UInt8)) (i : Nat) (p : Value × List UInt8) (h : ps[i]? = some p) : cat (ps.take (i + 1)) = cat (ps.take i) ++ p.2 := by
  have hl : i < ps.length := (List.getElem?_eq_some_iff.1 h).1
  have he : ps[i] = p := (List.getElem?_eq_some_iff.1 h).2
  unfold cat
  rw [List.take_succ_eq_append_getElem hl, he]
  simp
theorem cat_take_le (ps : List (Value × List UInt8)) (i : Nat) : (cat (ps.take i)).length ≤ (cat ps).length := by
  have : cat ps = cat (ps.take i) ++ cat (ps.drop i) := by
    unfold cat
    rw [← List.flatMap_append, List.take_append_drop]
  rw [this, List.length_append]
  omega
set_option maxHeartbeats 2000000 in
theorem told_any (g : Bool) (w : World) (b bi bo bf : Nat) (k : List UInt8) (s : HSt) (h : HMac g w b bi bo bf k s) (pb : Nat) (t : TypeId) (ps : List (Value × List UInt8)) (hp : Blk w pb t (ps.map (·.1)).toArray) (hpb : pb ≠ b)
    (hps : ∀ p ∈ ps, Bs w p.1 p.2 ∧ (p.2 ≠ [] → ∀ x, p.1.ownBlock = some x → x ≠ b)) (hlen : (cat ps).length ≤ 1000000) (hn : ps.length ≤ 1000) :
    Calls Try.prog 24 #[.pointer none, .pointer (some ⟨b, 0, none⟩), .slice (some ⟨pb, 0, none⟩) ps.length ps.length] w fun e w' => ∃ v, e = .returned v ∧ MacTold g w b bo bf k (cat ps) v w' := by
  have H := Lib.hid h
  have HP := Lib.hid hp
  have HPS := Lib.hid hps
  have HNE := Lib.hid hpb
  have HLEN := Lib.hid hlen
  have hpl := hp.lt
  clear h hp hps hpb hlen
  go_enter Try.func24, Try.ntmps24
  go_wp2_with fail
  refine (hreset_any g w b bi bo bf k s H.out).mono ?_
  rintro e w1 ⟨bi', rfl, q1, q2, q3⟩
  have HI : Hid (TInv g w b bi' bo bf k ps 0 w1) := Lib.hid ⟨q2, q3⟩
  have HBI := Lib.hid q1
  clear q1 q2 q3
  obtain ⟨N, hN⟩ : ∃ N, ps.length = N := ⟨_, rfl⟩
  have HN : Hid (ps.length = N) := hN
  rw [hN] at hn ⊢
  clear hN
  go_wp2_with fail
  go_loopw [15] (fun vi wr => ∃ i : Nat, i ≤ N ∧ vi = .int .i64 (i : Int) ∧ Hid (TInv g w b bi' bo bf k ps i wr)) (fun vi _ => N - (intOf vi).toNat)
  case atStart => exact ⟨0, Nat.zero_le _, rfl, HI⟩
  case round =>
    clear HI
    obtain ⟨i, hi, rfl, HI⟩ := hrel
    by_cases hlt : i < N
    · obtain ⟨p, hpi⟩ : ∃ p, ps[i]? = some p := ⟨_, List.getElem?_eq_getElem (by rw [HN.out]; exact hlt)⟩
      have c1 : wr.cell? ⟨pb, i, none⟩ = some p.1 := by
        refine (HP.out.only HI.out.only HNE.out).cellAt i ?_
        rw [List.getElem?_toArray, List.getElem?_map, hpi]
        rfl
      obtain ⟨hb, hne⟩ := HPS.out p (List.mem_of_getElem? hpi)
      have HB : Hid (Bs wr p.1 p.2) := Lib.hid (hb.onlyE HI.out.only hne)
      have HW := Lib.hid (hwrite_any g wr b bi' bo bf k _ p.1 p.2 HI.out.mac HB.out (fun h0 x hx => by
        have h1 := hb.inside h0 x hx
        have h2 := HBI.out
        omega) (by
        rw [HashF.feed_n, inner_n]
        have h1 := cat_take_le ps (i + 1)
        rw [cat_succ ps i p hpi, List.length_append] at h1
        have h2 := HLEN.out
        have h3 := bkN_le g
        omega))
      obtain ⟨ao, cap, hform, _⟩ := hb.form
      have HPI := Lib.hid hpi
      have HF := Lib.hid hform
      rw [hform] at c1
      obtain ⟨L, hL⟩ : ∃ L, p.2.length = L := ⟨_, rfl⟩
      rw [hform, hL] at HW
      rw [hL] at c1
      clear hb hne hpi hform hL HB
      go_wp2_with fail
      refine HW.out.mono ?_
      rintro e w2 ⟨rfl, q1, q2⟩
      have HI2 : Hid (TInv g w b bi' bo bf k ps (i + 1) w2) := by
        refine Lib.hid ⟨?_, HI.out.only.trans q2 (fun x hx => .inr (by have := HBI.out; omega))⟩
        rw [cat_succ ps i p HPI.out, HashF.feed_app]
        exact q1
      clear q1 q2 c1
      go_wp2
      go_roundw
      case rel => exact ⟨i + 1, by omega, by go_num, HI2⟩
      case measure => simp [intOf]; omega
    · obtain rfl : i = N := by omega
      have HC : Hid (cat (ps.take i) = cat ps) := Lib.hid (by rw [List.take_of_length_le (by rw [HN.out]; exact Nat.le_refl _)])
      have HS := Lib.hid (hsum_any g wr b bi' bo bf k _ HI.out.mac (by
        rw [HashF.feed_n, inner_n, HC.out]
        have h2 := HLEN.out
        have h3 := bkN_le g
        omega))
      go_wp2_with fail
      refine HS.out.mono ?_
      rintro e w3 ⟨v, rfl, q1, q2, q3⟩
      have HN2 : Hid (MacTold g w b bo bf k (cat ps) v w3) := by
        rw [HC.out] at q1
        refine Lib.hid ⟨q1, fun x hx => Nat.le_trans HI.out.only.size (q3 x hx), ⟨bi', _, HBI.out, fun x hx => by have := q3 x hx; have := HI.out.mac.inn.lt; omega, HI.out.mac.below q2⟩, HI.out.only.trans (Only.of_below q2 _) (fun x hx => .inl hx)⟩
      clear q1 q2 q3
      go_wp2_with fail
      go_ret
      exact ⟨_, rfl, HN2.out⟩
end Go.Proofs.Ytideobdggdmeiaa
