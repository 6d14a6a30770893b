/- PBKDF2: a block. -/
import Derived.Test.YtideobdggdmeiaaTold
namespace Go.Proofs.Ytideobdggdmeiaa
open Go.RowKit
set_option maxRecDepth 100000
set_option linter.unusedVariables false
set_option linter.unusedSimpArgs false
theorem tag_len (g : Bool) (k m : List UInt8) : ((HA g).tag k m).length = szN g := by
  cases g
  · exact sumOf5_len (feed5_ok (feed5_ok init5_ok _) _)
  · exact sumOf6_len (feed6_ok (feed6_ok init6_ok _) _)
def pbU (g : Bool) (k salt : List UInt8) (i : Int) : Nat → List UInt8
  | 0 => (HA g).tag k (salt ++ layL 4 i)
  | c + 1 => (HA g).tag k (pbU g k salt i c)
def pbT (g : Bool) (k salt : List UInt8) (i : Int) : Nat → List UInt8
  | 0 => pbU g k salt i 0
  | c + 1 => xorL (pbT g k salt i c) (pbU g k salt i (c + 1))
theorem pbU_len (g : Bool) (k salt : List UInt8) (i : Int) : ∀ c, (pbU g k salt i c).length = szN g
  | 0 => tag_len _ _ _
  | c + 1 => tag_len _ _ _
theorem pbT_len (g : Bool) (k salt : List UInt8) (i : Int) : ∀ c, (pbT g k salt i c).length = szN g
  | 0 => tag_len _ _ _
  | c + 1 => by rw [pbT, xorL_len, pbT_len g k salt i c]
structure MacGave (g : Bool) (w : World) (b bo bf : Nat) (k l : List UInt8) (v : Value) (w' : World) : Prop where
  rd : Bs w' v l
  new : ∀ x, v.ownBlock = some x → w.heap.size ≤ x ∧ x < w'.heap.size
  mac : ∃ bi s, w.heap.size ≤ bi ∧ HMac g w' b bi bo bf k s
  only : Only (fun x => x = b) w w'
structure PBInv (g : Bool) (w : World) (b bo bf : Nat) (k salt : List UInt8) (i : Int) (j : Nat) (u v : Value) (wr : World) : Prop where
  ru : Bs wr u (pbU g k salt i j)
  nu : ∀ x, u.ownBlock = some x → w.heap.size ≤ x ∧ x < wr.heap.size
  rv : Bs wr v (pbT g k salt i j)
  nv : ∀ x, v.ownBlock = some x → w.heap.size ≤ x ∧ x < wr.heap.size
  mac : ∃ bi s, w.heap.size ≤ bi ∧ HMac g wr b bi bo bf k s
  only : Only (fun x => x = b) w wr
set_option maxHeartbeats 4000000 in
theorem block_any (g : Bool) (w : World) (b bi bo bf : Nat) (k : List UInt8) (s : HSt) (h : HMac g w b bi bo bf k s) (us : Value) (salt : List UInt8) (hs : Bs w us salt) (hne : salt ≠ [] → ∀ x, us.ownBlock = some x → x ≠ b) (hsl : salt.length ≤ 100000) (c : Nat) (hc : c ≤ 1048576) (i : Int) :
    Calls Try.prog 19 #[.pointer none, .pointer (some ⟨b, 0, none⟩), us, .int .i64 ((c + 1 : Nat) : Int), .int .u32 i] w fun e w' => ∃ v, e = .returned v ∧ MacGave g w b bo bf k (pbT g k salt i c) v w' := by
  have H := Lib.hid h
  have HS := Lib.hid hs
  have HNE := Lib.hid hne
  have HSL := Lib.hid hsl
  have hbl := h.blk.lt
  obtain ⟨ao, cap, rfl, hform⟩ := hs.form
  clear h hs hne hsl hform
  go_enter Try.func19, Try.ntmps19
  go_wp2_with fail
  refine (lay32_any i w).mono ?_
  rintro e w1 ⟨v4, rfl, q1, q2, q3⟩
  obtain ⟨a4, c4, rfl⟩ := q1.any
  rw [layL_len] at q1 q3 ⊢
  have HV4 := Lib.hid q1
  have HB1 := Lib.hid q2
  have HN4 := Lib.hid q3
  clear q1 q2 q3
  go_wp2_with fail
  have H2 : Hid (Below w.heap.size w (w1.alloc (.cells #[.slice ao salt.length cap, .slice a4 4 c4] 22)) ∧ Blk (w1.alloc (.cells #[.slice ao salt.length cap, .slice a4 4 c4] 22)) w1.heap.size 22 #[.slice ao salt.length cap, .slice a4 4 c4]) :=
    Lib.hid ⟨HB1.out.alloc HB1.out.size _, Blk.new _ _ _⟩
  obtain ⟨w2, hw2⟩ : ∃ y, w1.alloc (.cells #[.slice ao salt.length cap, .slice a4 4 c4] 22) = y := ⟨_, rfl⟩
  rw [hw2] at H2 ⊢
  have HB12 : Hid (Below w1.heap.size w1 w2) := by rw [← hw2]; exact Lib.hid ((Below.refl _ w1).alloc (Nat.le_refl _) _)
  clear hw2
  have HT := Lib.hid (told_any g w2 b bi bo bf k s ((H.out.below HB1.out).below HB12.out) w1.heap.size 22 [(.slice ao salt.length cap, salt), (.slice a4 4 c4, layL 4 i)] H2.out.2 (by have := HB1.out.size; omega)
    (by
      intro p hp
      simp only [List.mem_cons, List.not_mem_nil, or_false] at hp
      rcases hp with rfl | rfl
      · exact ⟨(HS.out.grow HB1.out).grow HB12.out, HNE.out⟩
      · exact ⟨HV4.out.rd.grow HB12.out, fun _ x hx => by have := HN4.out x hx; omega⟩)
    (by simp [cat, layL_len]; have := HSL.out; omega) (by simp))
  go_wp2_with fail
  refine HT.out.mono ?_
  rintro e w3 ⟨v3, rfl, hm3⟩
  have HI : Hid (PBInv g w b bo bf k salt i 0 v3 v3 w3) := by
    have hs2 := H2.out.1.size
    have e : cat [(Value.slice ao salt.length cap, salt), (Value.slice a4 4 c4, layL 4 i)] = salt ++ layL 4 i := by simp [cat]
    rw [e] at hm3
    have hn : ∀ x, v3.ownBlock = some x → w.heap.size ≤ x ∧ x < w3.heap.size := fun x hx => ⟨Nat.le_trans hs2 (hm3.new x hx), hm3.row.lt x hx⟩
    obtain ⟨bi2, s2, r1, r2, r3⟩ := hm3.mac
    have ho : Only (fun x => x = b) w w3 := (Only.of_below (H2.out.1) _).trans hm3.only (fun x hx => .inl hx)
    exact Lib.hid ⟨hm3.row.rd, hn, hm3.row.rd, hn, ⟨bi2, s2, Nat.le_trans hs2 r1, r3⟩, ho⟩
  clear hm3 HT HB1 HB12 HV4 HN4 H2 H HS HNE HSL
  have hwr : IntKind.i64.wrap ((c : Int) + 1 - 1) = (c : Int) := by rw [IntWalk.i64_in _ (by omega)]; omega
  go_wp2_with fail
  clear hwr
  go_loopw [11, 12, 23] (fun uv ov vi wr => ∃ j : Nat, j ≤ c ∧ vi = .int .i64 (j : Int) ∧ Hid (PBInv g w b bo bf k salt i j uv ov wr)) (fun _ _ vi _ => c - (intOf vi).toNat)
  case atStart => exact ⟨0, Nat.zero_le _, rfl, HI⟩
  case round =>
    clear HI
    obtain ⟨j, hj, rfl, HI⟩ := hrel
    by_cases hlt : j < c
    · obtain ⟨bi2, s2, r1, r2⟩ := HI.out.mac
      have HM := Lib.hid r2
      have HR1 := Lib.hid r1
      obtain ⟨ua, ucap, rfl, _⟩ := HI.out.ru.form
      obtain ⟨va, vcap, rfl, _⟩ := HI.out.rv.form
      rw [pbU_len, pbT_len] at HI ⊢
      have HUL := Lib.hid (pbU_len g k salt i j)
      have hltI : (j : Int) < (c : Int) := by omega
      have HLT := Lib.hid hlt
      obtain ⟨sz, hsz⟩ : ∃ sz, szN g = sz := ⟨_, rfl⟩
      have HSZ : Hid (szN g = sz) := hsz
      rw [hsz] at HI ⊢
      clear hsz r1 r2 hlt
      have H2 : Hid (Below wr.heap.size wr (wr.alloc (.cells #[.slice ua sz ucap] 22)) ∧ Blk (wr.alloc (.cells #[.slice ua sz ucap] 22)) wr.heap.size 22 #[.slice ua sz ucap]) :=
        Lib.hid ⟨(Below.refl _ wr).alloc (Nat.le_refl _) _, Blk.new _ _ _⟩
      go_wp2_with fail
      obtain ⟨w2, hw2⟩ : ∃ y, wr.alloc (.cells #[.slice ua sz ucap] 22) = y := ⟨_, rfl⟩
      rw [hw2] at H2 ⊢
      clear hw2
      have HT := Lib.hid (told_any g w2 b bi2 bo bf k s2 (HM.out.below H2.out.1) wr.heap.size 22 [(.slice ua sz ucap, pbU g k salt i j)] H2.out.2 (by have := HM.out.blk.lt; omega)
        (by
          intro p hp
          simp only [List.mem_cons, List.not_mem_nil, or_false] at hp
          subst hp
          exact ⟨HI.out.ru.grow H2.out.1, fun _ x hx => by have := (HI.out.nu x hx).1; omega⟩)
        (by simp [cat, HUL.out]; have := szN_le g; omega) (by simp))
      refine HT.out.mono ?_
      rintro e w3 ⟨v3, rfl, hm3⟩
      have e : cat [(Value.slice ua sz ucap, pbU g k salt i j)] = pbU g k salt i j := by simp [cat]
      rw [e] at hm3
      have HM3 : Hid (MacTold g w2 b bo bf k (pbU g k salt i j) v3 w3) := hm3
      have HV3 : Hid (Bs w3 (.slice va sz vcap) (pbT g k salt i j)) := Lib.hid ((HI.out.rv.grow H2.out.1).onlyE hm3.only (fun _ x hx => by have := (HI.out.nv x hx).1; omega))
      have HX := Lib.hid (xor_any w3 (.slice va sz vcap) v3 (pbT g k salt i j) ((HA g).tag k (pbU g k salt i j)) HV3.out hm3.row.rd (by rw [pbT_len, tag_len]) (by rw [pbT_len]; have := szN_le g; omega))
      clear hm3 e HT
      go_wp2_with fail
      refine HX.out.mono ?_
      rintro e w4 ⟨v4, rfl, q1, q2, q3⟩
      have HN : Hid (PBInv g w b bo bf k salt i (j + 1) v3 v4 w4) := by
        have hm3 := HM3.out
        have s1 := HI.out.only.size
        have s2 := H2.out.1.size
        have s3 := hm3.only.size
        have s4 := q2.size
        obtain ⟨bi3, s3', r1, r2, r3⟩ := hm3.mac
        refine Lib.hid ⟨hm3.row.rd.grow q2, fun x hx => ⟨?_, ?_⟩, q1.rd, fun x hx => ⟨?_, q1.lt x hx⟩, ⟨bi3, s3', by omega, r3.below q2⟩, ?_⟩
        · have := hm3.new x hx; omega
        · have := hm3.row.lt x hx; omega
        · have := q3 x hx; omega
        · exact (HI.out.only.trans ((Only.of_below H2.out.1 (fun x => x = b)).trans hm3.only (fun x hx => .inl hx)) (fun x hx => .inl hx)).trans (Only.of_below q2 (fun x => x = b)) (fun x hx => .inl hx)
      clear q1 q2 q3
      go_wp2
      go_roundw
      case rel => exact ⟨j + 1, by have := HLT.out; omega, by go_num, HN⟩
      case measure => simp [intOf]; have := HLT.out; omega
    · obtain rfl : j = c := by omega
      have HN : Hid (MacGave g w b bo bf k (pbT g k salt i j) u12 wr) := Lib.hid ⟨HI.out.rv, HI.out.nv, HI.out.mac, HI.out.only⟩
      go_wp2
      go_ret
      exact ⟨_, rfl, HN.out⟩
end Go.Proofs.Ytideobdggdmeiaa
