/- The walk of AesNone. Condition: the list has at most 2^47 - 4096 bytes (the form's own reach). -/
import Derived.Test.YtihmgkjmebdioaaRows
import Derived.Test.YtihmgkjmebdioaaAesLaws
import Derived.Test.YtihmgkjmebdioaaLoadG
import Derived.Test.YtihmgkjmebdioaaOpen
import Derived.Lib.SlBytesConst
namespace Go.Proofs.Ytihmgkjmebdioaa
open Go.RowKit
set_option maxRecDepth 100000
set_option linter.unusedVariables false
set_option linter.unusedSimpArgs false

theorem keyLen_no {p : Value} {F : Nat → Prop} {c : Cst} {w : World} (h : CipP w p F c) (hc : madeC c = false) : Calls Try.prog 20 #[p] w fun e w' => e = .returned (.int .i64 0) ∧ w = w' := by
  match c, h, hc with
  | none, ⟨h1, _⟩, _ => subst h1; exact keyLen_nil w
  | some (k, K), ⟨b, h1, _, h3, _⟩, hc =>
    subst h1
    have hk : k = 0 := by
      have : ¬ 0 < k := by simpa [madeC] using hc
      omega
    subst hk
    exact keyLen_any b 0 K w h3
set_option maxHeartbeats 4000000 in
theorem cnone_any (p u : Value) (F : Nat → Prop) (c : Cst) (l : List UInt8) (w : World) (h : CipP w p F c) (hc : madeC c = false) (hu : Bs w u l) :
    Calls Try.prog 28 #[p, u] w fun e w' => e = .returned (.bool true) ∧ Below w.heap.size w w' := by
  have HC : Hid (∀ w', Below w.heap.size w w' → CipP w' p F c) := Lib.hid (fun w' hb => h.keep (Only.nothing hb) (fun _ _ h => h))
  have HM : Hid (∀ w', Below w.heap.size w w' → Calls Try.prog 32 #[p] w' fun e w'' => e = .returned (.bool false) ∧ w' = w'') := by
    refine Lib.hid (fun w' hb => ?_)
    have := (HC.out w' hb).made
    rwa [hc] at this
  have HU := Lib.hid hu
  have HCC := Lib.hid hc
  obtain ⟨ao, cap, rfl, _⟩ := hu.form
  clear h hu hc
  go_enter Try.func28, Try.ntmps28
  go_wp2_with fail
  refine (newP_env (Env.start w)).mono ?_
  rintro e w1 ⟨q, rfl, h5⟩
  have H1 := Lib.hid h5
  clear h5
  go_wp2_with fail
  refine (block_any _ l w1 (HU.out.grow H1.out.base)).mono ?_
  rintro e w2 ⟨rfl, hb⟩
  have H2 := Lib.hid (H1.out.below hb)
  clear hb H1
  go_wp2_with fail
  refine (encrypt_no p q (blk l) w2 (fun w' hb => HM.out w' (H2.out.base.trans (hb.mono H2.out.base.size)))).mono ?_
  rintro e w3 ⟨rfl, hb⟩
  have H3 := Lib.hid (H2.out.below hb)
  clear hb H2
  obtain ⟨zl, hzl⟩ : ∃ zl : List UInt8, zl = List.replicate 16 0 := ⟨_, rfl⟩
  have hzl16 : zl.length = 16 := by rw [hzl]; rfl
  have hz := zero16
  rw [← hzl] at hz ⊢
  have HZL := Lib.hid hzl
  clear hzl
  have hs : (barr zl).size = 16 := by rw [barr_size]; exact hzl16
  have hne : ¬ barr zl = #[] := by intro hh; rw [hh] at hs; simp at hs
  have b3 : Blk (w3.alloc (.cells (barr zl) 31)) w3.heap.size 31 (barr zl) := Blk.new _ _ _
  go_wp2_with ((with_reducible change wpList _ _ _ (Oper.mk _ (Op.store 31 _ _) _ _ _ _ :: _) _ _); refine wpList_store_var w3.heap.size (barr zl) rfl rfl b3 size16 hs hs (barr_one _) ?_; intro w4 B4 O4; have H4 := Lib.hid ((H3.out.newK 31 (barr zl)).turnBlk 1 rfl B4 O4); clear B4 O4)
  clear b3 H3
  generalize w3.heap.size = n3 at H4 ⊢
  refine (block_any _ l w4 (HU.out.grow H4.out.base)).mono ?_
  rintro e w5 ⟨rfl, hb⟩
  have H5 := Lib.hid (H4.out.below hb)
  clear hb H4
  go_wp2_with fail
  refine (decrypt_no p q (blk l) w5 (fun w' hb => HM.out w' (H5.out.base.trans (hb.mono H5.out.base.size)))).mono ?_
  rintro e w6 ⟨he, hb⟩
  have H6 := Lib.hid (H5.out.below hb)
  rw [← HZL.out] at he
  subst he
  clear hb H5
  have b6 : Blk (w6.alloc (.cells (barr zl) 31)) w6.heap.size 31 (barr zl) := Blk.new _ _ _
  go_wp2_with ((with_reducible change wpList _ _ _ (Oper.mk _ (Op.store 31 _ _) _ _ _ _ :: _) _ _); refine wpList_store_var w6.heap.size (barr zl) rfl rfl b6 size16 hs hs (barr_one _) ?_; intro w7 B7 O7; have H7 := Lib.hid ((H6.out.newK 31 (barr zl)).turnBlk 2 rfl B7 O7); clear B7 O7)
  clear b6 H6
  generalize w6.heap.size = n6 at H7 ⊢
  refine (clone_no p w7 (HM.out w7 H7.out.base)).mono ?_
  rintro e w' ⟨rfl, rfl⟩
  have B1 := H7.out.blk 1 rfl
  have B2 := H7.out.blk 2 rfl
  go_wp2_with (first | ((with_reducible change wpList _ _ _ (Oper.mk (some 35) (Op.load 31 _) _ _ _ _ :: _) _ _); refine wpList_load_gd (ty := 31) n3 rfl rfl B1 Try.underlying31 rfl size16 hs ?_) | ((with_reducible change wpList _ _ _ (Oper.mk (some 39) (Op.load 31 _) _ _ _ _ :: _) _ _); refine wpList_load_gd (ty := 31) n6 rfl rfl B2 Try.underlying31 rfl size16 hs ?_) | ((with_reducible change wpList _ _ _ (Oper.mk _ (Op.binOp BinOp.eql 31 _ _ _) _ _ _ _ :: _) _ _); refine wpList_eql_arr zl zl true rfl rfl rfl guard16 (eqAt16 zl zl hzl16 hzl16 true (beq_self_eq_true _)) ?_))
  refine (keyLen_no (HC.out w7 H7.out.base) HCC.out).mono ?_
  rintro e w' ⟨rfl, rfl⟩
  go_wp2_with fail
  refine (form_no p w7 (HM.out w7 H7.out.base)).mono ?_
  rintro e w' ⟨rfl, rfl⟩
  go_wp2_with fail
  refine (wipe_no p q w7 (HM.out w7 H7.out.base)).mono ?_
  rintro e w' ⟨rfl, rfl⟩
  go_wp2_with fail
  refine (lenP_env H7.out 0 rfl).mono ?_
  rintro e w' ⟨he, rfl⟩
  have he' : e = .returned (.int .i64 0) := he
  subst he'
  go_wp2
  go_ret
  exact ⟨rfl, H7.out.base⟩
theorem Bs.lit_marked (w : World) (l : List UInt8) (e : TypeId) (fr : Nat × Nat) (hl : l.length ≤ 9223372036854775807) : Bs (w.alloc (.cells (barr l) e fr)) (.slice (some ⟨w.heap.size, 0, none⟩) l.length l.length) l := by
  refine ⟨some ⟨w.heap.size, 0, none⟩, l.length, rfl, Nat.le_refl _, hl, (fun h => by cases h), fun j hj => ⟨w.heap.size, 0, rfl, ?_⟩⟩
  rw [Nat.zero_add]
  have := heap_alloc_new w (.cells (barr l) e fr)
  unfold World.cell?
  rw [this]
  exact barr_getD l j hj
def keyT : List UInt8 := [48, 49, 50, 51, 52, 53, 54, 55, 56, 57, 97, 98, 99, 100, 101, 102]
set_option maxHeartbeats 4000000 in
theorem aesNone.walk {w : World} (v : Value) (l : List UInt8) (hl : In w v l) : Calls Try.prog 7 #[v] w fun e w' => e = .returned (.bool true) ∧ Below w.heap.size w w' := by
  have HL := Lib.hid hl.1
  obtain ⟨ao, cap, rfl, _⟩ := hl.1.form
  clear hl
  go_enter Try.func7, Try.ntmps7
  go_wp2_with fail
  refine (aesAwake_any w).mono ?_
  rintro e w1 ⟨rfl, hb⟩
  have h5 := (Env.start w).below hb
  clear hb
  have H1 := Lib.hid h5
  clear h5
  have hz := zero241
  have HR : Hid (Env w (w1.alloc (.cells (cipC 0 (List.replicate 240 0)) 68)) [obC (.pointer (some ⟨w1.heap.size, 0, none⟩)) (some (0, zeroK))]) :=
    Lib.hid (H1.out.push (F' := fun x => x = w1.heap.size) (obC _ (some (0, zeroK))) ⟨w1.heap.size, rfl, rfl, ⟨Blk.new _ _ _, zeroK_len⟩, by omega⟩ ((Below.refl _ _).alloc (Nat.le_refl _) _) (fun x hx => by rw [hx]; exact Nat.le_refl _))
  generalize hZ : cipC 0 (List.replicate 240 0) = Z at hz HR
  clear hZ H1
  have hcv : (convert 22 22 (.slice (some ⟨w1.heap.size + 1, 0, none⟩) 16 16)).run Try.prog ((w1.alloc (.cells Z 68)).alloc (.cells #[.int .u8 48, .int .u8 49, .int .u8 50, .int .u8 51, .int .u8 52, .int .u8 53, .int .u8 54, .int .u8 55, .int .u8 56, .int .u8 57, .int .u8 97, .int .u8 98, .int .u8 99, .int .u8 100, .int .u8 101, .int .u8 102] 5)) = .ok (.slice (some ⟨w1.heap.size + 1, 0, none⟩) 16 16) ((w1.alloc (.cells Z 68)).alloc (.cells #[.int .u8 48, .int .u8 49, .int .u8 50, .int .u8 51, .int .u8 52, .int .u8 53, .int .u8 54, .int .u8 55, .int .u8 56, .int .u8 57, .int .u8 97, .int .u8 98, .int .u8 99, .int .u8 100, .int .u8 101, .int .u8 102] 5 (16, 17))) := by
    have h := Lib.run_convert_bytes_const (P := Try.prog) (w1.alloc (.cells Z 68)) 22 5 #[.int .u8 48, .int .u8 49, .int .u8 50, .int .u8 51, .int .u8 52, .int .u8 53, .int .u8 54, .int .u8 55, .int .u8 56, .int .u8 57, .int .u8 97, .int .u8 98, .int .u8 99, .int .u8 100, .int .u8 101, .int .u8 102] 16 16 Try.underlying22 Try.underlying5
    have hs : (w1.alloc (.cells Z 68)).heap.size = w1.heap.size + 1 := by simp
    rw [hs] at h
    exact h
  have hbs := Bs.lit_marked (w1.alloc (.cells Z 68)) keyT 5 (16, 17) (by decide)
  have hs : (w1.alloc (.cells Z 68)).heap.size = w1.heap.size + 1 := by simp
  rw [hs] at hbs
  have HBS : Hid (Bs ((w1.alloc (.cells Z 68)).alloc (.cells #[.int .u8 48, .int .u8 49, .int .u8 50, .int .u8 51, .int .u8 52, .int .u8 53, .int .u8 54, .int .u8 55, .int .u8 56, .int .u8 57, .int .u8 97, .int .u8 98, .int .u8 99, .int .u8 100, .int .u8 101, .int .u8 102] 5 (16, 17))) (.slice (some ⟨w1.heap.size + 1, 0, none⟩) 16 16) keyT) := hbs
  have H2 := Lib.hid (HR.out.below ((Below.refl _ _).alloc (Nat.le_refl _) (.cells #[.int .u8 48, .int .u8 49, .int .u8 50, .int .u8 51, .int .u8 52, .int .u8 53, .int .u8 54, .int .u8 55, .int .u8 56, .int .u8 57, .int .u8 97, .int .u8 98, .int .u8 99, .int .u8 100, .int .u8 101, .int .u8 102] 5 (16, 17))))
  clear HR hbs hs
  go_wp2_with fail
  clear hcv
  refine (newC_nil H2.out HBS.out (.inl rfl)).mono ?_
  rintro e w2 ⟨b, rfl, h5⟩
  have H3 : Hid (Env w w2 [obC (.pointer (some ⟨w1.heap.size, 0, none⟩)) (some (0, zeroK)), obC (.pointer (some ⟨b, 0, none⟩)) (some (16, sched keyT))]) := Lib.hid h5
  clear h5 H2
  go_wp2_with fail
  refine (wipeC_nil H3.out 1 rfl (by decide)).mono ?_
  rintro e w3 ⟨rfl, h5⟩
  have H4 : Hid (Env w w3 [obC (.pointer (some ⟨w1.heap.size, 0, none⟩)) (some (0, zeroK)), obC (.pointer (some ⟨b, 0, none⟩)) (some (0, zeroK))]) := Lib.hid h5
  clear h5 H3
  go_wp2_with fail
  refine (cnone_any (.pointer none) _ (fun _ => False) none l w3 ⟨rfl, rfl⟩ rfl (HL.out.grow H4.out.base)).mono ?_
  rintro e w4 ⟨rfl, hb⟩
  have H5 := Lib.hid (H4.out.below hb)
  clear hb H4
  go_wp2_with fail
  obtain ⟨F, f1⟩ := H5.out.cip 0 rfl
  refine (cnone_any _ _ F _ l w4 f1 rfl (HL.out.grow H5.out.base)).mono ?_
  rintro e w5 ⟨rfl, hb⟩
  have H6 := Lib.hid (H5.out.below hb)
  clear hb H5 f1
  go_wp2_with fail
  obtain ⟨F2, f2⟩ := H6.out.cip 1 rfl
  refine (cnone_any _ _ F2 _ l w5 f2 rfl (HL.out.grow H6.out.base)).mono ?_
  rintro e w6 ⟨rfl, hb⟩
  have H7 := Lib.hid (H6.out.below hb)
  clear hb H6 f2
  go_wp2
  go_ret
  exact ⟨rfl, H7.out.base⟩
end Go.Proofs.Ytihmgkjmebdioaa
