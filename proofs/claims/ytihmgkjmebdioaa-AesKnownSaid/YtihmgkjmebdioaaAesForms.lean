/- The walk of AesForms. Condition: each list has at most 2^47 - 4096 bytes (the form's own reach). -/
import Derived.Test.YtihmgkjmebdioaaRows
import Derived.Test.YtihmgkjmebdioaaAesRuns
import Derived.Test.YtihmgkjmebdioaaOpen
namespace Go.Proofs.Ytihmgkjmebdioaa
open Go.RowKit
set_option maxRecDepth 100000
set_option linter.unusedVariables false
set_option linter.unusedSimpArgs false

theorem RightLen.four {n : Nat} (h : RightLen n) : n % 4 = 0 ∧ n ≤ 32 ∧ 0 < n := by rcases h with h | h | h <;> omega
/-- the forms are alike just if the keys are -/
theorem form_inj (a b : List UInt8) (ha : RightLen a.length) (hb : RightLen b.length) :
    ((sched a).take (16 * (a.length / 4 + 6 + 1)) = (sched b).take (16 * (b.length / 4 + 6 + 1))) ↔ a = b := by
  constructor
  · intro h
    obtain ⟨a1, a2, a3⟩ := ha.four
    obtain ⟨b1, b2, b3⟩ := hb.four
    have la := sched_len a (by omega)
    have lb := sched_len b (by omega)
    have hl : a.length = b.length := by
      have h2 := congrArg List.length h
      rw [List.length_take, List.length_take, la, lb] at h2
      omega
    rw [← hl] at h
    exact sched_inj a b a1 b1 (by omega) (by omega) hl _ (by omega) h
  · rintro rfl; rfl
/-- New of any key, without a ledger -/
theorem newC_both {w0 w : World} {obs : List Ob} (h : Env w0 w obs) {u : Value} {key : List UInt8} (hu : Bs w u key) :
    Calls Try.prog 9 #[.pointer none, u] w fun e w' => (RightLen key.length ∧ ∃ b : Nat, e = .returned (.tuple #[.pointer (some ⟨b, 0, none⟩), .int .i64 0]) ∧ Env w0 w' (obs ++ [obC (.pointer (some ⟨b, 0, none⟩)) (some (key.length, sched key))])) ∨
      (¬ RightLen key.length ∧ e = .returned (.tuple #[.pointer none, .int .i64 7]) ∧ Env w0 w' obs) := by
  by_cases hk : RightLen key.length
  · exact (newC_nil h hu hk).mono fun e w' hh => .inl ⟨hk, hh⟩
  · exact (newC_off _ u key w hu ⟨fun h => hk (.inl h), fun h => hk (.inr (.inl h)), fun h => hk (.inr (.inr h))⟩).mono fun e w' ⟨he, hw⟩ => .inr ⟨hk, he, by rw [← hw]; exact h⟩
def seven : List UInt8 := 7 :: List.replicate 15 0
set_option maxHeartbeats 8000000 in
theorem aesForms_walk (vk vo : Value) (key other : List UInt8) (w : World) (hk : Bs w vk key) (ho : Bs w vo other) :
    Calls Try.prog 3 #[vk, vo] w fun e w' => e = .returned (.bool true) ∧ Below w.heap.size w w' := by
  have HK := Lib.hid hk
  have HO := Lib.hid ho
  obtain ⟨ao, cap, rfl, _⟩ := hk.form
  obtain ⟨bo, bcap, rfl, _⟩ := ho.form
  clear hk ho
  go_enter Try.func3, Try.ntmps3
  go_wp2_with fail
  refine (aesAwake_any w).mono ?_
  rintro e w1 ⟨rfl, hb⟩
  have h5 := (Env.start w).below hb
  clear hb
  have H1 := Lib.hid h5
  clear h5
  go_wp2_with fail
  refine (newC_both H1.out (HK.out.grow H1.out.base)).mono ?_
  rintro e w2 (⟨hR, c, rfl, h5⟩ | ⟨hR, rfl, h5⟩)
  · have H2 : Hid (Env w w2 [obC (.pointer (some ⟨c, 0, none⟩)) (some (key.length, sched key))]) := Lib.hid h5
    have HR := Lib.hid hR
    clear h5 hR H1
    go_wp2_with fail
    refine (newC_both H2.out (HO.out.grow H2.out.base)).mono ?_
    rintro e w3 (⟨hR2, d, rfl, h5⟩ | ⟨hR2, rfl, h5⟩)
    · have H3 : Hid (Env w w3 [obC (.pointer (some ⟨c, 0, none⟩)) (some (key.length, sched key)), obC (.pointer (some ⟨d, 0, none⟩)) (some (other.length, sched other))]) := Lib.hid h5
      have HR2 := Lib.hid hR2
      clear h5 hR2 H2
      go_wp2_with fail
      refine (sameBytes_env H3.out (HK.out.grow H3.out.base) (HO.out.grow H3.out.base)).mono ?_
      rintro e w4 ⟨he, h5⟩
      obtain ⟨same, hsame⟩ : ∃ b : Bool, b = decide (key = other) := ⟨_, rfl⟩
      rw [← hsame] at he
      subst he
      have HSAME := Lib.hid hsame
      have H4 := Lib.hid h5
      clear h5 H3 hsame
      obtain ⟨n, hn⟩ : ∃ n, key.length = n := ⟨_, rfl⟩
      obtain ⟨S, hS⟩ : ∃ S, S = sched key := ⟨_, rfl⟩
      obtain ⟨m, hm⟩ : ∃ m, other.length = m := ⟨_, rfl⟩
      obtain ⟨T, hT⟩ : ∃ T, T = sched other := ⟨_, rfl⟩
      have H4b : Hid (Env w w4 [obC (.pointer (some ⟨c, 0, none⟩)) (some (n, S)), obC (.pointer (some ⟨d, 0, none⟩)) (some (m, T))]) := by rw [← hn, ← hm, hS, hT]; exact H4
      have HINJ : Hid (decide (S.take (16 * (n / 4 + 6 + 1)) = T.take (16 * (m / 4 + 6 + 1))) = same) := by
        rw [HSAME.out, ← hn, ← hm, hS, hT]
        refine Lib.hid ?_
        rw [decide_eq_decide]
        exact form_inj key other HR.out HR2.out
      have hn0 : 0 < n := by rw [← hn]; exact HR.out.four.2.2
      have hm0 : 0 < m := by rw [← hm]; exact HR2.out.four.2.2
      have hSl : S.length = 240 := by rw [hS]; exact sched_len key (by have := HR.out.four; omega)
      have hn4 : n % 4 = 0 ∧ n ≤ 32 := by rw [← hn]; exact ⟨HR.out.four.1, HR.out.four.2.1⟩
      have HN4 := Lib.hid hn4
      clear hn hS hm hT H4 hn4
      go_wp2_with fail
      refine (cloneC_env H4b.out 0 rfl hn0).mono ?_
      rintro e w5 ⟨x, rfl, h5⟩
      have H5 := Lib.hid h5
      clear h5 H4b
      go_wp2_with fail
      refine (formC_env H5.out 0 rfl hn0).mono ?_
      rintro e w6 ⟨u1, rfl, h5⟩
      have H6 := Lib.hid h5
      clear h5 H5
      go_wp2_with fail
      refine (formC_env H6.out 1 rfl hm0).mono ?_
      rintro e w7 ⟨u2, rfl, h5⟩
      have H7 := Lib.hid h5
      clear h5 H6
      go_wp2_with fail
      refine (sameBytes_env H7.out (H7.out.bytes 3 rfl).rd (H7.out.bytes 4 rfl).rd).mono ?_
      rintro e w8 ⟨he, h5⟩
      rw [HINJ.out] at he
      subst he
      have H8 := Lib.hid h5
      clear h5 H7
      have hss : (same != same) = false := by cases same <;> rfl
      go_wp2_with fail
      refine (formC_env H8.out 2 rfl hn0).mono ?_
      rintro e w9 ⟨u3, rfl, h5⟩
      have H9 := Lib.hid h5
      clear h5 H8
      go_wp2_with fail
      refine (formC_env H9.out 0 rfl hn0).mono ?_
      rintro e w10 ⟨u4, rfl, h5⟩
      have H10 := Lib.hid h5
      clear h5 H9
      go_wp2_with fail
      refine (sameBytes_env H10.out (H10.out.bytes 5 rfl).rd (H10.out.bytes 6 rfl).rd).mono ?_
      rintro e w11 ⟨he, h5⟩
      rw [decide_eq_true rfl] at he
      subst he
      have H11 : Hid (Env w w11 [obC (.pointer (some ⟨c, 0, none⟩)) (some (n, S)), obC (.pointer (some ⟨d, 0, none⟩)) (some (m, T)), obC (.pointer (some ⟨x, 0, none⟩)) (some (n, S))]) :=
        Lib.hid (Env.drop (obs := [_, _, _]) (Env.drop (obs := [_, _, _, _]) (Env.drop (obs := [_, _, _, _, _]) (Env.drop (obs := [_, _, _, _, _, _]) h5))))
      clear h5 H10 hss
      go_wp2_with fail
      refine (encC_nil H11.out 0 rfl hn0 seven rfl).mono ?_
      rintro e w12 ⟨he, h5⟩
      obtain ⟨E, hE⟩ : ∃ E, E = enc S (n / 4 + 6) seven := ⟨_, rfl⟩
      rw [← hE] at he
      subst he
      have HE := Lib.hid hE
      have hE16 : E.length = 16 := by rw [hE]; exact enc_len _ _ _
      have hEs : (barr E).size = 16 := by rw [barr_size]; exact hE16
      have hz16 : (barr (List.replicate 16 (0 : UInt8))).size = 16 := by rw [barr_size]; rfl
      have H12 := Lib.hid h5
      clear h5 H11 hE
      have b12 : Blk (w12.alloc (.cells (barr (List.replicate 16 0)) 31)) w12.heap.size 31 (barr (List.replicate 16 0)) := Blk.new _ _ _
      go_wp2_with ((with_reducible change wpList _ _ _ (Oper.mk _ (Op.store 31 _ _) _ _ _ _ :: _) _ _); refine wpList_store_var w12.heap.size (barr E) rfl rfl b12 size16 hEs hz16 (barr_one _) ?_; intro w13 B4 O4; have H13 := Lib.hid ((H12.out.newK 31 (barr (List.replicate 16 0))).turnBlk 3 rfl B4 O4); clear B4 O4)
      clear b12 H12
      generalize w12.heap.size = n12 at H13 ⊢
      refine (newP_env H13.out).mono ?_
      rintro e w14 ⟨l, rfl, h5⟩
      have H14 := Lib.hid h5
      clear h5 H13
      obtain ⟨L, hL⟩ : ∃ L, 16 * (n / 4 + 6 + 1) = L := ⟨_, rfl⟩
      have hSL : (S.take L).length = L := by rw [List.length_take]; have := HN4.out; omega
      have HL := Lib.hid hL
      go_wp2_with fail
      refine (formC_env H14.out 0 rfl hn0).mono ?_
      rintro e w15 ⟨u5, rfl, h5⟩
      rw [hL] at h5
      obtain ⟨uo, ucap, hu5⟩ := (Env.bytes h5 5 rfl).any
      rw [hSL] at hu5
      rw [hu5]
      have H15 : Hid (Env w w15 [obC (.pointer (some ⟨c, 0, none⟩)) (some (n, S)), obC (.pointer (some ⟨d, 0, none⟩)) (some (m, T)), obC (.pointer (some ⟨x, 0, none⟩)) (some (n, S)), obK n12 31 (barr E), obP l (some [])]) := Lib.hid (Env.drop (obs := [_, _, _, _, _]) h5)
      clear h5 H14 hu5 hL
      go_wp2_with fail
      refine (wipeC_env H15.out 0 4 (by decide) rfl rfl (Few.nil.room (by omega)) hn0).mono ?_
      rintro e w16 ⟨rfl, h5⟩
      rw [HL.out] at h5
      have H16 : Hid (Env w w16 [obC (.pointer (some ⟨c, 0, none⟩)) (some (0, zeroK)), obC (.pointer (some ⟨d, 0, none⟩)) (some (m, T)), obC (.pointer (some ⟨x, 0, none⟩)) (some (n, S)), obK n12 31 (barr E), obP l (some [⟨8, (L : Int), 1⟩])]) := Lib.hid h5
      clear h5 H15
      go_wp2_with fail
      refine (formC_no H16.out 0 rfl rfl).mono ?_
      rintro e w' ⟨rfl, rfl⟩
      go_wp2_with fail
      refine (encC_nil H16.out 2 rfl hn0 seven rfl).mono ?_
      rintro e w17 ⟨he, h5⟩
      rw [← HE.out] at he
      subst he
      have H17 := Lib.hid h5
      clear h5 H16
      have b17 : Blk (w17.alloc (.cells (barr (List.replicate 16 0)) 31)) w17.heap.size 31 (barr (List.replicate 16 0)) := Blk.new _ _ _
      go_wp2_with (first | ((with_reducible change wpList _ _ _ (Oper.mk _ (Op.store 31 _ _) _ _ _ _ :: _) _ _); refine wpList_store_var w17.heap.size (barr E) rfl rfl b17 size16 hEs hz16 (barr_one _) ?_; intro w18 B4 O4; have H18 := Lib.hid ((H17.out.newK 31 (barr (List.replicate 16 0))).turnBlk 5 rfl B4 O4); have Q1 := H18.out.blk 5 rfl; have Q2 := H18.out.blk 3 rfl; clear B4 O4) | ((with_reducible change wpList _ _ _ (Oper.mk (some 126) (Op.load 31 _) _ _ _ _ :: _) _ _); refine wpList_load_gd (ty := 31) w17.heap.size rfl rfl Q1 Try.underlying31 rfl size16 hEs ?_) | ((with_reducible change wpList _ _ _ (Oper.mk (some 127) (Op.load 31 _) _ _ _ _ :: _) _ _); refine wpList_load_gd (ty := 31) n12 rfl rfl Q2 Try.underlying31 rfl size16 hEs ?_) | ((with_reducible change wpList _ _ _ (Oper.mk _ (Op.binOp BinOp.eql 31 _ _ _) _ _ _ _ :: _) _ _); refine wpList_eql_arr E E true rfl rfl rfl guard16 (eqAt16 E E hE16 hE16 true (beq_self_eq_true _)) ?_))
      refine (runsP_env H18.out 4 rfl (by simp)).mono ?_
      rintro e w19 ⟨vp, rfl, h5⟩
      have H19 := Lib.hid h5
      clear h5 Q1 Q2 H18 b17
      go_wp2_with fail
      have H20 := Lib.hid (H19.out.litRuns w19.heap.size rfl [⟨8, (L : Int), 1⟩] (by simp))
      clear H19
      refine (sameRuns_env H20.out (H20.out.runs 6 rfl).rd (H20.out.runs 7 rfl).rd).mono ?_
      rintro e w20 ⟨he, h5⟩
      rw [decide_eq_true rfl] at he
      subst he
      have H21 := Lib.hid h5
      clear h5 H20
      go_wp2
      go_ret
      exact ⟨rfl, H21.out.base⟩
    · have H3 := Lib.hid h5
      clear h5 hR2 H2
      go_wp2
      go_ret
      exact ⟨rfl, H3.out.base⟩
  · have H2 := Lib.hid h5
    clear h5 hR H1
    go_wp2_with fail
    refine (newC_both H2.out (HO.out.grow H2.out.base)).mono ?_
    rintro e w3 (⟨hR2, d, rfl, h5⟩ | ⟨hR2, rfl, h5⟩)
    all_goals
      have H3 := Lib.hid h5
      clear h5 hR2 H2
      go_wp2
      go_ret
      exact ⟨rfl, H3.out.base⟩
theorem aesForms.walk {w : World} (v0 : Value) (a0 : List UInt8) (h0 : In w v0 a0) (v1 : Value) (a1 : List UInt8) (h1 : In w v1 a1) :
    Calls Try.prog 3 #[v0, v1] w fun e w' => e = .returned (.bool true) ∧ Below w.heap.size w w' := aesForms_walk v0 v1 a0 a1 w h0.1 h1.1
end Go.Proofs.Ytihmgkjmebdioaa
