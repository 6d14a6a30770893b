/- Mac.Form over a world that is a list of things. -/
import Derived.Test.YtpampcokonicfaaRows
import Derived.Deep.MidRow
import Derived.Deep.DeepCutAuto
import Derived.OrdersHeld
import Derived.Laws.CopyOwn
import Derived.Test.YtpampcokonicfaaQCmacScript2
import Derived.Test.YtpampcokonicfaaQCmacScript3
/- A Mac's memory: the cipher's address, both subkeys, the chain, the block that waits, how many bytes wait. -/
namespace Go.Proofs.Ytpampcokonicfaa
open Go.RowKit
set_option maxRecDepth 100000
set_option linter.unusedVariables false
set_option linter.unusedSimpArgs false
structure MacS where
  k1 : List UInt8
  k2 : List UInt8
  ch : List UInt8
  wt : List UInt8
  n : Nat
structure MacS.Ok (m : MacS) : Prop where
  l1 : m.k1.length = 16
  l2 : m.k2.length = 16
  l3 : m.ch.length = 16
  l4 : m.wt.length = 16
  hn : m.n ≤ 16
def macC (c : Value) (m : MacS) : Array Value := (c :: (m.k1.map B ++ (m.k2.map B ++ (m.ch.map B ++ (m.wt.map B ++ [.int .i64 (m.n : Int)]))))).toArray
theorem macC_size {c : Value} {m : MacS} (h : m.Ok) : (macC c m).size = 66 := by
  obtain ⟨h1, h2, h3, h4, h5⟩ := h
  simp [macC, h1, h2, h3, h4]
theorem macC_one {c : Value} (hc : c.oneCell' = true) (m : MacS) : ∀ v ∈ (macC c m).toList, v.oneCell' = true := by
  intro v hv
  simp only [macC, List.mem_cons, List.mem_append, List.mem_map, List.not_mem_nil, or_false] at hv
  rcases hv with rfl | ⟨x, _, rfl⟩ | ⟨x, _, rfl⟩ | ⟨x, _, rfl⟩ | ⟨x, _, rfl⟩ | rfl
  · exact hc
  all_goals rfl
theorem macC_c (c : Value) (m : MacS) : (macC c m)[0]? = some c := rfl
theorem macC_n {c : Value} {m : MacS} (h : m.Ok) : (macC c m)[65]? = some (.int .i64 (m.n : Int)) := by
  obtain ⟨h1, h2, h3, h4, h5⟩ := h
  simp [macC, h1, h2, h3, h4, List.getElem?_append, List.getElem?_cons]
/-- a part of a block -/
theorem Blk.part {w : World} {b : Nat} {t : TypeId} {pre mid post : List Value} {cs : Array Value} (h : Blk w b t cs) (hc : cs = (pre ++ (mid ++ post)).toArray) (o : Nat) (ho : o = pre.length) : w.rangeAt b o mid := by
  subst ho hc
  intro j v hj
  refine h.cellAt _ ?_
  have hlt := (List.getElem?_eq_some_iff.1 hj).1
  rw [List.getElem?_toArray, List.getElem?_append_right (by omega), Nat.add_sub_cancel_left, List.getElem?_append_left hlt]
  exact hj
theorem Blk.setPart {b : Nat} {t : TypeId} : ∀ (vs mid pre post : List Value) (w : World), vs.length = mid.length → Blk w b t (pre ++ (mid ++ post)).toArray → Blk (w.setCells b pre.length vs) b t (pre ++ (vs ++ post)).toArray
  | [], [], _, _, _, _, h => h
  | [], _ :: _, _, _, _, hl, _ => by simp at hl
  | _ :: _, [], _, _, _, hl, _ => by simp at hl
  | x :: r, y :: mid, pre, post, w, hl, h => by
    rw [World.setCells]
    have h1 := h.set pre.length x
    have e : (pre ++ (y :: mid ++ post)).toArray.setIfInBounds pre.length x = ((pre ++ [x]) ++ (mid ++ post)).toArray := by
      rw [List.setIfInBounds_toArray, List.set_append_right _ _ (Nat.le_refl _), Nat.sub_self]
      simp
    rw [e] at h1
    have h2 := Blk.setPart r mid (pre ++ [x]) post _ (by simpa using hl) h1
    rw [show (pre ++ [x]).length = pre.length + 1 from by simp] at h2
    simpa using h2
section
variable {P : Program} {ops : Array Oper} {rest : List Oper} {d : Option Tmp} {x y : Operand} {ot : TypeId} {pos : String} {aft : Array Edge} {a : Act} {w : World} {Q : Exit → Act → World → Prop}
/-- a store into the middle of a block, the world a variable -/
theorem wpList_store_part (g o : Nat) (cells : List Value) (hx : a.eval x = .pointer (some ⟨g, o, none⟩)) (hy : a.eval y = .agg cells.toArray) {bt ty : TypeId} {cs : Array Value} (pre old post : List Value) (hg : Blk w g bt cs) (hc : cs = (pre ++ (old ++ post)).toArray) (ho : o = pre.length)
    (hi : (P.info? ty).map (·.size) = some cells.length) (hn : cells.length = old.length) (h1 : ∀ v ∈ cells, v.oneCell' = true)
    (h : ∀ w', Blk w' g bt (pre ++ (cells ++ post)).toArray → Only (fun x => x = g) w w' → wpList P ops Q rest (a.put d undef) w') : wpList P ops Q (⟨d, .store ty x y, ot, pos, aft, none⟩ :: rest) a w := by
  subst ho hc
  refine wpList_store_mid rfl ty x y rfl g pre.length cells.toArray hx hy (hg.there _ _ (by simp; omega)) (by simpa using hi) (all_oneCell_toArray h1) ?_
  exact h _ (Blk.setPart cells old pre post w hn hg) (Only.sets (S := fun x => x = g) (.inl rfl) _ _ _ (Only.refl _ _))
end
def zM : MacS := ⟨List.replicate 16 0, List.replicate 16 0, List.replicate 16 0, List.replicate 16 0, 0⟩
theorem size66 : (Try.prog.info? 76).map (·.size) = some 66 := by kernel_rfl
theorem built_mac (b : Nat) : Try.prog.built 76 [(0, .pointer (some ⟨b, 0, none⟩))] = some (macC (.pointer (some ⟨b, 0, none⟩)) zM) := by kernel_rfl
theorem built_none : Try.prog.built 76 [] = some (macC (.pointer none) zM) := by kernel_rfl
theorem built_16 : Try.prog.built 31 [] = some (barr (List.replicate 16 0)) := by kernel_rfl
theorem mmade_nil (w : World) : Calls Try.prog 48 #[.pointer none] w fun e w' => e = .returned (.bool false) ∧ w = w' := by
  go_enter Try.func48, Try.ntmps48
  go_wp2
  go_ret
  exact ⟨rfl, rfl⟩
theorem mmade_any (b c : Nat) (m : MacS) (w : World) (h : Blk w b 76 (macC (.pointer (some ⟨c, 0, none⟩)) m)) : Calls Try.prog 48 #[.pointer (some ⟨b, 0, none⟩)] w fun e w' => e = .returned (.bool true) ∧ w = w' := by
  have c0 := h.cellAt 0 (macC_c _ m)
  clear h
  go_enter Try.func48, Try.ntmps48
  go_wp2
  go_ret
  exact ⟨rfl, rfl⟩
theorem mmade_no (b : Nat) (m : MacS) (w : World) (h : Blk w b 76 (macC (.pointer none) m)) : Calls Try.prog 48 #[.pointer (some ⟨b, 0, none⟩)] w fun e w' => e = .returned (.bool false) ∧ w = w' := by
  have c0 := h.cellAt 0 (macC_c _ m)
  clear h
  go_enter Try.func48, Try.ntmps48
  go_wp2
  go_ret
  exact ⟨rfl, rfl⟩
end Go.Proofs.Ytpampcokonicfaa
/- cmac.New over a world that is a list of things. Conditions: the key has 16, 24 or 32 bytes; the ledger (a nil one too: obP (.pointer none) none) has room for two events. -/
namespace Go.Proofs.Ytpampcokonicfaa
open Go.RowKit
set_option maxRecDepth 100000
set_option linter.unusedVariables false
set_option linter.unusedSimpArgs false
/-! ### places in a list of things -/
theorem at_r {α : Type} {A L : List α} {n : Nat} (hn : A.length = n) (k : Nat) : (A ++ L)[n + k]? = L[k]? := by
  subst hn
  rw [List.getElem?_append_right (by omega), Nat.add_sub_cancel_left]
theorem at_l {α : Type} {A L : List α} {i : Nat} {x : α} (h : A[i]? = some x) : (A ++ L)[i]? = some x := by
  rw [List.getElem?_append_left (List.getElem?_eq_some_iff.1 h).1]
  exact h
theorem set_r {α : Type} {A L : List α} {n : Nat} (hn : A.length = n) (k : Nat) (z : α) : (A ++ L).set (n + k) z = A ++ L.set k z := by
  subst hn
  rw [List.set_append_right _ _ (by omega), Nat.add_sub_cancel_left]
theorem set_l {α : Type} {A L : List α} {i : Nat} (h : i < A.length) (z : α) : (A ++ L).set i z = A.set i z ++ L := List.set_append_left _ _ h
def zB : List UInt8 := List.replicate 16 0
/-- the block under which a key's subkeys stand -/
def topOf (key : List UInt8) : List UInt8 := enc (sched key) (key.length / 4 + 6) zB
def newM (key : List UInt8) : MacS := ⟨dbl (topOf key), dbl (dbl (topOf key)), zB, zB, 0⟩
theorem barr_toL (l : List UInt8) : barr l = (l.map B).toArray := rfl
section
variable {w0 w : World} {obs : List Ob}
set_option maxHeartbeats 4000000 in
theorem newMac_env (h : Env w0 w obs) (i : Nat) {q : Value} {o : Option (List Rn)} (hi : obs[i]? = some (obP q o)) (hb : Room o 1) {u : Value} {key : List UInt8} (hb2 : Room (noteO o 4 key.length 1) 1) (hu : Src w0 w obs i u key) (hk : RightLen key.length) :
    Calls Try.prog 10 #[q, u] w fun e w' => ∃ b c : Nat, e = .returned (.tuple #[.pointer (some ⟨b, 0, none⟩), .int .i64 0]) ∧
      Env w0 w' (obs.set i (obP q (noteO (noteO o 4 key.length 1) 5 key.length 1)) ++ [obC (.pointer (some ⟨c, 0, none⟩)) (some (key.length, sched key)), obK b 76 (macC (.pointer (some ⟨c, 0, none⟩)) (newM key))]) := by
  have H := Lib.hid h
  have HU := Lib.hid hu
  have hil : i < obs.length := (List.getElem?_eq_some_iff.1 hi).1
  have hk0 : 0 < key.length := by rcases hk with h | h | h <;> omega
  clear h hu
  go_enter Try.func10, Try.ntmps10
  go_wp2_with fail
  refine (newC_env H.out i hi hb HU.out hk).mono ?_
  rintro e w1 ⟨c, rfl, h1⟩
  obtain ⟨n, hn⟩ : ∃ n, obs.length = n := ⟨_, rfl⟩
  rw [hn] at hil
  obtain ⟨A, hA⟩ : ∃ A, obs.set i (obP q (noteO o 4 key.length 1)) = A := ⟨_, rfl⟩
  have hAn : A.length = n := by rw [← hA, List.length_set, hn]
  have hAi : A[i]? = some (obP q (noteO o 4 key.length 1)) := by rw [← hA, List.getElem?_set_self (by omega)]
  have HAS : Hid (∀ x, A.set i x = obs.set i x) := Lib.hid (fun x => by rw [← hA, List.set_set])
  rw [hA] at h1
  have H1 := Lib.hid h1
  obtain ⟨kn, hkn⟩ : ∃ kn : Nat, key.length = kn := ⟨_, rfl⟩
  have HKN := Lib.hid hkn
  clear h1 hA H HU hi hk hb
  have H2 : Hid (Env w0 (w1.alloc (.cells (macC (.pointer (some ⟨c, 0, none⟩)) zM) 76)) (A ++ [obC (.pointer (some ⟨c, 0, none⟩)) (some (key.length, sched key)), obK w1.heap.size 76 (macC (.pointer (some ⟨c, 0, none⟩)) zM)])) := by
    have h := H1.out.newK 76 (macC (.pointer (some ⟨c, 0, none⟩)) zM)
    rw [List.append_assoc] at h
    exact Lib.hid h
  have e1 : Try.zeroCells76.setIfInBounds 0 (.pointer (some ⟨c, 0, none⟩)) = macC (.pointer (some ⟨c, 0, none⟩)) zM := by kernel_rfl
  have e2 : Value.agg #[.int .u8 0, .int .u8 0, .int .u8 0, .int .u8 0, .int .u8 0, .int .u8 0, .int .u8 0, .int .u8 0, .int .u8 0, .int .u8 0, .int .u8 0, .int .u8 0, .int .u8 0, .int .u8 0, .int .u8 0, .int .u8 0] = .agg (barr zB) := rfl
  obtain ⟨Z, hZ⟩ : ∃ Z, macC (.pointer (some ⟨c, 0, none⟩)) zM = Z := ⟨_, rfl⟩
  rw [hZ] at H2 e1
  have HZ := Lib.hid hZ
  have E1 := Lib.hid e1
  have E2 := Lib.hid e2
  clear hZ hkn H1 e1 e2
  go_wp2_with fail
  rw [E1.out, E2.out]
  obtain ⟨w2, hw2⟩ : ∃ w2, w1.alloc (.cells Z 76) = w2 := ⟨_, rfl⟩
  obtain ⟨b, hbb⟩ : ∃ b, w1.heap.size = b := ⟨_, rfl⟩
  rw [hw2, hbb] at H2
  rw [hw2, hbb]
  clear hw2 hbb E1 E2
  refine (encC_env H2.out (n + 0) i (by omega) (at_r hAn 0) (at_l hAi) hb2 hk0 zB rfl).mono ?_
  rintro e w3 ⟨rfl, h3⟩
  rw [set_l (by rw [hAn]; exact hil), HAS.out] at h3
  obtain ⟨A2, hA2⟩ : ∃ A2, obs.set i (obP q (noteO (noteO o 4 key.length 1) 5 key.length 1)) = A2 := ⟨_, rfl⟩
  have hA2n : A2.length = n := by rw [← hA2, List.length_set, hn]
  rw [hA2] at h3
  obtain ⟨T, hT⟩ : ∃ T, enc (sched key) (key.length / 4 + 6) zB = T := ⟨_, rfl⟩
  have hTl : T.length = 16 := by rw [← hT]; exact enc_len _ _ _
  have hTs : (barr T).size = 16 := by rw [barr_size, hTl]
  rw [hT]
  have HT : Hid (topOf key = T) := Lib.hid hT
  have H3 := Lib.hid h3
  have HA2 := Lib.hid hA2
  have hz16 : (barr zB).size = 16 := rfl
  obtain ⟨g, hg⟩ : ∃ g, w3.heap.size = g := ⟨_, rfl⟩
  have HG := Lib.hid hg
  have H4 : Hid (Env w0 (w3.alloc (.cells (barr zB) 31)) (A2 ++ [obC (.pointer (some ⟨c, 0, none⟩)) (some (key.length, sched key)), obK b 76 Z, obK g 31 (barr zB)])) := by
    have h := H3.out.newK 31 (barr zB)
    rw [List.append_assoc, hg] at h
    exact Lib.hid h
  have b4 := H4.out.blk (n + 2) (at_r hA2n 2)
  clear h3 hT hA2 H2 H3 hAi HAS hAn
  go_upto_region 6 with ((with_reducible change wpList _ _ _ (Oper.mk _ (Op.store 31 _ _) _ _ _ _ :: _) _ _); refine wpList_store_var g (barr T) (by first | rfl | simp [Act.eval, hg]) rfl b4 size16 hTs hz16 (barr_one _) ?_; intro w4 B4 O4; have H5 := Lib.hid (H4.out.turnBlk (n + 2) (at_r hA2n 2) B4 O4); clear B4 O4)
  clear H4 b4 hg
  rw [set_r hA2n] at H5
  have b5 := H5.out.blk (n + 2) (at_r hA2n 2)
  go_wp2_with ((with_reducible change wpList _ _ _ (Oper.mk _ (Op.load 31 _) _ _ _ _ :: _) _ _); refine wpList_load_blk (ty := 31) g rfl b5 Try.underlying31 rfl size16 hTs ?_)
  refine (dbl_any T hTl w4).mono ?_
  rintro e w5 ⟨rfl, hb⟩
  have H6 := Lib.hid (H5.out.below hb)
  obtain ⟨D, hD⟩ : ∃ D, dbl T = D := ⟨_, rfl⟩
  have hDl : D.length = 16 := by rw [← hD]; exact dbl_length _
  have hDm : (D.map B).length = 16 := by rw [List.length_map, hDl]
  have HDD := Lib.hid hD
  rw [hD]
  have b6 := H6.out.blk (n + 1) (at_r hA2n 1)
  have hzm : (zB.map B).length = 16 := rfl
  have HZ2 : Hid (Z = ([Value.pointer (some ⟨c, 0, none⟩)] ++ (zB.map B ++ (zB.map B ++ (zB.map B ++ (zB.map B ++ [Value.int .i64 0]))))).toArray) := Lib.hid HZ.out.symm
  have ones : ∀ l : List UInt8, ∀ v ∈ l.map B, v.oneCell' = true := fun l v hv => by
    obtain ⟨x, _, rfl⟩ := List.mem_map.1 hv
    rfl
  clear hb hD H5 b5
  go_upto_region 7 with ((with_reducible change wpList _ _ _ (Oper.mk _ (Op.store 31 _ _) _ _ _ _ :: _) _ _); refine wpList_store_part b 1 (D.map B) rfl rfl [.pointer (some ⟨c, 0, none⟩)] (zB.map B) (zB.map B ++ (zB.map B ++ (zB.map B ++ [.int .i64 0]))) b6 HZ2.out rfl (size16.trans (by rw [hDm])) (hDm.trans hzm.symm) (ones D) ?_; intro w6 B4 O4; have H7 := Lib.hid (H6.out.turnBlk (n + 1) (at_r hA2n 1) B4 O4); clear B4 O4)
  rw [set_r hA2n] at H7
  clear H6 b6 HZ2
  have b7 := H7.out.blk (n + 1) (at_r hA2n 1)
  have r7 := b7.part (pre := [.pointer (some ⟨c, 0, none⟩)]) (mid := D.map B) (post := zB.map B ++ (zB.map B ++ (zB.map B ++ [.int .i64 0]))) rfl 1 rfl
  clear b7
  go_wp2_with ((with_reducible change wpList _ _ _ (Oper.mk _ (Op.load 31 _) _ _ _ _ :: _) _ _); refine wpList_load_mid rfl 31 _ rfl b 1 rfl (D.map B) _ r7 Try.underlying31 rfl (size16.trans (by rw [hDm])) ?_)
  refine (dbl_any D hDl w6).mono ?_
  rintro e w7 ⟨rfl, hb⟩
  have H8 := Lib.hid (H7.out.below hb)
  obtain ⟨D2, hD2⟩ : ∃ D2, dbl D = D2 := ⟨_, rfl⟩
  have hD2l : D2.length = 16 := by rw [← hD2]; exact dbl_length _
  have hD2m : (D2.map B).length = 16 := by rw [List.length_map, hD2l]
  have HD2 := Lib.hid hD2
  rw [hD2]
  have b8 := H8.out.blk (n + 1) (at_r hA2n 1)
  have h17 : 17 = (Value.pointer (some ⟨c, 0, none⟩) :: D.map B).length := by rw [List.length_cons, hDm]
  clear hb hD2 H7 r7
  go_upto_region 8 with ((with_reducible change wpList _ _ _ (Oper.mk _ (Op.store 31 _ _) _ _ _ _ :: _) _ _); refine wpList_store_part b 17 (D2.map B) rfl rfl (.pointer (some ⟨c, 0, none⟩) :: D.map B) (zB.map B) (zB.map B ++ (zB.map B ++ [.int .i64 0])) b8 rfl h17 (size16.trans (by rw [hD2m])) (hD2m.trans hzm.symm) (ones D2) ?_; intro w8 B4 O4; have H9 := Lib.hid (H8.out.turnBlk (n + 1) (at_r hA2n 1) B4 O4); clear B4 O4)
  rw [set_r hA2n] at H9
  have HF : Hid (Env w0 w8 (obs.set i (obP q (noteO (noteO o 4 key.length 1) 5 key.length 1)) ++ [obC (.pointer (some ⟨c, 0, none⟩)) (some (key.length, sched key)), obK b 76 (macC (.pointer (some ⟨c, 0, none⟩)) (newM key))])) := by
    have h := H9.out
    rw [← HA2.out] at h
    have e : newM key = ⟨D, D2, zB, zB, 0⟩ := by
      unfold newM
      rw [HT.out, HDD.out, HD2.out]
    rw [e]
    refine Lib.hid (Env.drop (x := obK g 31 (barr T)) ?_)
    rw [List.append_assoc]
    exact h
  clear H8 b8 H9
  go_wp2
  go_ret2
  exact ⟨b, c, rfl, HF.out⟩
end
end Go.Proofs.Ytpampcokonicfaa
/- A region that draws its order, step by step under a condition S that every operation keeps: what yields one value in every world that meets S is taken first; the others come alone, or two in either order. No program in sight. -/
namespace Go.Proofs.Ytpampcokonicfaa
open Go
section
variable {P : Program} {ops : Array Oper} {md : Region.Mode} {Q : Exit → Act → World → Prop} {S : World → Prop} {fuel : Nat} {listed : Array Bool} {a : Act} {w : World} {o : Oper} {i j : Nat} {v : Value}
theorem hd_start {id : Nat} (S : World → Prop) (hm : P.follows .mixedOrders = true) (h : ∀ w', w' = w.drewN 1 → wpAnyH P .any ops Q S ops.size (Array.replicate ops.size false) a w') : (Code.region id ops true).wp P Q a w := wp_region_held hm (h _ rfl)
/-- taken first: it yields v in every world that meets S -/
theorem hd_take (i : Nat) (ho : ops[i]? = some o) (hs : (Region.noSelect ops && Region.free md ops listed i && (Region.ready md ops listed).contains i) = true) (hQ : ∀ c (a : Act) (d : Option Tmp) (v : Value) w, Q (.panic c) (a.put d v) w → Q (.panic c) a w)
    (hw : Region.wanted o (yielded ops a.tmps) = true) (hS : S w) (h : ∀ w, S w → (execOp a.eval o).run P w = .ok (.value v) w) (kk : wpAnyH P md ops Q S fuel (listed.setIfInBounds i true) (a.put o.dst v) w) : wpAnyH P md ops Q S (fuel + 1) listed a w := by
  simp only [Bool.and_eq_true] at hs
  exact wpAnyH_take ho hs.1.1 hs.1.2 hs.2 (fun c a w => hQ c a _ v w) (.inl ⟨hw, h⟩) hS kk
/-- its guard is false -/
theorem hd_off (i : Nat) (ho : ops[i]? = some o) (hs : (Region.noSelect ops && Region.free md ops listed i && (Region.ready md ops listed).contains i) = true) (hQ : ∀ c (a : Act) (d : Option Tmp) (v : Value) w, Q (.panic c) (a.put d v) w → Q (.panic c) a w)
    (hw : Region.wanted o (yielded ops a.tmps) = false) (hS : S w) (kk : wpAnyH P md ops Q S fuel (listed.setIfInBounds i true) (a.put o.dst undef) w) : wpAnyH P md ops Q S (fuel + 1) listed a w := by
  simp only [Bool.and_eq_true] at hs
  exact wpAnyH_take ho hs.1.1 hs.1.2 hs.2 (fun c a w => hQ c a _ undef w) (.inr ⟨hw, rfl⟩) hS kk
/-- the only one that may come -/
theorem hd_one (i : Nat) (hr : decide (Region.ready md ops listed = [i]) = true) (h : wpOp P ops Q i (fun a' w' => S w' ∧ wpAnyH P md ops Q S fuel (listed.setIfInBounds i true) a' w') a w) : wpAnyH P md ops Q S (fuel + 1) listed a w := by
  rw [decide_eq_true_eq] at hr
  refine wpAnyH_all hr (by simp) fun k hk => ?_
  obtain rfl : k = i := by simpa using hk
  exact h
/-- one of two -/
theorem hd_two (i j : Nat) (hr : decide (Region.ready md ops listed = [i, j]) = true) (h1 : wpOp P ops Q i (fun a' w' => S w' ∧ wpAnyH P md ops Q S fuel (listed.setIfInBounds i true) a' w') a w)
    (h2 : wpOp P ops Q j (fun a' w' => S w' ∧ wpAnyH P md ops Q S fuel (listed.setIfInBounds j true) a' w') a w) : wpAnyH P md ops Q S (fuel + 1) listed a w := by
  rw [decide_eq_true_eq] at hr
  refine wpAnyH_all hr (by simp) fun k hk => ?_
  have hk2 : k = i ∨ k = j := by simpa using hk
  rcases hk2 with rfl | rfl
  · exact h1
  · exact h2
theorem hd_done (hr : (Region.ready md ops listed).isEmpty = true) (h : wpList P ops Q [] a w) : wpAnyH P md ops Q S fuel listed a w := wpAnyH_done (by simpa using hr) h fuel
variable {K : Act → World → Prop}
theorem op_call {f : FuncId} {args : Array Value} (ho : ops[i]? = some o) (hw : Region.wanted o (yielded ops a.tmps) = true) (h : (execOp a.eval o).run P w = .ok (.enter f args) w)
    (hc : Calls P f args w fun e w'' => ∃ v, e = .returned v ∧ K (a.put o.dst v) w'') : wpOp P ops Q i K a w := by
  unfold Go.wpOp
  simp only [ho, hw, if_true]
  exact .inl (wp_mid_call h hc)
theorem op_run {w' : World} (ho : ops[i]? = some o) (hw : Region.wanted o (yielded ops a.tmps) = true) (h : (execOp a.eval o).run P w = .ok (.value v) w') (hc : K (a.put o.dst v) w') : wpOp P ops Q i K a w := by
  unfold Go.wpOp
  simp only [ho, hw, if_true]
  refine .inl ?_
  unfold Oper.wp
  rw [h]
  exact hc
theorem op_skip {w' : World} (ho : ops[i]? = some o) (hw : Region.wanted o (yielded ops a.tmps) = true) (h : (execOp a.eval o).run P w = .ok .skip w') (hc : K (a.put o.dst undef) w') : wpOp P ops Q i K a w := by
  unfold Go.wpOp
  simp only [ho, hw, if_true]
  refine .inl ?_
  unfold Oper.wp
  rw [h]
  exact hc
theorem op_off (ho : ops[i]? = some o) (hw : Region.wanted o (yielded ops a.tmps) = false) (hc : K (a.put o.dst undef) w) : wpOp P ops Q i K a w := by
  unfold Go.wpOp
  simp only [ho, hw, Bool.false_eq_true, if_false]
  exact hc
end
end Go.Proofs.Ytpampcokonicfaa
/- Mac.Sum over a world that is a list of things. -/
namespace Go.Proofs.Ytpampcokonicfaa
open Go.RowKit
set_option maxRecDepth 100000
set_option linter.unusedVariables false
set_option linter.unusedSimpArgs false
section
variable {P : Program} {ops : Array Oper} {md : Region.Mode} {Q : Exit → Act → World → Prop} {S : World → Prop} {fuel : Nat} {listed : Array Bool} {a : Act} {w : World} {o : Oper} {i j : Nat} {v : Value}
/-- taken first, its value told by a law -/
theorem hd_part (i : Nat) (ho : ops[i]? = some o) (hs : (Region.noSelect ops && Region.free md ops listed i && (Region.ready md ops listed).contains i) = true) (hQ : ∀ c (a : Act) (d : Option Tmp) (v : Value) w, Q (.panic c) (a.put d v) w → Q (.panic c) a w)
    (hy : YieldsIf P ops S o v a) (hS : S w) (kk : wpAnyH P md ops Q S fuel (listed.setIfInBounds i true) (a.put o.dst v) w) : wpAnyH P md ops Q S (fuel + 1) listed a w := by
  simp only [Bool.and_eq_true] at hs
  exact wpAnyH_take ho hs.1.1 hs.1.2 hs.2 (fun c a w => hQ c a _ v w) hy hS kk
/-- a store into a block, in a region that draws -/
theorem exec_store_part {ty : TypeId} {x y : Operand} {d : Option Tmp} {ot : TypeId} {pos : String} {aft : Array Edge} {gd : Option (Nat × Bool)} (g o : Nat) (cells : Array Value) (hx : a.eval x = .pointer (some ⟨g, o, none⟩)) (hy : a.eval y = .agg cells)
    (ht : w.there g o cells.size) (hi : (P.info? ty).map (·.size) = some cells.size) (h1 : cells.all (·.oneCell') = true) :
    (execOp a.eval ⟨d, .store ty x y, ot, pos, aft, gd⟩).run P w = .ok .skip (w.setCells g o cells.toList) := by
  unfold execOp
  simp only [hx, hy, Instr.storeAt, Instr.sureAddr, Sem.run_bind, Sem.run_pure, Result.andThen_ok, run_storeVar_mid w g o ty cells ht hi h1]
theorem op_store_blk {K : Act → World → Prop} {ty : TypeId} {x y : Operand} {d : Option Tmp} {ot : TypeId} {pos : String} {aft : Array Edge} (g : Nat) (cells : Array Value) {bt : TypeId} {old : Array Value} {n : Nat} (ho : ops[i]? = some ⟨d, .store ty x y, ot, pos, aft, none⟩) (hw : Region.wanted ⟨d, .store ty x y, ot, pos, aft, none⟩ (yielded ops a.tmps) = true)
    (hx : a.eval x = .pointer (some ⟨g, 0, none⟩)) (hy : a.eval y = .agg cells) (hg : Blk w g bt old) (hi : (P.info? ty).map (·.size) = some n) (hn : cells.size = n) (hos : old.size = n) (h1 : ∀ v ∈ cells.toList, v.oneCell' = true)
    (kk : ∀ w', Blk w' g bt cells → Only (fun x => x = g) w w' → K (a.put d undef) w') : wpOp P ops Q i K a w := by
  refine op_skip ho hw (exec_store_part g 0 cells hx hy (hg.there _ _ (by omega)) (by rw [hi, hn]) (by rw [Array.all_eq_true_iff_forall_mem]; intro v hv; exact h1 v (by simpa using hv))) ?_
  have h := Blk.setPart cells.toList old.toList [] [] w (by simp [hn, hos]) (by simpa using hg)
  exact kk _ (by simpa using h) (Only.sets (S := fun x => x = g) (.inl rfl) _ _ _ (Only.refl _ _))
end
theorem macC_ch (c : Value) (m : MacS) : macC c m = ((c :: (m.k1.map B ++ m.k2.map B)) ++ (m.ch.map B ++ (m.wt.map B ++ [Value.int .i64 (m.n : Int)]))).toArray := by simp [macC]
theorem macC_wt (c : Value) (m : MacS) : macC c m = ((c :: (m.k1.map B ++ (m.k2.map B ++ m.ch.map B))) ++ (m.wt.map B ++ [Value.int .i64 (m.n : Int)])).toArray := by simp [macC]
theorem macC_k1 (c : Value) (m : MacS) : macC c m = ([c] ++ (m.k1.map B ++ (m.k2.map B ++ (m.ch.map B ++ (m.wt.map B ++ [Value.int .i64 (m.n : Int)]))))).toArray := by simp [macC]
theorem macC_k2 (c : Value) (m : MacS) : macC c m = ((c :: m.k1.map B) ++ (m.k2.map B ++ (m.ch.map B ++ (m.wt.map B ++ [Value.int .i64 (m.n : Int)])))).toArray := by simp [macC]
def lastOf (m : MacS) : List UInt8 := if m.n < 16 then m.wt.set m.n 128 else m.wt
def keyOf (m : MacS) : List UInt8 := if m.n < 16 then m.k2 else m.k1
/-- what a Mac's tag is -/
def tagOf (K : List UInt8) (k : Nat) (m : MacS) : List UInt8 := enc K (k / 4 + 6) (xorB m.ch (xorB (lastOf m) (keyOf m)))
section
variable {w : World} {b : Nat} {c : Value} {m : MacS}
theorem mac_k1 (h : Blk w b 76 (macC c m)) (hm : m.Ok) : w.rangeAt b 1 (m.k1.map B) := h.part (macC_k1 c m) 1 rfl
theorem mac_k2 (h : Blk w b 76 (macC c m)) (hm : m.Ok) : w.rangeAt b 17 (m.k2.map B) := h.part (macC_k2 c m) 17 (by simp [hm.l1])
theorem mac_ch (h : Blk w b 76 (macC c m)) (hm : m.Ok) : w.rangeAt b 33 (m.ch.map B) := h.part (macC_ch c m) 33 (by simp [hm.l1, hm.l2])
theorem mac_wt (h : Blk w b 76 (macC c m)) (hm : m.Ok) : w.rangeAt b 49 (m.wt.map B) := h.part (macC_wt c m) 49 (by simp [hm.l1, hm.l2, hm.l3])
end
theorem size16b (l : List UInt8) (h : l.length = 16) : (Try.prog.info? 31).map (·.size) = some (l.map B).length := size16.trans (by rw [List.length_map, h])
theorem Env.last3 {w0 w : World} {A : List Ob} {x y z : Ob} (h : Env w0 w (A ++ [x, y, z])) : Env w0 w (A ++ [z]) := by
  refine h.pick (fun j => if j = A.length then A.length + 2 else j) (fun i j hi hj he => ?_) (fun j ob hj => ?_)
  · simp only [List.length_append, List.length_cons, List.length_nil] at hi hj
    split at he <;> split at he <;> omega
  · by_cases h1 : j < A.length
    · rw [if_neg (by omega)]
      rw [List.getElem?_append_left h1] at hj ⊢
      exact hj
    · have hlt := (List.getElem?_eq_some_iff.1 hj).1
      simp only [List.length_append, List.length_cons, List.length_nil] at hlt
      obtain rfl : j = A.length + 0 := by omega
      rw [at_r rfl 0] at hj
      rw [if_pos (by omega)]
      exact (at_r (A := A) rfl 2).trans hj
theorem Env.swap2 {w0 w : World} {A : List Ob} {x y : Ob} (h : Env w0 w (A ++ [x, y])) : Env w0 w (A ++ [y, x]) := by
  refine h.pick (fun j => if j = A.length then A.length + 1 else if j = A.length + 1 then A.length else j) (fun i j _ _ he => ?_) (fun j ob hj => ?_)
  · split at he <;> split at he <;> (try split at he) <;> (try split at he) <;> omega
  · by_cases h1 : j < A.length
    · rw [if_neg (by omega), if_neg (by omega)]
      rw [List.getElem?_append_left h1] at hj ⊢
      exact hj
    · have hlt := (List.getElem?_eq_some_iff.1 hj).1
      simp only [List.length_append, List.length_cons, List.length_nil] at hlt
      have h2 : j = A.length + 0 ∨ j = A.length + 1 := by omega
      rcases h2 with rfl | rfl
      · rw [at_r rfl 0] at hj
        rw [if_pos (by omega)]
        exact (at_r (A := A) rfl 1).trans hj
      · rw [at_r rfl 1] at hj
        rw [if_neg (by omega), if_pos rfl]
        exact (at_r (A := A) rfl 0).trans hj
section
variable {w0 w : World} {obs : List Ob}
set_option maxHeartbeats 4000000 in
theorem sumM_env (h : Env w0 w obs) (i j l : Nat) (hij : i ≠ j) (hil : i ≠ l) (hjl : j ≠ l) {b c k : Nat} {K : List UInt8} {m : MacS} {q : Value} {o : Option (List Rn)} (hi : obs[i]? = some (obC (.pointer (some ⟨c, 0, none⟩)) (some (k, K)))) (hj : obs[j]? = some (obK b 76 (macC (.pointer (some ⟨c, 0, none⟩)) m))) (hl : obs[l]? = some (obP q o)) (hb : Room o 1) (hm : m.Ok) (hk : 0 < k) :
    Calls Try.prog 22 #[.pointer (some ⟨b, 0, none⟩), q] w fun e w' => ∃ g : Nat, e = .returned (.tuple #[.slice (some ⟨g, 0, none⟩) 16 16, .int .i64 0]) ∧ Env w0 w' (obs.set l (obP q (noteO o 5 k 1)) ++ [obK g 31 (barr (tagOf K k m))]) := by
  have H := Lib.hid h
  clear h
  go_enter Try.func22, Try.ntmps22
  go_wp2_with fail
  refine (mmade_any b c m w (H.out.blk j hj)).mono ?_
  rintro e w1 ⟨rfl, rfl⟩
  go_upto_region 3 with fail
  go_cut [6, 7] from 13 to 20 (fun p6 p7 wx => ∃ g6 g7 : Nat, p6 = .pointer (some ⟨g6, 0, none⟩) ∧ p7 = .pointer (some ⟨g7, 0, none⟩) ∧ Env w0 wx (obs ++ [obK g6 31 (barr m.wt), obK g7 31 (barr m.k1)]))
  case first =>
    obtain ⟨S, hS⟩ : ∃ S : World → Prop, S = fun wx => Env w0 wx obs := ⟨_, rfl⟩
    have SE : Hid (∀ wx, S wx → Env w0 wx obs) := Lib.hid (fun wx h => by rw [hS] at h; exact h)
    have ES : Hid (∀ wx, Env w0 wx obs → S wx) := Lib.hid (fun wx h => by rw [hS]; exact h)
    have FW : ∀ wx, S wx → wx.rangeAt b 49 (m.wt.map B) := fun wx h => mac_wt ((SE.out wx h).blk j hj) hm
    have FK1 : ∀ wx, S wx → wx.rangeAt b 1 (m.k1.map B) := fun wx h => mac_k1 ((SE.out wx h).blk j hj) hm
    clear hS
    refine hd_start S (by kernel_rfl) ?_
    intro w1 hw'
    have H1 := Lib.hid (H.out.draw 1)
    rw [← hw'] at H1
    clear hw' H
    have S1 : S w1 := ES.out w1 H1.out
    refine hd_take (v := ?_) 0 rfl (by kernel_rfl) (fun _ _ d _ _ h => (by cases d <;> exact h)) (by kernel_rfl) S1 (fun w' hS => ?_) ?_
    rotate_left
    focus (clear hS; go_simp; try rfl; done)
    simp only [List.getElem_toArray, List.getElem_cons_succ, List.getElem_cons_zero, Act.put, List.setIfInBounds_toArray, List.set_cons_zero, List.set_cons_succ]
    refine hd_take (v := ?_) 1 rfl (by kernel_rfl) (fun _ _ d _ _ h => (by cases d <;> exact h)) (by kernel_rfl) S1 (fun w' hS => ?_) ?_
    rotate_left
    focus (clear hS; go_simp; try rfl; done)
    simp only [List.getElem_toArray, List.getElem_cons_succ, List.getElem_cons_zero, Act.put, List.setIfInBounds_toArray, List.set_cons_zero, List.set_cons_succ]
    refine hd_take (v := ?_) 2 rfl (by kernel_rfl) (fun _ _ d _ _ h => (by cases d <;> exact h)) (by kernel_rfl) S1 (fun w' hS => ?_) ?_
    rotate_left
    focus (clear hS; go_simp; try rfl; done)
    simp only [List.getElem_toArray, List.getElem_cons_succ, List.getElem_cons_zero, Act.put, List.setIfInBounds_toArray, List.set_cons_zero, List.set_cons_succ]
    refine hd_part 3 rfl (by kernel_rfl) (fun _ _ d _ _ h => (by cases d <;> exact h)) (yieldsIf_load_mid (by kernel_rfl) 31 _ rfl b 49 rfl (m.wt.map B) _ FW Try.underlying31 rfl (size16b _ hm.l4)) S1 ?_
    simp only [List.getElem_toArray, List.getElem_cons_succ, List.getElem_cons_zero, Act.put, List.setIfInBounds_toArray, List.set_cons_zero, List.set_cons_succ]
    refine hd_take (v := ?_) 4 rfl (by kernel_rfl) (fun _ _ d _ _ h => (by cases d <;> exact h)) (by kernel_rfl) S1 (fun w' hS => ?_) ?_
    rotate_left
    focus (clear hS; go_simp; try rfl; done)
    simp only [List.getElem_toArray, List.getElem_cons_succ, List.getElem_cons_zero, Act.put, List.setIfInBounds_toArray, List.set_cons_zero, List.set_cons_succ]
    refine hd_take (v := ?_) 5 rfl (by kernel_rfl) (fun _ _ d _ _ h => (by cases d <;> exact h)) (by kernel_rfl) S1 (fun w' hS => ?_) ?_
    rotate_left
    focus (clear hS; go_simp; try rfl; done)
    simp only [List.getElem_toArray, List.getElem_cons_succ, List.getElem_cons_zero, Act.put, List.setIfInBounds_toArray, List.set_cons_zero, List.set_cons_succ]
    refine hd_take (v := ?_) 6 rfl (by kernel_rfl) (fun _ _ d _ _ h => (by cases d <;> exact h)) (by kernel_rfl) S1 (fun w' hS => ?_) ?_
    rotate_left
    focus (clear hS; go_simp; try rfl; done)
    simp only [List.getElem_toArray, List.getElem_cons_succ, List.getElem_cons_zero, Act.put, List.setIfInBounds_toArray, List.set_cons_zero, List.set_cons_succ]
    refine hd_part 7 rfl (by kernel_rfl) (fun _ _ d _ _ h => (by cases d <;> exact h)) (yieldsIf_load_mid (by kernel_rfl) 31 _ rfl b 1 rfl (m.k1.map B) _ FK1 Try.underlying31 rfl (size16b _ hm.l1)) S1 ?_
    simp only [List.getElem_toArray, List.getElem_cons_succ, List.getElem_cons_zero, Act.put, List.setIfInBounds_toArray, List.set_cons_zero, List.set_cons_succ]
    have HM := Lib.hid hm
    have wl : m.wt.length = 16 := hm.l4
    have kl : m.k1.length = 16 := hm.l1
    have ws : (barr m.wt).size = 16 := by rw [barr_size, wl]
    have ks : (barr m.k1).size = 16 := by rw [barr_size, kl]
    have zs : (barr zB).size = 16 := rfl
    obtain ⟨n, hn⟩ : ∃ n, obs.length = n := ⟨_, rfl⟩
    have Sof : Hid (∀ wx X, Env w0 wx (obs ++ [X]) → S wx) := Lib.hid (fun wx X h => ES.out wx h.drop)
    have Sof2 : Hid (∀ wx X Y, Env w0 wx (obs ++ [X, Y]) → S wx) := Lib.hid (fun wx X Y h => ES.out wx (Env.drop (x := X) (Env.drop (x := Y) (by rw [List.append_assoc]; exact h))))
    have H2 := Lib.hid (H1.out.newK 31 (barr zB))
    have H3 := Lib.hid (H2.out.newK 31 (barr zB))
    rw [List.append_assoc] at H3
    have S2 := Sof.out _ _ H2.out
    have S3 := Sof2.out _ _ _ H3.out
    have b61 := H3.out.blk (n + 0) (at_r hn 0)
    have b71 := H3.out.blk (n + 1) (at_r hn 1)
    clear FW FK1 hm
    refine hd_two 8 9 (by kernel_rfl) ?_ ?_
    · skip
      refine op_run rfl (by kernel_rfl) (by go_simp; first | done | exact ⟨rfl, rfl⟩ | rfl) ?_
      refine ⟨S2, ?_⟩
      simp only [List.getElem_toArray, List.getElem_cons_succ, List.getElem_cons_zero, Act.put, List.setIfInBounds_toArray, List.set_cons_zero, List.set_cons_succ]
      refine hd_one 9 (by kernel_rfl) ?_
      refine op_run rfl (by kernel_rfl) (by go_simp; first | done | exact ⟨rfl, rfl⟩ | rfl) ?_
      refine ⟨S3, ?_⟩
      simp only [List.getElem_toArray, List.getElem_cons_succ, List.getElem_cons_zero, Act.put, List.setIfInBounds_toArray, List.set_cons_zero, List.set_cons_succ]
      refine hd_one 10 (by kernel_rfl) ?_
      refine op_store_blk w1.heap.size (barr m.wt) rfl (by kernel_rfl) rfl rfl b61 size16 ws zs (barr_one _) ?_
      intro w3 B3 O3
      have H4 := Lib.hid (H3.out.turnBlk (n + 0) (at_r hn 0) B3 O3)
      rw [set_r hn] at H4
      have S4 := Sof2.out _ _ _ H4.out
      refine ⟨S4, ?_⟩
      simp only [List.getElem_toArray, List.getElem_cons_succ, List.getElem_cons_zero, Act.put, List.setIfInBounds_toArray, List.set_cons_zero, List.set_cons_succ]
      have b72 := H4.out.blk (n + 1) (at_r hn 1)
      clear B3 O3
      refine hd_one 11 (by kernel_rfl) ?_
      refine op_store_blk _ (barr m.k1) (by first | rfl | simp [Act.eval]) (by kernel_rfl) (by first | rfl | simp [Act.eval]) rfl b72 size16 ks zs (barr_one _) ?_
      intro w4 B4 O4
      have H5 := Lib.hid (H4.out.turnBlk (n + 1) (at_r hn 1) B4 O4)
      rw [set_r hn] at H5
      have S5 := Sof2.out _ _ _ H5.out
      refine ⟨S5, ?_⟩
      simp only [List.getElem_toArray, List.getElem_cons_succ, List.getElem_cons_zero, Act.put, List.setIfInBounds_toArray, List.set_cons_zero, List.set_cons_succ]
      clear B4 O4 H2 H3 H4 b61 b71 b72
      refine hd_done (by kernel_rfl) ?_
      go_wp2_with fail
      go_meet
      exact ⟨_, _, rfl, by simp, H5.out⟩
    · skip
      refine op_run rfl (by kernel_rfl) (by go_simp; first | done | exact ⟨rfl, rfl⟩ | rfl) ?_
      refine ⟨S2, ?_⟩
      simp only [List.getElem_toArray, List.getElem_cons_succ, List.getElem_cons_zero, Act.put, List.setIfInBounds_toArray, List.set_cons_zero, List.set_cons_succ]
      refine hd_one 8 (by kernel_rfl) ?_
      refine op_run rfl (by kernel_rfl) (by go_simp; first | done | exact ⟨rfl, rfl⟩ | rfl) ?_
      refine ⟨S3, ?_⟩
      simp only [List.getElem_toArray, List.getElem_cons_succ, List.getElem_cons_zero, Act.put, List.setIfInBounds_toArray, List.set_cons_zero, List.set_cons_succ]
      refine hd_one 10 (by kernel_rfl) ?_
      refine op_store_blk _ (barr m.wt) (by first | rfl | simp [Act.eval]) (by kernel_rfl) (by first | rfl | simp [Act.eval]) rfl b71 size16 ws zs (barr_one _) ?_
      intro w3 B3 O3
      have H4 := Lib.hid (H3.out.turnBlk (n + 1) (at_r hn 1) B3 O3)
      rw [set_r hn] at H4
      have S4 := Sof2.out _ _ _ H4.out
      refine ⟨S4, ?_⟩
      simp only [List.getElem_toArray, List.getElem_cons_succ, List.getElem_cons_zero, Act.put, List.setIfInBounds_toArray, List.set_cons_zero, List.set_cons_succ]
      have b72 := H4.out.blk (n + 0) (at_r hn 0)
      clear B3 O3
      refine hd_one 11 (by kernel_rfl) ?_
      refine op_store_blk _ (barr m.k1) (by first | rfl | simp [Act.eval]) (by kernel_rfl) (by first | rfl | simp [Act.eval]) rfl b72 size16 ks zs (barr_one _) ?_
      intro w4 B4 O4
      have H5 := Lib.hid (H4.out.turnBlk (n + 0) (at_r hn 0) B4 O4)
      rw [set_r hn] at H5
      have S5 := Sof2.out _ _ _ H5.out
      refine ⟨S5, ?_⟩
      simp only [List.getElem_toArray, List.getElem_cons_succ, List.getElem_cons_zero, Act.put, List.setIfInBounds_toArray, List.set_cons_zero, List.set_cons_succ]
      clear B4 O4 H2 H3 H4 b61 b71 b72
      refine hd_done (by kernel_rfl) ?_
      go_wp2_with fail
      go_meet
      exact ⟨_, _, by simp, by simp, Env.swap2 H5.out⟩
  case rest =>
    obtain ⟨g6, g7, rfl, rfl, HC0⟩ := hcut
    have HC := Lib.hid HC0
    clear HC0
    obtain ⟨n, hn⟩ : ∃ n, obs.length = n := ⟨_, rfl⟩
    have bM := HC.out.blk j (at_l hj)
    have bL := HC.out.blk (n + 0) (at_r hn 0)
    have bK := HC.out.blk (n + 1) (at_r hn 1)
    have cN := bM.cellAt 65 (macC_n hm)
    have wl : m.wt.length = 16 := hm.l4
    have k1l : m.k1.length = 16 := hm.l1
    have k2l : m.k2.length = 16 := hm.l2
    have cl : m.ch.length = 16 := hm.l3
    have n16 := hm.hn
    have rK2 := mac_k2 bM hm
    obtain ⟨N, hN⟩ : ∃ N, m.n = N := ⟨_, rfl⟩
    rw [hN] at cN n16
    have HNN := Lib.hid hN
    have HM := Lib.hid hm
    have HOB := Lib.hid hn
    clear bM hN hm
    rcases Nat.lt_or_ge N 16 with hlt | hlt
    have hd : decide ((N : Int) < 16) = true := by simp; omega
    have c6 := bL.cellAt N (barr_getD m.wt N (by omega))
    have f6 := bL.unfrozen N
    have B6 : Hid (Blk (wc.setCell ⟨g6, N, none⟩ (.int .u8 128)) g6 31 (barr (m.wt.set N 128))) := by
      have h := bL.set N (.int .u8 128)
      rw [show (Value.int .u8 128) = .int .u8 ((128 : UInt8).toNat : Int) from rfl, barr_set] at h
      exact Lib.hid h
    have H2 := Lib.hid (HC.out.turnBlk (n + 0) (at_r hn 0) B6.out ((Only.refl (fun x => x = g6) wc).set (.inl rfl) _))
    rw [set_r hn] at H2
    have bK2 := H2.out.blk (n + 1) (at_r hn 1)
    have rK := mac_k2 (H2.out.blk j (at_l hj)) HM.out
    have k1s : (barr m.k1).size = 16 := by rw [barr_size, k1l]
    have k2s : (barr m.k2).size = 16 := by rw [barr_size, k2l]
    clear bL bK rK2 hn HC
    go_upto_region 6 with fail
    go_upto_region 7 with (first | ((with_reducible change wpList _ _ _ (Oper.mk _ (Op.load 31 _) _ _ _ _ :: _) _ _); refine wpList_load_mid rfl 31 _ rfl b 17 rfl (m.k2.map B) _ rK Try.underlying31 rfl (size16b _ k2l) ?_) | ((with_reducible change wpList _ _ _ (Oper.mk _ (Op.store 31 _ _) _ _ _ _ :: _) _ _); refine wpList_store_var g7 (barr m.k2) rfl rfl bK2 size16 k2s k1s (barr_one _) ?_; intro w3 B3 O3; have HA := Lib.hid (H2.out.turnBlk (n + 1) (at_r HOB.out 1) B3 O3); clear B3 O3))
    rw [set_r HOB.out] at HA
    have HTG : Hid (lastOf m = m.wt.set N 128 ∧ keyOf m = m.k2) := Lib.hid ⟨by unfold lastOf; rw [HNN.out, if_pos hlt], by unfold keyOf; rw [HNN.out, if_pos hlt]⟩
    have Ll : (m.wt.set N 128).length = 16 := by rw [List.length_set, wl]
    have Yl : m.k2.length = 16 := k2l
    generalize m.wt.set N 128 = L at HA HTG Ll
    generalize m.k2 = Y at HA HTG Yl
    clear c6 f6 B6 H2 bK2 rK k1s k2s k1l k2l hd wl cN
    try simp only [Act.put, List.setIfInBounds_toArray, List.set_cons_zero, List.set_cons_succ]
    rotate_left
    have hd : decide ((N : Int) < 16) = false := by simp; omega
    go_upto_region 7 with fail
    have HTG : Hid (lastOf m = m.wt ∧ keyOf m = m.k1) := Lib.hid ⟨by unfold lastOf; rw [HNN.out, if_neg (by omega)], by unfold keyOf; rw [HNN.out, if_neg (by omega)]⟩
    have HA := HC
    obtain ⟨w3, hw3⟩ : ∃ w3, w3 = wc := ⟨_, rfl⟩
    subst hw3
    have Ll : m.wt.length = 16 := wl
    have Yl : m.k1.length = 16 := k1l
    generalize m.wt = L at HA HTG Ll
    generalize m.k1 = Y at HA HTG Yl
    clear bL bK rK2 hn HC hd cN wl k1l k2l
    all_goals
      go_cut [8, 9] from 35 to 51 (fun p8 v9 wx => ∃ g8 : Nat, p8 = .pointer (some ⟨g8, 0, none⟩) ∧ v9 = .int .i64 0 ∧ Env w0 wx (obs.set l (obP q (noteO o 5 k 1)) ++ [obK g6 31 (barr L), obK g7 31 (barr Y), obK g8 31 (barr (tagOf K k m))]))
      case first =>
        have HA0 := HA.out
        rw [← set_same obs l _ hl] at HA0
        have HAA := Lib.hid HA0
        have hAi : ∀ o2, (obs.set l (obP q o2))[i]? = some (obC (.pointer (some ⟨c, 0, none⟩)) (some (k, K))) := fun o2 => by rw [List.getElem?_set_ne (Ne.symm hil)]; exact hi
        have hAj : ∀ o2, (obs.set l (obP q o2))[j]? = some (obK b 76 (macC (.pointer (some ⟨c, 0, none⟩)) m)) := fun o2 => by rw [List.getElem?_set_ne (Ne.symm hjl)]; exact hj
        have hAl : ∀ o2, (obs.set l (obP q o2))[l]? = some (obP q o2) := fun o2 => List.getElem?_set_self (List.getElem?_eq_some_iff.1 hl).1
        have hAn : ∀ o2, (obs.set l (obP q o2)).length = n := fun o2 => by rw [List.length_set, HOB.out]
        have hln : l < n := by rw [← HOB.out]; exact (List.getElem?_eq_some_iff.1 hl).1
        obtain ⟨S, hS⟩ : ∃ S : World → Prop, S = fun wx => ∃ o2 Xs, Env w0 wx (obs.set l (obP q o2) ++ ([obK g6 31 (barr L), obK g7 31 (barr Y)] ++ Xs)) := ⟨_, rfl⟩
        have SE : Hid (∀ wx, S wx → ∃ o2 Xs, Env w0 wx (obs.set l (obP q o2) ++ ([obK g6 31 (barr L), obK g7 31 (barr Y)] ++ Xs))) := Lib.hid (fun wx h => by rw [hS] at h; exact h)
        have ES : Hid (∀ wx o2 Xs, Env w0 wx (obs.set l (obP q o2) ++ ([obK g6 31 (barr L), obK g7 31 (barr Y)] ++ Xs)) → S wx) := Lib.hid (fun wx o2 Xs h => by rw [hS]; exact ⟨o2, Xs, h⟩)
        have FC : ∀ wx, S wx → wx.cell? ⟨b, 0, none⟩ = some (.pointer (some ⟨c, 0, none⟩)) := fun wx h => by obtain ⟨o2, Xs, h⟩ := SE.out wx h; exact (h.blk j (at_l (hAj o2))).cellAt 0 (macC_c _ m)
        have FCH : ∀ wx, S wx → wx.rangeAt b 33 (m.ch.map B) := fun wx h => by obtain ⟨o2, Xs, h⟩ := SE.out wx h; exact mac_ch (h.blk j (at_l (hAj o2))) HM.out
        have FL : ∀ wx, S wx → wx.rangeAt g6 0 (L.map B) := fun wx h => by obtain ⟨o2, Xs, h⟩ := SE.out wx h; have h2 := (h.blk (n + 0) (at_r (hAn o2) 0)).range; rwa [barr_toList] at h2
        have FY : ∀ wx, S wx → wx.rangeAt g7 0 (Y.map B) := fun wx h => by obtain ⟨o2, Xs, h⟩ := SE.out wx h; have h2 := (h.blk (n + 1) (at_r (hAn o2) 1)).range; rwa [barr_toList] at h2
        clear hS HA0 HA
        refine hd_start S (by kernel_rfl) ?_
        intro x0 hw'
        have X0 := Lib.hid (HAA.out.draw 1)
        rw [← hw'] at X0
        clear hw' HAA
        have T0 : S x0 := ES.out x0 _ [] X0.out
        refine hd_take (v := ?_) 0 rfl (by kernel_rfl) (fun _ _ d _ _ h => (by cases d <;> exact h)) (by kernel_rfl) T0 (fun w' hS => ?_) ?_
        rotate_left
        focus (clear hS; go_simp; try rfl; done)
        simp only [List.getElem_toArray, List.getElem_cons_succ, List.getElem_cons_zero, Act.put, List.setIfInBounds_toArray, List.set_cons_zero, List.set_cons_succ]
        refine hd_take (v := ?_) 1 rfl (by kernel_rfl) (fun _ _ d _ _ h => (by cases d <;> exact h)) (by kernel_rfl) T0 (fun w' hS => ?_) ?_
        rotate_left
        focus (clear hS; go_simp; try rfl; done)
        simp only [List.getElem_toArray, List.getElem_cons_succ, List.getElem_cons_zero, Act.put, List.setIfInBounds_toArray, List.set_cons_zero, List.set_cons_succ]
        refine hd_take (v := ?_) 2 rfl (by kernel_rfl) (fun _ _ d _ _ h => (by cases d <;> exact h)) (by kernel_rfl) T0 (fun w' hS => ?_) ?_
        rotate_left
        focus (clear hS; go_simp; try rfl; done)
        simp only [List.getElem_toArray, List.getElem_cons_succ, List.getElem_cons_zero, Act.put, List.setIfInBounds_toArray, List.set_cons_zero, List.set_cons_succ]
        refine hd_take (v := ?_) 3 rfl (by kernel_rfl) (fun _ _ d _ _ h => (by cases d <;> exact h)) (by kernel_rfl) T0 (fun w' hS => ?_) ?_
        rotate_left
        focus (have q0 := FC w' hS; clear hS; go_simp; try rfl; done)
        simp only [List.getElem_toArray, List.getElem_cons_succ, List.getElem_cons_zero, Act.put, List.setIfInBounds_toArray, List.set_cons_zero, List.set_cons_succ]
        refine hd_take (v := ?_) 4 rfl (by kernel_rfl) (fun _ _ d _ _ h => (by cases d <;> exact h)) (by kernel_rfl) T0 (fun w' hS => ?_) ?_
        rotate_left
        focus (clear hS; go_simp; try rfl; done)
        simp only [List.getElem_toArray, List.getElem_cons_succ, List.getElem_cons_zero, Act.put, List.setIfInBounds_toArray, List.set_cons_zero, List.set_cons_succ]
        refine hd_take (v := ?_) 5 rfl (by kernel_rfl) (fun _ _ d _ _ h => (by cases d <;> exact h)) (by kernel_rfl) T0 (fun w' hS => ?_) ?_
        rotate_left
        focus (clear hS; go_simp; try rfl; done)
        simp only [List.getElem_toArray, List.getElem_cons_succ, List.getElem_cons_zero, Act.put, List.setIfInBounds_toArray, List.set_cons_zero, List.set_cons_succ]
        refine hd_take (v := ?_) 6 rfl (by kernel_rfl) (fun _ _ d _ _ h => (by cases d <;> exact h)) (by kernel_rfl) T0 (fun w' hS => ?_) ?_
        rotate_left
        focus (clear hS; go_simp; try rfl; done)
        simp only [List.getElem_toArray, List.getElem_cons_succ, List.getElem_cons_zero, Act.put, List.setIfInBounds_toArray, List.set_cons_zero, List.set_cons_succ]
        refine hd_take (v := ?_) 7 rfl (by kernel_rfl) (fun _ _ d _ _ h => (by cases d <;> exact h)) (by kernel_rfl) T0 (fun w' hS => ?_) ?_
        rotate_left
        focus (clear hS; go_simp; try rfl; done)
        simp only [List.getElem_toArray, List.getElem_cons_succ, List.getElem_cons_zero, Act.put, List.setIfInBounds_toArray, List.set_cons_zero, List.set_cons_succ]
        refine hd_part 8 rfl (by kernel_rfl) (fun _ _ d _ _ h => (by cases d <;> exact h)) (yieldsIf_load_mid (by kernel_rfl) 31 _ rfl b 33 rfl (m.ch.map B) _ FCH Try.underlying31 rfl (size16b _ cl)) T0 ?_
        simp only [List.getElem_toArray, List.getElem_cons_succ, List.getElem_cons_zero, Act.put, List.setIfInBounds_toArray, List.set_cons_zero, List.set_cons_succ]
        refine hd_part 9 rfl (by kernel_rfl) (fun _ _ d _ _ h => (by cases d <;> exact h)) (yieldsIf_load_mid (by kernel_rfl) 31 _ rfl g6 0 rfl (L.map B) _ FL Try.underlying31 rfl (size16b _ Ll)) T0 ?_
        simp only [List.getElem_toArray, List.getElem_cons_succ, List.getElem_cons_zero, Act.put, List.setIfInBounds_toArray, List.set_cons_zero, List.set_cons_succ]
        refine hd_part 10 rfl (by kernel_rfl) (fun _ _ d _ _ h => (by cases d <;> exact h)) (yieldsIf_load_mid (by kernel_rfl) 31 _ rfl g7 0 rfl (Y.map B) _ FY Try.underlying31 rfl (size16b _ Yl)) T0 ?_
        simp only [List.getElem_toArray, List.getElem_cons_succ, List.getElem_cons_zero, Act.put, List.setIfInBounds_toArray, List.set_cons_zero, List.set_cons_succ]
        clear FC FCH FL FY
        refine hd_two 11 17 (by kernel_rfl) ?_ ?_
        · skip
          refine op_call rfl (by kernel_rfl) (by go_simp; first | exact ⟨rfl, rfl⟩ | rfl) ?_
          refine (xored_any L Y Ll Yl _).mono ?_
          rintro e x1 ⟨rfl, hb0⟩
          have h5 := X0.out.below hb0
          have hS2 : S x1 := ES.out x1 _ _ h5
          have X1 := Lib.hid h5
          have T1 := hS2
          clear h5 hb0
          refine ⟨_, rfl, hS2, ?_⟩
          simp only [List.getElem_toArray, List.getElem_cons_succ, List.getElem_cons_zero, Act.put, List.setIfInBounds_toArray, List.set_cons_zero, List.set_cons_succ]
          refine hd_two 12 17 (by kernel_rfl) ?_ ?_
          · skip
            refine op_call rfl (by kernel_rfl) (by go_simp; first | exact ⟨rfl, rfl⟩ | rfl) ?_
            refine (xored_any m.ch (xorB L Y) cl (xorB_len _ _) _).mono ?_
            rintro e x2 ⟨rfl, hb0⟩
            have h5 := X1.out.below hb0
            have hS2 : S x2 := ES.out x2 _ _ h5
            have X2 := Lib.hid h5
            have T2 := hS2
            clear h5 hb0
            refine ⟨_, rfl, hS2, ?_⟩
            simp only [List.getElem_toArray, List.getElem_cons_succ, List.getElem_cons_zero, Act.put, List.setIfInBounds_toArray, List.set_cons_zero, List.set_cons_succ]
            refine hd_two 13 17 (by kernel_rfl) ?_ ?_
            · skip
              refine op_call rfl (by kernel_rfl) (by go_simp; first | exact ⟨rfl, rfl⟩ | rfl) ?_
              refine (encC_env X2.out i l hil (at_l (hAi _)) (at_l (hAl _)) hb hk (xorB m.ch (xorB L Y)) (xorB_len _ _)).mono ?_
              rintro e x3 ⟨rfl, h5⟩
              rw [set_l (by rw [hAn]; exact hln), List.set_set] at h5
              have hS2 : S x3 := ES.out x3 _ _ h5
              have X3 := Lib.hid h5
              have T3 := hS2
              clear h5
              refine ⟨_, rfl, hS2, ?_⟩
              simp only [List.getElem_toArray, List.getElem_cons_succ, List.getElem_cons_zero, Act.put, List.setIfInBounds_toArray, List.set_cons_zero, List.set_cons_succ]
              refine hd_take (v := ?_) 14 rfl (by kernel_rfl) (fun _ _ d _ _ h => (by cases d <;> exact h)) (by kernel_rfl) T3 (fun w' hS => ?_) ?_
              rotate_left
              focus (clear hS; go_simp; try rfl; done)
              simp only [List.getElem_toArray, List.getElem_cons_succ, List.getElem_cons_zero, Act.put, List.setIfInBounds_toArray, List.set_cons_zero, List.set_cons_succ]
              refine hd_take (v := ?_) 15 rfl (by kernel_rfl) (fun _ _ d _ _ h => (by cases d <;> exact h)) (by kernel_rfl) T3 (fun w' hS => ?_) ?_
              rotate_left
              focus (clear hS; go_simp; try rfl; done)
              simp only [List.getElem_toArray, List.getElem_cons_succ, List.getElem_cons_zero, Act.put, List.setIfInBounds_toArray, List.set_cons_zero, List.set_cons_succ]
              refine hd_take (v := ?_) 16 rfl (by kernel_rfl) (fun _ _ d _ _ h => (by cases d <;> exact h)) (by kernel_rfl) T3 (fun w' hS => ?_) ?_
              rotate_left
              focus (clear hS; go_simp; try rfl; done)
              simp only [List.getElem_toArray, List.getElem_cons_succ, List.getElem_cons_zero, Act.put, List.setIfInBounds_toArray, List.set_cons_zero, List.set_cons_succ]
              refine hd_one 17 (by kernel_rfl) ?_
              have X4 := Lib.hid (X3.out.newK 31 (barr zB))
              rw [List.append_assoc] at X4
              have T4 := ES.out _ _ _ X4.out
              refine op_run rfl (by kernel_rfl) (by go_simp; first | done | exact ⟨rfl, rfl⟩ | rfl) ?_
              refine ⟨T4, ?_⟩
              simp only [List.getElem_toArray, List.getElem_cons_succ, List.getElem_cons_zero, Act.put, List.setIfInBounds_toArray, List.set_cons_zero, List.set_cons_succ]
              obtain ⟨x4, hx4⟩ : ∃ y, y = x3.alloc (.cells (barr zB) 31) := ⟨_, rfl⟩
              have bz := X4.out.blk (n + 2) (at_r (hAn _) 2)
              refine hd_one 18 (by kernel_rfl) ?_
              refine op_store_blk _ (barr (tagOf K k m)) (by first | rfl | simp [Act.eval]) (by kernel_rfl) (by first | rfl | simp [Act.eval]) (by rw [tagOf, HTG.out.1, HTG.out.2]; rfl) bz size16 (by rw [barr_size]; exact enc_len _ _ _) rfl (barr_one _) ?_
              intro xz B4 O4
              have XZ := Lib.hid (X4.out.turnBlk (n + 2) (at_r (hAn _) 2) B4 O4)
              rw [set_r (hAn _)] at XZ
              have TZ : S xz := ES.out xz _ [_] XZ.out
              refine ⟨TZ, ?_⟩
              simp only [List.getElem_toArray, List.getElem_cons_succ, List.getElem_cons_zero, Act.put, List.setIfInBounds_toArray, List.set_cons_zero, List.set_cons_succ]
              clear B4 O4 bz
              refine hd_one 19 (by kernel_rfl) ?_
              refine op_run rfl (by kernel_rfl) (by go_simp; first | done | exact ⟨rfl, rfl⟩ | rfl) ?_
              refine ⟨TZ, ?_⟩
              simp only [List.getElem_toArray, List.getElem_cons_succ, List.getElem_cons_zero, Act.put, List.setIfInBounds_toArray, List.set_cons_zero, List.set_cons_succ]
              refine hd_done (by kernel_rfl) ?_
              go_wp2_with fail
              go_meet
              exact ⟨_, by first | rfl | simp, rfl, XZ.out⟩
            · skip
              have X3 := Lib.hid (X2.out.newK 31 (barr zB))
              rw [List.append_assoc] at X3
              have T3 := ES.out _ _ _ X3.out
              refine op_run rfl (by kernel_rfl) (by go_simp; first | done | exact ⟨rfl, rfl⟩ | rfl) ?_
              refine ⟨T3, ?_⟩
              simp only [List.getElem_toArray, List.getElem_cons_succ, List.getElem_cons_zero, Act.put, List.setIfInBounds_toArray, List.set_cons_zero, List.set_cons_succ]
              obtain ⟨x3, hx3⟩ : ∃ y, y = x2.alloc (.cells (barr zB) 31) := ⟨_, rfl⟩
              refine hd_one 13 (by kernel_rfl) ?_
              refine op_call rfl (by kernel_rfl) (by go_simp; first | exact ⟨rfl, rfl⟩ | rfl) ?_
              refine (encC_env X3.out i l hil (at_l (hAi _)) (at_l (hAl _)) hb hk (xorB m.ch (xorB L Y)) (xorB_len _ _)).mono ?_
              rintro e x4 ⟨rfl, h5⟩
              rw [set_l (by rw [hAn]; exact hln), List.set_set] at h5
              have hS2 : S x4 := ES.out x4 _ _ h5
              have X4 := Lib.hid h5
              have T4 := hS2
              clear h5
              refine ⟨_, rfl, hS2, ?_⟩
              simp only [List.getElem_toArray, List.getElem_cons_succ, List.getElem_cons_zero, Act.put, List.setIfInBounds_toArray, List.set_cons_zero, List.set_cons_succ]
              refine hd_take (v := ?_) 14 rfl (by kernel_rfl) (fun _ _ d _ _ h => (by cases d <;> exact h)) (by kernel_rfl) T4 (fun w' hS => ?_) ?_
              rotate_left
              focus (clear hS; go_simp; try rfl; done)
              simp only [List.getElem_toArray, List.getElem_cons_succ, List.getElem_cons_zero, Act.put, List.setIfInBounds_toArray, List.set_cons_zero, List.set_cons_succ]
              refine hd_take (v := ?_) 15 rfl (by kernel_rfl) (fun _ _ d _ _ h => (by cases d <;> exact h)) (by kernel_rfl) T4 (fun w' hS => ?_) ?_
              rotate_left
              focus (clear hS; go_simp; try rfl; done)
              simp only [List.getElem_toArray, List.getElem_cons_succ, List.getElem_cons_zero, Act.put, List.setIfInBounds_toArray, List.set_cons_zero, List.set_cons_succ]
              refine hd_take (v := ?_) 16 rfl (by kernel_rfl) (fun _ _ d _ _ h => (by cases d <;> exact h)) (by kernel_rfl) T4 (fun w' hS => ?_) ?_
              rotate_left
              focus (clear hS; go_simp; try rfl; done)
              simp only [List.getElem_toArray, List.getElem_cons_succ, List.getElem_cons_zero, Act.put, List.setIfInBounds_toArray, List.set_cons_zero, List.set_cons_succ]
              have bz := X4.out.blk (n + 2) (at_r (hAn _) 2)
              refine hd_one 18 (by kernel_rfl) ?_
              refine op_store_blk _ (barr (tagOf K k m)) (by first | rfl | simp [Act.eval]) (by kernel_rfl) (by first | rfl | simp [Act.eval]) (by rw [tagOf, HTG.out.1, HTG.out.2]; rfl) bz size16 (by rw [barr_size]; exact enc_len _ _ _) rfl (barr_one _) ?_
              intro xz B4 O4
              have XZ := Lib.hid (X4.out.turnBlk (n + 2) (at_r (hAn _) 2) B4 O4)
              rw [set_r (hAn _)] at XZ
              have TZ : S xz := ES.out xz _ [_] XZ.out
              refine ⟨TZ, ?_⟩
              simp only [List.getElem_toArray, List.getElem_cons_succ, List.getElem_cons_zero, Act.put, List.setIfInBounds_toArray, List.set_cons_zero, List.set_cons_succ]
              clear B4 O4 bz
              refine hd_one 19 (by kernel_rfl) ?_
              refine op_run rfl (by kernel_rfl) (by go_simp; first | done | exact ⟨rfl, rfl⟩ | rfl) ?_
              refine ⟨TZ, ?_⟩
              simp only [List.getElem_toArray, List.getElem_cons_succ, List.getElem_cons_zero, Act.put, List.setIfInBounds_toArray, List.set_cons_zero, List.set_cons_succ]
              refine hd_done (by kernel_rfl) ?_
              go_wp2_with fail
              go_meet
              exact ⟨_, by first | rfl | simp, rfl, XZ.out⟩
          · skip
            have X2 := Lib.hid (X1.out.newK 31 (barr zB))
            rw [List.append_assoc] at X2
            have T2 := ES.out _ _ _ X2.out
            refine op_run rfl (by kernel_rfl) (by go_simp; first | done | exact ⟨rfl, rfl⟩ | rfl) ?_
            refine ⟨T2, ?_⟩
            simp only [List.getElem_toArray, List.getElem_cons_succ, List.getElem_cons_zero, Act.put, List.setIfInBounds_toArray, List.set_cons_zero, List.set_cons_succ]
            obtain ⟨x2, hx2⟩ : ∃ y, y = x1.alloc (.cells (barr zB) 31) := ⟨_, rfl⟩
            refine hd_one 12 (by kernel_rfl) ?_
            refine op_call rfl (by kernel_rfl) (by go_simp; first | exact ⟨rfl, rfl⟩ | rfl) ?_
            refine (xored_any m.ch (xorB L Y) cl (xorB_len _ _) _).mono ?_
            rintro e x3 ⟨rfl, hb0⟩
            have h5 := X2.out.below hb0
            have hS2 : S x3 := ES.out x3 _ _ h5
            have X3 := Lib.hid h5
            have T3 := hS2
            clear h5 hb0
            refine ⟨_, rfl, hS2, ?_⟩
            simp only [List.getElem_toArray, List.getElem_cons_succ, List.getElem_cons_zero, Act.put, List.setIfInBounds_toArray, List.set_cons_zero, List.set_cons_succ]
            refine hd_one 13 (by kernel_rfl) ?_
            refine op_call rfl (by kernel_rfl) (by go_simp; first | exact ⟨rfl, rfl⟩ | rfl) ?_
            refine (encC_env X3.out i l hil (at_l (hAi _)) (at_l (hAl _)) hb hk (xorB m.ch (xorB L Y)) (xorB_len _ _)).mono ?_
            rintro e x4 ⟨rfl, h5⟩
            rw [set_l (by rw [hAn]; exact hln), List.set_set] at h5
            have hS2 : S x4 := ES.out x4 _ _ h5
            have X4 := Lib.hid h5
            have T4 := hS2
            clear h5
            refine ⟨_, rfl, hS2, ?_⟩
            simp only [List.getElem_toArray, List.getElem_cons_succ, List.getElem_cons_zero, Act.put, List.setIfInBounds_toArray, List.set_cons_zero, List.set_cons_succ]
            refine hd_take (v := ?_) 14 rfl (by kernel_rfl) (fun _ _ d _ _ h => (by cases d <;> exact h)) (by kernel_rfl) T4 (fun w' hS => ?_) ?_
            rotate_left
            focus (clear hS; go_simp; try rfl; done)
            simp only [List.getElem_toArray, List.getElem_cons_succ, List.getElem_cons_zero, Act.put, List.setIfInBounds_toArray, List.set_cons_zero, List.set_cons_succ]
            refine hd_take (v := ?_) 15 rfl (by kernel_rfl) (fun _ _ d _ _ h => (by cases d <;> exact h)) (by kernel_rfl) T4 (fun w' hS => ?_) ?_
            rotate_left
            focus (clear hS; go_simp; try rfl; done)
            simp only [List.getElem_toArray, List.getElem_cons_succ, List.getElem_cons_zero, Act.put, List.setIfInBounds_toArray, List.set_cons_zero, List.set_cons_succ]
            refine hd_take (v := ?_) 16 rfl (by kernel_rfl) (fun _ _ d _ _ h => (by cases d <;> exact h)) (by kernel_rfl) T4 (fun w' hS => ?_) ?_
            rotate_left
            focus (clear hS; go_simp; try rfl; done)
            simp only [List.getElem_toArray, List.getElem_cons_succ, List.getElem_cons_zero, Act.put, List.setIfInBounds_toArray, List.set_cons_zero, List.set_cons_succ]
            have bz := X4.out.blk (n + 2) (at_r (hAn _) 2)
            refine hd_one 18 (by kernel_rfl) ?_
            refine op_store_blk _ (barr (tagOf K k m)) (by first | rfl | simp [Act.eval]) (by kernel_rfl) (by first | rfl | simp [Act.eval]) (by rw [tagOf, HTG.out.1, HTG.out.2]; rfl) bz size16 (by rw [barr_size]; exact enc_len _ _ _) rfl (barr_one _) ?_
            intro xz B4 O4
            have XZ := Lib.hid (X4.out.turnBlk (n + 2) (at_r (hAn _) 2) B4 O4)
            rw [set_r (hAn _)] at XZ
            have TZ : S xz := ES.out xz _ [_] XZ.out
            refine ⟨TZ, ?_⟩
            simp only [List.getElem_toArray, List.getElem_cons_succ, List.getElem_cons_zero, Act.put, List.setIfInBounds_toArray, List.set_cons_zero, List.set_cons_succ]
            clear B4 O4 bz
            refine hd_one 19 (by kernel_rfl) ?_
            refine op_run rfl (by kernel_rfl) (by go_simp; first | done | exact ⟨rfl, rfl⟩ | rfl) ?_
            refine ⟨TZ, ?_⟩
            simp only [List.getElem_toArray, List.getElem_cons_succ, List.getElem_cons_zero, Act.put, List.setIfInBounds_toArray, List.set_cons_zero, List.set_cons_succ]
            refine hd_done (by kernel_rfl) ?_
            go_wp2_with fail
            go_meet
            exact ⟨_, by first | rfl | simp, rfl, XZ.out⟩
        · skip
          have X1 := Lib.hid (X0.out.newK 31 (barr zB))
          rw [List.append_assoc] at X1
          have T1 := ES.out _ _ _ X1.out
          refine op_run rfl (by kernel_rfl) (by go_simp; first | done | exact ⟨rfl, rfl⟩ | rfl) ?_
          refine ⟨T1, ?_⟩
          simp only [List.getElem_toArray, List.getElem_cons_succ, List.getElem_cons_zero, Act.put, List.setIfInBounds_toArray, List.set_cons_zero, List.set_cons_succ]
          obtain ⟨x1, hx1⟩ : ∃ y, y = x0.alloc (.cells (barr zB) 31) := ⟨_, rfl⟩
          refine hd_one 11 (by kernel_rfl) ?_
          refine op_call rfl (by kernel_rfl) (by go_simp; first | exact ⟨rfl, rfl⟩ | rfl) ?_
          refine (xored_any L Y Ll Yl _).mono ?_
          rintro e x2 ⟨rfl, hb0⟩
          have h5 := X1.out.below hb0
          have hS2 : S x2 := ES.out x2 _ _ h5
          have X2 := Lib.hid h5
          have T2 := hS2
          clear h5 hb0
          refine ⟨_, rfl, hS2, ?_⟩
          simp only [List.getElem_toArray, List.getElem_cons_succ, List.getElem_cons_zero, Act.put, List.setIfInBounds_toArray, List.set_cons_zero, List.set_cons_succ]
          refine hd_one 12 (by kernel_rfl) ?_
          refine op_call rfl (by kernel_rfl) (by go_simp; first | exact ⟨rfl, rfl⟩ | rfl) ?_
          refine (xored_any m.ch (xorB L Y) cl (xorB_len _ _) _).mono ?_
          rintro e x3 ⟨rfl, hb0⟩
          have h5 := X2.out.below hb0
          have hS2 : S x3 := ES.out x3 _ _ h5
          have X3 := Lib.hid h5
          have T3 := hS2
          clear h5 hb0
          refine ⟨_, rfl, hS2, ?_⟩
          simp only [List.getElem_toArray, List.getElem_cons_succ, List.getElem_cons_zero, Act.put, List.setIfInBounds_toArray, List.set_cons_zero, List.set_cons_succ]
          refine hd_one 13 (by kernel_rfl) ?_
          refine op_call rfl (by kernel_rfl) (by go_simp; first | exact ⟨rfl, rfl⟩ | rfl) ?_
          refine (encC_env X3.out i l hil (at_l (hAi _)) (at_l (hAl _)) hb hk (xorB m.ch (xorB L Y)) (xorB_len _ _)).mono ?_
          rintro e x4 ⟨rfl, h5⟩
          rw [set_l (by rw [hAn]; exact hln), List.set_set] at h5
          have hS2 : S x4 := ES.out x4 _ _ h5
          have X4 := Lib.hid h5
          have T4 := hS2
          clear h5
          refine ⟨_, rfl, hS2, ?_⟩
          simp only [List.getElem_toArray, List.getElem_cons_succ, List.getElem_cons_zero, Act.put, List.setIfInBounds_toArray, List.set_cons_zero, List.set_cons_succ]
          refine hd_take (v := ?_) 14 rfl (by kernel_rfl) (fun _ _ d _ _ h => (by cases d <;> exact h)) (by kernel_rfl) T4 (fun w' hS => ?_) ?_
          rotate_left
          focus (clear hS; go_simp; try rfl; done)
          simp only [List.getElem_toArray, List.getElem_cons_succ, List.getElem_cons_zero, Act.put, List.setIfInBounds_toArray, List.set_cons_zero, List.set_cons_succ]
          refine hd_take (v := ?_) 15 rfl (by kernel_rfl) (fun _ _ d _ _ h => (by cases d <;> exact h)) (by kernel_rfl) T4 (fun w' hS => ?_) ?_
          rotate_left
          focus (clear hS; go_simp; try rfl; done)
          simp only [List.getElem_toArray, List.getElem_cons_succ, List.getElem_cons_zero, Act.put, List.setIfInBounds_toArray, List.set_cons_zero, List.set_cons_succ]
          refine hd_take (v := ?_) 16 rfl (by kernel_rfl) (fun _ _ d _ _ h => (by cases d <;> exact h)) (by kernel_rfl) T4 (fun w' hS => ?_) ?_
          rotate_left
          focus (clear hS; go_simp; try rfl; done)
          simp only [List.getElem_toArray, List.getElem_cons_succ, List.getElem_cons_zero, Act.put, List.setIfInBounds_toArray, List.set_cons_zero, List.set_cons_succ]
          have bz := X4.out.blk (n + 2) (at_r (hAn _) 2)
          refine hd_one 18 (by kernel_rfl) ?_
          refine op_store_blk _ (barr (tagOf K k m)) (by first | rfl | simp [Act.eval]) (by kernel_rfl) (by first | rfl | simp [Act.eval]) (by rw [tagOf, HTG.out.1, HTG.out.2]; rfl) bz size16 (by rw [barr_size]; exact enc_len _ _ _) rfl (barr_one _) ?_
          intro xz B4 O4
          have XZ := Lib.hid (X4.out.turnBlk (n + 2) (at_r (hAn _) 2) B4 O4)
          rw [set_r (hAn _)] at XZ
          have TZ : S xz := ES.out xz _ [_] XZ.out
          refine ⟨TZ, ?_⟩
          simp only [List.getElem_toArray, List.getElem_cons_succ, List.getElem_cons_zero, Act.put, List.setIfInBounds_toArray, List.set_cons_zero, List.set_cons_succ]
          clear B4 O4 bz
          refine hd_one 19 (by kernel_rfl) ?_
          refine op_run rfl (by kernel_rfl) (by go_simp; first | done | exact ⟨rfl, rfl⟩ | rfl) ?_
          refine ⟨TZ, ?_⟩
          simp only [List.getElem_toArray, List.getElem_cons_succ, List.getElem_cons_zero, Act.put, List.setIfInBounds_toArray, List.set_cons_zero, List.set_cons_succ]
          refine hd_done (by kernel_rfl) ?_
          go_wp2_with fail
          go_meet
          exact ⟨_, by first | rfl | simp, rfl, XZ.out⟩
      case rest =>
        obtain ⟨g8, rfl, rfl, HD0⟩ := hcut
        have HD := Lib.hid HD0
        clear HD0 HA
        have HO := Lib.hid (Env.last3 HD.out)
        clear HD
        go_wp2
        go_ret2
        exact ⟨_, rfl, HO.out⟩
end
end Go.Proofs.Ytpampcokonicfaa
/- Mac.Reset and Mac.Clone over a world that is a list of things. -/
namespace Go.Proofs.Ytpampcokonicfaa
open Go.RowKit
set_option maxRecDepth 100000
set_option linter.unusedVariables false
set_option linter.unusedSimpArgs false
theorem macC_setn (c : Value) (m : MacS) (hm : m.Ok) : (macC c m).setIfInBounds 65 (.int .i64 0) = macC c { m with n := 0 } := by
  obtain ⟨h1, h2, h3, h4, h5⟩ := hm
  have e : macC c m = ((c :: (m.k1.map B ++ (m.k2.map B ++ (m.ch.map B ++ m.wt.map B)))) ++ [Value.int .i64 (m.n : Int)]).toArray := by simp [macC]
  have e2 : macC c { m with n := 0 } = ((c :: (m.k1.map B ++ (m.k2.map B ++ (m.ch.map B ++ m.wt.map B)))) ++ [Value.int .i64 0]).toArray := by simp [macC]
  have hl : (c :: (m.k1.map B ++ (m.k2.map B ++ (m.ch.map B ++ m.wt.map B)))).length = 65 := by simp [h1, h2, h3, h4]
  rw [e, e2, List.setIfInBounds_toArray, List.set_append_right _ _ (by omega), hl]
  rfl
theorem zB_ones : ∀ v ∈ zB.map B, v.oneCell' = true := fun v hv => by
  obtain ⟨x, _, rfl⟩ := List.mem_map.1 hv
  rfl
section
variable {w0 w : World} {obs : List Ob}
set_option maxHeartbeats 2000000 in
theorem resetM_env (h : Env w0 w obs) (j : Nat) {b c : Nat} {m : MacS} (hj : obs[j]? = some (obK b 76 (macC (.pointer (some ⟨c, 0, none⟩)) m))) (hm : m.Ok) :
    Calls Try.prog 26 #[.pointer (some ⟨b, 0, none⟩)] w fun e w' => e = .returned (.int .i64 0) ∧ Env w0 w' (obs.set j (obK b 76 (macC (.pointer (some ⟨c, 0, none⟩)) ⟨m.k1, m.k2, zB, zB, 0⟩))) := by
  have H := Lib.hid h
  have B0 := h.blk j hj
  have E2 : Value.agg #[.int .u8 0, .int .u8 0, .int .u8 0, .int .u8 0, .int .u8 0, .int .u8 0, .int .u8 0, .int .u8 0, .int .u8 0, .int .u8 0, .int .u8 0, .int .u8 0, .int .u8 0, .int .u8 0, .int .u8 0, .int .u8 0] = .agg (zB.map B).toArray := rfl
  have l1 := hm.l1
  have l2 := hm.l2
  have l3 : (zB.map B).length = (m.ch.map B).length := by rw [List.length_map, List.length_map, hm.l3]; rfl
  have l4 : (zB.map B).length = (m.wt.map B).length := by rw [List.length_map, List.length_map, hm.l4]; rfl
  have sz : (Try.prog.info? 31).map (·.size) = some (zB.map B).length := size16
  have C0 := macC_ch (.pointer (some ⟨c, 0, none⟩)) m
  have O1 : Hid (MacS.Ok ⟨m.k1, m.k2, zB, zB, m.n⟩) := Lib.hid ⟨hm.l1, hm.l2, rfl, rfl, hm.hn⟩
  have HM := Lib.hid hm
  have HB0 := Lib.hid B0
  clear h C0 hm E2 B0
  go_enter Try.func26, Try.ntmps26
  go_wp2_with fail
  refine (mmade_any b c m w HB0.out).mono ?_
  rintro e w1 ⟨rfl, rfl⟩
  go_wp2_with (first | ((with_reducible change wpList _ _ _ (Oper.mk _ (Op.store 31 _ _) _ _ _ _ :: _) _ _); refine wpList_store_part b 33 (zB.map B) rfl rfl (Value.pointer (some ⟨c, 0, none⟩) :: (m.k1.map B ++ m.k2.map B)) (m.ch.map B) (m.wt.map B ++ [.int .i64 (m.n : Int)]) HB0.out (macC_ch _ _) (by simp [HM.out.l1, HM.out.l2]) sz l3 zB_ones ?_; intro w2 B2 O2; have HB2 : Hid (Blk w2 b 76 (macC (.pointer (some ⟨c, 0, none⟩)) ⟨m.k1, m.k2, zB, m.wt, m.n⟩)) := Lib.hid (by rw [macC_ch]; exact B2); clear B2) | ((with_reducible change wpList _ _ _ (Oper.mk _ (Op.store 31 _ _) _ _ _ _ :: _) _ _); refine wpList_store_part b 49 (zB.map B) rfl rfl (Value.pointer (some ⟨c, 0, none⟩) :: (m.k1.map B ++ (m.k2.map B ++ zB.map B))) (m.wt.map B) [.int .i64 (m.n : Int)] HB2.out (macC_wt _ _) (by simp [HM.out.l1, HM.out.l2, zB]) sz l4 zB_ones ?_; intro w3 B3 O3; have HB3 : Hid (Blk w3 b 76 (macC (.pointer (some ⟨c, 0, none⟩)) ⟨m.k1, m.k2, zB, zB, m.n⟩)) := Lib.hid (by rw [macC_wt]; exact B3); clear B3; have c65 := HB3.out.cellAt 65 (macC_n O1.out); have f65 := HB3.out.unfrozen 65))
  go_ret
  refine ⟨rfl, H.out.turnBlk j hj ?_ ((O2.trans O3 (fun x hx => .inl hx)).set (.inl rfl) _)⟩
  have h := HB3.out.set 65 (.int .i64 0)
  rw [macC_setn _ _ O1.out] at h
  exact h
set_option maxHeartbeats 2000000 in
theorem cloneM_env (h : Env w0 w obs) (i j : Nat) {b c k : Nat} {K : List UInt8} {m : MacS} (hi : obs[i]? = some (obC (.pointer (some ⟨c, 0, none⟩)) (some (k, K)))) (hj : obs[j]? = some (obK b 76 (macC (.pointer (some ⟨c, 0, none⟩)) m))) (hm : m.Ok) (hk : 0 < k) :
    Calls Try.prog 30 #[.pointer (some ⟨b, 0, none⟩)] w fun e w' => ∃ b2 c2 : Nat, e = .returned (.tuple #[.pointer (some ⟨b2, 0, none⟩), .int .i64 0]) ∧ Env w0 w' (obs ++ [obK b2 76 (macC (.pointer (some ⟨c2, 0, none⟩)) m), obC (.pointer (some ⟨c2, 0, none⟩)) (some (k, K))]) := by
  have H := Lib.hid h
  have HB0 := Lib.hid (h.blk j hj)
  have s66 : (macC (.pointer (some ⟨c, 0, none⟩)) m).size = 66 := macC_size hm
  have o66 := macC_one (c := .pointer (some ⟨c, 0, none⟩)) rfl m
  have c00 := (h.blk j hj).cellAt 0 (macC_c _ m)
  obtain ⟨n, hn⟩ : ∃ n, obs.length = n := ⟨_, rfl⟩
  clear h
  go_enter Try.func30, Try.ntmps30
  go_wp2_with fail
  refine (mmade_any b c m w HB0.out).mono ?_
  rintro e w1 ⟨rfl, rfl⟩
  have H1 : Hid (Env w0 (w.alloc (.cells Try.zeroCells76 76)) (obs ++ [obK w.heap.size 76 Try.zeroCells76])) := Lib.hid (H.out.newK _ _)
  have B1 := H1.out.blk (n + 0) (at_r hn 0)
  have z66 : Try.zeroCells76.size = 66 := by kernel_rfl
  obtain ⟨C, hC⟩ : ∃ C, macC (.pointer (some ⟨c, 0, none⟩)) m = C := ⟨_, rfl⟩
  rw [hC] at s66 o66 HB0
  have HCC := Lib.hid hC
  clear hC
  go_upto_region 5 with (first | ((with_reducible change wpList _ _ _ (Oper.mk _ (Op.load 76 _) _ _ _ _ :: _) _ _); refine wpList_load_blk (ty := 76) b rfl HB0.out Try.underlying76 rfl size66 s66 ?_) | ((with_reducible change wpList _ _ _ (Oper.mk _ (Op.store 76 _ _) _ _ _ _ :: _) _ _); refine wpList_store_var w.heap.size C rfl rfl B1 size66 s66 z66 o66 ?_; intro w2 B2 O2; have H2 := Lib.hid (H1.out.turnBlk (n + 0) (at_r hn 0) B2 O2)))
  rw [set_r hn] at H2
  have HMM := Lib.hid hm
  clear H1 B1 B2 O2 HB0 hm
  have c01 : w2.cell? ⟨b, 0, none⟩ = some (.pointer (some ⟨c, 0, none⟩)) := (H2.out.blk j (at_l hj)).cellAt 0 (macC_c _ m)
  go_wp2_with fail
  refine (cloneC_env H2.out i (at_l hi) hk).mono ?_
  rintro e w3 ⟨c2, rfl, h3⟩
  rw [List.append_assoc] at h3
  have H3 := Lib.hid h3
  have HB3 := Lib.hid (H3.out.blk (n + 0) (at_r hn 0))
  have c3 := HB3.out.cellAt 0 (v := .pointer (some ⟨c, 0, none⟩)) (by rw [← HCC.out]; rfl)
  have f3 := HB3.out.unfrozen 0
  clear h3 H2 c01 c00
  go_wp2
  go_ret2
  refine ⟨_, c2, rfl, ?_⟩
  have h := HB3.out.set 0 (.pointer (some ⟨c2, 0, none⟩))
  rw [← HCC.out] at h
  have e : (macC (.pointer (some ⟨c, 0, none⟩)) m).setIfInBounds 0 (.pointer (some ⟨c2, 0, none⟩)) = macC (.pointer (some ⟨c2, 0, none⟩)) m := by
    unfold macC
    rw [List.setIfInBounds_toArray, List.set_cons_zero]
  rw [e] at h
  have q := H3.out.turnBlk (n + 0) (at_r hn 0) h ((Only.refl (fun x => x = w.heap.size) w3).set (.inl rfl) _)
  rw [set_r hn] at q
  exact q
end
end Go.Proofs.Ytpampcokonicfaa
/- What a message does to a Mac, byte by byte: the chain, the block that waits, how many blocks were enciphered. No program in sight. -/
namespace Go.Proofs.Ytpampcokonicfaa
open Go.RowKit
set_option linter.unusedVariables false
set_option linter.unusedSimpArgs false
/-- the block that waits goes into the chain -/
def flushM (E : List UInt8 → List UInt8) (m : MacS) : MacS := ⟨m.k1, m.k2, E (xorB m.ch m.wt), zB, 0⟩
/-- one byte more; the number counts the blocks that were enciphered -/
def stepM (E : List UInt8 → List UInt8) (s : MacS × Nat) (x : UInt8) : MacS × Nat :=
  if s.1.n = 16 then (⟨s.1.k1, s.1.k2, E (xorB s.1.ch s.1.wt), zB.set 0 x, 1⟩, s.2 + 1)
  else (⟨s.1.k1, s.1.k2, s.1.ch, s.1.wt.set s.1.n x, s.1.n + 1⟩, s.2)
def feedM (E : List UInt8 → List UInt8) (s : MacS × Nat) (p : List UInt8) : MacS × Nat := p.foldl (stepM E) s
theorem feedM_app (E : List UInt8 → List UInt8) (s : MacS × Nat) (p r : List UInt8) : feedM E s (p ++ r) = feedM E (feedM E s p) r := List.foldl_append
theorem stepM_ok {E : List UInt8 → List UInt8} (hE : ∀ b, (E b).length = 16) {s : MacS × Nat} (h : s.1.Ok) (x : UInt8) : (stepM E s x).1.Ok := by
  unfold stepM
  obtain ⟨h1, h2, h3, h4, h5⟩ := h
  split
  · exact ⟨h1, h2, hE _, rfl, by show 1 ≤ 16; omega⟩
  · exact ⟨h1, h2, h3, by simpa using h4, by show s.1.n + 1 ≤ 16; omega⟩
theorem feedM_ok {E : List UInt8 → List UInt8} (hE : ∀ b, (E b).length = 16) : ∀ (p : List UInt8) {s : MacS × Nat}, s.1.Ok → (feedM E s p).1.Ok
  | [], _, h => h
  | x :: r, _, h => feedM_ok hE r (stepM_ok hE h x)
/-- as many bytes as there is room for -/
theorem feedM_room (E : List UInt8 → List UInt8) : ∀ (p : List UInt8) (m : MacS) (e : Nat), m.n + p.length ≤ 16 → feedM E (m, e) p = (⟨m.k1, m.k2, m.ch, setsU m.wt m.n p, m.n + p.length⟩, e)
  | [], m, e, _ => rfl
  | x :: r, m, e, h => by
    rw [List.length_cons] at h
    have h1 : stepM E (m, e) x = (⟨m.k1, m.k2, m.ch, m.wt.set m.n x, m.n + 1⟩, e) := by
      unfold stepM
      rw [if_neg (by show ¬ m.n = 16; omega)]
    show feedM E (stepM E (m, e) x) r = _
    rw [h1, feedM_room E r _ e (by show m.n + 1 + r.length ≤ 16; omega)]
    show (_ : MacS × Nat) = _
    rw [setsU, List.length_cons, show m.n + (r.length + 1) = m.n + 1 + r.length from by omega]
/-- a full block first, then as many bytes as there is room for -/
theorem feedM_full (E : List UInt8 → List UInt8) (p : List UInt8) (m : MacS) (e : Nat) (hn : m.n = 16) (h0 : p ≠ []) : feedM E (m, e) p = feedM E (flushM E m, e + 1) p := by
  cases p with
  | nil => exact absurd rfl h0
  | cons x r =>
    have h1 : stepM E (m, e) x = stepM E (flushM E m, e + 1) x := by
      unfold stepM
      rw [if_pos hn, if_neg (by show ¬ (flushM E m).n = 16; simp [flushM])]
      rfl
    show feedM E (stepM E (m, e) x) r = feedM E (stepM E (flushM E m, e + 1) x) r
    rw [h1]
/-- how many bytes wait, how many blocks were enciphered -/
theorem feedM_count (E : List UInt8 → List UInt8) : ∀ (p : List UInt8) (m : MacS) (e : Nat), m.n ≤ 16 → 16 * (feedM E (m, e) p).2 + (feedM E (m, e) p).1.n = 16 * e + m.n + p.length ∧ (p ≠ [] → 1 ≤ (feedM E (m, e) p).1.n) ∧ (feedM E (m, e) p).1.n ≤ 16
  | [], m, e, h => ⟨by simp [feedM], fun h => absurd rfl h, h⟩
  | x :: r, m, e, h => by
    show 16 * (feedM E (stepM E (m, e) x) r).2 + (feedM E (stepM E (m, e) x) r).1.n = 16 * e + m.n + (r.length + 1) ∧ (_ → 1 ≤ (feedM E (stepM E (m, e) x) r).1.n) ∧ (feedM E (stepM E (m, e) x) r).1.n ≤ 16
    by_cases hn : m.n = 16
    · have h1 : stepM E (m, e) x = (⟨m.k1, m.k2, E (xorB m.ch m.wt), zB.set 0 x, 1⟩, e + 1) := by unfold stepM; rw [if_pos hn]
      rw [h1]
      obtain ⟨a, b, c⟩ := feedM_count E r ⟨m.k1, m.k2, E (xorB m.ch m.wt), zB.set 0 x, 1⟩ (e + 1) (by show 1 ≤ 16; omega)
      refine ⟨by rw [a]; show 16 * (e + 1) + 1 + r.length = _; omega, fun _ => ?_, c⟩
      cases r with
      | nil => exact Nat.le_refl _
      | cons y r => exact b (by simp)
    · have h1 : stepM E (m, e) x = (⟨m.k1, m.k2, m.ch, m.wt.set m.n x, m.n + 1⟩, e) := by unfold stepM; rw [if_neg hn]
      rw [h1]
      obtain ⟨a, b, c⟩ := feedM_count E r ⟨m.k1, m.k2, m.ch, m.wt.set m.n x, m.n + 1⟩ e (by show m.n + 1 ≤ 16; omega)
      refine ⟨by rw [a]; show 16 * e + (m.n + 1) + r.length = _; omega, fun _ => ?_, c⟩
      cases r with
      | nil => show 1 ≤ m.n + 1; omega
      | cons y r => exact b (by simp)
end Go.Proofs.Ytpampcokonicfaa
/- copy into the middle of a block, in a region that draws. No program in sight. -/
namespace Go.Proofs.Ytpampcokonicfaa
open Go.RowKit
set_option maxRecDepth 100000
set_option linter.unusedVariables false
set_option linter.unusedSimpArgs false
section
variable {P : Program} {ops : Array Oper} {Q : Exit → Act → World → Prop} {a : Act} {w : World} {o : Oper} {i : Nat}
theorem op_copy {K : Act → World → Prop} (ho : ops[i]? = some o) (hgd : o.guard = none) (d s : Operand) (dT sT : TypeId) (hop : o.op = .call { callee := .builtin .copy, args := #[d, s], argTypes := #[dT, sT] })
    (elem : TypeId) (hu : P.underlying dT = some (.slice elem)) (hsz : (P.info? elem).map (·.size) = some 1) (g off dLen dCap : Nat) (ad : Addr) (sLen sCap : Nat) (hd : a.eval d = .slice (some ⟨g, off, none⟩) dLen dCap) (hs : a.eval s = .slice (some ad) sLen sCap)
    {bt : TypeId} {cur : Array Value} (pre old post cs : List Value) (hg : Blk w g bt cur) (hc : cur = (pre ++ (old ++ post)).toArray) (hoff : off = pre.length) (hcs : cs.length = old.length) (hn : cs.length = Nat.min sLen dLen)
    (hsrc : ∀ j v, cs[j]? = some v → w.cell? (ad.add j) = some v) (h1 : ∀ v ∈ cs, v.oneCell' = true)
    (kk : ∀ w', Blk w' g bt (pre ++ (cs ++ post)).toArray → Only (fun x => x = g) w w' → K (a.put o.dst (goInt cs.length)) w') : wpOp P ops Q i K a w := by
  subst hoff hc
  have hw : Region.wanted o (yielded ops a.tmps) = true := by simp [Region.wanted, hgd]
  unfold Go.wpOp
  simp only [ho, hw, if_true]
  have hrun := run_copy_row (P := P) w dT sT o.type elem g pre.length dLen dCap ad sLen sCap _ bt cs hu hsz hg hn hsrc (by simp; omega) h1
  have e : ((pre ++ (old ++ post)).toArray.toList.take pre.length ++ cs ++ (pre ++ (old ++ post)).toArray.toList.drop (pre.length + cs.length)).toArray = (pre ++ (cs ++ post)).toArray := by
    congr 1
    rw [List.take_left, ← List.drop_drop, List.drop_left, hcs, List.drop_left, List.append_assoc]
  rw [e] at hrun
  refine .inl ?_
  unfold Oper.wp execOp
  simp only [hop, resolve, invoke, builtin, Sem.run_bind, Sem.run_pure, Result.andThen_ok, List.map_toArray, List.map_cons, List.map_nil, hd, hs, hrun]
  exact kk _ (hg.row _) (Only.row (S := fun x => x = g) (Only.refl _ w) (.inl rfl) _)
end
section
variable {P : Program} {ops : Array Oper} {Q : Exit → Act → World → Prop} {K : Act → World → Prop} {a : Act} {w : World} {o : Oper} {i : Nat}
/-- a row is read out of the middle of a block, in a region that draws -/
theorem op_load {b off : Nat} {ty : TypeId} {x : Operand} {cs : List Value} {d : TypeDesc} {n : Nat} (ho : ops[i]? = some o) (hw : Region.wanted o (yielded ops a.tmps) = true) (hop : o.op = .load ty x) (hx : a.eval x = .pointer (some ⟨b, off, none⟩))
    (hu : P.underlying ty = some d) (hd : d.isRow = true) (hi : (P.info? ty).map (·.size) = some n) (hn : cs.length = n) (h : w.rangeAt b off cs) (kk : K (a.put o.dst (.agg cs.toArray)) w) : wpOp P ops Q i K a w :=
  op_run ho hw (by
    unfold execOp
    simp only [hop, hx, Instr.loadAt, Instr.sureAddr, Sem.run_bind, Sem.run_pure, Result.andThen_ok, run_loadVar_mid w b off ty cs d h hu hd (by rw [hi, hn])]) kk
theorem op_store_part {ty : TypeId} {x y : Operand} {d : Option Tmp} {ot : TypeId} {pos : String} {aft : Array Edge} (g off : Nat) (cells : List Value) {bt : TypeId} {cs : Array Value} (pre old post : List Value) (ho : ops[i]? = some ⟨d, .store ty x y, ot, pos, aft, none⟩) (hw : Region.wanted ⟨d, .store ty x y, ot, pos, aft, none⟩ (yielded ops a.tmps) = true)
    (hx : a.eval x = .pointer (some ⟨g, off, none⟩)) (hy : a.eval y = .agg cells.toArray) (hg : Blk w g bt cs) (hc : cs = (pre ++ (old ++ post)).toArray) (hoff : off = pre.length) (hi : (P.info? ty).map (·.size) = some cells.length) (hn : cells.length = old.length) (h1 : ∀ v ∈ cells, v.oneCell' = true)
    (kk : ∀ w', Blk w' g bt (pre ++ (cells ++ post)).toArray → Only (fun x => x = g) w w' → K (a.put d undef) w') : wpOp P ops Q i K a w := by
  subst hc hoff
  refine op_skip ho hw (exec_store_part g pre.length cells.toArray hx hy (hg.there _ _ (by simp; omega)) (by rw [hi]; simp) (all_oneCell_toArray h1)) ?_
  exact kk _ (Blk.setPart cells old pre post w hn hg) (Only.sets (S := fun x => x = g) (.inl rfl) _ _ _ (Only.refl _ _))
end
end Go.Proofs.Ytpampcokonicfaa
namespace Go.Proofs.Ytpampcokonicfaa
open Go.RowKit
set_option maxRecDepth 100000
set_option linter.unusedVariables false
set_option linter.unusedSimpArgs false
/-- bytes turn into others, perhaps in a new block -/
theorem Env.growB {w0 w w' : World} {obs : List Ob} (h : Env w0 w obs) (i : Nat) {v v' : Value} {l l' : List UInt8} (hi : obs[i]? = some (obB v l)) (hb : OB w' v' l') (ho : Only (fpv v) w w') (hx : ∀ x, fpv v' x → fpv v x ∨ w.heap.size ≤ x) : Env w0 w' (obs.set i (obB v' l')) := by
  obtain ⟨F, h1, _, _, h4⟩ := h.get i hi
  obtain ⟨_, rfl⟩ := h1
  exact h4 w' (fpv v') (obB v' l') ⟨hb, rfl⟩ ho hx
theorem exec_build {P : Program} {o : Oper} {a : Act} {w : World} (t : TypeId) (parts : Array (Nat × Operand)) (ho : o.op = .build t parts) (cells : Array Value) (hc : P.built t (parts.map fun (i, x) => (i, a.eval x)).toList = some cells) : (execOp a.eval o).run P w = .ok (.value (.agg cells)) w := by
  unfold execOp
  simp only [ho, Sem.run_bind, run_build w t _ cells hc, Result.andThen_ok, Sem.run_pure]
theorem one_num (x : Int) : ∀ u ∈ [Value.int .u8 x], u.oneCell' = true := by
  intro u hu; simp at hu; subst hu; rfl
/-- the four blocks of a Mac, one behind the other -/
def MacS.all (m : MacS) : List UInt8 := m.k1 ++ (m.k2 ++ (m.ch ++ m.wt))
/-- what a Mac's form is, behind the cipher's -/
def MacS.tail (m : MacS) : List UInt8 := m.all ++ [UInt8.ofNat m.n]
def formOf (K : List UInt8) (k : Nat) (m : MacS) : List UInt8 := K.take (16 * (k / 4 + 6 + 1)) ++ m.tail
theorem built_all (f1 f2 f3 f4 : Nat → UInt8) : Try.prog.built 92 [(0, .agg (barr (tab 16 f1))), (1, .agg (barr (tab 16 f2))), (2, .agg (barr (tab 16 f3))), (3, .agg (barr (tab 16 f4)))] = some (barr (tab 16 f1 ++ (tab 16 f2 ++ (tab 16 f3 ++ tab 16 f4)))) := by kernel_rfl
theorem built_mac4 (m : MacS) (h : m.Ok) : Try.prog.built 92 [(0, .agg (m.k1.map B).toArray), (1, .agg (m.k2.map B).toArray), (2, .agg (m.ch.map B).toArray), (3, .agg (m.wt.map B).toArray)] = some (barr m.all) := by
  have h1 := built_all (fun j => m.k1.getD j 0) (fun j => m.k2.getD j 0) (fun j => m.ch.getD j 0) (fun j => m.wt.getD j 0)
  rw [tab_self _ h.l1, tab_self _ h.l2, tab_self _ h.l3, tab_self _ h.l4] at h1
  exact h1
theorem index_all (f1 f2 f3 f4 : Nat → UInt8) (w : World) : (Instr.index 92 (.agg (barr (tab 16 f1 ++ (tab 16 f2 ++ (tab 16 f3 ++ tab 16 f4))))) (.int .i64 0)).run Try.prog w = .ok (.agg (barr (tab 16 f1))) w ∧
    (Instr.index 92 (.agg (barr (tab 16 f1 ++ (tab 16 f2 ++ (tab 16 f3 ++ tab 16 f4))))) (.int .i64 1)).run Try.prog w = .ok (.agg (barr (tab 16 f2))) w ∧
    (Instr.index 92 (.agg (barr (tab 16 f1 ++ (tab 16 f2 ++ (tab 16 f3 ++ tab 16 f4))))) (.int .i64 2)).run Try.prog w = .ok (.agg (barr (tab 16 f3))) w ∧
    (Instr.index 92 (.agg (barr (tab 16 f1 ++ (tab 16 f2 ++ (tab 16 f3 ++ tab 16 f4))))) (.int .i64 3)).run Try.prog w = .ok (.agg (barr (tab 16 f4))) w :=
  ⟨by kernel_rfl, by kernel_rfl, by kernel_rfl, by kernel_rfl⟩
theorem index_mac (m : MacS) (h : m.Ok) (j : Nat) (hj : j < 4) (w : World) : (Instr.index 92 (.agg (barr m.all)) (.int .i64 (j : Int))).run Try.prog w = .ok (.agg (barr ((m.all.drop (16 * j)).take 16))) w := by
  have h1 := index_all (fun j => m.k1.getD j 0) (fun j => m.k2.getD j 0) (fun j => m.ch.getD j 0) (fun j => m.wt.getD j 0) w
  rw [tab_self _ h.l1, tab_self _ h.l2, tab_self _ h.l3, tab_self _ h.l4] at h1
  obtain ⟨h0, h1, h2, h3⟩ := h1
  have e : j = 0 ∨ j = 1 ∨ j = 2 ∨ j = 3 := by omega
  have a1 := h.l1
  have a2 := h.l2
  have a3 := h.l3
  have a4 := h.l4
  unfold MacS.all
  rcases e with rfl | rfl | rfl | rfl
  · refine h0.trans ?_
    rw [show (m.k1 ++ (m.k2 ++ (m.ch ++ m.wt))).drop (16 * 0) = m.k1 ++ (m.k2 ++ (m.ch ++ m.wt)) from rfl, List.take_append_of_le_length (by omega), List.take_of_length_le (by omega)]
  · refine h1.trans ?_
    rw [show (m.k1 ++ (m.k2 ++ (m.ch ++ m.wt))).drop (16 * 1) = m.k2 ++ (m.ch ++ m.wt) from by rw [← a1]; simp, List.take_append_of_le_length (by omega), List.take_of_length_le (by omega)]
  · refine h2.trans ?_
    rw [show (m.k1 ++ (m.k2 ++ (m.ch ++ m.wt))).drop (16 * 2) = m.ch ++ m.wt from by rw [show 16 * 2 = m.k1.length + m.k2.length from by omega, ← List.drop_drop]; simp, List.take_append_of_le_length (by omega), List.take_of_length_le (by omega)]
  · refine h3.trans ?_
    rw [show (m.k1 ++ (m.k2 ++ (m.ch ++ m.wt))).drop (16 * 3) = m.wt from by rw [show 16 * 3 = m.k1.length + m.k2.length + m.ch.length from by omega, ← List.drop_drop, ← List.drop_drop]; simp, List.take_of_length_le (by omega)]
theorem MacS.all_len {m : MacS} (h : m.Ok) : m.all.length = 64 := by
  unfold MacS.all
  simp [h.l1, h.l2, h.l3, h.l4]
section
variable {w0 w : World} {obs : List Ob}
theorem formM_no {p : Value} (hm : Calls Try.prog 48 #[p] w fun e w' => e = .returned (.bool false) ∧ w = w') :
    Calls Try.prog 16 #[p] w fun e w' => e = .returned (.slice none 0 0) ∧ w = w' := by
  have HM := Lib.hid hm
  clear hm
  go_enter Try.func16, Try.ntmps16
  go_wp2_with fail
  refine HM.out.mono ?_
  rintro e w' ⟨rfl, rfl⟩
  go_wp2
  go_ret
  exact ⟨rfl, rfl⟩
set_option maxHeartbeats 4000000 in
theorem formM_env (h : Env w0 w obs) (i j : Nat) {b c k : Nat} {K : List UInt8} {m : MacS} (hi : obs[i]? = some (obC (.pointer (some ⟨c, 0, none⟩)) (some (k, K)))) (hj : obs[j]? = some (obK b 76 (macC (.pointer (some ⟨c, 0, none⟩)) m))) (hm : m.Ok) (hk : 0 < k) (hk2 : k ≤ 32) (hK : K.length = 240) :
    Calls Try.prog 16 #[.pointer (some ⟨b, 0, none⟩)] w fun e w' => ∃ v, e = .returned v ∧ Env w0 w' (obs ++ [obB v (formOf K k m)]) := by
  have H := Lib.hid h
  have HJ := Lib.hid hj
  have HM := Lib.hid hm
  have B0 := Lib.hid (h.blk j hj)
  have c0 := (h.blk j hj).cellAt 0 (macC_c _ m)
  obtain ⟨n, hn⟩ : ∃ n, obs.length = n := ⟨_, rfl⟩
  obtain ⟨F, hF⟩ : ∃ F, K.take (16 * (k / 4 + 6 + 1)) = F := ⟨_, rfl⟩
  obtain ⟨f, hf⟩ : ∃ f, F.length = f := ⟨_, rfl⟩
  have hf2 : f ≤ 240 := by rw [← hf, ← hF, List.length_take]; omega
  have HF := Lib.hid hF
  have HFL := Lib.hid hf
  have hall := MacS.all_len hm
  have HALL := Lib.hid hall
  obtain ⟨ALL, hA⟩ : ∃ ALL, m.all = ALL := ⟨_, rfl⟩
  have HIDX : Hid (∀ j : Nat, j < 4 → ∀ w, (Instr.index 92 (.agg (barr ALL)) (.int .i64 (j : Int))).run Try.prog w = .ok (.agg (barr ((ALL.drop (16 * j)).take 16))) w) := Lib.hid (by rw [← hA]; exact fun j hj w => index_mac m hm j hj w)
  have HBLD : Hid (Try.prog.built 92 [(0, .agg (m.k1.map B).toArray), (1, .agg (m.k2.map B).toArray), (2, .agg (m.ch.map B).toArray), (3, .agg (m.wt.map B).toArray)] = some (barr ALL)) := Lib.hid (by rw [← hA]; exact built_mac4 m hm)
  have hAl : ALL.length = 64 := by rw [← hA]; exact hall
  have HA := Lib.hid hA
  have HAL := Lib.hid hAl
  have HNN := Lib.hid hn
  clear h hj hm hF hf hall hA hAl hn
  go_enter Try.func16, Try.ntmps16
  go_wp2_with fail
  refine (mmade_any b c m w B0.out).mono ?_
  rintro e w1 ⟨rfl, rfl⟩
  go_wp2_with fail
  refine (formC_env H.out i hi hk).mono ?_
  rintro e w1 ⟨v, rfl, h1⟩
  rw [HF.out] at h1
  have H1 := Lib.hid h1
  have B1 := Lib.hid (h1.blk j (at_l HJ.out))
  have r1 := mac_k1 B1.out HM.out
  have r2 := mac_k2 B1.out HM.out
  have r3 := mac_ch B1.out HM.out
  have r4 := mac_wt B1.out HM.out
  have HR1 := Lib.hid r1
  have HR2 := Lib.hid r2
  have HR3 := Lib.hid r3
  have HR4 := Lib.hid r4
  clear h1 r1 r2 r3 r4 c0
  go_upto_region 4 with fail
  obtain ⟨S, hS⟩ : ∃ S : World → Prop, S = fun wx => wx = w1.drewN 1 := ⟨_, rfl⟩
  have FK1 : ∀ wx, S wx → wx.rangeAt b 1 (m.k1.map B) := fun wx h => by rw [hS] at h; rw [show wx = w1.drewN 1 from h]; exact HR1.out
  have FK2 : ∀ wx, S wx → wx.rangeAt b 17 (m.k2.map B) := fun wx h => by rw [hS] at h; rw [show wx = w1.drewN 1 from h]; exact HR2.out
  have FCH : ∀ wx, S wx → wx.rangeAt b 33 (m.ch.map B) := fun wx h => by rw [hS] at h; rw [show wx = w1.drewN 1 from h]; exact HR3.out
  have FWT : ∀ wx, S wx → wx.rangeAt b 49 (m.wt.map B) := fun wx h => by rw [hS] at h; rw [show wx = w1.drewN 1 from h]; exact HR4.out
  refine hd_start S (by kernel_rfl) ?_
  intro w2 hw'
  have S1 : S w2 := by rw [hS]; exact hw'
  have H2 : Hid (Env w0 w2 (obs ++ [obB v F])) := by rw [hw']; exact Lib.hid (H1.out.draw 1)
  clear hS hw'
  refine hd_take (v := ?_) 0 rfl (by kernel_rfl) (fun _ _ d _ _ h => (by cases d <;> exact h)) (by kernel_rfl) S1 (fun w' hS => ?_) ?_
  rotate_left
  focus (clear hS; go_simp; try rfl; done)
  simp only [List.getElem_toArray, List.getElem_cons_succ, List.getElem_cons_zero, Act.put, List.setIfInBounds_toArray, List.set_cons_zero, List.set_cons_succ]
  refine hd_take (v := ?_) 1 rfl (by kernel_rfl) (fun _ _ d _ _ h => (by cases d <;> exact h)) (by kernel_rfl) S1 (fun w' hS => ?_) ?_
  rotate_left
  focus (clear hS; go_simp; try rfl; done)
  simp only [List.getElem_toArray, List.getElem_cons_succ, List.getElem_cons_zero, Act.put, List.setIfInBounds_toArray, List.set_cons_zero, List.set_cons_succ]
  refine hd_take (v := ?_) 2 rfl (by kernel_rfl) (fun _ _ d _ _ h => (by cases d <;> exact h)) (by kernel_rfl) S1 (fun w' hS => ?_) ?_
  rotate_left
  focus (clear hS; go_simp; try rfl; done)
  simp only [List.getElem_toArray, List.getElem_cons_succ, List.getElem_cons_zero, Act.put, List.setIfInBounds_toArray, List.set_cons_zero, List.set_cons_succ]
  refine hd_part 3 rfl (by kernel_rfl) (fun _ _ d _ _ h => (by cases d <;> exact h)) (yieldsIf_load_mid (by kernel_rfl) 31 _ rfl b 1 rfl (m.k1.map B) _ FK1 Try.underlying31 rfl (size16b _ HM.out.l1)) S1 ?_
  simp only [List.getElem_toArray, List.getElem_cons_succ, List.getElem_cons_zero, Act.put, List.setIfInBounds_toArray, List.set_cons_zero, List.set_cons_succ]
  refine hd_take (v := ?_) 4 rfl (by kernel_rfl) (fun _ _ d _ _ h => (by cases d <;> exact h)) (by kernel_rfl) S1 (fun w' hS => ?_) ?_
  rotate_left
  focus (clear hS; go_simp; try rfl; done)
  simp only [List.getElem_toArray, List.getElem_cons_succ, List.getElem_cons_zero, Act.put, List.setIfInBounds_toArray, List.set_cons_zero, List.set_cons_succ]
  refine hd_take (v := ?_) 5 rfl (by kernel_rfl) (fun _ _ d _ _ h => (by cases d <;> exact h)) (by kernel_rfl) S1 (fun w' hS => ?_) ?_
  rotate_left
  focus (clear hS; go_simp; try rfl; done)
  simp only [List.getElem_toArray, List.getElem_cons_succ, List.getElem_cons_zero, Act.put, List.setIfInBounds_toArray, List.set_cons_zero, List.set_cons_succ]
  refine hd_take (v := ?_) 6 rfl (by kernel_rfl) (fun _ _ d _ _ h => (by cases d <;> exact h)) (by kernel_rfl) S1 (fun w' hS => ?_) ?_
  rotate_left
  focus (clear hS; go_simp; try rfl; done)
  simp only [List.getElem_toArray, List.getElem_cons_succ, List.getElem_cons_zero, Act.put, List.setIfInBounds_toArray, List.set_cons_zero, List.set_cons_succ]
  refine hd_part 7 rfl (by kernel_rfl) (fun _ _ d _ _ h => (by cases d <;> exact h)) (yieldsIf_load_mid (by kernel_rfl) 31 _ rfl b 17 rfl (m.k2.map B) _ FK2 Try.underlying31 rfl (size16b _ HM.out.l2)) S1 ?_
  simp only [List.getElem_toArray, List.getElem_cons_succ, List.getElem_cons_zero, Act.put, List.setIfInBounds_toArray, List.set_cons_zero, List.set_cons_succ]
  refine hd_take (v := ?_) 8 rfl (by kernel_rfl) (fun _ _ d _ _ h => (by cases d <;> exact h)) (by kernel_rfl) S1 (fun w' hS => ?_) ?_
  rotate_left
  focus (clear hS; go_simp; try rfl; done)
  simp only [List.getElem_toArray, List.getElem_cons_succ, List.getElem_cons_zero, Act.put, List.setIfInBounds_toArray, List.set_cons_zero, List.set_cons_succ]
  refine hd_take (v := ?_) 9 rfl (by kernel_rfl) (fun _ _ d _ _ h => (by cases d <;> exact h)) (by kernel_rfl) S1 (fun w' hS => ?_) ?_
  rotate_left
  focus (clear hS; go_simp; try rfl; done)
  simp only [List.getElem_toArray, List.getElem_cons_succ, List.getElem_cons_zero, Act.put, List.setIfInBounds_toArray, List.set_cons_zero, List.set_cons_succ]
  refine hd_take (v := ?_) 10 rfl (by kernel_rfl) (fun _ _ d _ _ h => (by cases d <;> exact h)) (by kernel_rfl) S1 (fun w' hS => ?_) ?_
  rotate_left
  focus (clear hS; go_simp; try rfl; done)
  simp only [List.getElem_toArray, List.getElem_cons_succ, List.getElem_cons_zero, Act.put, List.setIfInBounds_toArray, List.set_cons_zero, List.set_cons_succ]
  refine hd_part 11 rfl (by kernel_rfl) (fun _ _ d _ _ h => (by cases d <;> exact h)) (yieldsIf_load_mid (by kernel_rfl) 31 _ rfl b 33 rfl (m.ch.map B) _ FCH Try.underlying31 rfl (size16b _ HM.out.l3)) S1 ?_
  simp only [List.getElem_toArray, List.getElem_cons_succ, List.getElem_cons_zero, Act.put, List.setIfInBounds_toArray, List.set_cons_zero, List.set_cons_succ]
  refine hd_take (v := ?_) 12 rfl (by kernel_rfl) (fun _ _ d _ _ h => (by cases d <;> exact h)) (by kernel_rfl) S1 (fun w' hS => ?_) ?_
  rotate_left
  focus (clear hS; go_simp; try rfl; done)
  simp only [List.getElem_toArray, List.getElem_cons_succ, List.getElem_cons_zero, Act.put, List.setIfInBounds_toArray, List.set_cons_zero, List.set_cons_succ]
  refine hd_take (v := ?_) 13 rfl (by kernel_rfl) (fun _ _ d _ _ h => (by cases d <;> exact h)) (by kernel_rfl) S1 (fun w' hS => ?_) ?_
  rotate_left
  focus (clear hS; go_simp; try rfl; done)
  simp only [List.getElem_toArray, List.getElem_cons_succ, List.getElem_cons_zero, Act.put, List.setIfInBounds_toArray, List.set_cons_zero, List.set_cons_succ]
  refine hd_take (v := ?_) 14 rfl (by kernel_rfl) (fun _ _ d _ _ h => (by cases d <;> exact h)) (by kernel_rfl) S1 (fun w' hS => ?_) ?_
  rotate_left
  focus (clear hS; go_simp; try rfl; done)
  simp only [List.getElem_toArray, List.getElem_cons_succ, List.getElem_cons_zero, Act.put, List.setIfInBounds_toArray, List.set_cons_zero, List.set_cons_succ]
  refine hd_part 15 rfl (by kernel_rfl) (fun _ _ d _ _ h => (by cases d <;> exact h)) (yieldsIf_load_mid (by kernel_rfl) 31 _ rfl b 49 rfl (m.wt.map B) _ FWT Try.underlying31 rfl (size16b _ HM.out.l4)) S1 ?_
  simp only [List.getElem_toArray, List.getElem_cons_succ, List.getElem_cons_zero, Act.put, List.setIfInBounds_toArray, List.set_cons_zero, List.set_cons_succ]
  refine hd_take (v := .agg (barr ALL)) 16 rfl (by kernel_rfl) (fun _ _ d _ _ h => (by cases d <;> exact h)) (by kernel_rfl) S1 (fun w' _ => ?_) ?_
  · exact exec_build 92 #[(0, .tmp 17), (1, .tmp 21), (2, .tmp 25), (3, .tmp 29)] rfl _ (by simp only [List.map_toArray, List.map_cons, List.map_nil]; exact HBLD.out)
  simp only [List.getElem_toArray, List.getElem_cons_succ, List.getElem_cons_zero, Act.put, List.setIfInBounds_toArray, List.set_cons_zero, List.set_cons_succ]
  refine hd_take (v := ?_) 17 rfl (by kernel_rfl) (fun _ _ d _ _ h => (by cases d <;> exact h)) (by kernel_rfl) S1 (fun w' hS => ?_) ?_
  rotate_left
  focus (clear hS; go_simp; try rfl; done)
  simp only [List.getElem_toArray, List.getElem_cons_succ, List.getElem_cons_zero, Act.put, List.setIfInBounds_toArray, List.set_cons_zero, List.set_cons_succ]
  refine hd_done (by kernel_rfl) ?_
  obtain ⟨i0, hi, hz0, hz1, hz2⟩ := info_parts info8
  have HI := Lib.hid (And.intro hi (And.intro hz0 (And.intro hz1 hz2)))
  clear hi hz0 hz1 hz2 FK1 FK2 FCH FWT S1
  go_wp2_with fail
  go_loopw [3, 31] (fun u x wr => ∃ j : Nat, j ≤ 4 ∧ x = .int .i64 (j : Int) ∧ Hid (Env w0 wr (obs ++ [obB u (F ++ ALL.take (16 * j))]))) (fun _ x _ => 4 - (intOf x).toNat)
  case atStart => exact ⟨0, by omega, rfl, by rw [show 16 * 0 = 0 from rfl, List.take_zero, List.append_nil]; exact H2⟩
  case round =>
    obtain ⟨t, ht, rfl, HV⟩ := hrel
    by_cases hlt : t < 4
    · obtain ⟨X, hX⟩ : ∃ X, (ALL.drop (16 * t)).take 16 = X := ⟨_, rfl⟩
      have hXl : X.length = 16 := by rw [← hX, List.length_take, List.length_drop, HAL.out]; omega
      have hidx : ∀ w, (Instr.index 92 (.agg (barr ALL)) (.int .i64 (t : Int))).run Try.prog w = .ok (.agg (barr X)) w := by rw [← hX]; exact HIDX.out t hlt
      have hXm : (X.map B).length = 16 := by rw [List.length_map]; exact hXl
      have hXs : (barr X).size = 16 := by rw [barr_size]; exact hXl
      have hz16 : (barr zB).size = 16 := rfl
      have b0 : Blk (wr.alloc (.cells (barr zB) 31)) wr.heap.size 31 (barr zB) := Blk.new _ _ _
      have HN : Hid (Env w0 (wr.alloc (.cells (barr zB) 31)) (obs ++ [obB u3 (F ++ ALL.take (16 * t)), obK wr.heap.size 31 (barr zB)])) := by
        have h := HV.out.newK 31 (barr zB)
        rw [List.append_assoc] at h
        exact Lib.hid h
      have hsl2 : ∀ w', (Instr.sliceAt 31 (.pointer (some ⟨wr.heap.size, 0, none⟩)) none none none).run Try.prog w' = .ok (.slice (some ⟨wr.heap.size, 0, none⟩) 16 16) w' := fun w' => by
        have hal : Try.prog.arrayLen 31 = 16 := by kernel_rfl
        rw [run_sliceAt_array_all w' 31 ⟨wr.heap.size, 0, none⟩ (by simp [Program.arrayLen, Program.elem, Try.underlying31])]
        have hsz : (sizeOf (Try.prog.elem 31)).run Try.prog w' = .ok 1 w' := by kernel_rfl
        rw [hsz, Result.andThen_ok, hal]
        unfold slicedAt
        rw [if_neg (by omega), add_lit]
      have HX := Lib.hid hX
      clear hX
      have hPl : (F ++ ALL.take (16 * t)).length = f + 16 * t := by rw [List.length_append, HFL.out, List.length_take, HAL.out]; omega
      obtain ⟨P, hP⟩ : ∃ P, F ++ ALL.take (16 * t) = P := ⟨_, rfl⟩
      rw [hP] at hPl HN
      have HP := Lib.hid hP
      have HPL := Lib.hid hPl
      clear hP hPl HV
      obtain ⟨hi, hz0, hz1, hz2⟩ := HI.out
      obtain ⟨u, hu⟩ : ∃ u, u = u3 := ⟨_, rfl⟩
      go_wp2_with (first | ((with_reducible change wpList _ _ _ (Oper.mk _ (Op.store 31 _ _) _ _ _ _ :: _) _ _); refine wpList_store_var wr.heap.size (barr X) rfl rfl b0 size16 hXs hz16 (barr_one _) ?_; intro w3 B3 O3; have HN3 : Hid (Env w0 w3 (obs ++ [obB u3 P, obK wr.heap.size 31 (barr X)])) := (by have h := HN.out.turnBlk (n + 1) (at_r HNN.out 1) B3 O3; rw [set_r HNN.out] at h; exact Lib.hid h); clear B3 O3; have hown3 : w3.ownsRow 0 5 1 u3 (f + 16 * t) (P.map B) := (by have h := HN3.out.bytes (n + 0) (at_r HNN.out 0); unfold OB at h; rw [HPL.out] at h; exact h); have hy3 : Sl w3 1 (.slice (some ⟨wr.heap.size, 0, none⟩) 16 16) 16 (X.map B) := (by have h := ((HN3.out.blk (n + 1) (at_r HNN.out 1)).owns (by omega)).rd; rw [hXl] at h; have h2 := Sl.of_bytes h; rw [hXl] at h2; exact h2)) | (at_builtin; refine wpList_append_sl w3 rfl _ _ 22 rfl 5 i0 _ 1 1 Try.underlying22 hi hz0 hz1 hz2 rfl (by decide) u3 (f + 16 * t) (P.map B) rfl hown3 (.slice (some ⟨wr.heap.size, 0, none⟩) 16 16) 16 (X.map B) rfl hy3 (by unfold maxLen; omega) (by omega) ?_))
      intro v' w4 hown hgrow hat _
      have HN4 : Hid (Env w0 w4 (obs ++ [obB v' (F ++ ALL.take (16 * (t + 1)))])) := by
        have e : F ++ ALL.take (16 * (t + 1)) = P ++ X := by rw [← HP.out, ← HX.out, List.append_assoc, show 16 * (t + 1) = 16 * t + 16 from by omega, List.take_add]
        have ho : OB w4 v' (P ++ X) := by
          unfold OB
          rw [List.length_append, HPL.out, hXl, List.map_append]
          exact hown
        have h := Env.growB HN3.out (n + 0) (at_r HNN.out 0) ho (Only.grown (Only.refl _ w3) hgrow (fun k hk => .inl hk)) (fun x hx => by
          rcases hat with hat | hat
          · left
            show u3.ownBlock = some x
            rw [← hat]
            exact hx
          · right
            have hx' : v'.ownBlock = some x := hx
            rw [hat] at hx'
            injection hx' with hx'
            omega)
        rw [set_r HNN.out] at h
        rw [e]
        refine Lib.hid (Env.drop (x := obK wr.heap.size 31 (barr X)) ?_)
        rw [List.append_assoc]
        exact h
      clear hown hgrow hat hown3 hy3 hi hz0 hz1 hz2 HN3
      go_wp2
      go_roundw
      case rel => exact ⟨t + 1, by omega, by go_num, HN4⟩
      case measure => simp [intOf]; omega
    · obtain rfl : t = 4 := by omega
      have hv := HV.out
      rw [show 16 * 4 = 64 from rfl, List.take_of_length_le (by rw [HAL.out]; omega)] at hv
      have H5 := Lib.hid hv
      have cN := (hv.blk j (at_l HJ.out)).cellAt 65 (macC_n HM.out)
      have n16 := HM.out.hn
      obtain ⟨N, hN⟩ : ∃ N, m.n = N := ⟨_, rfl⟩
      rw [hN] at cN n16
      have HNM := Lib.hid hN
      obtain ⟨P, hP⟩ : ∃ P, F ++ ALL = P := ⟨_, rfl⟩
      rw [hP] at hv H5
      have hPl : P.length = f + 64 := by rw [← hP, List.length_append, HFL.out, HAL.out]
      have hmod : ((N : Int) % 256) = (N : Int) := by omega
      have HP := Lib.hid hP
      have HPL := Lib.hid hPl
      clear hP hPl hN HV
      have hown : (wr.alloc (.cells #[.int .u8 (N : Int)] 5)).ownsRow 0 5 1 u3 (f + 64) (P.map B) := by
        have h1 := (hv.bytes (n + 0) (at_r HNN.out 0)).keep ((Only.refl (fun _ => False) wr).alloc (.cells #[.int .u8 (N : Int)] 5)) (fun _ _ h => h)
        unfold OB at h1
        rw [HPL.out] at h1
        exact h1
      clear hv
      obtain ⟨hi, hz0, hz1, hz2⟩ := HI.out
      go_wp2_with (at_builtin; refine wpList_append_lies _ rfl _ _ 22 rfl 0 5 i0 _ 1 1 Try.underlying22 hi hz0 hz1 hz2 rfl (by decide) u3 (f + 64) (P.map B) rfl hown ⟨wr.heap.size, 0, none⟩ 1 1 [.int .u8 (N : Int)] rfl rfl (World.news_of_block (heap_alloc_new _ _)) (one_num _) (by decide) (by unfold maxLen; omega) (by omega) (Nat.zero_le _) _ rfl ?_)
      intro g' cap' w4 hown4 hgrow hat hlt2
      have HN4 : Hid (Env w0 w4 (obs ++ [obB (.slice (some ⟨g', 0, none⟩) (f + 64 + 1) cap') (formOf K k m)])) := by
        have hu : (UInt8.ofNat N).toNat = N := by rw [UInt8.toNat_ofNat']; exact Nat.mod_eq_of_lt (by omega)
        have e : formOf K k m = P ++ [UInt8.ofNat N] := by
          unfold formOf MacS.tail
          rw [HF.out, HA.out, HNM.out, ← List.append_assoc, HP.out]
        have ho : OB w4 (.slice (some ⟨g', 0, none⟩) (f + 64 + 1) cap') (P ++ [UInt8.ofNat N]) := by
          unfold OB
          rw [List.length_append, HPL.out, List.map_append]
          simp only [List.map_cons, List.map_nil, B_eq, hu]
          exact hown4
        have H6 := H5.out.below ((Below.refl _ _).alloc (Nat.le_refl _) (.cells #[.int .u8 (N : Int)] 5))
        have h := Env.growB H6 (n + 0) (at_r HNN.out 0) ho (Only.grown (Only.refl _ _) hgrow (fun k hk => .inl hk)) (fun x hx => by
          have e : g' = x := by simpa [fpv, Value.ownBlock] using hx
          subst e
          rcases hat with hat | hat
          · exact .inl hat
          · right
            rw [hat]
            simp)
        rw [set_r HNN.out] at h
        rw [e]
        exact Lib.hid h
      clear hown4 hgrow hat hlt2 hown hi hz0 hz1 hz2
      go_wp2
      go_ret
      exact ⟨_, rfl, HN4.out⟩
end
end Go.Proofs.Ytpampcokonicfaa
