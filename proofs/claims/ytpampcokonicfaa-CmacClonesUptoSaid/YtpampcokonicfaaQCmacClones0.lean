/- The statement CmacClones: for every input turnkey/turnkeylaw13.CmacClones returns true, and each argument reads as it did. Its walk is proved in MacClones; here is the step from the walk to the row. -/
import Derived.Test.YtpampcokonicfaaRows
import Derived.JoinedCond
import Derived.Test.YtpampcokonicfaaQB1
import Derived.Test.YtpampcokonicfaaQB2
import Derived.Test.YtpampcokonicfaaQB5
/- A whole block is read under a guard. No program in sight. -/
namespace Go.Proofs.Ytpampcokonicfaa
open Go.RowKit
section
variable {P : Program} {ops : Array Oper} {rest : List Oper} {a : Act} {w : World} {Q : Exit → Act → World → Prop} {d : Option Tmp} {ot : TypeId} {x : Operand} {pos : String} {aft : Array Edge} {gd : Option (Nat × Bool)}
theorem wpList_load_gd {ty : TypeId} (g : Nat) (hw : Region.wanted ⟨d, .load ty x, ot, pos, aft, gd⟩ (yielded ops a.tmps) = true) (hx : a.eval x = .pointer (some ⟨g, 0, none⟩)) {t : TypeId} {cs : Array Value} {de : TypeDesc} {n : Nat} (hg : Blk w g t cs)
    (hu : P.underlying ty = some de) (hd : (match de with | .struct _ | .array _ _ => true | _ => false) = true) (hi : (P.info? ty).map (·.size) = some n) (hn : cs.size = n)
    (h : wpList P ops Q rest (a.put d (.agg cs)) w) : wpList P ops Q (⟨d, .load ty x, ot, pos, aft, gd⟩ :: rest) a w := by
  refine wpList_value (.agg cs) hw ?_ h
  simp only [execOp, hx, Instr.loadAt, Instr.sureAddr, Sem.run_bind, Sem.run_pure, Result.andThen_ok, run_loadVar_row w g t ty cs (0, 0) de hg hu hd (by rw [hi, hn])]
end
end Go.Proofs.Ytpampcokonicfaa
/- The contract of Ledger.Count. Condition: the ledger's events are fewer than 2^63. -/
namespace Go.Proofs.Ytpampcokonicfaa
open Go.RowKit
set_option maxRecDepth 100000
set_option linter.unusedVariables false

/-- how many events of the first j runs have the kind k -/
def cntTo (rs : List Rn) (k : Int) : Nat → Int
  | 0 => 0
  | j + 1 => cntTo rs k j + if (rs.getD j ⟨0, 0, 0⟩).k = k then (rs.getD j ⟨0, 0, 0⟩).c else 0
def cnt (rs : List Rn) (k : Int) : Int := cntTo rs k rs.length
theorem cntTo_bound (rs : List Rn) (k : Int) (h : Posi rs) : ∀ j, j ≤ rs.length → 0 ≤ cntTo rs k j ∧ cntTo rs k j ≤ tot (rs.take j)
  | 0, _ => by simp [cntTo, tot]
  | j + 1, hj => by
    obtain ⟨h1, h2⟩ := cntTo_bound rs k h j (by omega)
    have hg : rs.getD j ⟨0, 0, 0⟩ = rs[j] := by rw [List.getD_eq_getElem?_getD, List.getElem?_eq_getElem (by omega)]; rfl
    have hp := h rs[j] (List.getElem_mem _)
    rw [cntTo, hg, List.take_add_one, List.getElem?_eq_getElem (by omega), tot_append]
    simp only [Option.toList_some, tot_one]
    split <;> omega
theorem tot_take (rs : List Rn) (h : Posi rs) (j : Nat) : tot (rs.take j) ≤ tot rs := by
  have h1 := List.take_append_drop j rs
  have h2 : tot rs = tot (rs.take j) + tot (rs.drop j) := by rw [← tot_append, h1]
  have h3 := tot_nonneg (rs.drop j) (fun r hr => h r (List.mem_of_mem_drop hr))
  omega
set_option maxHeartbeats 1000000 in
theorem countP_any (b : Nat) (v : Value) (rs : List Rn) (k : Int) (w : World) (h : LedP w b v rs) (hl : rs.length ≤ 1099511627776) (ht : tot rs < 9223372036854775808) :
    Calls Try.prog 29 #[.pointer (some ⟨b, 0, none⟩), .int .u8 k] w fun e w' => e = .returned (.int .i64 (cnt rs k)) ∧ Below w.heap.size w w' := by
  have HP := Lib.hid h.posi
  have H := Lib.hid h
  clear h
  go_enter Try.func29, Try.ntmps29
  go_wp2_with fail
  refine (runsP_any b v rs _ H.out hl).mono ?_
  rintro e w1 ⟨v1, rfl, h1, h2, h3⟩
  have HB := Lib.hid h2
  have HR := Lib.hid h1
  obtain ⟨ao, cap, rfl⟩ := h1.any
  clear h1 h2 h3
  go_wp2_with fail
  go_loopw [5, 11] (fun n i w2 => ∃ j : Nat, j ≤ rs.length ∧ i = .int .i64 (j : Int) ∧ n = .int .i64 (cntTo rs k j) ∧ Below w1.heap.size w1 w2) (fun _ i _ => rs.length - (intOf i).toNat)
  case atStart => exact ⟨0, Nat.zero_le _, rfl, rfl, Below.refl _ _⟩
  case round =>
    obtain ⟨j, hj, rfl, rfl, hb⟩ := hrel
    by_cases hlt : j < rs.length
    · obtain ⟨r, hr⟩ : ∃ r, rs[j]? = some r := ⟨_, List.getElem?_eq_getElem hlt⟩
      obtain ⟨g, off, rfl, d1, d2, d3⟩ := RunsRd.cells HR.out.rd j r hr
      have hgl : g < w1.heap.size := World.block_lt_of_cell? w1 _ d1
      have c1 := (hb.cell hgl).trans d1
      have c2 := (hb.cell hgl).trans d2
      have c3 := (hb.cell hgl).trans d3
      have HBB := Lib.hid hb
      have hgr : g < wr.heap.size := Nat.lt_of_lt_of_le hgl hb.size
      obtain ⟨q1, q2⟩ := cntTo_bound rs k HP.out j hj
      obtain ⟨q3, q4⟩ := cntTo_bound rs k HP.out (j + 1) hlt
      have q5 := tot_take rs HP.out (j + 1)
      have q6 := tot_take rs HP.out j
      have HE : Hid (cntTo rs k (j + 1) = cntTo rs k j + if r.k = k then r.c else 0) := by
        rw [cntTo, show rs.getD j ⟨0, 0, 0⟩ = r from by rw [List.getD_eq_getElem?_getD, hr]; rfl]
        exact Lib.hid rfl
      have HRJ := Lib.hid hr
      clear hr hb d1 d2 d3
      have HQ : Hid (0 ≤ cntTo rs k j ∧ cntTo rs k j ≤ tot rs ∧ 0 ≤ cntTo rs k (j + 1) ∧ cntTo rs k (j + 1) ≤ tot rs) := Lib.hid ⟨q1, by omega, q3, by omega⟩
      clear q1 q2 q3 q4 q5 q6
      have HPC := Lib.hid (HP.out r (List.mem_of_getElem? HRJ.out))
      clear HRJ
      by_cases hk : r.k = k
      · have HE2 : Hid (cntTo rs k (j + 1) = cntTo rs k j + r.c) := by
          have h := HE.out
          rw [if_pos hk] at h
          exact Lib.hid h
        have z1 := HQ.out.1
        have z2 : cntTo rs k j + r.c < 9223372036854775808 := by rw [← HE2.out]; have := HQ.out.2.2.2; omega
        have z3 := HPC.out
        have hb1 : (r.k == k) = true := by rw [hk]; simp
        generalize cntTo rs k j = x at z1 z2 HE HE2 HQ
        clear HE
        go_wp2_with fail
        go_roundw
        case rel => exact ⟨j + 1, by omega, by go_num, by rw [HE2.out], (HBB.out.alloc HBB.out.size _)⟩
        case measure => simp [intOf]; omega
      · have HE2 : Hid (cntTo rs k (j + 1) = cntTo rs k j) := by
          have h := HE.out
          rw [if_neg hk, Int.add_zero] at h
          exact Lib.hid h
        have hb1 : (r.k == k) = false := by simpa using hk
        generalize cntTo rs k j = x at HE HE2 HQ
        clear HE
        go_wp2_with fail
        go_roundw
        case rel => exact ⟨j + 1, by omega, by go_num, by rw [HE2.out], (HBB.out.alloc HBB.out.size _)⟩
        case measure => simp [intOf]; omega
    · obtain rfl : j = rs.length := by omega
      have HBB := Lib.hid hb
      clear hb
      go_wp2
      go_ret
      exact ⟨rfl, HB.out.trans (HBB.out.mono HB.out.size)⟩
theorem countP_env {w0 w : World} {obs : List Ob} (h : Env w0 w obs) (i : Nat) {p : Value} {rs : List Rn} (hi : obs[i]? = some (obP p (some rs))) (k : Int) (hl : rs.length ≤ 1099511627776) (ht : tot rs < 9223372036854775808) :
    Calls Try.prog 29 #[p, .int .u8 k] w fun e w' => e = .returned (.int .i64 (cnt rs k)) ∧ Env w0 w' obs ∧ Below w.heap.size w w' := by
  obtain ⟨F, f1, _⟩ := h.lgP i hi
  obtain ⟨b, v, rfl, rfl, f2⟩ := f1
  exact (countP_any b v rs k w f2 hl ht).mono fun e w' ⟨he, h1⟩ => ⟨he, h.below h1, h1⟩
end Go.Proofs.Ytpampcokonicfaa
/- The walk of CmacKnown: a closed statement. -/
namespace Go.Proofs.Ytpampcokonicfaa
open Go.RowKit
set_option maxRecDepth 100000
set_option linter.unusedVariables false
set_option linter.unusedSimpArgs false
theorem guard16 : Try.prog.eqGuardType Try.prog.depth 31 = false := by kernel_rfl
theorem eqAt16 (l m : List UInt8) (hl : l.length = 16) (hm : m.length = 16) (b : Bool) (hb : (l == m) = b) (w : World) : (Op.equalIn 10000 31 (.agg (barr l)) (.agg (barr m))).run Try.prog w = .ok b w := by
  rw [run_eql_bytes Try.underlying31 (by kernel_rfl : Try.prog.info? 5 = some ((Try.prog.info? 5).getD default)) (by kernel_rfl) Try.underlying5 (by kernel_rfl) l m hl hm w, hb]
section
variable {w0 w : World} {obs : List Ob}
/-- the form of a Mac of any right key -/
theorem formK_env (h : Env w0 w obs) (i j : Nat) {b c : Nat} {key p : List UInt8} (hk : RightLen key.length) (hi : obs[i]? = some (mcC c key)) (hj : obs[j]? = some (mcB b c (stM key p).1)) :
    Calls Try.prog 16 #[.pointer (some ⟨b, 0, none⟩)] w fun e w' => ∃ g cap : Nat, e = .returned (.slice (some ⟨g, 0, none⟩) (16 * (key.length / 4 + 6 + 1) + 65 : Nat) cap) ∧ Env w0 w' (obs ++ [obB (.slice (some ⟨g, 0, none⟩) (16 * (key.length / 4 + 6 + 1) + 65 : Nat) cap) (formOf (sched key) key.length (stM key p).1)]) := by
  have hl : (formOf (sched key) key.length (stM key p).1).length = 16 * (key.length / 4 + 6 + 1) + 65 := formOf_len (sched_len key (by have := hk.bd; omega)) hk.bd.2.1 (stM_ok key p)
  refine (formM_env h i j hi hj (stM_ok key p) hk.bd.1 hk.bd.2.1 (sched_len key (by have := hk.bd; omega))).mono fun e w' ⟨v, he, h1⟩ => ?_
  obtain ⟨g, cap, hv⟩ := (h1.bytes obs.length at_end).form (by omega)
  rw [hl] at hv
  subst hv
  exact ⟨g, cap, he, h1⟩
/-- a byte of a row -/
theorem Env.byteAt (h : Env w0 w obs) (i : Nat) {g n cap : Nat} {F : List UInt8} (hi : obs[i]? = some (obB (.slice (some ⟨g, 0, none⟩) n cap) F)) (j : Nat) (x : UInt8) (hj : F[j]? = some x) (hn : F.length = n) : w.cell? ⟨g, j, none⟩ = some (.int .u8 (x.toNat : Int)) := by
  subst hn
  have hown := h.bytes i hi
  unfold OB at hown
  have hlt := (List.getElem?_eq_some_iff.1 hj).1
  rw [hown.cellAt j (by omega), List.getElem?_map, hj]
  rfl
end
/-- the last byte of a form: how many bytes wait -/
theorem formOf_last {K : List UInt8} {k : Nat} {m : MacS} (hK : K.length = 240) (hk : k ≤ 32) (hm : m.Ok) : (formOf K k m)[16 * (k / 4 + 6 + 1) + 64]? = some (UInt8.ofNat m.n) := by
  have hl := formOf_len hK hk hm
  have ha := MacS.all_len hm
  unfold formOf MacS.tail at hl ⊢
  rw [List.getElem?_append_right (by rw [List.length_take]; omega), List.length_take, List.getElem?_append_right (by omega)]
  rw [show 16 * (k / 4 + 6 + 1) + 64 - min (16 * (k / 4 + 6 + 1)) K.length - m.all.length = 0 from by omega]
  rfl
theorem stM_at (key p : List UInt8) (h : p ≠ []) : (stM key p).1.n = (p.length - 1) % 16 + 1 ∧ (stM key p).2 = (p.length - 1) / 16 := by
  obtain ⟨h1, h2, h3⟩ := stM_count key p
  have h4 := h2 h
  have : p.length ≠ 0 := fun h0 => h (List.length_eq_zero_iff.1 h0)
  omega
theorem notedN_one (k e : Nat) : notedN (some []) k (e + 1) = some [⟨5, k, ((e + 1 : Nat) : Int)⟩] := by
  induction e with
  | zero => rfl
  | succ e ih =>
    show noteO (notedN (some []) k (e + 1)) 5 k 1 = _
    rw [ih]
    show some (noteL ([] ++ [⟨5, k, ((e + 1 : Nat) : Int)⟩]) 5 k 1) = _
    have h := noteL_same [] (⟨5, (k : Int), ((e + 1 : Nat) : Int)⟩ : Rn) 1
    rw [show noteL ([] ++ [⟨5, (k : Int), ((e + 1 : Nat) : Int)⟩]) 5 k 1 = _ from h]
    simp
theorem RoomN.empty (k n : Nat) (hn : n ≤ 1000000000000000) : RoomN (some []) k n := fun e he => by
  cases e with
  | zero => exact Room.some (by simp [tot]) (by simp)
  | succ e =>
    rw [notedN_one]
    exact Room.some (by simp [tot]; omega) (by simp)
def t80 : List UInt8 := [0x80, 0, 0, 0, 0, 0, 0, 0, 0, 0, 0, 0, 0, 0, 0, 0]
def t80l : List UInt8 := [0, 0, 0, 0, 0, 0, 0, 0, 0, 0, 0, 0, 0, 0, 0, 0x80]
def t87 : List UInt8 := [0, 0, 0, 0, 0, 0, 0, 0, 0, 0, 0, 0, 0, 0, 0, 0x87]
def t1 : List UInt8 := [0, 0, 0, 0, 0, 0, 0, 0, 0, 0, 0, 0, 0, 0, 1, 0]
theorem dbl80 : dbl t80 = t87 := by decide +kernel
theorem dbl80l : dbl t80l = t1 := by decide +kernel
theorem bt80 : Try.prog.built 31 [(0, .int .u8 128)] = some (barr t80) := by kernel_rfl
theorem bt80l : Try.prog.built 31 [(15, .int .u8 128)] = some (barr t80l) := by kernel_rfl
theorem bt87 : Try.prog.built 31 [(15, .int .u8 135)] = some (barr t87) := by kernel_rfl
theorem bt1 : Try.prog.built 31 [(14, .int .u8 1)] = some (barr t1) := by kernel_rfl
theorem keyE_bytes (p : List UInt8) : (formOf (sched keyE) 16 (stM keyE p).1).length = 241 := formOf_len (K := sched keyE) (k := 16) (sched_len keyE (by decide)) (by decide) (stM_ok keyE p)
theorem formE176 : (formOf (sched keyE) 16 (stM keyE []).1)[176]? = some 0xfb ∧ (formOf (sched keyE) 16 (stM keyE []).1)[177]? = some 0xee := by
  have h := formE
  have hl := keyE_bytes []
  rw [List.getD_eq_getElem?_getD, List.getD_eq_getElem?_getD, List.getElem?_eq_getElem (by omega), List.getElem?_eq_getElem (by omega)] at h
  exact ⟨by rw [List.getElem?_eq_getElem (by omega)]; exact congrArg some h.1, by rw [List.getElem?_eq_getElem (by omega)]; exact congrArg some h.2⟩
set_option maxHeartbeats 8000000 in
theorem cmacKnown.walk (w : World) : Calls Try.prog 5 #[] w fun e w' => e = .returned (.bool true) ∧ Below w.heap.size w w' := by
  have H0 := Lib.hid (Env.start w)
  go_enter Try.func5, Try.ntmps5
  go_wp2_with fail
  refine (newP_env' H0.out).mono ?_
  rintro e w1 ⟨l, rfl, h5⟩
  have H1 := Lib.hid h5
  clear h5 H0
  go_wp2_with fail
  refine (keyE_env H1.out).mono ?_
  rintro e w2 ⟨g0, rfl, h5⟩
  have H2 : Hid (Env w w2 [obP l (some []), obB (.slice (some ⟨g0, 0, none⟩) 16 16) keyE]) := Lib.hid h5
  clear h5 H1
  go_wp2_with fail
  refine (newM_nil H2.out (key := keyE) (Src.whole H2.out _ 1 (by simp) rfl) (.inl rfl)).mono ?_
  rintro e w3 ⟨b, c, rfl, h5⟩
  have H3 : Hid (Env w w3 [obP l (some []), obB (.slice (some ⟨g0, 0, none⟩) 16 16) keyE, mcC c keyE, mcB b c (stM keyE []).1]) := Lib.hid h5
  clear h5 H2
  go_wp2_with fail
  refine (formK_env H3.out 2 3 (.inl rfl) rfl rfl).mono ?_
  rintro e w4 ⟨f0, n0, rfl, h5⟩
  have H4 : Hid (Env w w4 [obP l (some []), obB (.slice (some ⟨g0, 0, none⟩) 16 16) keyE, mcC c keyE, mcB b c (stM keyE []).1, obB (.slice (some ⟨f0, 0, none⟩) 241 n0) (formOf (sched keyE) 16 (stM keyE []).1)]) := Lib.hid h5
  clear h5 H3
  go_wp2_with fail
  refine (textE_env H4.out).mono ?_
  rintro e w5 ⟨g2, rfl, h5⟩
  have H5 : Hid (Env w w5 [obP l (some []), obB (.slice (some ⟨g0, 0, none⟩) 16 16) keyE, mcC c keyE, mcB b c (stM keyE []).1, obB (.slice (some ⟨f0, 0, none⟩) 241 n0) (formOf (sched keyE) 16 (stM keyE []).1), obB (.slice (some ⟨g2, 0, none⟩) 40 40) textE]) := Lib.hid h5
  clear h5 H4
  go_wp2_with fail
  refine (writeK_env H5.out 2 3 0 (by decide) (by decide) (by decide) (key := keyE) (p0 := []) (q := l) (o := some []) (.inl rfl) rfl rfl rfl (u := _) (p := textE.take 16) (fun wx obs' he hx => (he.bytes 5 (hx 5 _ (by decide) (by decide) rfl)).rd.take 16 (by decide)) ?_).mono ?_
  · exact RoomN.empty 16 16 (by decide)
  rintro e w6 ⟨rfl, h5⟩
  have e1 : (stM keyE (textE.take 16)).1.n = 16 ∧ (stM keyE (textE.take 16)).2 = 0 := stM_at keyE (textE.take 16) (by decide)
  have e2 : (stM keyE (textE.take 16 ++ [1])).1.n = 1 ∧ (stM keyE (textE.take 16 ++ [1])).2 = 1 := stM_at keyE (textE.take 16 ++ [1]) (by decide)
  have hs : [] ++ textE.take 16 = textE.take 16 := rfl
  rw [hs, e1.2, show (stM keyE []).2 = 0 from rfl] at h5
  have H6 : Hid (Env w w6 [obP l (some []), obB (.slice (some ⟨g0, 0, none⟩) 16 16) keyE, mcC c keyE, mcB b c (stM keyE (textE.take 16)).1, obB (.slice (some ⟨f0, 0, none⟩) 241 n0) (formOf (sched keyE) 16 (stM keyE []).1), obB (.slice (some ⟨g2, 0, none⟩) 40 40) textE]) := Lib.hid h5
  clear h5 H5 hs
  go_wp2_with fail
  refine (lenP_env' H6.out 0 rfl).mono ?_
  rintro e w' ⟨he, rfl⟩
  have he' : e = .returned (.int .i64 0) := he
  subst he'
  clear he
  go_wp2_with fail
  refine (formK_env H6.out 2 3 (.inl rfl) rfl rfl).mono ?_
  rintro e w7 ⟨f1, n1, rfl, h5⟩
  have H7 : Hid (Env w w7 [obP l (some []), obB (.slice (some ⟨g0, 0, none⟩) 16 16) keyE, mcC c keyE, mcB b c (stM keyE (textE.take 16)).1, obB (.slice (some ⟨f0, 0, none⟩) 241 n0) (formOf (sched keyE) 16 (stM keyE []).1), obB (.slice (some ⟨g2, 0, none⟩) 40 40) textE, obB (.slice (some ⟨f1, 0, none⟩) 241 n1) (formOf (sched keyE) 16 (stM keyE (textE.take 16)).1)]) := Lib.hid h5
  clear h5 H6
  have H8 := Lib.hid (H7.out.lit w7.heap.size rfl [1] (by decide))
  go_wp2_with fail
  refine (writeK_env H8.out 2 3 0 (by decide) (by decide) (by decide) (key := keyE) (p0 := textE.take 16) (q := l) (o := some []) (.inl rfl) rfl rfl rfl (u := _) (p := [1]) (fun wx obs' he hx => (he.bytes 7 (hx 7 _ (by decide) (by decide) rfl)).rd) (RoomN.empty 16 1 (by decide))).mono ?_
  rintro e w9 ⟨rfl, h5⟩
  rw [e1.2, e2.2] at h5
  have H9 : Hid (Env w w9 [obP l (some [⟨5, 16, 1⟩]), obB (.slice (some ⟨g0, 0, none⟩) 16 16) keyE, mcC c keyE, mcB b c (stM keyE (textE.take 16 ++ [1])).1, obB (.slice (some ⟨f0, 0, none⟩) 241 n0) (formOf (sched keyE) 16 (stM keyE []).1), obB (.slice (some ⟨g2, 0, none⟩) 40 40) textE, obB (.slice (some ⟨f1, 0, none⟩) 241 n1) (formOf (sched keyE) 16 (stM keyE (textE.take 16)).1), obB (.slice (some ⟨w7.heap.size, 0, none⟩) 1 1) [1]]) := Lib.hid h5
  clear h5 H7 H8
  go_wp2_with fail
  refine (lenP_env' H9.out 0 rfl).mono ?_
  rintro e w' ⟨he, rfl⟩
  have he' : e = .returned (.int .i64 1) := he
  subst he'
  clear he
  go_wp2_with fail
  refine (formK_env H9.out 2 3 (.inl rfl) rfl rfl).mono ?_
  rintro e w10 ⟨f2, n2, rfl, h5⟩
  have H10 := Lib.hid h5
  clear h5 H9
  go_wp2_with fail
  refine (sumM_env H10.out 2 3 0 (by decide) (by decide) (by decide) rfl rfl rfl (Room.some (by decide) (by decide)) (stM_ok keyE _) (by decide)).mono ?_
  rintro e w11 ⟨g3, rfl, h5⟩
  have H11 : Hid (Env w w11 [obP l (some [⟨5, 16, 2⟩]), obB (.slice (some ⟨g0, 0, none⟩) 16 16) keyE, mcC c keyE, mcB b c (stM keyE (textE.take 16 ++ [1])).1, obB (.slice (some ⟨f0, 0, none⟩) 241 n0) (formOf (sched keyE) 16 (stM keyE []).1), obB (.slice (some ⟨g2, 0, none⟩) 40 40) textE, obB (.slice (some ⟨f1, 0, none⟩) 241 n1) (formOf (sched keyE) 16 (stM keyE (textE.take 16)).1), obB (.slice (some ⟨w7.heap.size, 0, none⟩) 1 1) [1], obB (.slice (some ⟨f2, 0, none⟩) 241 n2) (formOf (sched keyE) 16 (stM keyE (textE.take 16 ++ [1])).1), mcT g3 (tagOf (sched keyE) 16 (stM keyE (textE.take 16 ++ [1])).1)]) := Lib.hid h5
  clear h5 H10
  have k240 : (sched keyE).length = 240 := sched_len keyE (by decide)
  have c1 : w11.cell? ⟨f0, 240, none⟩ = some (.int .u8 0) := H11.out.byteAt 4 rfl 240 0 (by have h := formOf_last (k := 16) k240 (by decide) (stM_ok keyE []); rw [show (stM keyE []).1.n = 0 from rfl] at h; exact h) (keyE_bytes _)
  have c2 : w11.cell? ⟨f1, 240, none⟩ = some (.int .u8 16) := H11.out.byteAt 6 rfl 240 16 (by have h := formOf_last (k := 16) k240 (by decide) (stM_ok keyE (textE.take 16)); rw [e1.1] at h; exact h) (keyE_bytes _)
  have c3 : w11.cell? ⟨f2, 240, none⟩ = some (.int .u8 1) := H11.out.byteAt 8 rfl 240 1 (by have h := formOf_last (k := 16) k240 (by decide) (stM_ok keyE (textE.take 16 ++ [1])); rw [e2.1] at h; exact h) (keyE_bytes _)
  have c4 : w11.cell? ⟨f0, 176, none⟩ = some (.int .u8 251) := H11.out.byteAt 4 rfl 176 0xfb formE176.1 (keyE_bytes _)
  have c5 : w11.cell? ⟨f0, 177, none⟩ = some (.int .u8 238) := H11.out.byteAt 4 rfl 177 0xee formE176.2 (keyE_bytes _)
  clear e1 e2 k240
  have z87 : (barr t87).size = 16 := rfl
  have z1 : (barr t1).size = 16 := rfl
  have E80 : Value.agg #[.int .u8 128, .int .u8 0, .int .u8 0, .int .u8 0, .int .u8 0, .int .u8 0, .int .u8 0, .int .u8 0, .int .u8 0, .int .u8 0, .int .u8 0, .int .u8 0, .int .u8 0, .int .u8 0, .int .u8 0, .int .u8 0] = .agg (barr t80) := rfl
  have E80l : Value.agg #[.int .u8 0, .int .u8 0, .int .u8 0, .int .u8 0, .int .u8 0, .int .u8 0, .int .u8 0, .int .u8 0, .int .u8 0, .int .u8 0, .int .u8 0, .int .u8 0, .int .u8 0, .int .u8 0, .int .u8 0, .int .u8 128] = .agg (barr t80l) := rfl
  have HE := Lib.hid (And.intro E80 E80l)
  clear E80 E80l
  go_upto_region 14 with fail
  clear c1 c2 c3 c4 c5
  go_wp2_with fail
  rw [HE.out.1]
  refine (dbl_any t80 rfl w11).mono ?_
  rintro e w12 ⟨rfl, hb⟩
  rw [dbl80]
  have H12 := Lib.hid (H11.out.below hb)
  clear hb H11
  have hz : ∀ w, (zeroValue 31).run Try.prog w = .ok (.agg (barr zB)) w := by intro w; kernel_rfl
  have HZ := Lib.hid hz
  clear hz
  have hzs : (barr zB).size = 16 := rfl
  have E80l : Value.agg ((barr zB).setIfInBounds 15 (.int .u8 128)) = .agg (barr t80l) := rfl
  generalize hzB : zB = Z at HZ hzs E80l
  have HEL := Lib.hid E80l
  clear E80l
  have hz := HZ.out
  have b4 : Blk (w12.alloc (.cells (barr Z) 31)) w12.heap.size 31 (barr Z) := Blk.new _ _ _
  go_upto_region 15 with ((with_reducible change wpList _ _ _ (Oper.mk _ (Op.store 31 _ _) _ _ _ _ :: _) _ _); refine wpList_store_var w12.heap.size (barr t87) rfl rfl b4 size16 z87 hzs (barr_one _) ?_; intro w13 B4 O4; have H13 := Lib.hid ((H12.out.newK 31 (barr Z)).turnBlk 10 rfl B4 O4); clear B4 O4)
  clear b4 H12
  generalize w12.heap.size = g12 at H13 ⊢
  go_wp2_with fail
  rw [HEL.out]
  refine (dbl_any t80l rfl w13).mono ?_
  rintro e w14 ⟨rfl, hb⟩
  rw [dbl80l]
  have H14 := Lib.hid (H13.out.below hb)
  clear hb H13
  have b4 : Blk (w14.alloc (.cells (barr Z) 31)) w14.heap.size 31 (barr Z) := Blk.new _ _ _
  go_upto_region 16 with ((with_reducible change wpList _ _ _ (Oper.mk _ (Op.store 31 _ _) _ _ _ _ :: _) _ _); refine wpList_store_var w14.heap.size (barr t1) rfl rfl b4 size16 z1 hzs (barr_one _) ?_; intro w15 B4 O4; have H15 := Lib.hid ((H14.out.newK 31 (barr Z)).turnBlk 11 rfl B4 O4); clear B4 O4)
  clear b4 H14 hz
  generalize w14.heap.size = g14 at H15 ⊢
  go_wp2_with fail
  refine (tagM_off (.pointer none) (.slice none 0 0) (.slice none 0 0) [] w15 (Bs.nil _) (by unfold RightLen; decide)).mono ?_
  rintro e w' ⟨rfl, rfl⟩
  go_wp2_with fail
  refine (macAwake_any w15).mono ?_
  rintro e w16 ⟨rfl, hb⟩
  have H16 := Lib.hid (H15.out.below hb)
  clear hb H15
  go_wp2_with fail
  refine (lenP_env' H16.out 0 rfl).mono ?_
  rintro e w' ⟨he, rfl⟩
  have he' : e = .returned (.int .i64 2) := he
  subst he'
  clear he
  go_wp2_with fail
  refine (countP_env H16.out 0 rfl 5 (by decide) (by decide)).mono ?_
  rintro e w17 ⟨he, h5, _⟩
  have he' : e = .returned (.int .i64 2) := he
  subst he'
  have H17 := Lib.hid h5
  clear he h5 H16
  have B1 := H17.out.blk 10 rfl
  have B2 := H17.out.blk 11 rfl
  go_wp2_with (first | ((with_reducible change wpList _ _ _ (Oper.mk (some 122) (Op.load 31 _) _ _ _ _ :: _) _ _); refine wpList_load_gd (ty := 31) g12 rfl rfl B1 Try.underlying31 rfl size16 z87 ?_) | ((with_reducible change wpList _ _ _ (Oper.mk (some 127) (Op.load 31 _) _ _ _ _ :: _) _ _); refine wpList_load_gd (ty := 31) g14 rfl rfl B2 Try.underlying31 rfl size16 z1 ?_) | ((with_reducible change wpList _ _ _ (Oper.mk (some 123) (Op.build 31 _) _ _ _ _ :: _) _ _); refine wpList_value (.agg (barr t87)) rfl (exec_build 31 _ rfl _ bt87) ?_) | ((with_reducible change wpList _ _ _ (Oper.mk (some 128) (Op.build 31 _) _ _ _ _ :: _) _ _); refine wpList_value (.agg (barr t1)) rfl (exec_build 31 _ rfl _ bt1) ?_) | ((with_reducible change wpList _ _ _ (Oper.mk (some 124) (Op.binOp BinOp.eql 31 _ _ _) _ _ _ _ :: _) _ _); refine wpList_eql_arr t87 t87 true rfl rfl rfl guard16 (eqAt16 t87 t87 rfl rfl true (beq_self_eq_true _)) ?_) | ((with_reducible change wpList _ _ _ (Oper.mk (some 129) (Op.binOp BinOp.eql 31 _ _ _) _ _ _ _ :: _) _ _); refine wpList_eql_arr t1 t1 true rfl rfl rfl guard16 (eqAt16 t1 t1 rfl rfl true (beq_self_eq_true _)) ?_))
  go_ret
  exact ⟨rfl, H17.out.base⟩
end Go.Proofs.Ytpampcokonicfaa
/- Opening a list of bytes under the second form's bound. -/
namespace Go.Proofs.Ytpampcokonicfaa
open Go.RowKit Go.ChangeShapes Go.WideShapes Go.ChangeAt
set_option maxRecDepth 100000
theorem bulkB_one {H : Type} (d : DataW H) : 1 ≤ Rows.uptoBulk d := by
  cases d with
  | lit l => cases l <;> simp [Rows.uptoBulk]
  | nil => simp [Rows.uptoBulk]
  | ptr d => simp [Rows.uptoBulk]
  | slice e s => simp [Rows.uptoBulk]
  | agg p => simp [Rows.uptoBulk]
  | iface t d => simp [Rows.uptoBulk]
  | map e => simp [Rows.uptoBulk]
  | held h => simp [Rows.uptoBulk]
theorem bulkB_len {H : Type} : ∀ l : List (DataW H), l.length ≤ Rows.uptoBulkAll l
  | [] => by simp
  | d :: r => by
    have h1 := bulkB_one d
    have h2 := bulkB_len r
    simp only [Rows.uptoBulkAll, List.length_cons]
    omega
theorem bulkB_mem {H : Type} {d : DataW H} : ∀ {l : List (DataW H)}, d ∈ l → Rows.uptoBulk d ≤ Rows.uptoBulkAll l
  | x :: r, h => by
    simp only [Rows.uptoBulkAll]
    rcases List.mem_cons.1 h with rfl | h
    · omega
    · have := bulkB_mem h
      omega
/-- a list of bytes that came in under the second form -/
def InU (W : World) (v : Value) (l : List UInt8) : Prop := Bs W v l ∧ l.length ≤ 1048576
theorem openBytesU {H : Type} {enc : TypeId × Value → H} {W : World} {base : Nat} {v : Value} {d : DataW H} {p : List MemPlace} {ds : List (DataW H)} (hk : Rows.uptoSmall H ds = true) (hd : d ∈ ds)
    (hval : Value.okWide Try.prog W .any base 22 v) (h : DataW.Trod enc Try.prog W 0 (fun _ => true) true 22 v d p) : ∃ l : List UInt8, InU W v l := by
  obtain ⟨l, hl, hh⟩ := open_bytes_sized Try.underlying22 Try.underlying5 cellsU8 hval h
  refine ⟨l, hl, ?_⟩
  rcases hh with rfl | ⟨es, sp, rfl, hlen⟩
  · simp
  · have h1 : Rows.uptoBulkAll ds ≤ 1048576 := of_decide_eq_true hk
    have h2 := bulkB_mem hd
    have h3 := bulkB_len es
    simp only [Rows.uptoBulk] at h2
    omega
end Go.Proofs.Ytpampcokonicfaa
/- The walk of CmacClones. Condition: the lists have at most 2^20 bytes (the second form). -/
namespace Go.Proofs.Ytpampcokonicfaa
open Go.RowKit
set_option maxRecDepth 100000
set_option linter.unusedVariables false
set_option linter.unusedSimpArgs false
section
variable {w0 w : World} {obs : List Ob}
theorem cloneK_env (h : Env w0 w obs) (i j : Nat) {b c : Nat} {key p : List UInt8} (hk : RightLen key.length) (hi : obs[i]? = some (mcC c key)) (hj : obs[j]? = some (mcB b c (stM key p).1)) :
    Calls Try.prog 30 #[.pointer (some ⟨b, 0, none⟩)] w fun e w' => ∃ b2 c2 : Nat, e = .returned (.tuple #[.pointer (some ⟨b2, 0, none⟩), .int .i64 0]) ∧ Env w0 w' (obs ++ [mcB b2 c2 (stM key p).1, mcC c2 key]) :=
  cloneM_env h i j hi hj (stM_ok key p) hk.bd.1
end
set_option maxHeartbeats 8000000 in
theorem cmacClones_walk (vk vp vq vr : Value) (k p q r : List UInt8) (w : World) (hk : InU w vk k) (hp : InU w vp p) (hq : InU w vq q) (hr : InU w vr r) :
    Calls Try.prog 6 #[vk, vp, vq, vr] w fun e w' => e = .returned (.bool true) ∧ Below w.heap.size w w' := by
  have HK := Lib.hid hk.1
  have HP := Lib.hid hp
  have HQ := Lib.hid hq
  have HR := Lib.hid hr
  obtain ⟨ao, cap, rfl, _⟩ := hk.1.form
  obtain ⟨ap, capp, rfl, _⟩ := hp.1.form
  obtain ⟨aq, capq, rfl, _⟩ := hq.1.form
  obtain ⟨ar, capr, rfl, _⟩ := hr.1.form
  clear hk hp hq hr
  go_enter Try.func6, Try.ntmps6
  go_wp2_with fail
  refine (macAwake_any w).mono ?_
  rintro e w1 ⟨rfl, hb⟩
  have h5 := (Env.start w).below hb
  clear hb
  have H1 := Lib.hid h5
  clear h5
  go_wp2_with fail
  refine (newM_both H1.out (Src.old H1.out _ HK.out)).mono ?_
  rintro e w2 (⟨hR, b, c, rfl, h5⟩ | ⟨hR, rfl, h5⟩)
  · have H2 : Hid (Env w w2 [mcC c k, mcB b c (stM k []).1]) := Lib.hid h5
    have HRL := Lib.hid hR
    clear h5 hR H1
    go_wp2_with fail
    refine (writeK_nil H2.out 0 1 (by decide) HRL.out rfl rfl (fun wx obs' he _ => he.old HP.out.1)).mono ?_
    rintro e w3 ⟨rfl, h5⟩
    have H3 : Hid (Env w w3 [mcC c k, mcB b c (stM k p).1]) := Lib.hid h5
    clear h5 H2
    go_wp2_with fail
    refine (cloneK_env H3.out 0 1 HRL.out rfl rfl).mono ?_
    rintro e w4 ⟨b2, c2, rfl, h5⟩
    have H4 : Hid (Env w w4 [mcC c k, mcB b c (stM k p).1, mcB b2 c2 (stM k p).1, mcC c2 k]) := Lib.hid h5
    clear h5 H3
    go_wp2_with fail
    refine (formK_env H4.out 3 2 HRL.out rfl rfl).mono ?_
    rintro e w5 ⟨f1, n1, rfl, h5⟩
    have H5 := Lib.hid h5
    clear h5 H4
    go_wp2_with fail
    refine (formK_env H5.out 0 1 HRL.out rfl rfl).mono ?_
    rintro e w6 ⟨f2, n2, rfl, h5⟩
    have H6 := Lib.hid h5
    clear h5 H5
    go_wp2_with fail
    refine (sameBytes_env H6.out (H6.out.bytes 4 rfl).rd (H6.out.bytes 5 rfl).rd).mono ?_
    rintro e w7 ⟨he, h5⟩
    rw [decide_eq_true rfl] at he
    subst he
    have H7 : Hid (Env w w7 [mcC c k, mcB b c (stM k p).1, mcB b2 c2 (stM k p).1, mcC c2 k]) := Lib.hid (Env.drop (obs := [_, _, _, _]) (Env.drop (obs := [_, _, _, _, _]) h5))
    clear h5 H6
    go_wp2_with fail
    refine (writeK_nil H7.out 0 1 (by decide) HRL.out rfl rfl (fun wx obs' he _ => he.old HQ.out.1)).mono ?_
    rintro e w8 ⟨rfl, h5⟩
    have H8 : Hid (Env w w8 [mcC c k, mcB b c (stM k (p ++ q)).1, mcB b2 c2 (stM k p).1, mcC c2 k]) := Lib.hid h5
    clear h5 H7
    go_wp2_with fail
    refine (writeK_nil H8.out 3 2 (by decide) HRL.out rfl rfl (fun wx obs' he _ => he.old HR.out.1)).mono ?_
    rintro e w9 ⟨rfl, h5⟩
    have H9 : Hid (Env w w9 [mcC c k, mcB b c (stM k (p ++ q)).1, mcB b2 c2 (stM k (p ++ r)).1, mcC c2 k]) := Lib.hid h5
    clear h5 H8
    go_wp2_with fail
    refine (copy_env H9.out (H9.out.old HP.out.1) (by have := HP.out.2; omega)).mono ?_
    rintro e w10 ⟨v1, rfl, h5⟩
    have H10 : Hid (Env w w10 [mcC c k, mcB b c (stM k (p ++ q)).1, mcB b2 c2 (stM k (p ++ r)).1, mcC c2 k, obB v1 p]) := Lib.hid h5
    clear h5 H9
    go_wp2_with (at_builtin; refine wpList_append_env H10.out 4 rfl (.tmp 74) (.tmp 75) rfl rfl rfl rfl (H10.out.old HQ.out.1) (by have := HP.out.2; have := HQ.out.2; omega) ?_; intro v2 w11 h5; have H11 : Hid (Env w w11 [mcC c k, mcB b c (stM k (p ++ q)).1, mcB b2 c2 (stM k (p ++ r)).1, mcC c2 k, obB v2 (p ++ q)]) := Lib.hid h5; clear h5)
    clear H10
    refine (tagK_nil H11.out HRL.out (Src.old H11.out _ HK.out) (u := v2) (p := p ++ q) (fun wx obs' he hx => (he.bytes 4 (hx 4 _ rfl)).rd)).mono ?_
    rintro e w12 ⟨g1, rfl, h5⟩
    have H12 : Hid (Env w w12 [mcC c k, mcB b c (stM k (p ++ q)).1, mcB b2 c2 (stM k (p ++ r)).1, mcC c2 k, obB v2 (p ++ q), mcT g1 (tagK k (p ++ q))]) := Lib.hid h5
    clear h5 H11
    go_wp2_with fail
    refine (copy_env H12.out (H12.out.old HP.out.1) (by have := HP.out.2; omega)).mono ?_
    rintro e w13 ⟨v3, rfl, h5⟩
    have H13 : Hid (Env w w13 [mcC c k, mcB b c (stM k (p ++ q)).1, mcB b2 c2 (stM k (p ++ r)).1, mcC c2 k, obB v2 (p ++ q), mcT g1 (tagK k (p ++ q)), obB v3 p]) := Lib.hid h5
    clear h5 H12
    go_wp2_with (at_builtin; refine wpList_append_env H13.out 6 rfl (.tmp 83) (.tmp 84) rfl rfl rfl rfl (H13.out.old HR.out.1) (by have := HP.out.2; have := HR.out.2; omega) ?_; intro v4 w14 h5; have H14 : Hid (Env w w14 [mcC c k, mcB b c (stM k (p ++ q)).1, mcB b2 c2 (stM k (p ++ r)).1, mcC c2 k, obB v2 (p ++ q), mcT g1 (tagK k (p ++ q)), obB v4 (p ++ r)]) := Lib.hid h5; clear h5)
    clear H13
    refine (tagK_nil H14.out HRL.out (Src.old H14.out _ HK.out) (u := v4) (p := p ++ r) (fun wx obs' he hx => (he.bytes 6 (hx 6 _ rfl)).rd)).mono ?_
    rintro e w15 ⟨g2, rfl, h5⟩
    have H15 : Hid (Env w w15 [mcC c k, mcB b c (stM k (p ++ q)).1, mcB b2 c2 (stM k (p ++ r)).1, mcC c2 k, obB v2 (p ++ q), mcT g1 (tagK k (p ++ q)), obB v4 (p ++ r), mcT g2 (tagK k (p ++ r))]) := Lib.hid h5
    clear h5 H14
    go_wp2_with fail
    refine (sumK_nil H15.out 0 1 (by decide) HRL.out rfl rfl).mono ?_
    rintro e w16 ⟨g3, rfl, h5⟩
    have H16 : Hid (Env w w16 [mcC c k, mcB b c (stM k (p ++ q)).1, mcB b2 c2 (stM k (p ++ r)).1, mcC c2 k, obB v2 (p ++ q), mcT g1 (tagK k (p ++ q)), obB v4 (p ++ r), mcT g2 (tagK k (p ++ r)), mcT g3 (tagK k (p ++ q))]) := Lib.hid h5
    clear h5 H15
    go_wp2_with fail
    refine (sameBytes_env H16.out (H16.out.tagB 8 (tagK_len _ _) rfl) (H16.out.tagB 5 (tagK_len _ _) rfl)).mono ?_
    rintro e w17 ⟨he, h5⟩
    rw [decide_eq_true rfl] at he
    subst he
    have H17 := Lib.hid h5
    clear h5 H16
    go_wp2_with fail
    refine (wipeK_nil H17.out 0 1 (by decide) HRL.out rfl rfl).mono ?_
    rintro e w18 ⟨rfl, h5⟩
    have H18 := Lib.hid h5
    clear h5 H17
    go_wp2_with fail
    refine (sumK_nil H18.out 3 2 (by decide) HRL.out rfl rfl).mono ?_
    rintro e w19 ⟨g4, rfl, h5⟩
    have H19 := Lib.hid h5
    clear h5 H18
    go_wp2_with fail
    refine (sameBytes_env H19.out (H19.out.tagB 9 (tagK_len k (p ++ r)) rfl) (H19.out.tagB 7 (tagK_len k (p ++ r)) rfl)).mono ?_
    rintro e w20 ⟨he, h5⟩
    rw [decide_eq_true rfl] at he
    subst he
    have H20 := Lib.hid h5
    clear h5 H19
    go_wp2
    go_ret
    exact ⟨rfl, H20.out.base⟩
  · have H2 := Lib.hid h5
    clear h5 hR H1
    go_wp2
    go_ret
    exact ⟨rfl, H2.out.base⟩
theorem cmacClones.walk {w : World} (v0 : Value) (a0 : List UInt8) (h0 : InU w v0 a0) (v1 : Value) (a1 : List UInt8) (h1 : InU w v1 a1) (v2 : Value) (a2 : List UInt8) (h2 : InU w v2 a2) (v3 : Value) (a3 : List UInt8) (h3 : InU w v3 a3) :
    Calls Try.prog 6 #[v0, v1, v2, v3] w fun e w' => e = .returned (.bool true) ∧ Below w.heap.size w w' := cmacClones_walk v0 v1 v2 v3 a0 a1 a2 a3 w h0 h1 h2 h3
end Go.Proofs.Ytpampcokonicfaa
namespace Go.Proofs.Ytpampcokonicfaa.cmacClones
open Go.ChangeShapes Go.WideShapes Go.ChangeAt Go.RowKit
set_option linter.unusedVariables false

set_option maxRecDepth 100000 in
theorem lifted (os : Os) (started : os.Started) (H : Type) (enc : TypeId × Value → H) (F : Stop.Interp) :
    ReturnsInHanded {} Try.checked os 6 .any ((Rows.OpenSpec.upto Rows.cmacClonesSpec).pre6 enc Try.prog Try.f6 Rows.cmacClonesUptoRow.domain false) (((Rows.OpenSpec.upto Rows.cmacClonesSpec).at F).post enc Try.prog Try.f6 false true false false) := by
  refine returnsInHanded_of_cond (C := Try.checked) (s := (Rows.OpenSpec.upto Rows.cmacClonesSpec)) (k := Rows.uptoSmall) rfl own started (by kernel_rfl) Try.func6
    (OpenSpec.witness (enc := enc) (C := Try.checked) (s := (Rows.OpenSpec.upto Rows.cmacClonesSpec)) (k := Rows.uptoSmall) rfl false ⟨#[], #[.slice none 0 0, .slice none 0 0, .slice none 0 0, .slice none 0 0], []⟩ 8 (by kernel_rfl) (by kernel_rfl) (by kernel_rfl)
      (x := ([.nil, .nil, .nil, .nil], [], [])) (by kernel_rfl) rfl (by kernel_rfl)) ?_
  intro W base args ds gs before hval0 hW _ hk _
  have hval : ∀ (j : Nat) t v, Try.f6.params[j]? = some t → args[j]? = some v → Value.okWide Try.prog W .any base t v := hval0
  have hW' := hW
  obtain ⟨p, q, hA0, hV, rfl, hfz, hnd⟩ := hW
  have hA : DataW.TrodAll enc Try.prog W 0 (fun _ => true) true Try.f6.params.toList args.toList ds p := hA0
  rw [Try.params6] at hA hval
  obtain ⟨v0, vs0, d0, ds0, p0, q0, hargs, rfl, rfl, h0, r0⟩ := trodAll_cons hA
  obtain ⟨v1, vs1, d1, ds1, p1, q1, rfl, rfl, rfl, h1, r1⟩ := trodAll_cons r0
  obtain ⟨v2, vs2, d2, ds2, p2, q2, rfl, rfl, rfl, h2, r2⟩ := trodAll_cons r1
  obtain ⟨v3, vs3, d3, ds3, p3, q3, rfl, rfl, rfl, h3, r3⟩ := trodAll_cons r2
  obtain ⟨rfl, rfl, rfl⟩ := trodAll_nil r3
  obtain rfl : args = #[v0, v1, v2, v3] := by cases args; simp_all
  obtain ⟨rfl, rfl⟩ := trodVars_none hV
  obtain ⟨a0, e0⟩ := openBytesU hk (by simp) (hval 0 22 v0 rfl rfl) h0
  obtain ⟨a1, e1⟩ := openBytesU hk (by simp) (hval 1 22 v1 rfl rfl) h1
  obtain ⟨a2, e2⟩ := openBytesU hk (by simp) (hval 2 22 v2 rfl rfl) h2
  obtain ⟨a3, e3⟩ := openBytesU hk (by simp) (hval 3 22 v3 rfl rfl) h3
  clear hA0 hval0
  simp only [List.append_nil] at hW'
  refine (walk v0 a0 e0 v1 a1 e1 v2 a2 e2 v3 a3 e3).mono fun e W' ⟨he, hg⟩ => ?_
  subst he
  exact ⟨_, rfl, law_post laidOut (by kernel_rfl) rfl rfl Try.underlying4 hW' hg rfl rfl rfl⟩

theorem over : Rows.cmacClonesUptoRow.holds Try.pinned (Rows.OpenSpec.upto Rows.cmacClonesSpec) :=
  OpenClaim.holds_of_cond 6 Try.f6 rfl rfl rfl rfl rfl rfl rfl ⟨rfl, rfl, rfl, rfl, rfl⟩ rfl rfl rfl rfl rfl (by kernel_rfl) Try.func6 (by kernel_rfl)
    (of_decide_eq_true (by kernel_rfl)) (by unfold Func.isWrapper; rw [if_neg (of_decide_eq_false (by kernel_rfl))]; exact ⟨rfl, rfl⟩)
    (fun os started H enc _ F => lifted os started H enc F)

theorem proved : Rows.CmacClonesUptoSaid := over
end Go.Proofs.Ytpampcokonicfaa.cmacClones
