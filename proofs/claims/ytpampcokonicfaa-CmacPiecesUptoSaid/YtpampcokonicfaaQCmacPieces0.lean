/- The statement CmacPieces: for every input turnkey/turnkeylaw13.CmacPieces returns true, and each argument reads as it did. Its walk is proved in MacPieces; here is the step from the walk to the row. -/
import Derived.Test.YtpampcokonicfaaRows
import Derived.Deep.DeepCutAuto
import Derived.JoinedCond
import Derived.Test.YtpampcokonicfaaQB1
import Derived.Test.YtpampcokonicfaaQB2
import Derived.Test.YtpampcokonicfaaQB3
import Derived.Test.YtpampcokonicfaaQB5
/- A whole block is read under a guard. No program in sight. -/
namespace Go.Proofs.Ytpampcokonicfaa
open Go.RowKit
section
variable {P : Program} {ops : Array Oper} {rest : List Oper} {a : Act} {w : World} {Q : Exit → Act → World → Prop} {d : Option Tmp} {ot : TypeId} {x : Operand} {pos : String} {aft : Array Edge} {gd : Option (Nat × Bool)}
theorem wpList_load_gd {ty : TypeId} (g : Nat) (hw : Region.wanted ⟨d, .load ty x, ot, pos, aft, gd⟩ (yielded ops a.tmps) = true) (hx : a.eval x = .pointer (some ⟨g, 0, none⟩)) {t : TypeId} {cs : Array Value} {de : TypeDesc} {n : Nat} (hg : Blk w g t cs)
    (hu : P.underlying ty = some de) (hd : (match de with | .struct _ | .array _ _ => true | _ => false) = true) (hi : (P.info? ty).map (·.size) = some n) (hn : cs.size = n)
    (h : wpList P ops Q rest (a.put d (.agg cs)) w) : wpList P ops Q (⟨d, .load ty x, ot, pos, aft, gd⟩ :: rest) a w := by
  refine wpList_value (.agg cs) hw ?_ h
  simp only [execOp, hx, Instr.loadAt, Instr.sureAddr, Sem.run_bind, Sem.run_pure, Result.andThen_ok, run_loadVar_row w g t ty cs (0, 0) de hg hu hd (by rw [hi, hn])]
end
end Go.Proofs.Ytpampcokonicfaa
/- The contract of Ledger.Count. Condition: the ledger's events are fewer than 2^63. -/
namespace Go.Proofs.Ytpampcokonicfaa
open Go.RowKit
set_option maxRecDepth 100000
set_option linter.unusedVariables false

/-- how many events of the first j runs have the kind k -/
def cntTo (rs : List Rn) (k : Int) : Nat → Int
  | 0 => 0
  | j + 1 => cntTo rs k j + if (rs.getD j ⟨0, 0, 0⟩).k = k then (rs.getD j ⟨0, 0, 0⟩).c else 0
def cnt (rs : List Rn) (k : Int) : Int := cntTo rs k rs.length
theorem cntTo_bound (rs : List Rn) (k : Int) (h : Posi rs) : ∀ j, j ≤ rs.length → 0 ≤ cntTo rs k j ∧ cntTo rs k j ≤ tot (rs.take j)
  | 0, _ => by simp [cntTo, tot]
  | j + 1, hj => by
    obtain ⟨h1, h2⟩ := cntTo_bound rs k h j (by omega)
    have hg : rs.getD j ⟨0, 0, 0⟩ = rs[j] := by rw [List.getD_eq_getElem?_getD, List.getElem?_eq_getElem (by omega)]; rfl
    have hp := h rs[j] (List.getElem_mem _)
    rw [cntTo, hg, List.take_add_one, List.getElem?_eq_getElem (by omega), tot_append]
    simp only [Option.toList_some, tot_one]
    split <;> omega
theorem tot_take (rs : List Rn) (h : Posi rs) (j : Nat) : tot (rs.take j) ≤ tot rs := by
  have h1 := List.take_append_drop j rs
  have h2 : tot rs = tot (rs.take j) + tot (rs.drop j) := by rw [← tot_append, h1]
  have h3 := tot_nonneg (rs.drop j) (fun r hr => h r (List.mem_of_mem_drop hr))
  omega
set_option maxHeartbeats 1000000 in
theorem countP_any (b : Nat) (v : Value) (rs : List Rn) (k : Int) (w : World) (h : LedP w b v rs) (hl : rs.length ≤ 1099511627776) (ht : tot rs < 9223372036854775808) :
    Calls Try.prog 29 #[.pointer (some ⟨b, 0, none⟩), .int .u8 k] w fun e w' => e = .returned (.int .i64 (cnt rs k)) ∧ Below w.heap.size w w' := by
  have HP := Lib.hid h.posi
  have H := Lib.hid h
  clear h
  go_enter Try.func29, Try.ntmps29
  go_wp2_with fail
  refine (runsP_any b v rs _ H.out hl).mono ?_
  rintro e w1 ⟨v1, rfl, h1, h2, h3⟩
  have HB := Lib.hid h2
  have HR := Lib.hid h1
  obtain ⟨ao, cap, rfl⟩ := h1.any
  clear h1 h2 h3
  go_wp2_with fail
  go_loopw [5, 11] (fun n i w2 => ∃ j : Nat, j ≤ rs.length ∧ i = .int .i64 (j : Int) ∧ n = .int .i64 (cntTo rs k j) ∧ Below w1.heap.size w1 w2) (fun _ i _ => rs.length - (intOf i).toNat)
  case atStart => exact ⟨0, Nat.zero_le _, rfl, rfl, Below.refl _ _⟩
  case round =>
    obtain ⟨j, hj, rfl, rfl, hb⟩ := hrel
    by_cases hlt : j < rs.length
    · obtain ⟨r, hr⟩ : ∃ r, rs[j]? = some r := ⟨_, List.getElem?_eq_getElem hlt⟩
      obtain ⟨g, off, rfl, d1, d2, d3⟩ := RunsRd.cells HR.out.rd j r hr
      have hgl : g < w1.heap.size := World.block_lt_of_cell? w1 _ d1
      have c1 := (hb.cell hgl).trans d1
      have c2 := (hb.cell hgl).trans d2
      have c3 := (hb.cell hgl).trans d3
      have HBB := Lib.hid hb
      have hgr : g < wr.heap.size := Nat.lt_of_lt_of_le hgl hb.size
      obtain ⟨q1, q2⟩ := cntTo_bound rs k HP.out j hj
      obtain ⟨q3, q4⟩ := cntTo_bound rs k HP.out (j + 1) hlt
      have q5 := tot_take rs HP.out (j + 1)
      have q6 := tot_take rs HP.out j
      have HE : Hid (cntTo rs k (j + 1) = cntTo rs k j + if r.k = k then r.c else 0) := by
        rw [cntTo, show rs.getD j ⟨0, 0, 0⟩ = r from by rw [List.getD_eq_getElem?_getD, hr]; rfl]
        exact Lib.hid rfl
      have HRJ := Lib.hid hr
      clear hr hb d1 d2 d3
      have HQ : Hid (0 ≤ cntTo rs k j ∧ cntTo rs k j ≤ tot rs ∧ 0 ≤ cntTo rs k (j + 1) ∧ cntTo rs k (j + 1) ≤ tot rs) := Lib.hid ⟨q1, by omega, q3, by omega⟩
      clear q1 q2 q3 q4 q5 q6
      have HPC := Lib.hid (HP.out r (List.mem_of_getElem? HRJ.out))
      clear HRJ
      by_cases hk : r.k = k
      · have HE2 : Hid (cntTo rs k (j + 1) = cntTo rs k j + r.c) := by
          have h := HE.out
          rw [if_pos hk] at h
          exact Lib.hid h
        have z1 := HQ.out.1
        have z2 : cntTo rs k j + r.c < 9223372036854775808 := by rw [← HE2.out]; have := HQ.out.2.2.2; omega
        have z3 := HPC.out
        have hb1 : (r.k == k) = true := by rw [hk]; simp
        generalize cntTo rs k j = x at z1 z2 HE HE2 HQ
        clear HE
        go_wp2_with fail
        go_roundw
        case rel => exact ⟨j + 1, by omega, by go_num, by rw [HE2.out], (HBB.out.alloc HBB.out.size _)⟩
        case measure => simp [intOf]; omega
      · have HE2 : Hid (cntTo rs k (j + 1) = cntTo rs k j) := by
          have h := HE.out
          rw [if_neg hk, Int.add_zero] at h
          exact Lib.hid h
        have hb1 : (r.k == k) = false := by simpa using hk
        generalize cntTo rs k j = x at HE HE2 HQ
        clear HE
        go_wp2_with fail
        go_roundw
        case rel => exact ⟨j + 1, by omega, by go_num, by rw [HE2.out], (HBB.out.alloc HBB.out.size _)⟩
        case measure => simp [intOf]; omega
    · obtain rfl : j = rs.length := by omega
      have HBB := Lib.hid hb
      clear hb
      go_wp2
      go_ret
      exact ⟨rfl, HB.out.trans (HBB.out.mono HB.out.size)⟩
theorem countP_env {w0 w : World} {obs : List Ob} (h : Env w0 w obs) (i : Nat) {p : Value} {rs : List Rn} (hi : obs[i]? = some (obP p (some rs))) (k : Int) (hl : rs.length ≤ 1099511627776) (ht : tot rs < 9223372036854775808) :
    Calls Try.prog 29 #[p, .int .u8 k] w fun e w' => e = .returned (.int .i64 (cnt rs k)) ∧ Env w0 w' obs ∧ Below w.heap.size w w' := by
  obtain ⟨F, f1, _⟩ := h.lgP i hi
  obtain ⟨b, v, rfl, rfl, f2⟩ := f1
  exact (countP_any b v rs k w f2 hl ht).mono fun e w' ⟨he, h1⟩ => ⟨he, h.below h1, h1⟩
end Go.Proofs.Ytpampcokonicfaa
/- The walk of CmacKnown: a closed statement. -/
namespace Go.Proofs.Ytpampcokonicfaa
open Go.RowKit
set_option maxRecDepth 100000
set_option linter.unusedVariables false
set_option linter.unusedSimpArgs false
theorem guard16 : Try.prog.eqGuardType Try.prog.depth 31 = false := by kernel_rfl
theorem eqAt16 (l m : List UInt8) (hl : l.length = 16) (hm : m.length = 16) (b : Bool) (hb : (l == m) = b) (w : World) : (Op.equalIn 10000 31 (.agg (barr l)) (.agg (barr m))).run Try.prog w = .ok b w := by
  rw [run_eql_bytes Try.underlying31 (by kernel_rfl : Try.prog.info? 5 = some ((Try.prog.info? 5).getD default)) (by kernel_rfl) Try.underlying5 (by kernel_rfl) l m hl hm w, hb]
section
variable {w0 w : World} {obs : List Ob}
/-- the form of a Mac of any right key -/
theorem formK_env (h : Env w0 w obs) (i j : Nat) {b c : Nat} {key p : List UInt8} (hk : RightLen key.length) (hi : obs[i]? = some (mcC c key)) (hj : obs[j]? = some (mcB b c (stM key p).1)) :
    Calls Try.prog 16 #[.pointer (some ⟨b, 0, none⟩)] w fun e w' => ∃ g cap : Nat, e = .returned (.slice (some ⟨g, 0, none⟩) (16 * (key.length / 4 + 6 + 1) + 65 : Nat) cap) ∧ Env w0 w' (obs ++ [obB (.slice (some ⟨g, 0, none⟩) (16 * (key.length / 4 + 6 + 1) + 65 : Nat) cap) (formOf (sched key) key.length (stM key p).1)]) := by
  have hl : (formOf (sched key) key.length (stM key p).1).length = 16 * (key.length / 4 + 6 + 1) + 65 := formOf_len (sched_len key (by have := hk.bd; omega)) hk.bd.2.1 (stM_ok key p)
  refine (formM_env h i j hi hj (stM_ok key p) hk.bd.1 hk.bd.2.1 (sched_len key (by have := hk.bd; omega))).mono fun e w' ⟨v, he, h1⟩ => ?_
  obtain ⟨g, cap, hv⟩ := (h1.bytes obs.length at_end).form (by omega)
  rw [hl] at hv
  subst hv
  exact ⟨g, cap, he, h1⟩
/-- a byte of a row -/
theorem Env.byteAt (h : Env w0 w obs) (i : Nat) {g n cap : Nat} {F : List UInt8} (hi : obs[i]? = some (obB (.slice (some ⟨g, 0, none⟩) n cap) F)) (j : Nat) (x : UInt8) (hj : F[j]? = some x) (hn : F.length = n) : w.cell? ⟨g, j, none⟩ = some (.int .u8 (x.toNat : Int)) := by
  subst hn
  have hown := h.bytes i hi
  unfold OB at hown
  have hlt := (List.getElem?_eq_some_iff.1 hj).1
  rw [hown.cellAt j (by omega), List.getElem?_map, hj]
  rfl
end
/-- the last byte of a form: how many bytes wait -/
theorem formOf_last {K : List UInt8} {k : Nat} {m : MacS} (hK : K.length = 240) (hk : k ≤ 32) (hm : m.Ok) : (formOf K k m)[16 * (k / 4 + 6 + 1) + 64]? = some (UInt8.ofNat m.n) := by
  have hl := formOf_len hK hk hm
  have ha := MacS.all_len hm
  unfold formOf MacS.tail at hl ⊢
  rw [List.getElem?_append_right (by rw [List.length_take]; omega), List.length_take, List.getElem?_append_right (by omega)]
  rw [show 16 * (k / 4 + 6 + 1) + 64 - min (16 * (k / 4 + 6 + 1)) K.length - m.all.length = 0 from by omega]
  rfl
theorem stM_at (key p : List UInt8) (h : p ≠ []) : (stM key p).1.n = (p.length - 1) % 16 + 1 ∧ (stM key p).2 = (p.length - 1) / 16 := by
  obtain ⟨h1, h2, h3⟩ := stM_count key p
  have h4 := h2 h
  have : p.length ≠ 0 := fun h0 => h (List.length_eq_zero_iff.1 h0)
  omega
theorem notedN_one (k e : Nat) : notedN (some []) k (e + 1) = some [⟨5, k, ((e + 1 : Nat) : Int)⟩] := by
  induction e with
  | zero => rfl
  | succ e ih =>
    show noteO (notedN (some []) k (e + 1)) 5 k 1 = _
    rw [ih]
    show some (noteL ([] ++ [⟨5, k, ((e + 1 : Nat) : Int)⟩]) 5 k 1) = _
    have h := noteL_same [] (⟨5, (k : Int), ((e + 1 : Nat) : Int)⟩ : Rn) 1
    rw [show noteL ([] ++ [⟨5, (k : Int), ((e + 1 : Nat) : Int)⟩]) 5 k 1 = _ from h]
    simp
theorem RoomN.empty (k n : Nat) (hn : n ≤ 1000000000000000) : RoomN (some []) k n := fun e he => by
  cases e with
  | zero => exact Room.some (by simp [tot]) (by simp)
  | succ e =>
    rw [notedN_one]
    exact Room.some (by simp [tot]; omega) (by simp)
def t80 : List UInt8 := [0x80, 0, 0, 0, 0, 0, 0, 0, 0, 0, 0, 0, 0, 0, 0, 0]
def t80l : List UInt8 := [0, 0, 0, 0, 0, 0, 0, 0, 0, 0, 0, 0, 0, 0, 0, 0x80]
def t87 : List UInt8 := [0, 0, 0, 0, 0, 0, 0, 0, 0, 0, 0, 0, 0, 0, 0, 0x87]
def t1 : List UInt8 := [0, 0, 0, 0, 0, 0, 0, 0, 0, 0, 0, 0, 0, 0, 1, 0]
theorem dbl80 : dbl t80 = t87 := by decide +kernel
theorem dbl80l : dbl t80l = t1 := by decide +kernel
theorem bt80 : Try.prog.built 31 [(0, .int .u8 128)] = some (barr t80) := by kernel_rfl
theorem bt80l : Try.prog.built 31 [(15, .int .u8 128)] = some (barr t80l) := by kernel_rfl
theorem bt87 : Try.prog.built 31 [(15, .int .u8 135)] = some (barr t87) := by kernel_rfl
theorem bt1 : Try.prog.built 31 [(14, .int .u8 1)] = some (barr t1) := by kernel_rfl
theorem keyE_bytes (p : List UInt8) : (formOf (sched keyE) 16 (stM keyE p).1).length = 241 := formOf_len (K := sched keyE) (k := 16) (sched_len keyE (by decide)) (by decide) (stM_ok keyE p)
theorem formE176 : (formOf (sched keyE) 16 (stM keyE []).1)[176]? = some 0xfb ∧ (formOf (sched keyE) 16 (stM keyE []).1)[177]? = some 0xee := by
  have h := formE
  have hl := keyE_bytes []
  rw [List.getD_eq_getElem?_getD, List.getD_eq_getElem?_getD, List.getElem?_eq_getElem (by omega), List.getElem?_eq_getElem (by omega)] at h
  exact ⟨by rw [List.getElem?_eq_getElem (by omega)]; exact congrArg some h.1, by rw [List.getElem?_eq_getElem (by omega)]; exact congrArg some h.2⟩
set_option maxHeartbeats 8000000 in
theorem cmacKnown.walk (w : World) : Calls Try.prog 5 #[] w fun e w' => e = .returned (.bool true) ∧ Below w.heap.size w w' := by
  have H0 := Lib.hid (Env.start w)
  go_enter Try.func5, Try.ntmps5
  go_wp2_with fail
  refine (newP_env' H0.out).mono ?_
  rintro e w1 ⟨l, rfl, h5⟩
  have H1 := Lib.hid h5
  clear h5 H0
  go_wp2_with fail
  refine (keyE_env H1.out).mono ?_
  rintro e w2 ⟨g0, rfl, h5⟩
  have H2 : Hid (Env w w2 [obP l (some []), obB (.slice (some ⟨g0, 0, none⟩) 16 16) keyE]) := Lib.hid h5
  clear h5 H1
  go_wp2_with fail
  refine (newM_nil H2.out (key := keyE) (Src.whole H2.out _ 1 (by simp) rfl) (.inl rfl)).mono ?_
  rintro e w3 ⟨b, c, rfl, h5⟩
  have H3 : Hid (Env w w3 [obP l (some []), obB (.slice (some ⟨g0, 0, none⟩) 16 16) keyE, mcC c keyE, mcB b c (stM keyE []).1]) := Lib.hid h5
  clear h5 H2
  go_wp2_with fail
  refine (formK_env H3.out 2 3 (.inl rfl) rfl rfl).mono ?_
  rintro e w4 ⟨f0, n0, rfl, h5⟩
  have H4 : Hid (Env w w4 [obP l (some []), obB (.slice (some ⟨g0, 0, none⟩) 16 16) keyE, mcC c keyE, mcB b c (stM keyE []).1, obB (.slice (some ⟨f0, 0, none⟩) 241 n0) (formOf (sched keyE) 16 (stM keyE []).1)]) := Lib.hid h5
  clear h5 H3
  go_wp2_with fail
  refine (textE_env H4.out).mono ?_
  rintro e w5 ⟨g2, rfl, h5⟩
  have H5 : Hid (Env w w5 [obP l (some []), obB (.slice (some ⟨g0, 0, none⟩) 16 16) keyE, mcC c keyE, mcB b c (stM keyE []).1, obB (.slice (some ⟨f0, 0, none⟩) 241 n0) (formOf (sched keyE) 16 (stM keyE []).1), obB (.slice (some ⟨g2, 0, none⟩) 40 40) textE]) := Lib.hid h5
  clear h5 H4
  go_wp2_with fail
  refine (writeK_env H5.out 2 3 0 (by decide) (by decide) (by decide) (key := keyE) (p0 := []) (q := l) (o := some []) (.inl rfl) rfl rfl rfl (u := _) (p := textE.take 16) (fun wx obs' he hx => (he.bytes 5 (hx 5 _ (by decide) (by decide) rfl)).rd.take 16 (by decide)) ?_).mono ?_
  · exact RoomN.empty 16 16 (by decide)
  rintro e w6 ⟨rfl, h5⟩
  have e1 : (stM keyE (textE.take 16)).1.n = 16 ∧ (stM keyE (textE.take 16)).2 = 0 := stM_at keyE (textE.take 16) (by decide)
  have e2 : (stM keyE (textE.take 16 ++ [1])).1.n = 1 ∧ (stM keyE (textE.take 16 ++ [1])).2 = 1 := stM_at keyE (textE.take 16 ++ [1]) (by decide)
  have hs : [] ++ textE.take 16 = textE.take 16 := rfl
  rw [hs, e1.2, show (stM keyE []).2 = 0 from rfl] at h5
  have H6 : Hid (Env w w6 [obP l (some []), obB (.slice (some ⟨g0, 0, none⟩) 16 16) keyE, mcC c keyE, mcB b c (stM keyE (textE.take 16)).1, obB (.slice (some ⟨f0, 0, none⟩) 241 n0) (formOf (sched keyE) 16 (stM keyE []).1), obB (.slice (some ⟨g2, 0, none⟩) 40 40) textE]) := Lib.hid h5
  clear h5 H5 hs
  go_wp2_with fail
  refine (lenP_env' H6.out 0 rfl).mono ?_
  rintro e w' ⟨he, rfl⟩
  have he' : e = .returned (.int .i64 0) := he
  subst he'
  clear he
  go_wp2_with fail
  refine (formK_env H6.out 2 3 (.inl rfl) rfl rfl).mono ?_
  rintro e w7 ⟨f1, n1, rfl, h5⟩
  have H7 : Hid (Env w w7 [obP l (some []), obB (.slice (some ⟨g0, 0, none⟩) 16 16) keyE, mcC c keyE, mcB b c (stM keyE (textE.take 16)).1, obB (.slice (some ⟨f0, 0, none⟩) 241 n0) (formOf (sched keyE) 16 (stM keyE []).1), obB (.slice (some ⟨g2, 0, none⟩) 40 40) textE, obB (.slice (some ⟨f1, 0, none⟩) 241 n1) (formOf (sched keyE) 16 (stM keyE (textE.take 16)).1)]) := Lib.hid h5
  clear h5 H6
  have H8 := Lib.hid (H7.out.lit w7.heap.size rfl [1] (by decide))
  go_wp2_with fail
  refine (writeK_env H8.out 2 3 0 (by decide) (by decide) (by decide) (key := keyE) (p0 := textE.take 16) (q := l) (o := some []) (.inl rfl) rfl rfl rfl (u := _) (p := [1]) (fun wx obs' he hx => (he.bytes 7 (hx 7 _ (by decide) (by decide) rfl)).rd) (RoomN.empty 16 1 (by decide))).mono ?_
  rintro e w9 ⟨rfl, h5⟩
  rw [e1.2, e2.2] at h5
  have H9 : Hid (Env w w9 [obP l (some [⟨5, 16, 1⟩]), obB (.slice (some ⟨g0, 0, none⟩) 16 16) keyE, mcC c keyE, mcB b c (stM keyE (textE.take 16 ++ [1])).1, obB (.slice (some ⟨f0, 0, none⟩) 241 n0) (formOf (sched keyE) 16 (stM keyE []).1), obB (.slice (some ⟨g2, 0, none⟩) 40 40) textE, obB (.slice (some ⟨f1, 0, none⟩) 241 n1) (formOf (sched keyE) 16 (stM keyE (textE.take 16)).1), obB (.slice (some ⟨w7.heap.size, 0, none⟩) 1 1) [1]]) := Lib.hid h5
  clear h5 H7 H8
  go_wp2_with fail
  refine (lenP_env' H9.out 0 rfl).mono ?_
  rintro e w' ⟨he, rfl⟩
  have he' : e = .returned (.int .i64 1) := he
  subst he'
  clear he
  go_wp2_with fail
  refine (formK_env H9.out 2 3 (.inl rfl) rfl rfl).mono ?_
  rintro e w10 ⟨f2, n2, rfl, h5⟩
  have H10 := Lib.hid h5
  clear h5 H9
  go_wp2_with fail
  refine (sumM_env H10.out 2 3 0 (by decide) (by decide) (by decide) rfl rfl rfl (Room.some (by decide) (by decide)) (stM_ok keyE _) (by decide)).mono ?_
  rintro e w11 ⟨g3, rfl, h5⟩
  have H11 : Hid (Env w w11 [obP l (some [⟨5, 16, 2⟩]), obB (.slice (some ⟨g0, 0, none⟩) 16 16) keyE, mcC c keyE, mcB b c (stM keyE (textE.take 16 ++ [1])).1, obB (.slice (some ⟨f0, 0, none⟩) 241 n0) (formOf (sched keyE) 16 (stM keyE []).1), obB (.slice (some ⟨g2, 0, none⟩) 40 40) textE, obB (.slice (some ⟨f1, 0, none⟩) 241 n1) (formOf (sched keyE) 16 (stM keyE (textE.take 16)).1), obB (.slice (some ⟨w7.heap.size, 0, none⟩) 1 1) [1], obB (.slice (some ⟨f2, 0, none⟩) 241 n2) (formOf (sched keyE) 16 (stM keyE (textE.take 16 ++ [1])).1), mcT g3 (tagOf (sched keyE) 16 (stM keyE (textE.take 16 ++ [1])).1)]) := Lib.hid h5
  clear h5 H10
  have k240 : (sched keyE).length = 240 := sched_len keyE (by decide)
  have c1 : w11.cell? ⟨f0, 240, none⟩ = some (.int .u8 0) := H11.out.byteAt 4 rfl 240 0 (by have h := formOf_last (k := 16) k240 (by decide) (stM_ok keyE []); rw [show (stM keyE []).1.n = 0 from rfl] at h; exact h) (keyE_bytes _)
  have c2 : w11.cell? ⟨f1, 240, none⟩ = some (.int .u8 16) := H11.out.byteAt 6 rfl 240 16 (by have h := formOf_last (k := 16) k240 (by decide) (stM_ok keyE (textE.take 16)); rw [e1.1] at h; exact h) (keyE_bytes _)
  have c3 : w11.cell? ⟨f2, 240, none⟩ = some (.int .u8 1) := H11.out.byteAt 8 rfl 240 1 (by have h := formOf_last (k := 16) k240 (by decide) (stM_ok keyE (textE.take 16 ++ [1])); rw [e2.1] at h; exact h) (keyE_bytes _)
  have c4 : w11.cell? ⟨f0, 176, none⟩ = some (.int .u8 251) := H11.out.byteAt 4 rfl 176 0xfb formE176.1 (keyE_bytes _)
  have c5 : w11.cell? ⟨f0, 177, none⟩ = some (.int .u8 238) := H11.out.byteAt 4 rfl 177 0xee formE176.2 (keyE_bytes _)
  clear e1 e2 k240
  have z87 : (barr t87).size = 16 := rfl
  have z1 : (barr t1).size = 16 := rfl
  have E80 : Value.agg #[.int .u8 128, .int .u8 0, .int .u8 0, .int .u8 0, .int .u8 0, .int .u8 0, .int .u8 0, .int .u8 0, .int .u8 0, .int .u8 0, .int .u8 0, .int .u8 0, .int .u8 0, .int .u8 0, .int .u8 0, .int .u8 0] = .agg (barr t80) := rfl
  have E80l : Value.agg #[.int .u8 0, .int .u8 0, .int .u8 0, .int .u8 0, .int .u8 0, .int .u8 0, .int .u8 0, .int .u8 0, .int .u8 0, .int .u8 0, .int .u8 0, .int .u8 0, .int .u8 0, .int .u8 0, .int .u8 0, .int .u8 128] = .agg (barr t80l) := rfl
  have HE := Lib.hid (And.intro E80 E80l)
  clear E80 E80l
  go_upto_region 14 with fail
  clear c1 c2 c3 c4 c5
  go_wp2_with fail
  rw [HE.out.1]
  refine (dbl_any t80 rfl w11).mono ?_
  rintro e w12 ⟨rfl, hb⟩
  rw [dbl80]
  have H12 := Lib.hid (H11.out.below hb)
  clear hb H11
  have hz : ∀ w, (zeroValue 31).run Try.prog w = .ok (.agg (barr zB)) w := by intro w; kernel_rfl
  have HZ := Lib.hid hz
  clear hz
  have hzs : (barr zB).size = 16 := rfl
  have E80l : Value.agg ((barr zB).setIfInBounds 15 (.int .u8 128)) = .agg (barr t80l) := rfl
  generalize hzB : zB = Z at HZ hzs E80l
  have HEL := Lib.hid E80l
  clear E80l
  have hz := HZ.out
  have b4 : Blk (w12.alloc (.cells (barr Z) 31)) w12.heap.size 31 (barr Z) := Blk.new _ _ _
  go_upto_region 15 with ((with_reducible change wpList _ _ _ (Oper.mk _ (Op.store 31 _ _) _ _ _ _ :: _) _ _); refine wpList_store_var w12.heap.size (barr t87) rfl rfl b4 size16 z87 hzs (barr_one _) ?_; intro w13 B4 O4; have H13 := Lib.hid ((H12.out.newK 31 (barr Z)).turnBlk 10 rfl B4 O4); clear B4 O4)
  clear b4 H12
  generalize w12.heap.size = g12 at H13 ⊢
  go_wp2_with fail
  rw [HEL.out]
  refine (dbl_any t80l rfl w13).mono ?_
  rintro e w14 ⟨rfl, hb⟩
  rw [dbl80l]
  have H14 := Lib.hid (H13.out.below hb)
  clear hb H13
  have b4 : Blk (w14.alloc (.cells (barr Z) 31)) w14.heap.size 31 (barr Z) := Blk.new _ _ _
  go_upto_region 16 with ((with_reducible change wpList _ _ _ (Oper.mk _ (Op.store 31 _ _) _ _ _ _ :: _) _ _); refine wpList_store_var w14.heap.size (barr t1) rfl rfl b4 size16 z1 hzs (barr_one _) ?_; intro w15 B4 O4; have H15 := Lib.hid ((H14.out.newK 31 (barr Z)).turnBlk 11 rfl B4 O4); clear B4 O4)
  clear b4 H14 hz
  generalize w14.heap.size = g14 at H15 ⊢
  go_wp2_with fail
  refine (tagM_off (.pointer none) (.slice none 0 0) (.slice none 0 0) [] w15 (Bs.nil _) (by unfold RightLen; decide)).mono ?_
  rintro e w' ⟨rfl, rfl⟩
  go_wp2_with fail
  refine (macAwake_any w15).mono ?_
  rintro e w16 ⟨rfl, hb⟩
  have H16 := Lib.hid (H15.out.below hb)
  clear hb H15
  go_wp2_with fail
  refine (lenP_env' H16.out 0 rfl).mono ?_
  rintro e w' ⟨he, rfl⟩
  have he' : e = .returned (.int .i64 2) := he
  subst he'
  clear he
  go_wp2_with fail
  refine (countP_env H16.out 0 rfl 5 (by decide) (by decide)).mono ?_
  rintro e w17 ⟨he, h5, _⟩
  have he' : e = .returned (.int .i64 2) := he
  subst he'
  have H17 := Lib.hid h5
  clear he h5 H16
  have B1 := H17.out.blk 10 rfl
  have B2 := H17.out.blk 11 rfl
  go_wp2_with (first | ((with_reducible change wpList _ _ _ (Oper.mk (some 122) (Op.load 31 _) _ _ _ _ :: _) _ _); refine wpList_load_gd (ty := 31) g12 rfl rfl B1 Try.underlying31 rfl size16 z87 ?_) | ((with_reducible change wpList _ _ _ (Oper.mk (some 127) (Op.load 31 _) _ _ _ _ :: _) _ _); refine wpList_load_gd (ty := 31) g14 rfl rfl B2 Try.underlying31 rfl size16 z1 ?_) | ((with_reducible change wpList _ _ _ (Oper.mk (some 123) (Op.build 31 _) _ _ _ _ :: _) _ _); refine wpList_value (.agg (barr t87)) rfl (exec_build 31 _ rfl _ bt87) ?_) | ((with_reducible change wpList _ _ _ (Oper.mk (some 128) (Op.build 31 _) _ _ _ _ :: _) _ _); refine wpList_value (.agg (barr t1)) rfl (exec_build 31 _ rfl _ bt1) ?_) | ((with_reducible change wpList _ _ _ (Oper.mk (some 124) (Op.binOp BinOp.eql 31 _ _ _) _ _ _ _ :: _) _ _); refine wpList_eql_arr t87 t87 true rfl rfl rfl guard16 (eqAt16 t87 t87 rfl rfl true (beq_self_eq_true _)) ?_) | ((with_reducible change wpList _ _ _ (Oper.mk (some 129) (Op.binOp BinOp.eql 31 _ _ _) _ _ _ _ :: _) _ _); refine wpList_eql_arr t1 t1 true rfl rfl rfl guard16 (eqAt16 t1 t1 rfl rfl true (beq_self_eq_true _)) ?_))
  go_ret
  exact ⟨rfl, H17.out.base⟩
end Go.Proofs.Ytpampcokonicfaa
/- The contract of CutInto: bytes as pieces, each in memory of its own. Conditions: at most 2^20 bytes, at most 2^20 cuts. -/
namespace Go.Proofs.Ytpampcokonicfaa
open Go.RowKit
set_option maxRecDepth 100000
set_option linter.unusedVariables false
set_option linter.unusedSimpArgs false
theorem infoSl : (Try.prog.info? 22).map (fun i => (i.zero, i.size, i.bytes)) = some (some (.slice none 0 0), 1, 24) := by kernel_rfl
abbrev Pc := Value × List UInt8
def pcOb (x : Pc) : Ob := obB x.1 x.2
/-- a list of pieces: the row of the slices, each piece -/
def pcObs (v : Value) (ps : List Pc) : List Ob := obE 22 1 v ps.length (ps.map (·.1)) :: ps.map pcOb
structure CutInv (w0 : World) (obs : List Ob) (p cuts : List UInt8) (uv ov iv : Value) (wr : World) (d : Nat) (rest : List UInt8) (ps : List Pc) : Prop where
  hd : d ≤ cuts.length
  iv : iv = .int .i64 (d : Int)
  src : Bs w0 uv rest
  app : (ps.map (·.2)).flatten ++ rest = p
  len : ps.length ≤ d
  env : Env w0 wr (obs ++ pcObs ov ps)
theorem Bs.part {w : World} {sb so n cap : Nat} {l : List UInt8} (h : Bs w (.slice (some ⟨sb, so, none⟩) n cap) l) (k : Nat) (hk : k ≤ l.length) : Bs w (.slice (some ⟨sb, so, none⟩) k cap) (l.take k) := Bs.take h k hk
theorem Env.grownE {w0 w : World} {obs : List Ob} (h : Env w0 w obs) (i : Nat) {e : TypeId} {size n : Nat} {v : Value} {cs : List Value} (hi : obs[i]? = some (obE e size v n cs)) {v' : Value} {n' : Nat} {cs' : List Value} {w' : World} (hown : w'.ownsRow 0 e size v' n' cs') (hg : w.grownBy w' v.ownBlock) (hat : v'.ownBlock = v.ownBlock ∨ v'.ownBlock = some w.heap.size) : Env w0 w' (obs.set i (obE e size v' n' cs')) := by
  obtain ⟨F, h1, _, _, h4⟩ := h.get i hi
  obtain ⟨_, rfl⟩ := h1
  refine h4 w' (fpv v') (obE e size v' n' cs') ⟨hown, rfl⟩ (Only.grown (Only.refl _ w) hg (fun k hk => .inl hk)) (fun x hx => ?_)
  have hx' : v'.ownBlock = some x := hx
  rcases hat with hat | hat
  · left
    show v.ownBlock = some x
    rw [← hat]
    exact hx
  · right
    rw [hat] at hx'
    injection hx' with hx'
    omega
theorem pcObs_more (obs : List Ob) (ov v' v1 : Value) (ps : List Pc) (l : List UInt8) : (obs ++ pcObs ov ps ++ [obB v1 l]).set obs.length (obE 22 1 v' (ps.length + 1) (ps.map (·.1) ++ [v1])) = obs ++ pcObs v' (ps ++ [(v1, l)]) := by
  rw [List.append_assoc, List.set_append_right _ _ (Nat.le_refl _), Nat.sub_self]
  simp [pcObs, pcOb]
theorem pcObs_row (obs tl : List Ob) (ov : Value) (ps : List Pc) : (obs ++ pcObs ov ps ++ tl)[obs.length]? = some (obE 22 1 ov ps.length (ps.map (·.1))) := by
  rw [List.append_assoc, List.getElem?_append_right (Nat.le_refl _), Nat.sub_self]
  rfl
theorem pcObs_last {obs : List Ob} {ov v1 : Value} {ps : List Pc} {l : List UInt8} : (obs ++ pcObs ov ps ++ [obB v1 l])[obs.length + (ps.length + 1)]? = some (obB v1 l) := by
  rw [List.getElem?_append_right (by simp [pcObs])]
  simp [pcObs]
theorem one_slice {ao : Option Addr} {n c : Nat} : ∀ u ∈ [Value.slice ao n c], u.oneCell' = true := by
  intro u hu
  rcases List.mem_singleton.1 hu with rfl
  rfl
set_option maxHeartbeats 4000000 in
theorem cutInto_env {w0 w : World} {obs : List Ob} (h : Env w0 w obs) {u v : Value} {p cuts : List UInt8} (hu : Bs w0 u p) (hv : Bs w0 v cuts) (hp : p.length ≤ 1048576) (hc : cuts.length ≤ 1048576) :
    Calls Try.prog 20 #[u, v] w fun e w' => ∃ (g cap : Nat) (ps : List Pc), e = .returned (.slice (some ⟨g, 0, none⟩) ps.length cap) ∧ (ps.map (·.2)).flatten = p ∧ ps.length ≤ 1048577 ∧ Env w0 w' (obs ++ pcObs (.slice (some ⟨g, 0, none⟩) ps.length cap) ps) := by
  have H := Lib.hid h
  have HU := Lib.hid hu
  have HV := Lib.hid hv
  have HPL := Lib.hid hp
  have HCL := Lib.hid hc
  obtain ⟨i0, hi, hz0, hz1, hz2⟩ := info_parts infoSl
  have HI := Lib.hid (And.intro hi (And.intro hz0 (And.intro hz1 hz2)))
  obtain ⟨av, capv, rfl, hcapv, _, _, hcv⟩ := hv.form
  have HCV := Lib.hid hcv
  have hcvl := hv.len
  clear h hu hv hp hc hi hz0 hz1 hz2 hcv
  go_enter Try.func20, Try.ntmps20
  go_wp2_with fail
  go_loopw [0, 5, 6, 7] (fun uv ov iv _ wr => ∃ (d : Nat) (rest : List UInt8) (ps : List Pc), Hid (CutInv w0 obs p cuts uv ov iv wr d rest ps)) (fun _ _ iv _ _ => cuts.length - (intOf iv).toNat)
  case atStart =>
    refine ⟨0, p, [], Lib.hid ⟨Nat.zero_le _, rfl, HU.out, rfl, Nat.le_refl _, ?_⟩⟩
    exact H.out.pushE (World.ownsRow_nil w 0 _ 1) (Below.refl _ _) (fun x hx => by simp [fpv, Value.ownBlock] at hx)
  case round =>
    obtain ⟨d, rest, ps, HV2⟩ := hrel
    have hiv := HV2.out.iv
    subst hiv
    obtain ⟨ao, cap, rfl, hcap, hcapm, hnn, hcell⟩ := HV2.out.src.form
    have hdl := HV2.out.hd
    have hpl := HV2.out.app
    have hps := HV2.out.len
    obtain ⟨N, hN⟩ : ∃ N, rest.length = N := ⟨_, rfl⟩
    have hNp : N ≤ 1048576 := by
      have h := congrArg List.length hpl
      rw [List.length_append] at h
      have := HPL.out
      omega
    rw [hN] at hcap hcell ⊢
    have HNN := Lib.hid hN
    have hcl := HCL.out
    have HE := Lib.hid HV2.out.env
    have HSR := Lib.hid HV2.out.src
    have HAP := Lib.hid hpl
    clear HV2 hN hpl
    by_cases hlt : d < cuts.length ∧ 0 < N
    · obtain ⟨hlt, hN0⟩ := hlt
      obtain ⟨sb, so, rfl, hc1⟩ := HCV.out d hlt
      obtain ⟨rb, ro, rfl, hc2⟩ := hcell 0 hN0
      have hd1 : decide ((d : Int) < (cuts.length : Int)) = true := by simp; omega
      have hd2 : decide ((N : Int) > 0) = true := by simp; omega
      have hsb : sb < w0.heap.size := World.block_lt_of_cell? w0 _ hc1
      have c1 := (HE.out.base.cell hsb).trans hc1
      clear hc1 hc2 hcell hnn
      generalize cuts.getD d 0 = x at c1
      have hx : x.toNat < 256 := x.toNat_lt
      go_upto_if 28 with fail
      go_cut [7] from 8 to 40 (fun nv wx => wx = wr ∧ ∃ n : Nat, n ≤ N ∧ nv = .int .i64 (n : Int))
      case first =>
        by_cases hgt : N < x.toNat % 200
        · have hg : decide (((x.toNat : Int) % 200) > (N : Int)) = true := by simp; omega
          go_wp2
          go_meet
          exact ⟨rfl, N, Nat.le_refl _, rfl⟩
        · have hg : decide (((x.toNat : Int) % 200) > (N : Int)) = false := by simp; omega
          go_wp2
          go_meet
          exact ⟨rfl, x.toNat % 200, by omega, by simp⟩
      case rest =>
        obtain ⟨rfl, n, hn, rfl⟩ := hcut
        have hnc : n ≤ cap := by omega
        go_wp2_with fail
        refine (copy_env HE.out (u := .slice (some ⟨rb, ro, none⟩) n cap) (l := rest.take n) (HE.out.old (HSR.out.part n (by rw [HNN.out]; exact hn))) (by rw [List.length_take]; omega)).mono ?_
        rintro e w1 ⟨v1, rfl, h5⟩
        obtain ⟨oa, oc, hv1⟩ := (h5.bytes _ pcObs_last).any
        obtain ⟨L, hL⟩ : ∃ L, (rest.take n).length = L := ⟨_, rfl⟩
        rw [hL] at hv1
        subst hv1
        have H1 := Lib.hid h5
        have h6 := H1.out.below ((Below.refl _ _).alloc (Nat.le_refl _) (.cells #[.slice oa L oc] 22))
        have H6 := Lib.hid h6
        have hrow := h6.row obs.length (pcObs_row obs _ _ ps)
        have HR := Lib.hid hrow
        clear h5 h6 hrow hL
        obtain ⟨hi, hz0, hz1, hz2⟩ := HI.out
        have hpd : ps.length ≤ 1048576 := by omega
        have t1 : ps.length + 1 ≤ maxLen := by unfold maxLen; omega
        have t2 : (ps.length + 1) * 24 ≤ 140737488355328 := by omega
        have t3 := World.news_of_block (heap_alloc_new w1 (.cells #[.slice oa L oc] 22))
        have HT := Lib.hid (And.intro t1 (And.intro t2 t3))
        clear t1 t2 t3
        go_wp2_with (at_builtin; refine wpList_append_lies _ rfl _ _ 43 rfl 0 22 i0 _ 1 24 Try.underlying43 hi hz0 hz1 hz2 rfl (by decide) u5 ps.length (ps.map (·.1)) rfl HR.out ⟨w1.heap.size, 0, none⟩ 1 1 [.slice oa L oc] rfl rfl HT.out.2.2 one_slice (by decide) HT.out.1 HT.out.2.1 (Nat.zero_le _) _ rfl ?_)
        intro g' cap' w2 hown hgrow hat hlt2
        have h7 := Env.grownE H6.out obs.length (pcObs_row obs _ _ ps) (v' := .slice (some ⟨g', 0, none⟩) (ps.length + 1) cap') (n' := ps.length + 1) hown hgrow (by
          rcases hat with hat | hat
          · exact .inl hat.symm
          · right; rw [hat]; simp [Value.ownBlock])
        rw [pcObs_more] at h7
        have H7 := Lib.hid h7
        have hb := Bs.cut HSR.out n (by rw [HNN.out]; exact hn)
        rw [HNN.out] at hb
        have HB := Lib.hid hb
        have hl2 : (ps ++ [((.slice oa L oc : Value), rest.take n)]).length = ps.length + 1 := by simp
        have hfl : ((ps ++ [((.slice oa L oc : Value), rest.take n)]).map (·.2)).flatten ++ rest.drop n = p := by
          rw [List.map_append, List.flatten_append, List.append_assoc]
          simp only [List.map_cons, List.map_nil, List.flatten_cons, List.flatten_nil, List.append_nil]
          rw [List.take_append_drop]
          exact HAP.out
        have HFL := Lib.hid (And.intro hl2 hfl)
        clear hown hgrow hat hlt2 h7 hb hi hz0 hz1 hz2 HR H6 H1 HE HT hl2 hfl
        go_wp2_with fail
        go_roundw
        case rel => exact ⟨d + 1, rest.drop n, ps ++ [((.slice oa L oc : Value), rest.take n)], Lib.hid ⟨by omega, by go_num, HB.out, HFL.out.2, by rw [HFL.out.1]; omega, H7.out⟩⟩
        case measure => simp [intOf]; omega
    · clear hcell hnn
      by_cases hdc : d < cuts.length
      · obtain rfl : N = 0 := by omega
        have hd1 : decide ((d : Int) < (cuts.length : Int)) = true := by simp; omega
        clear hlt
        go_wp2_with fail
        refine (copy_env HE.out (u := .slice ao 0 cap) (l := rest) (by have h := HSR.out; rw [HNN.out] at h; exact HE.out.old h) (by rw [HNN.out]; omega)).mono ?_
        rintro e w1 ⟨v1, rfl, h5⟩
        obtain ⟨oa, oc, hv1⟩ := (h5.bytes _ pcObs_last).any
        rw [HNN.out] at hv1
        subst hv1
        have H1 := Lib.hid h5
        have h6 := H1.out.below ((Below.refl _ _).alloc (Nat.le_refl _) (.cells #[.slice oa 0 oc] 22))
        have H6 := Lib.hid h6
        have hrow := h6.row obs.length (pcObs_row obs _ _ ps)
        have HR := Lib.hid hrow
        clear h5 h6 hrow
        obtain ⟨hi, hz0, hz1, hz2⟩ := HI.out
        have hpd : ps.length ≤ 1048576 := by omega
        have t1 : ps.length + 1 ≤ maxLen := by unfold maxLen; omega
        have t2 : (ps.length + 1) * 24 ≤ 140737488355328 := by omega
        have t3 := World.news_of_block (heap_alloc_new w1 (.cells #[.slice oa 0 oc] 22))
        have HT := Lib.hid (And.intro t1 (And.intro t2 t3))
        clear t1 t2 t3
        go_wp2_with (at_builtin; refine wpList_append_lies _ rfl _ _ 43 rfl 0 22 i0 _ 1 24 Try.underlying43 hi hz0 hz1 hz2 rfl (by decide) u5 ps.length (ps.map (·.1)) rfl HR.out ⟨w1.heap.size, 0, none⟩ 1 1 [.slice oa 0 oc] rfl rfl HT.out.2.2 one_slice (by decide) HT.out.1 HT.out.2.1 (Nat.zero_le _) _ rfl ?_)
        intro g' cap' w2 hown hgrow hat hlt2
        have h7 := Env.grownE H6.out obs.length (pcObs_row obs _ _ ps) (v' := .slice (some ⟨g', 0, none⟩) (ps.length + 1) cap') (n' := ps.length + 1) hown hgrow (by
          rcases hat with hat | hat
          · exact .inl hat.symm
          · right; rw [hat]; simp [Value.ownBlock])
        rw [pcObs_more] at h7
        have H7 := Lib.hid h7
        have hl2 : (ps ++ [((.slice oa 0 oc : Value), rest)]).length ≤ 1048577 := by simp; omega
        have hfl : ((ps ++ [((.slice oa 0 oc : Value), rest)]).map (·.2)).flatten = p := by
          rw [List.map_append, List.flatten_append]
          simp only [List.map_cons, List.map_nil, List.flatten_cons, List.flatten_nil, List.append_nil]
          exact HAP.out
        have HFL := Lib.hid (And.intro hl2 hfl)
        clear hown hgrow hat hlt2 h7 hi hz0 hz1 hz2 HR H6 H1 HE HT hl2 hfl
        go_wp2
        go_ret
        have hl3 : (ps ++ [((.slice oa 0 oc : Value), rest)]).length = ps.length + 1 := by simp
        exact ⟨g', cap', ps ++ [((.slice oa 0 oc : Value), rest)], by rw [hl3]; rfl, HFL.out.2, HFL.out.1, by rw [hl3]; exact H7.out⟩
      · have hd1 : decide ((d : Int) < (cuts.length : Int)) = false := by simp; omega
        go_wp2_with fail
        refine (copy_env HE.out (u := .slice ao N cap) (l := rest) (by have h := HSR.out; rw [HNN.out] at h; exact HE.out.old h) (by rw [HNN.out]; omega)).mono ?_
        rintro e w1 ⟨v1, rfl, h5⟩
        obtain ⟨oa, oc, hv1⟩ := (h5.bytes _ pcObs_last).any
        rw [HNN.out] at hv1
        subst hv1
        have H1 := Lib.hid h5
        have h6 := H1.out.below ((Below.refl _ _).alloc (Nat.le_refl _) (.cells #[.slice oa N oc] 22))
        have H6 := Lib.hid h6
        have hrow := h6.row obs.length (pcObs_row obs _ _ ps)
        have HR := Lib.hid hrow
        clear h5 h6 hrow
        obtain ⟨hi, hz0, hz1, hz2⟩ := HI.out
        have hpd : ps.length ≤ 1048576 := by omega
        have t1 : ps.length + 1 ≤ maxLen := by unfold maxLen; omega
        have t2 : (ps.length + 1) * 24 ≤ 140737488355328 := by omega
        have t3 := World.news_of_block (heap_alloc_new w1 (.cells #[.slice oa N oc] 22))
        have HT := Lib.hid (And.intro t1 (And.intro t2 t3))
        clear t1 t2 t3
        go_wp2_with (at_builtin; refine wpList_append_lies _ rfl _ _ 43 rfl 0 22 i0 _ 1 24 Try.underlying43 hi hz0 hz1 hz2 rfl (by decide) u5 ps.length (ps.map (·.1)) rfl HR.out ⟨w1.heap.size, 0, none⟩ 1 1 [.slice oa N oc] rfl rfl HT.out.2.2 one_slice (by decide) HT.out.1 HT.out.2.1 (Nat.zero_le _) _ rfl ?_)
        intro g' cap' w2 hown hgrow hat hlt2
        have h7 := Env.grownE H6.out obs.length (pcObs_row obs _ _ ps) (v' := .slice (some ⟨g', 0, none⟩) (ps.length + 1) cap') (n' := ps.length + 1) hown hgrow (by
          rcases hat with hat | hat
          · exact .inl hat.symm
          · right; rw [hat]; simp [Value.ownBlock])
        rw [pcObs_more] at h7
        have H7 := Lib.hid h7
        have hl2 : (ps ++ [((.slice oa N oc : Value), rest)]).length ≤ 1048577 := by simp; omega
        have hfl : ((ps ++ [((.slice oa N oc : Value), rest)]).map (·.2)).flatten = p := by
          rw [List.map_append, List.flatten_append]
          simp only [List.map_cons, List.map_nil, List.flatten_cons, List.flatten_nil, List.append_nil]
          exact HAP.out
        have HFL := Lib.hid (And.intro hl2 hfl)
        clear hown hgrow hat hlt2 h7 hi hz0 hz1 hz2 HR H6 H1 HE HT hl2 hfl
        go_wp2
        go_ret
        have hl3 : (ps ++ [((.slice oa N oc : Value), rest)]).length = ps.length + 1 := by simp
        exact ⟨g', cap', ps ++ [((.slice oa N oc : Value), rest)], by rw [hl3]; rfl, HFL.out.2, HFL.out.1, by rw [hl3]; exact H7.out⟩
end Go.Proofs.Ytpampcokonicfaa
/- Opening a list of bytes under the second form's bound. -/
namespace Go.Proofs.Ytpampcokonicfaa
open Go.RowKit Go.ChangeShapes Go.WideShapes Go.ChangeAt
set_option maxRecDepth 100000
theorem bulkB_one {H : Type} (d : DataW H) : 1 ≤ Rows.uptoBulk d := by
  cases d with
  | lit l => cases l <;> simp [Rows.uptoBulk]
  | nil => simp [Rows.uptoBulk]
  | ptr d => simp [Rows.uptoBulk]
  | slice e s => simp [Rows.uptoBulk]
  | agg p => simp [Rows.uptoBulk]
  | iface t d => simp [Rows.uptoBulk]
  | map e => simp [Rows.uptoBulk]
  | held h => simp [Rows.uptoBulk]
theorem bulkB_len {H : Type} : ∀ l : List (DataW H), l.length ≤ Rows.uptoBulkAll l
  | [] => by simp
  | d :: r => by
    have h1 := bulkB_one d
    have h2 := bulkB_len r
    simp only [Rows.uptoBulkAll, List.length_cons]
    omega
theorem bulkB_mem {H : Type} {d : DataW H} : ∀ {l : List (DataW H)}, d ∈ l → Rows.uptoBulk d ≤ Rows.uptoBulkAll l
  | x :: r, h => by
    simp only [Rows.uptoBulkAll]
    rcases List.mem_cons.1 h with rfl | h
    · omega
    · have := bulkB_mem h
      omega
/-- a list of bytes that came in under the second form -/
def InU (W : World) (v : Value) (l : List UInt8) : Prop := Bs W v l ∧ l.length ≤ 1048576
theorem openBytesU {H : Type} {enc : TypeId × Value → H} {W : World} {base : Nat} {v : Value} {d : DataW H} {p : List MemPlace} {ds : List (DataW H)} (hk : Rows.uptoSmall H ds = true) (hd : d ∈ ds)
    (hval : Value.okWide Try.prog W .any base 22 v) (h : DataW.Trod enc Try.prog W 0 (fun _ => true) true 22 v d p) : ∃ l : List UInt8, InU W v l := by
  obtain ⟨l, hl, hh⟩ := open_bytes_sized Try.underlying22 Try.underlying5 cellsU8 hval h
  refine ⟨l, hl, ?_⟩
  rcases hh with rfl | ⟨es, sp, rfl, hlen⟩
  · simp
  · have h1 : Rows.uptoBulkAll ds ≤ 1048576 := of_decide_eq_true hk
    have h2 := bulkB_mem hd
    have h3 := bulkB_len es
    simp only [Rows.uptoBulk] at h2
    omega
end Go.Proofs.Ytpampcokonicfaa
/- What CmacPieces needs besides: the runs that it awaits, a Mac's subkeys stay, the ledger of a Mac's life. -/
namespace Go.Proofs.Ytpampcokonicfaa
open Go.RowKit
set_option maxRecDepth 100000
set_option linter.unusedVariables false
set_option linter.unusedSimpArgs false
theorem feedM_keys (E : List UInt8 → List UInt8) : ∀ (p : List UInt8) (s : MacS × Nat), (feedM E s p).1.k1 = s.1.k1 ∧ (feedM E s p).1.k2 = s.1.k2
  | [], _ => ⟨rfl, rfl⟩
  | x :: r, s => by
    have h := feedM_keys E r (stepM E s x)
    have h1 : (stepM E s x).1.k1 = s.1.k1 ∧ (stepM E s x).1.k2 = s.1.k2 := by
      unfold stepM
      split <;> exact ⟨rfl, rfl⟩
    exact ⟨h.1.trans h1.1, h.2.trans h1.2⟩
theorem stM_reset (key p : List UInt8) : (⟨(stM key p).1.k1, (stM key p).1.k2, zB, zB, 0⟩ : MacS) = (stM key []).1 := by
  obtain ⟨h1, h2⟩ := feedM_keys (enc (sched key) (key.length / 4 + 6)) p (newM key, 0)
  rw [show (stM key p).1.k1 = (newM key).k1 from h1, show (stM key p).1.k2 = (newM key).k2 from h2]
  rfl
/-- how many blocks a message has, of which the last one may be empty -/
def blocksOf (n : Nat) : Nat := max 1 ((n + 15) / 16)
theorem stM_blocks (key p : List UInt8) : (stM key p).2 + 1 = blocksOf p.length := by
  unfold blocksOf
  by_cases h : p = []
  · subst h; rfl
  · have h1 := (stM_at key p h).2
    have : p.length ≠ 0 := fun h0 => h (List.length_eq_zero_iff.1 h0)
    omega
theorem stM_wait (key p : List UInt8) : (stM key p).1.n = if 0 < p.length then (p.length - 1) % 16 + 1 else 0 := by
  by_cases h : p = []
  · subst h; rfl
  · have h1 := (stM_at key p h).1
    have : p.length ≠ 0 := fun h0 => h (List.length_eq_zero_iff.1 h0)
    rw [if_pos (by omega), h1]
section
variable {w0 w : World} {obs : List Ob}
set_option maxHeartbeats 1000000 in
theorem macRuns_env (h : Env w0 w obs) (k n : Nat) (hk : k ≤ 1048576) (hn : n ≤ 1048576) : Calls Try.prog 25 #[.int .i64 (k : Int), .int .i64 (n : Int)] w fun e w' => ∃ v, e = .returned v ∧ Env w0 w' (obs ++ [obRuns v [⟨4, (k : Int), 1⟩, ⟨5, (k : Int), ((blocksOf n + 1 : Nat) : Int)⟩]]) := by
  have H : Hid (∀ c : Int, Env w0 (w.alloc (.cells #[.int .u8 4, .int .i64 (k : Int), .int .i64 1, .int .u8 5, .int .i64 (k : Int), .int .i64 c] 97)) (obs ++ [obRuns (.slice (some ⟨w.heap.size, 0, none⟩) 2 2) [⟨4, (k : Int), 1⟩, ⟨5, (k : Int), c⟩]])) := Lib.hid (fun c => h.litRuns w.heap.size rfl [⟨4, (k : Int), 1⟩, ⟨5, (k : Int), c⟩] (by simp))
  clear h
  have HB : Hid ((blocksOf n : Int) = max 1 (((n : Int) + 15) / 16)) := Lib.hid (by unfold blocksOf; omega)
  have hz : (0 : Int) ≤ ((n : Int) + 15) / 16 := by omega
  go_enter Try.func25, Try.ntmps25
  go_wp2
  · go_ret
    refine ⟨_, rfl, ?_⟩
    have hb := HB.out
    rw [show (blocksOf n : Int) + 1 = 1 + ((n : Int) + 15) / 16 from by omega]
    exact H.out _
  · go_ret
    refine ⟨_, rfl, ?_⟩
    have hb := HB.out
    rw [show (blocksOf n : Int) + 1 = 2 from by omega]
    exact H.out _
/-- Reset: the Mac is as it was at first -/
theorem resetK_env (h : Env w0 w obs) (j : Nat) {b c : Nat} {key p : List UInt8} (hj : obs[j]? = some (mcB b c (stM key p).1)) :
    Calls Try.prog 26 #[.pointer (some ⟨b, 0, none⟩)] w fun e w' => e = .returned (.int .i64 0) ∧ Env w0 w' (obs.set j (mcB b c (stM key []).1)) := by
  refine (resetM_env h j hj (stM_ok key p)).mono fun e w' ⟨he, h1⟩ => ⟨he, ?_⟩
  rw [stM_reset] at h1
  exact h1
theorem Env.pre {A Q : List Ob} (h : Env w0 w (A ++ Q)) : Env w0 w A :=
  h.pick (fun j => j) (fun _ _ _ _ he => he) (fun j ob hj => at_l hj)
/-- the form, its length told ahead -/
theorem formF_env (h : Env w0 w obs) (i j : Nat) {b c : Nat} {key p : List UInt8} (hk : RightLen key.length) {M : Nat} (hM : 16 * (key.length / 4 + 6 + 1) + 64 = M) (hi : obs[i]? = some (mcC c key)) (hj : obs[j]? = some (mcB b c (stM key p).1)) :
    Calls Try.prog 16 #[.pointer (some ⟨b, 0, none⟩)] w fun e w' => ∃ g cap : Nat, e = .returned (.slice (some ⟨g, 0, none⟩) (M + 1) cap) ∧ M < cap ∧ w'.cell? ⟨g, M, none⟩ = some (.int .u8 ((stM key p).1.n : Int)) ∧ Env w0 w' (obs ++ [obB (.slice (some ⟨g, 0, none⟩) (M + 1) cap) (formOf (sched key) key.length (stM key p).1)]) := by
  refine (formK_env h i j hk hi hj).mono fun e w' ⟨g, cap, he, h1⟩ => ?_
  have hl : (formOf (sched key) key.length (stM key p).1).length = 16 * (key.length / 4 + 6 + 1) + 65 := formOf_len (sched_len key (by have := hk.bd; omega)) hk.bd.2.1 (stM_ok key p)
  have hc := (h1.bytes obs.length at_end).rd.form
  have hlast := formOf_last (K := sched key) (k := key.length) (sched_len key (by have := hk.bd; omega)) hk.bd.2.1 (stM_ok key p)
  have hcell := h1.byteAt obs.length at_end _ _ hlast hl
  have hn := (stM_ok key p).hn
  have hu : (UInt8.ofNat (stM key p).1.n).toNat = (stM key p).1.n := by
    rw [UInt8.toNat_ofNat']
    omega
  rw [hu, hM] at hcell
  rw [show 16 * (key.length / 4 + 6 + 1) + 65 = M + 1 from by omega] at he h1 hc
  obtain ⟨ao, cap', hv, h2, _⟩ := hc
  injection hv with _ hv1 hv2
  subst hv2
  exact ⟨g, cap, he, by omega, hcell, h1⟩
/-- the runs of a Mac's life -/
def ledK (k e : Nat) : Option (List Rn) := notedN (some [⟨4, (k : Int), 1⟩]) k e
theorem ledK_runs (k e : Nat) : ledK k (e + 1) = some [⟨4, (k : Int), 1⟩, ⟨5, (k : Int), ((e + 1 : Nat) : Int)⟩] := notedN_runs k e
theorem ledK_room (k e : Nat) (he : e ≤ 1000000000) : Room (ledK k e) 1 := RoomN.begin k e (by omega) e (Nat.le_refl _)
end
/-- the bytes of the first pieces -/
def done (ps : List Pc) (i : Nat) : List UInt8 := ((ps.take i).map (·.2)).flatten
theorem done_succ {ps : List Pc} {i : Nat} {x : Pc} (h : ps[i]? = some x) : done ps (i + 1) = done ps i ++ x.2 := by
  unfold done
  rw [List.take_add_one, h]
  simp
theorem done_all (ps : List Pc) : done ps ps.length = (ps.map (·.2)).flatten := by
  unfold done
  rw [List.take_length]
theorem done_le (ps : List Pc) (i : Nat) : (done ps i).length ≤ ((ps.map (·.2)).flatten).length := by
  have h : (ps.map (·.2)).flatten = done ps i ++ ((ps.drop i).map (·.2)).flatten := by
    unfold done
    rw [← List.flatten_append, ← List.map_append, List.take_append_drop]
  rw [h, List.length_append]
  omega
theorem pc_at {A : List Ob} {v : Value} {ps : List Pc} {i : Nat} {x : Pc} (h : ps[i]? = some x) {n : Nat} (hn : A.length + 1 = n) : (A ++ pcObs v ps)[n + i]? = some (obB x.1 x.2) := by
  rw [List.getElem?_append_right (by omega), show n + i - A.length = i + 1 from by omega]
  simp [pcObs, pcOb, h]
end Go.Proofs.Ytpampcokonicfaa
/- The walk of CmacPieces. Condition: the lists have at most 2^20 bytes (the second form). -/
namespace Go.Proofs.Ytpampcokonicfaa
open Go.RowKit
set_option maxRecDepth 100000
set_option linter.unusedVariables false
set_option linter.unusedSimpArgs false
set_option maxHeartbeats 8000000 in
theorem cmacPieces_walk (vk vp vc : Value) (k p cuts : List UInt8) (w : World) (hk : InU w vk k) (hp : InU w vp p) (hc : InU w vc cuts) :
    Calls Try.prog 4 #[vk, vp, vc] w fun e w' => e = .returned (.bool true) ∧ Below w.heap.size w w' := by
  have HK := Lib.hid hk.1
  have HKL := Lib.hid hk.2
  have HP := Lib.hid hp.1
  have HPL := Lib.hid hp.2
  have HC := Lib.hid hc
  obtain ⟨ao, cap, rfl, _⟩ := hk.1.form
  obtain ⟨ap, capp, rfl, _⟩ := hp.1.form
  obtain ⟨ac, capc, rfl, _⟩ := hc.1.form
  clear hk hp hc
  go_enter Try.func4, Try.ntmps4
  go_wp2_with fail
  refine (macAwake_any w).mono ?_
  rintro e w1 ⟨rfl, hb⟩
  have h5 := (Env.start w).below hb
  clear hb
  have H1 := Lib.hid h5
  clear h5
  go_wp2_with fail
  refine (newP_env' H1.out).mono ?_
  rintro e w2 ⟨l1, rfl, h5⟩
  have H2 : Hid (Env w w2 [obP l1 (some [])]) := Lib.hid h5
  clear h5 H1
  go_wp2_with fail
  refine (newP_env' H2.out).mono ?_
  rintro e w3 ⟨l2, rfl, h5⟩
  have H3 : Hid (Env w w3 [obP l1 (some []), obP l2 (some [])]) := Lib.hid h5
  clear h5 H2
  by_cases hR : RightLen k.length
  · have HRL := Lib.hid hR
    clear hR
    go_wp2_with fail
    refine (tagM_env H3.out 0 rfl HRL.out (Src.old H3.out _ HK.out) (Rd.old HP.out) (Room.some (by decide) (by decide)) (RoomN.begin k.length (p.length + 2) (by have := HPL.out; omega))).mono ?_
    rintro e w4 ⟨g0, rfl, h5⟩
    have H4 : Hid (Env w w4 [obP l1 (ledK k.length ((stM k p).2 + 2)), obP l2 (some []), mcT g0 (tagK k p)]) := Lib.hid h5
    clear h5 H3
    go_wp2_with fail
    refine (newMac_env H4.out 1 rfl (Room.some (by decide) (by decide)) (ledK_room k.length 0 (by omega)) (Src.old H4.out _ HK.out) HRL.out).mono ?_
    rintro e w5 ⟨b, c, rfl, h5⟩
    have H5 : Hid (Env w w5 [obP l1 (ledK k.length ((stM k p).2 + 2)), obP l2 (ledK k.length 1), mcT g0 (tagK k p), mcC c k, mcB b c (stM k []).1]) := Lib.hid h5
    clear h5 H4
    obtain ⟨M, hM⟩ : ∃ M, 16 * (k.length / 4 + 6 + 1) + 64 = M := ⟨_, rfl⟩
    have HM := Lib.hid hM
    have hMb : M ≤ 1000 := by have := HRL.out.bd; omega
    clear hM
    go_wp2_with fail
    refine (formF_env H5.out 3 4 HRL.out HM.out rfl rfl).mono ?_
    rintro e w6 ⟨f0, n0, rfl, hn0, _, h5⟩
    have H6 : Hid (Env w w6 [obP l1 (ledK k.length ((stM k p).2 + 2)), obP l2 (ledK k.length 1), mcT g0 (tagK k p), mcC c k, mcB b c (stM k []).1, obB (.slice (some ⟨f0, 0, none⟩) (M + 1) n0) (formOf (sched k) k.length (stM k []).1)]) := Lib.hid h5
    clear h5 H5
    go_wp2_with fail
    refine (cutInto_env H6.out HP.out HC.out.1 HPL.out HC.out.2).mono ?_
    rintro e w7 ⟨gr, capr, ps, rfl, hps, hpl, h5⟩
    obtain ⟨F0, hF0⟩ : ∃ F0, formOf (sched k) k.length (stM k []).1 = F0 := ⟨_, rfl⟩
    rw [hF0] at h5
    have HF0 := Lib.hid hF0
    have HPS := Lib.hid hps
    obtain ⟨B, hB⟩ : ∃ B : Nat → List UInt8 → List Ob, B = fun e t => [obP l1 (ledK k.length ((stM k p).2 + 2)), obP l2 (ledK k.length e), mcT g0 (tagK k p), mcC c k, mcB b c (stM k t).1, obB (.slice (some ⟨f0, 0, none⟩) (M + 1) n0) F0] ++ pcObs (.slice (some ⟨gr, 0, none⟩) ps.length capr) ps := ⟨_, rfl⟩
    have H7 : Hid (Env w w7 (B 1 [])) := by rw [hB]; exact Lib.hid h5
    have HB := Lib.hid hB
    clear h5 H6 hF0 hps hB
    go_wp2_with fail
    go_loopw [16, 17, 18, 19] (fun nv iv _ _ wr => ∃ i : Nat, i ≤ ps.length ∧ iv = .int .i64 (i : Int) ∧ nv = .int .i64 ((done ps i).length : Int) ∧ Hid (Env w wr (B ((stM k (done ps i)).2 + 1) (done ps i)))) (fun _ iv _ _ _ => ps.length - (intOf iv).toNat)
    case atStart => exact ⟨0, Nat.zero_le _, rfl, rfl, H7⟩
    case round =>
      obtain ⟨i, hi, rfl, rfl, HE⟩ := hrel
      clear H7
      by_cases hlt : i < ps.length
      · obtain ⟨x, hx⟩ : ∃ x, ps[i]? = some x := ⟨_, List.getElem?_eq_getElem hlt⟩
        obtain ⟨v, l⟩ := x
        have hds := done_succ hx
        have hdl := done_le ps (i + 1)
        rw [HPS.out, hds, List.length_append] at hdl
        have hdp : (done ps i).length + l.length ≤ 1048576 := by have := HPL.out; simp only at hdl; omega
        have hBat : ∀ e t, (B e t)[7 + i]? = some (obB v l) := fun e t => by rw [HB.out]; exact pc_at hx rfl
        obtain ⟨oa, oc, hv⟩ := (HE.out.bytes (7 + i) (hBat _ _)).any
        obtain ⟨L, hL⟩ : ∃ L, l.length = L := ⟨_, rfl⟩
        rw [hL] at hv hdp
        subst hv
        have hcell : wr.cell? ⟨gr, i, none⟩ = some (.slice oa L oc) := by
          have hown := HE.out.row 6 (by rw [HB.out]; rfl)
          rw [hown.cellAt i (by omega), List.getElem?_map, hx]
          rfl
        obtain ⟨D, hD⟩ : ∃ D, (done ps i).length = D := ⟨_, rfl⟩
        rw [hD] at hdp ⊢
        have hq := stM_blocks k (done ps i)
        have hq2 := stM_blocks k (done ps i ++ l)
        rw [List.length_append, hD, hL] at hq2
        rw [hD] at hq
        have hble : blocksOf D ≤ blocksOf (D + L) ∧ blocksOf (D + L) ≤ 1048577 := by unfold blocksOf; omega
        have hw := stM_wait k (done ps i ++ l)
        rw [List.length_append, hD, hL] at hw
        have HW := Lib.hid hw
        have HBA := Lib.hid hBat
        have HDS := Lib.hid hds
        have HDD := Lib.hid (And.intro hD hL)
        have hlt1 : decide ((i : Int) < (ps.length : Int)) = true := by simp; omega
        clear hw hBat hds hdl hD hL hx
        go_wp2_with fail
        refine (writeK_env HE.out 3 4 1 (by decide) (by decide) (by decide) (key := k) (p0 := done ps i) (q := l2) (o := ledK k.length ((stM k (done ps i)).2 + 1)) HRL.out (by rw [HB.out]; rfl) (by rw [HB.out]; rfl) (by rw [HB.out]; rfl) (u := .slice oa L oc) (p := l) (fun wx obs' he hx => (he.bytes (7 + i) (hx (7 + i) _ (by omega) (by omega) (HBA.out _ _))).rd) (RoomN.some2 l.length (by rw [HDD.out.2]; omega))).mono ?_
        rintro e w8 ⟨rfl, h5⟩
        have hset : ((B ((stM k (done ps i)).2 + 1) (done ps i)).set 1 (obP l2 (notedN (ledK k.length ((stM k (done ps i)).2 + 1)) k.length ((stM k (done ps i ++ l)).2 - (stM k (done ps i)).2)))).set 4 (obK b 76 (macC (.pointer (some ⟨c, 0, none⟩)) (stM k (done ps i ++ l)).1)) = B ((stM k (done ps i ++ l)).2 + 1) (done ps i ++ l) := by
          have e : notedN (ledK k.length ((stM k (done ps i)).2 + 1)) k.length ((stM k (done ps i ++ l)).2 - (stM k (done ps i)).2) = ledK k.length ((stM k (done ps i ++ l)).2 + 1) := by
            unfold ledK
            rw [notedN_add]
            congr 1
            omega
          rw [e, HB.out]
          rfl
        rw [hset] at h5
        have H8 := Lib.hid h5
        have c8 : w8.cell? ⟨gr, i, none⟩ = some (.slice oa L oc) := by
          have hown := h5.row 6 (by rw [HB.out]; rfl)
          rw [hown.cellAt i (by omega)]
          have hown2 := HE.out.row 6 (by rw [HB.out]; rfl)
          rw [hown2.cellAt i (by omega)] at hcell
          exact hcell
        clear h5 hset hcell HE
        go_wp2_with fail
        refine (formF_env H8.out 3 4 HRL.out HM.out (by rw [HB.out]; rfl) (by rw [HB.out]; rfl)).mono ?_
        rintro e w9 ⟨f1, n1, rfl, hn1, hc9, h5⟩
        have H9 := Lib.hid h5.drop
        clear h5 H8 c8
        obtain ⟨W, hW⟩ : ∃ W, (stM k (done ps i ++ l)).1.n = W := ⟨_, rfl⟩
        have HW2 := HW.out
        have hWb := (stM_ok k (done ps i ++ l)).hn
        rw [hW] at hc9 HW2 hWb
        clear hW HW
        go_upto_if 105 with fail
        go_cut [19] from 81 to 125 (fun wv wx => wx = w9 ∧ wv = .int .i64 (W : Int))
        case first =>
          by_cases h0 : 0 < D + L
          · have hd0 : decide ((D : Int) + (L : Int) > 0) = true := by simp; omega
            rw [if_pos h0] at HW2
            have hWi : (W : Int) = ((D : Int) + (L : Int) - 1) % 16 + 1 := by omega
            have HWI := Lib.hid hWi
            clear HW2 hWi
            go_wp2
            go_meet
            refine ⟨rfl, ?_⟩
            rw [HWI.out]
          · have hd0 : decide ((D : Int) + (L : Int) > 0) = false := by simp; omega
            rw [if_neg h0] at HW2
            subst HW2
            go_wp2
            go_meet
            exact ⟨rfl, rfl⟩
        case rest =>
          obtain ⟨rfl, rfl⟩ := hcut
          clear HW2
          go_wp2_with fail
          refine ⟨⟨i + 1, by omega, by go_num, by rw [HDS.out, List.length_append, HDD.out.1, HDD.out.2]; go_num, by rw [HDS.out]; exact H9⟩, ?_⟩
          simp [intOf]; omega
      · obtain rfl : i = ps.length := by omega
        clear hlt
        have hda : done ps ps.length = p := (done_all ps).trans HPS.out
        rw [hda] at HE ⊢
        have h5 := HE.out
        rw [HB.out] at h5
        obtain ⟨E, hE⟩ : ∃ E, (stM k p).2 = E := ⟨_, rfl⟩
        have hbl := stM_blocks k p
        have hEl : E ≤ 1048576 := by
          have h1 := hbl
          have h2 := HPL.out
          unfold blocksOf at h1
          omega
        rw [hE] at h5 hbl
        have H10 : Hid (Env w wr [obP l1 (ledK k.length (E + 2)), obP l2 (ledK k.length (E + 1)), mcT g0 (tagK k p), mcC c k, mcB b c (stM k p).1, obB (.slice (some ⟨f0, 0, none⟩) (M + 1) n0) F0]) := Lib.hid (Env.pre h5)
        have HBL := Lib.hid hbl
        clear h5 HE hda HB hE hbl
        go_wp2_with fail
        refine (sumM_env H10.out 3 4 1 (by decide) (by decide) (by decide) rfl rfl rfl (ledK_room _ _ (by omega)) (stM_ok k p) HRL.out.bd.1).mono ?_
        rintro e w11 ⟨g1, rfl, h5⟩
        have H11 : Hid (Env w w11 [obP l1 (ledK k.length (E + 2)), obP l2 (ledK k.length (E + 2)), mcT g0 (tagK k p), mcC c k, mcB b c (stM k p).1, obB (.slice (some ⟨f0, 0, none⟩) (M + 1) n0) F0, mcT g1 (tagK k p)]) := Lib.hid h5
        clear h5 H10
        go_wp2_with fail
        refine (sumK_nil H11.out 3 4 (by decide) HRL.out rfl rfl).mono ?_
        rintro e w12 ⟨g2, rfl, h5⟩
        rw [ledK_runs] at h5
        obtain ⟨RS, hRS⟩ : ∃ RS : List Rn, [⟨4, (k.length : Int), 1⟩, ⟨5, (k.length : Int), ((E + 1 + 1 : Nat) : Int)⟩] = RS := ⟨_, rfl⟩
        rw [hRS] at h5
        have hRl : RS.length ≤ 1099511627776 := by rw [← hRS]; simp
        have HRS := Lib.hid hRS
        have H12 : Hid (Env w w12 [obP l1 (some RS), obP l2 (some RS), mcT g0 (tagK k p), mcC c k, mcB b c (stM k p).1, obB (.slice (some ⟨f0, 0, none⟩) (M + 1) n0) F0, mcT g1 (tagK k p), mcT g2 (tagK k p)]) := Lib.hid h5
        clear h5 H11 hRS
        go_wp2_with fail
        refine (sameBytes_env H12.out (H12.out.tagB 6 (tagK_len _ _) rfl) (H12.out.tagB 2 (tagK_len _ _) rfl)).mono ?_
        rintro e w13 ⟨he, h5⟩
        rw [decide_eq_true rfl] at he
        subst he
        have H13 := Lib.hid h5
        clear h5 H12
        go_wp2_with fail
        refine (sameBytes_env H13.out (H13.out.tagB 7 (tagK_len _ _) rfl) (H13.out.tagB 2 (tagK_len _ _) rfl)).mono ?_
        rintro e w14 ⟨he, h5⟩
        rw [decide_eq_true rfl] at he
        subst he
        have H14 := Lib.hid h5
        clear h5 H13
        go_wp2_with fail
        refine (runsP_env' H14.out 0 rfl hRl).mono ?_
        rintro e w15 ⟨v1, rfl, h5⟩
        have H15 := Lib.hid h5
        clear h5 H14
        go_wp2_with fail
        refine (runsP_env' H15.out 1 rfl hRl).mono ?_
        rintro e w16 ⟨v2, rfl, h5⟩
        have H16 := Lib.hid h5
        clear h5 H15
        go_wp2_with fail
        refine (sameRuns_env' H16.out (H16.out.runs 8 rfl).rd (H16.out.runs 9 rfl).rd).mono ?_
        rintro e w17 ⟨he, h5⟩
        rw [decide_eq_true rfl] at he
        subst he
        have H17 := Lib.hid h5
        clear h5 H16
        go_wp2_with fail
        refine (runsP_env' H17.out 0 rfl hRl).mono ?_
        rintro e w18 ⟨v3, rfl, h5⟩
        have H18 := Lib.hid h5
        clear h5 H17
        go_wp2_with fail
        refine (macRuns_env H18.out k.length p.length HKL.out HPL.out).mono ?_
        rintro e w19 ⟨v4, rfl, h5⟩
        rw [← HBL.out, HRS.out] at h5
        have H19 := Lib.hid h5
        clear h5 H18
        go_wp2_with fail
        refine (sameRuns_env' H19.out (H19.out.runs 10 rfl).rd (H19.out.runs 11 rfl).rd).mono ?_
        rintro e w20 ⟨he, h5⟩
        rw [decide_eq_true rfl] at he
        subst he
        have H20 := Lib.hid h5
        clear h5 H19
        go_wp2_with fail
        refine (resetK_env H20.out 4 rfl).mono ?_
        rintro e w21 ⟨rfl, h5⟩
        have H21 := Lib.hid h5
        clear h5 H20
        go_wp2_with fail
        refine (formF_env H21.out 3 4 HRL.out HM.out rfl rfl).mono ?_
        rintro e w22 ⟨f2, n2, rfl, hn2, _, h5⟩
        rw [HF0.out] at h5
        have H22 := Lib.hid h5
        clear h5 H21
        go_wp2_with fail
        refine (sameBytes_env H22.out (H22.out.bytes 12 rfl).rd (H22.out.bytes 5 rfl).rd).mono ?_
        rintro e w23 ⟨he, h5⟩
        rw [decide_eq_true rfl] at he
        subst he
        have H23 := Lib.hid h5
        clear h5 H22
        go_wp2
        go_ret
        exact ⟨rfl, H23.out.base⟩
  · have HRL := Lib.hid hR
    clear hR
    go_wp2_with fail
    refine (tagM_off _ _ _ k w3 (HK.out.grow H3.out.base) HRL.out).mono ?_
    rintro e w' ⟨rfl, rfl⟩
    go_wp2_with fail
    refine (newM_off _ _ k w3 (HK.out.grow H3.out.base) HRL.out).mono ?_
    rintro e w' ⟨rfl, rfl⟩
    go_wp2_with fail
    refine (lenP_env' H3.out 0 rfl).mono ?_
    rintro e w' ⟨he, rfl⟩
    have he' : e = .returned (.int .i64 0) := he
    subst he'
    go_wp2_with fail
    refine (lenP_env' H3.out 1 rfl).mono ?_
    rintro e w' ⟨he, rfl⟩
    have he' : e = .returned (.int .i64 0) := he
    subst he'
    go_wp2
    go_ret
    exact ⟨rfl, H3.out.base⟩
theorem cmacPieces.walk {w : World} (v0 : Value) (a0 : List UInt8) (h0 : InU w v0 a0) (v1 : Value) (a1 : List UInt8) (h1 : InU w v1 a1) (v2 : Value) (a2 : List UInt8) (h2 : InU w v2 a2) :
    Calls Try.prog 4 #[v0, v1, v2] w fun e w' => e = .returned (.bool true) ∧ Below w.heap.size w w' := cmacPieces_walk v0 v1 v2 a0 a1 a2 w h0 h1 h2
end Go.Proofs.Ytpampcokonicfaa
namespace Go.Proofs.Ytpampcokonicfaa.cmacPieces
open Go.ChangeShapes Go.WideShapes Go.ChangeAt Go.RowKit
set_option linter.unusedVariables false

set_option maxRecDepth 100000 in
theorem lifted (os : Os) (started : os.Started) (H : Type) (enc : TypeId × Value → H) (F : Stop.Interp) :
    ReturnsInHanded {} Try.checked os 4 .any ((Rows.OpenSpec.upto Rows.cmacPiecesSpec).pre6 enc Try.prog Try.f4 Rows.cmacPiecesUptoRow.domain false) (((Rows.OpenSpec.upto Rows.cmacPiecesSpec).at F).post enc Try.prog Try.f4 false true false false) := by
  refine returnsInHanded_of_cond (C := Try.checked) (s := (Rows.OpenSpec.upto Rows.cmacPiecesSpec)) (k := Rows.uptoSmall) rfl own started (by kernel_rfl) Try.func4
    (OpenSpec.witness (enc := enc) (C := Try.checked) (s := (Rows.OpenSpec.upto Rows.cmacPiecesSpec)) (k := Rows.uptoSmall) rfl false ⟨#[], #[.slice none 0 0, .slice none 0 0, .slice none 0 0], []⟩ 8 (by kernel_rfl) (by kernel_rfl) (by kernel_rfl)
      (x := ([.nil, .nil, .nil], [], [])) (by kernel_rfl) rfl (by kernel_rfl)) ?_
  intro W base args ds gs before hval0 hW _ hk _
  have hval : ∀ (j : Nat) t v, Try.f4.params[j]? = some t → args[j]? = some v → Value.okWide Try.prog W .any base t v := hval0
  have hW' := hW
  obtain ⟨p, q, hA0, hV, rfl, hfz, hnd⟩ := hW
  have hA : DataW.TrodAll enc Try.prog W 0 (fun _ => true) true Try.f4.params.toList args.toList ds p := hA0
  rw [Try.params4] at hA hval
  obtain ⟨v0, vs0, d0, ds0, p0, q0, hargs, rfl, rfl, h0, r0⟩ := trodAll_cons hA
  obtain ⟨v1, vs1, d1, ds1, p1, q1, rfl, rfl, rfl, h1, r1⟩ := trodAll_cons r0
  obtain ⟨v2, vs2, d2, ds2, p2, q2, rfl, rfl, rfl, h2, r2⟩ := trodAll_cons r1
  obtain ⟨rfl, rfl, rfl⟩ := trodAll_nil r2
  obtain rfl : args = #[v0, v1, v2] := by cases args; simp_all
  obtain ⟨rfl, rfl⟩ := trodVars_none hV
  obtain ⟨a0, e0⟩ := openBytesU hk (by simp) (hval 0 22 v0 rfl rfl) h0
  obtain ⟨a1, e1⟩ := openBytesU hk (by simp) (hval 1 22 v1 rfl rfl) h1
  obtain ⟨a2, e2⟩ := openBytesU hk (by simp) (hval 2 22 v2 rfl rfl) h2
  clear hA0 hval0
  simp only [List.append_nil] at hW'
  refine (walk v0 a0 e0 v1 a1 e1 v2 a2 e2).mono fun e W' ⟨he, hg⟩ => ?_
  subst he
  exact ⟨_, rfl, law_post laidOut (by kernel_rfl) rfl rfl Try.underlying4 hW' hg rfl rfl rfl⟩

theorem over : Rows.cmacPiecesUptoRow.holds Try.pinned (Rows.OpenSpec.upto Rows.cmacPiecesSpec) :=
  OpenClaim.holds_of_cond 4 Try.f4 rfl rfl rfl rfl rfl rfl rfl ⟨rfl, rfl, rfl, rfl, rfl⟩ rfl rfl rfl rfl rfl (by kernel_rfl) Try.func4 (by kernel_rfl)
    (of_decide_eq_true (by kernel_rfl)) (by unfold Func.isWrapper; rw [if_neg (of_decide_eq_false (by kernel_rfl))]; exact ⟨rfl, rfl⟩)
    (fun os started H enc _ F => lifted os started H enc F)

theorem proved : Rows.CmacPiecesUptoSaid := over
end Go.Proofs.Ytpampcokonicfaa.cmacPieces
