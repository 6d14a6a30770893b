/- The two hash functions behind one interface: their states, what makes them. -/
import Derived.Test.YtideobdggdmeiaaSha5Sm
import Derived.Test.YtideobdggdmeiaaSha6Sm
namespace Go.Proofs.Ytideobdggdmeiaa
open Go.RowKit
set_option maxRecDepth 100000
set_option linter.unusedVariables false
set_option linter.unusedSimpArgs false
def HA : Bool → HashF
  | false => A5
  | true => A6
def algN : Bool → Int
  | false => 1
  | true => 2
def szN : Bool → Nat
  | false => 32
  | true => 64
def bkN : Bool → Nat
  | false => 64
  | true => 128
def fNew : Bool → FuncId
  | false => 27
  | true => 30
def fHash : Bool → FuncId
  | false => 29
  | true => 32
def fWr : Bool → FuncId
  | false => 80
  | true => 39
def fSm : Bool → FuncId
  | false => 37
  | true => 40
def fCp : Bool → FuncId
  | false => 81
  | true => 86
def tyD : Bool → TypeId
  | false => 68
  | true => 72
theorem HA_B (g : Bool) : (HA g).B = bkN g := by cases g <;> rfl
/-- a state behind a pointer -/
def StD (g : Bool) (w : World) (b : Nat) (s : HSt) : Prop := match g with
  | false => Blk w b 80 (sC5 s) ∧ Ok5 s
  | true => Blk w b 87 (sC6 s) ∧ Ok6 s
theorem StD.lt {g : Bool} {w : World} {b : Nat} {s : HSt} (h : StD g w b s) : b < w.heap.size := by
  cases g <;> exact h.1.lt
theorem StD.only {g : Bool} {w w' : World} {b : Nat} {s : HSt} (h : StD g w b s) {S : Nat → Prop} (ho : Only S w w') (hb : ¬ S b) : StD g w' b s := by
  cases g <;> exact ⟨h.1.only ho hb, h.2⟩
theorem StD.below {g : Bool} {w w' : World} {b n : Nat} {s : HSt} (h : StD g w b s) (ho : Below n w w') (hb : b < n) : StD g w' b s := by
  cases g <;> exact ⟨h.1.below ho hb, h.2⟩
/-! ### what the methods do -/
theorem stW (g : Bool) (b : Nat) (s : HSt) (w : World) (u : Value) (l : List UInt8) (h : StD g w b s) (hu : Bs w u l) (hne : l ≠ [] → ∀ x, u.ownBlock = some x → x ≠ b) (hn : s.n + l.length ≤ 4611686018427387904) :
    Calls Try.prog (fWr g) #[.pointer (some ⟨b, 0, none⟩), .pointer none, u] w fun e w' => e = .returned (.int .i64 0) ∧ StD g w' b ((HA g).feed s l) ∧ Only (fun x => x = b) w w' := by
  cases g
  · refine (write5_any b s w u l h.1 h.2 hu hne hn).mono ?_
    rintro e w' ⟨he, h1, h2⟩
    exact ⟨he, ⟨h1, feed5_ok h.2 l⟩, h2⟩
  · refine (write6_any b s w u l h.1 h.2 hu hne hn).mono ?_
    rintro e w' ⟨he, h1, h2⟩
    exact ⟨he, ⟨h1, feed6_ok h.2 l⟩, h2⟩
theorem stS (g : Bool) (b : Nat) (s : HSt) (w : World) (h : StD g w b s) (hn : s.n ≤ 1152921504606846976) :
    Calls Try.prog (fSm g) #[.pointer (some ⟨b, 0, none⟩), .pointer none] w (NewBytesE ((HA g).sumOf s) w) := by
  cases g
  · exact sum5_any b s w h.1 h.2 hn
  · exact sum6_any b s w h.1 h.2 hn
theorem stH (g : Bool) (w : World) (u : Value) (l : List UInt8) (hu : Bs w u l) (hl : l.length ≤ 1152921504606846976) : Calls Try.prog (fHash g) #[.pointer none, u] w (NewBytes ((HA g).hash l) w) := by
  cases g
  · exact hash5_any w u l hu hl
  · exact hash6_any w u l hu hl
/-- a state's interface value -/
def ifD (g : Bool) (b : Nat) : Value := .iface (tyD g) (.agg #[.pointer (some ⟨b, 0, none⟩)])
def NewSt (g : Bool) (s : HSt) (w : World) (e : Ending) (w' : World) : Prop := ∃ b : Nat, e = .returned (.iface (tyD g) (.agg #[.pointer (some ⟨b, 0, none⟩)])) ∧ w.heap.size ≤ b ∧ StD g w' b s ∧ Below w.heap.size w w'
theorem copy5_any (b : Nat) (s : HSt) (w : World) (h : StD false w b s) : Calls Try.prog 81 #[.agg #[.pointer (some ⟨b, 0, none⟩)]] w (NewSt false s w) := by
  have H := Lib.hid h
  clear h
  go_enter Try.func81, Try.ntmps81
  go_wp2_with fail
  obtain ⟨w1, hw1⟩ : ∃ y, w.alloc (.cells #[.pointer (some ⟨b, 0, none⟩)] 68) = y := ⟨_, rfl⟩
  have HB : Hid (Below w.heap.size w w1) := by rw [← hw1]; exact Lib.hid ((Below.refl _ w).alloc (Nat.le_refl _) _)
  rw [hw1]
  clear hw1
  have H1 : Hid (StD false w1 b s) := Lib.hid (H.out.below HB.out H.out.lt)
  refine (clone5_any b s w1 H1.out.1 H1.out.2).mono ?_
  rintro e w2 ⟨g, rfl, q1, q2, q3⟩
  have HN : Hid (NewSt false s w (.returned (.iface (tyD false) (.agg #[.pointer (some ⟨g, 0, none⟩)]))) w2) := Lib.hid ⟨g, rfl, Nat.le_trans HB.out.size q1, ⟨q2, H1.out.2⟩, HB.out.trans (q3.mono HB.out.size)⟩
  clear q1 q2 q3
  go_wp2_with fail
  go_ret
  exact HN.out
theorem make5_any (w : World) : Calls Try.prog 27 #[] w (NewSt false A5.init w) := by
  go_enter Try.func27, Try.ntmps27
  go_wp2_with fail
  refine (new5_any w).mono ?_
  rintro e w2 ⟨g, rfl, q1, q2, q3⟩
  have HN : Hid (NewSt false A5.init w (.returned (.iface (tyD false) (.agg #[.pointer (some ⟨g, 0, none⟩)]))) w2) := Lib.hid ⟨g, rfl, q1, ⟨q2, init5_ok⟩, q3⟩
  clear q1 q2 q3
  go_wp2_with fail
  go_ret
  exact HN.out
theorem copy6_any (b : Nat) (s : HSt) (w : World) (h : StD true w b s) : Calls Try.prog 86 #[.agg #[.pointer (some ⟨b, 0, none⟩)]] w (NewSt true s w) := by
  have H := Lib.hid h
  clear h
  go_enter Try.func86, Try.ntmps86
  go_wp2_with fail
  obtain ⟨w1, hw1⟩ : ∃ y, w.alloc (.cells #[.pointer (some ⟨b, 0, none⟩)] 72) = y := ⟨_, rfl⟩
  have HB : Hid (Below w.heap.size w w1) := by rw [← hw1]; exact Lib.hid ((Below.refl _ w).alloc (Nat.le_refl _) _)
  rw [hw1]
  clear hw1
  have H1 : Hid (StD true w1 b s) := Lib.hid (H.out.below HB.out H.out.lt)
  refine (clone6_any b s w1 H1.out.1 H1.out.2).mono ?_
  rintro e w2 ⟨g, rfl, q1, q2, q3⟩
  have HN : Hid (NewSt true s w (.returned (.iface (tyD true) (.agg #[.pointer (some ⟨g, 0, none⟩)]))) w2) := Lib.hid ⟨g, rfl, Nat.le_trans HB.out.size q1, ⟨q2, H1.out.2⟩, HB.out.trans (q3.mono HB.out.size)⟩
  clear q1 q2 q3
  go_wp2_with fail
  go_ret
  exact HN.out
theorem make6_any (w : World) : Calls Try.prog 30 #[] w (NewSt true A6.init w) := by
  go_enter Try.func30, Try.ntmps30
  go_wp2_with fail
  refine (new6_any w).mono ?_
  rintro e w2 ⟨g, rfl, q1, q2, q3⟩
  have HN : Hid (NewSt true A6.init w (.returned (.iface (tyD true) (.agg #[.pointer (some ⟨g, 0, none⟩)]))) w2) := Lib.hid ⟨g, rfl, q1, ⟨q2, init6_ok⟩, q3⟩
  clear q1 q2 q3
  go_wp2_with fail
  go_ret
  exact HN.out
theorem stC (g : Bool) (b : Nat) (s : HSt) (w : World) (h : StD g w b s) : Calls Try.prog (fCp g) #[.agg #[.pointer (some ⟨b, 0, none⟩)]] w (NewSt g s w) := by
  cases g
  · exact copy5_any b s w h
  · exact copy6_any b s w h
theorem stN (g : Bool) (w : World) : Calls Try.prog (fNew g) #[] w (NewSt g (HA g).init w) := by
  cases g
  · exact make5_any w
  · exact make6_any w
/-! ### which function a call through the interface runs -/
theorem methW (g : Bool) (b : Nat) (w : World) : (method (Try.prog.types.size + Made.depth) (tyD g) (.agg #[.pointer (some ⟨b, 0, none⟩)]) "Write").run Try.prog w = .ok (fWr g, .pointer (some ⟨b, 0, none⟩)) w := by
  cases g
  · kernel_rfl
  · kernel_rfl
theorem methS (g : Bool) (b : Nat) (w : World) : (method (Try.prog.types.size + Made.depth) (tyD g) (.agg #[.pointer (some ⟨b, 0, none⟩)]) "Sum").run Try.prog w = .ok (fSm g, .pointer (some ⟨b, 0, none⟩)) w := by
  cases g
  · kernel_rfl
  · kernel_rfl
theorem methC (g : Bool) (b : Nat) (w : World) : (method (Try.prog.types.size + Made.depth) (tyD g) (.agg #[.pointer (some ⟨b, 0, none⟩)]) "Copy").run Try.prog w = .ok (fCp g, .agg #[.pointer (some ⟨b, 0, none⟩)]) w := by
  cases g
  · kernel_rfl
  · kernel_rfl
theorem callW (g : Bool) (args : Array Value) (w : World) : (callFunc (fWr g) args).run Try.prog w = .ok (.enter (fWr g) args) w := by
  cases g
  · kernel_rfl
  · kernel_rfl
theorem callS (g : Bool) (args : Array Value) (w : World) : (callFunc (fSm g) args).run Try.prog w = .ok (.enter (fSm g) args) w := by
  cases g
  · kernel_rfl
  · kernel_rfl
theorem callC (g : Bool) (args : Array Value) (w : World) : (callFunc (fCp g) args).run Try.prog w = .ok (.enter (fCp g) args) w := by
  cases g
  · kernel_rfl
  · kernel_rfl
theorem callN (g : Bool) (args : Array Value) (w : World) : (callFunc (fNew g) args).run Try.prog w = .ok (.enter (fNew g) args) w := by
  cases g
  · kernel_rfl
  · kernel_rfl
theorem callH (g : Bool) (args : Array Value) (w : World) : (callFunc (fHash g) args).run Try.prog w = .ok (.enter (fHash g) args) w := by
  cases g
  · kernel_rfl
  · kernel_rfl
/-! ### Of -/
def hashV (g : Bool) : Array Value := #[.int .u8 (algN g), .int .i64 (szN g), .int .i64 (bkN g), .int .u8 (algN g), .int .i64 (bkN g), .func (.func (fNew g)) #[] #[], .func (.func (fHash g)) #[] #[]]
def hashZ : Array Value := #[.int .u8 0, .int .i64 0, .int .i64 0, .int .u8 0, .int .i64 0, .nilFunc, .nilFunc]
theorem sizeHash : (Try.prog.info? 51).map (·.size) = some 7 := by kernel_rfl
theorem hashV_one (g : Bool) : ∀ v ∈ (hashV g).toList, v.oneCell' = true := by
  intro v hv
  simp [hashV] at hv
  rcases hv with rfl | rfl | rfl | rfl | rfl | rfl | rfl <;> rfl
theorem results_row_tmp {P : Program} {fn : Func} {p t : Tmp} {ty : TypeId} (h : fn.results = #[.cell p ty, .tmp t]) (tmps : Array Value) (w : World) (g : Nat) {bt : TypeId} {cs : Array Value} {de : TypeDesc} {n : Nat}
    (hp : tmps.getD p undef = .pointer (some ⟨g, 0, none⟩)) (hg : Blk w g bt cs) (hu : P.underlying ty = some de) (hd : (match de with | .struct _ | .array _ _ => true | _ => false) = true) (hi : (P.info? ty).map (·.size) = some n) (hn : cs.size = n) :
    (results fn tmps).run P w = .ok (.tuple #[.agg cs, tmps.getD t undef]) w := by
  have hp' : tmps[p]?.getD undef = .pointer (some ⟨g, 0, none⟩) := by simpa using hp
  simp [results, h, hp', asAddr, run_loadVar_row w g bt ty cs (0, 0) de hg hu hd (by rw [hi, hn])]
theorem of_any (g : Bool) (w : World) : Calls Try.prog 20 #[.int .u8 (algN g)] w fun e w' => e = .returned (.tuple #[.agg (hashV g), .int .i64 0]) ∧ Below w.heap.size w w' := by
  cases g
  · show Calls Try.prog 20 #[.int .u8 1] w _
    go_enter Try.func20, Try.ntmps20
    go_wp2_with ((with_reducible change wpList _ _ _ (Oper.mk _ (Op.store 51 _ _) _ _ _ _ :: _) _ _); refine wpList_store_blk w.heap.size (hashV false) rfl rfl (Blk.new w 51 hashZ) sizeHash rfl rfl (hashV_one false) ?_)
    exact bodyPost_ret (results_row_tmp rfl _ _ w.heap.size rfl (Blk.row (Blk.new w 51 hashZ) (hashV false)) Try.underlying51 rfl sizeHash rfl) rfl ⟨rfl, below_row ((Below.refl _ _).alloc (Nat.le_refl _) _) (Nat.le_refl _) _⟩
  · show Calls Try.prog 20 #[.int .u8 2] w _
    go_enter Try.func20, Try.ntmps20
    go_wp2_with ((with_reducible change wpList _ _ _ (Oper.mk _ (Op.store 51 _ _) _ _ _ _ :: _) _ _); refine wpList_store_blk w.heap.size (hashV true) rfl rfl (Blk.new w 51 hashZ) sizeHash rfl rfl (hashV_one true) ?_)
    exact bodyPost_ret (results_row_tmp rfl _ _ w.heap.size rfl (Blk.row (Blk.new w 51 hashZ) (hashV true)) Try.underlying51 rfl sizeHash rfl) rfl ⟨rfl, below_row ((Below.refl _ _).alloc (Nat.le_refl _) _) (Nat.le_refl _) _⟩
end Go.Proofs.Ytideobdggdmeiaa
