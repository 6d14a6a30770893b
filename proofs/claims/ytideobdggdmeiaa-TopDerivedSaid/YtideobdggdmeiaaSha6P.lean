/- SHA-512's work on a block, as the program does it, over plain lists (printed by wip/mksha.py). No program in sight. -/
import Derived.Test.YtideobdggdmeiaaShaP
import Derived.Test.YtideobdggdmeiaaWordB
namespace Go.Proofs.Ytideobdggdmeiaa
open Go.RowKit
set_option maxRecDepth 100000
set_option linter.unusedVariables false
def K6 : List Int := [4794697086780616226, 8158064640168781261, 13096744586834688815, 16840607885511220156,
  4131703408338449720, 6480981068601479193, 10538285296894168987, 12329834152419229976,
  15566598209576043074, 1334009975649890238, 2608012711638119052, 6128411473006802146,
  8268148722764581231, 9286055187155687089, 11230858885718282805, 13951009754708518548,
  16472876342353939154, 17275323862435702243, 1135362057144423861, 2597628984639134821,
  3308224258029322869, 5365058923640841347, 6679025012923562964, 8573033837759648693,
  10970295158949994411, 12119686244451234320, 12683024718118986047, 13788192230050041572,
  14330467153632333762, 15395433587784984357, 489312712824947311, 1452737877330783856,
  2861767655752347644, 3322285676063803686, 5560940570517711597, 5996557281743188959,
  7280758554555802590, 8532644243296465576, 9350256976987008742, 10552545826968843579,
  11727347734174303076, 12113106623233404929, 14000437183269869457, 14369950271660146224,
  15101387698204529176, 15463397548674623760, 17586052441742319658, 1182934255886127544,
  1847814050463011016, 2177327727835720531, 2830643537854262169, 3796741975233480872,
  4115178125766777443, 5681478168544905931, 6601373596472566643, 7507060721942968483,
  8399075790359081724, 8693463985226723168, 9568029438360202098, 10144078919501101548,
  10430055236837252648, 11840083180663258601, 13761210420658862357, 14299343276471374635,
  14566680578165727644, 15097957966210449927, 16922976911328602910, 17689382322260857208,
  500013540394364858, 748580250866718886, 1242879168328830382, 1977374033974150939,
  2944078676154940804, 3659926193048069267, 4368137639120453308, 4836135668995329356,
  5532061633213252278, 6448918945643986474, 6902733635092675308, 7801388544844847127]
def h06 : List Int := [7640891576956012808, 13503953896175478587, 4354685564936845355, 11912009170470909681,
  5840696475078001361, 11170449401992604703, 2270897969802886507, 6620516959819538809]
def add6 (x y : Int) : Int := (x + y) % 18446744073709551616
def sg06 (x : Int) : Int := bits .xor .u64 (bits .xor .u64 (rot64 x 63) (rot64 x 56)) (x / 128)
def sg16 (x : Int) : Int := bits .xor .u64 (bits .xor .u64 (rot64 x 45) (rot64 x 3)) (x / 64)
def SG06 (x : Int) : Int := bits .xor .u64 (bits .xor .u64 (rot64 x 36) (rot64 x 30)) (rot64 x 25)
def SG16 (x : Int) : Int := bits .xor .u64 (bits .xor .u64 (rot64 x 50) (rot64 x 46)) (rot64 x 23)
/-- the word number t -/
def wAt6 (l : List UInt8) (W : List Int) (t : Nat) : Int :=
  if t < 16 then be .u64 18446744073709551616 l (8 * t) 8 else add6 (add6 (add6 (sg16 (W.getD (t - 2) 0)) (W.getD (t - 7) 0)) (sg06 (W.getD (t - 15) 0))) (W.getD (t - 16) 0)
def wTo6 (l : List UInt8) : Nat → List Int
  | 0 => List.replicate 80 0
  | t + 1 => (wTo6 l t).set t (wAt6 l (wTo6 l t) t)
theorem wTo6_len (l : List UInt8) : ∀ t, (wTo6 l t).length = 80
  | 0 => by simp [wTo6]
  | t + 1 => by rw [wTo6, List.length_set, wTo6_len l t]
/-- the eight words of a round -/
structure R86 where
  a : Int
  b : Int
  c : Int
  d : Int
  e : Int
  f : Int
  g : Int
  h : Int
def not6 (x : Int) : Int := bits .xor .u64 18446744073709551615 x
def ch6 (e f g : Int) : Int := bits .xor .u64 (bits .and .u64 e f) (bits .and .u64 (not6 e) g)
def maj6 (a b c : Int) : Int := bits .xor .u64 (bits .xor .u64 (bits .and .u64 a b) (bits .and .u64 a c)) (bits .and .u64 b c)
def p6 (r : R86) (k w : Int) : Int := add6 (add6 (add6 (add6 r.h (SG16 r.e)) (ch6 r.e r.f r.g)) k) w
def q6 (r : R86) : Int := add6 (SG06 r.a) (maj6 r.a r.b r.c)
def step6 (r : R86) (k w : Int) : R86 := ⟨add6 (p6 r k w) (q6 r), r.a, r.b, r.c, add6 r.d (p6 r k w), r.e, r.f, r.g⟩
def first6 (h : List Int) : R86 := ⟨h.getD 0 0, h.getD 1 0, h.getD 2 0, h.getD 3 0, h.getD 4 0, h.getD 5 0, h.getD 6 0, h.getD 7 0⟩
def rTo6 (h : List Int) (W : List Int) : Nat → R86
  | 0 => first6 h
  | t + 1 => step6 (rTo6 h W t) (K6.getD t 0) (W.getD t 0)
def R86.list (r : R86) : List Int := [r.a, r.b, r.c, r.d, r.e, r.f, r.g, r.h]
/-- the words, i of them added to -/
def hTo6 (h : List Int) (r : List Int) : Nat → List Int
  | 0 => h
  | i + 1 => (hTo6 h r i).set i (add6 ((hTo6 h r i).getD i 0) (r.getD i 0))
theorem hTo6_len (h r : List Int) : ∀ i, (hTo6 h r i).length = h.length
  | 0 => rfl
  | i + 1 => by rw [hTo6, List.length_set, hTo6_len h r i]
def C6 (h : List Int) (l : List UInt8) : List Int := hTo6 h (rTo6 h (wTo6 l 80) 80).list 8
theorem C6_len (h : List Int) (l : List UInt8) : (C6 h l).length = h.length := hTo6_len _ _ _
end Go.Proofs.Ytideobdggdmeiaa
