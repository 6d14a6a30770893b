/- SHA-256's work on a block, as the program does it, over plain lists (printed by wip/mksha.py). No program in sight. -/
import Derived.Test.YtideobdggdmeiaaShaP
import Derived.Test.YtideobdggdmeiaaWordB
namespace Go.Proofs.Ytideobdggdmeiaa
open Go.RowKit
set_option maxRecDepth 100000
set_option linter.unusedVariables false
def K5 : List Int := [1116352408, 1899447441, 3049323471, 3921009573,
  961987163, 1508970993, 2453635748, 2870763221,
  3624381080, 310598401, 607225278, 1426881987,
  1925078388, 2162078206, 2614888103, 3248222580,
  3835390401, 4022224774, 264347078, 604807628,
  770255983, 1249150122, 1555081692, 1996064986,
  2554220882, 2821834349, 2952996808, 3210313671,
  3336571891, 3584528711, 113926993, 338241895,
  666307205, 773529912, 1294757372, 1396182291,
  1695183700, 1986661051, 2177026350, 2456956037,
  2730485921, 2820302411, 3259730800, 3345764771,
  3516065817, 3600352804, 4094571909, 275423344,
  430227734, 506948616, 659060556, 883997877,
  958139571, 1322822218, 1537002063, 1747873779,
  1955562222, 2024104815, 2227730452, 2361852424,
  2428436474, 2756734187, 3204031479, 3329325298]
def h05 : List Int := [1779033703, 3144134277, 1013904242, 2773480762,
  1359893119, 2600822924, 528734635, 1541459225]
def add5 (x y : Int) : Int := (x + y) % 4294967296
def sg05 (x : Int) : Int := bits .xor .u32 (bits .xor .u32 (rot32 x 25) (rot32 x 14)) (x / 8)
def sg15 (x : Int) : Int := bits .xor .u32 (bits .xor .u32 (rot32 x 15) (rot32 x 13)) (x / 1024)
def SG05 (x : Int) : Int := bits .xor .u32 (bits .xor .u32 (rot32 x 30) (rot32 x 19)) (rot32 x 10)
def SG15 (x : Int) : Int := bits .xor .u32 (bits .xor .u32 (rot32 x 26) (rot32 x 21)) (rot32 x 7)
/-- the word number t -/
def wAt5 (l : List UInt8) (W : List Int) (t : Nat) : Int :=
  if t < 16 then be .u32 4294967296 l (4 * t) 4 else add5 (add5 (add5 (sg15 (W.getD (t - 2) 0)) (W.getD (t - 7) 0)) (sg05 (W.getD (t - 15) 0))) (W.getD (t - 16) 0)
def wTo5 (l : List UInt8) : Nat → List Int
  | 0 => List.replicate 64 0
  | t + 1 => (wTo5 l t).set t (wAt5 l (wTo5 l t) t)
theorem wTo5_len (l : List UInt8) : ∀ t, (wTo5 l t).length = 64
  | 0 => by simp [wTo5]
  | t + 1 => by rw [wTo5, List.length_set, wTo5_len l t]
/-- the eight words of a round -/
structure R85 where
  a : Int
  b : Int
  c : Int
  d : Int
  e : Int
  f : Int
  g : Int
  h : Int
def not5 (x : Int) : Int := bits .xor .u32 4294967295 x
def ch5 (e f g : Int) : Int := bits .xor .u32 (bits .and .u32 e f) (bits .and .u32 (not5 e) g)
def maj5 (a b c : Int) : Int := bits .xor .u32 (bits .xor .u32 (bits .and .u32 a b) (bits .and .u32 a c)) (bits .and .u32 b c)
def p5 (r : R85) (k w : Int) : Int := add5 (add5 (add5 (add5 r.h (SG15 r.e)) (ch5 r.e r.f r.g)) k) w
def q5 (r : R85) : Int := add5 (SG05 r.a) (maj5 r.a r.b r.c)
def step5 (r : R85) (k w : Int) : R85 := ⟨add5 (p5 r k w) (q5 r), r.a, r.b, r.c, add5 r.d (p5 r k w), r.e, r.f, r.g⟩
def first5 (h : List Int) : R85 := ⟨h.getD 0 0, h.getD 1 0, h.getD 2 0, h.getD 3 0, h.getD 4 0, h.getD 5 0, h.getD 6 0, h.getD 7 0⟩
def rTo5 (h : List Int) (W : List Int) : Nat → R85
  | 0 => first5 h
  | t + 1 => step5 (rTo5 h W t) (K5.getD t 0) (W.getD t 0)
def R85.list (r : R85) : List Int := [r.a, r.b, r.c, r.d, r.e, r.f, r.g, r.h]
/-- the words, i of them added to -/
def hTo5 (h : List Int) (r : List Int) : Nat → List Int
  | 0 => h
  | i + 1 => (hTo5 h r i).set i (add5 ((hTo5 h r i).getD i 0) (r.getD i 0))
theorem hTo5_len (h r : List Int) : ∀ i, (hTo5 h r i).length = h.length
  | 0 => rfl
  | i + 1 => by rw [hTo5, List.length_set, hTo5_len h r i]
def C5 (h : List Int) (l : List UInt8) : List Int := hTo5 h (rTo5 h (wTo5 l 64) 64).list 8
theorem C5_len (h : List Int) (l : List UInt8) : (C5 h l).length = h.length := hTo5_len _ _ _
end Go.Proofs.Ytideobdggdmeiaa
