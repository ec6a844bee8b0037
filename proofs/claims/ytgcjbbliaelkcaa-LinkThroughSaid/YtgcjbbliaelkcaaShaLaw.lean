/- What a block does, in plain numbers. Conditions stand in the statements. -/
import Derived.Test.YtgcjbbliaelkcaaShaMix
namespace Go.Proofs.Ytgcjbbliaelkcaa
open Go.RowKit

def M32 : Nat := 4294967296
def bAt (b : List UInt8) (i : Nat) : Nat := (b.getD i 0).toNat
theorem bAt_lt (b : List UInt8) (i : Nat) : bAt b i < 256 := (b.getD i 0).toNat_lt
/-- Four bytes as a word. -/
def word4 (b : List UInt8) (i : Nat) : Nat := bAt b (4 * i) * 16777216 + bAt b (4 * i + 1) * 65536 + bAt b (4 * i + 2) * 256 + bAt b (4 * i + 3)
theorem word4_lt (b : List UInt8) (i : Nat) : word4 b i < 4294967296 := by
  have h0 := bAt_lt b (4 * i)
  have h1 := bAt_lt b (4 * i + 1)
  have h2 := bAt_lt b (4 * i + 2)
  have h3 := bAt_lt b (4 * i + 3)
  unfold word4
  omega
/-- The next word of a block's spread. -/
def nextW (b : List UInt8) (w : List Nat) : Nat :=
  if w.length < 16 then word4 b w.length else (w.getD (w.length - 16) 0 + mixS (w.getD (w.length - 15) 0) 7 18 3 + w.getD (w.length - 7) 0 + mixS (w.getD (w.length - 2) 0) 17 19 10) % 4294967296
theorem nextW_lt (b : List UInt8) (w : List Nat) : nextW b w < 4294967296 := by
  unfold nextW
  split
  · exact word4_lt b _
  · exact Nat.mod_lt _ (by decide)
def spW (b : List UInt8) : Nat → List Nat
  | 0 => []
  | i + 1 => (fun w => w ++ [nextW b w]) (spW b i)
theorem spW_len (b : List UInt8) (n : Nat) : (spW b n).length = n := by
  induction n with
  | zero => rfl
  | succ n ih => show (spW b n ++ [nextW b (spW b n)]).length = n + 1; simp [ih]
theorem spW_lt (b : List UInt8) (n : Nat) : ∀ x ∈ spW b n, x < 4294967296 := by
  induction n with
  | zero => intro x hx; cases hx
  | succ n ih =>
    intro x hx
    rcases List.mem_append.mp (show x ∈ spW b n ++ [nextW b (spW b n)] from hx) with h | h
    · exact ih x h
    · rw [List.mem_singleton.mp h]; exact nextW_lt b _
/-- Eight words. -/
structure H8 where
  (a b c d e f g h : Nat)
def H8.ok (x : H8) : Prop := x.a < 4294967296 ∧ x.b < 4294967296 ∧ x.c < 4294967296 ∧ x.d < 4294967296 ∧ x.e < 4294967296 ∧ x.f < 4294967296 ∧ x.g < 4294967296 ∧ x.h < 4294967296
def H8.list (x : H8) : List Nat := [x.a, x.b, x.c, x.d, x.e, x.f, x.g, x.h]
def inv32 (x : Nat) : Nat := 4294967295 - x
def chN (x : H8) : Nat := (x.e &&& x.f) ^^^ (inv32 x.e &&& x.g)
def majN (x : H8) : Nat := (x.a &&& x.b) ^^^ (x.a &&& x.c) ^^^ (x.b &&& x.c)
def uN (x : H8) (k w : Nat) : Nat := (x.h + mixT x.e 6 11 25 + chN x + k + w) % 4294967296
def vN (x : H8) : Nat := (mixT x.a 2 13 22 + majN x) % 4294967296
def rnd (x : H8) (k w : Nat) : H8 := ⟨(uN x k w + vN x) % 4294967296, x.a, x.b, x.c, (x.d + uN x k w) % 4294967296, x.e, x.f, x.g⟩
theorem H8.ok.rnd {x : H8} (h : x.ok) (k w : Nat) : (rnd x k w).ok :=
  ⟨Nat.mod_lt _ (by decide), h.1, h.2.1, h.2.2.1, Nat.mod_lt _ (by decide), h.2.2.2.2.1, h.2.2.2.2.2.1, h.2.2.2.2.2.2.1⟩
/-- The first n turns of a block. -/
def rnds (x : H8) (ks ws : List Nat) : Nat → H8
  | 0 => x
  | n + 1 => (fun y => rnd y (ks.getD n 0) (ws.getD n 0)) (rnds x ks ws n)
theorem H8.ok.rnds {x : H8} (h : x.ok) (ks ws : List Nat) (n : Nat) : (rnds x ks ws n).ok := by
  induction n with
  | zero => exact h
  | succ n ih => exact ih.rnd _ _
def add8 (x y : H8) : H8 := ⟨(x.a + y.a) % 4294967296, (x.b + y.b) % 4294967296, (x.c + y.c) % 4294967296, (x.d + y.d) % 4294967296, (x.e + y.e) % 4294967296, (x.f + y.f) % 4294967296, (x.g + y.g) % 4294967296, (x.h + y.h) % 4294967296⟩
theorem add8_ok (x y : H8) : (add8 x y).ok := by
  refine ⟨?_, ?_, ?_, ?_, ?_, ?_, ?_, ?_⟩ <;> exact Nat.mod_lt _ (by decide)
/-- A block, taken into eight words. -/
def takeN (x : H8) (b : List UInt8) (ks : List Nat) : H8 := add8 (rnds x ks (spW b 64) 64) x
def turnL : List Nat := (List.range 64).map turnN
def startH : H8 := ⟨startN 0, startN 1, startN 2, startN 3, startN 4, startN 5, startN 6, startN 7⟩
/-- The bytes that are hashed: with the one, the zeros and the length. -/
def padN (n : Nat) : Nat := (119 - n % 64) % 64
def lenB (n : Nat) : List UInt8 := [56, 48, 40, 32, 24, 16, 8, 0].map fun i => UInt8.ofNat (n * 8 % 18446744073709551616 / 2 ^ i)
def padded (b : List UInt8) : List UInt8 := b ++ 128 :: (List.replicate (padN b.length) 0 ++ lenB b.length)
def blocksN (x : H8) (b : List UInt8) (ks : List Nat) : Nat → H8
  | 0 => x
  | n + 1 => (fun y => takeN y ((b.drop (n * 64)).take 64) ks) (blocksN x b ks n)
def outB (x : H8) : List UInt8 := x.list.flatMap fun v => [UInt8.ofNat (v / 16777216), UInt8.ofNat (v / 65536), UInt8.ofNat (v / 256), UInt8.ofNat v]
def shaN (b : List UInt8) : List UInt8 := (fun p => outB (blocksN startH p turnL (p.length / 64))) (padded b)
theorem sha_none : shaN [] = [0xe3, 0xb0, 0xc4, 0x42, 0x98, 0xfc, 0x1c, 0x14, 0x9a, 0xfb, 0xf4, 0xc8, 0x99, 0x6f, 0xb9, 0x24, 0x27, 0xae, 0x41, 0xe4, 0x64, 0x9b, 0x93, 0x4c, 0xa4, 0x95, 0x99, 0x1b, 0x78, 0x52, 0xb8, 0x55] := by decide +kernel
theorem sha_abc : shaN [97, 98, 99] = [0xba, 0x78, 0x16, 0xbf, 0x8f, 0x01, 0xcf, 0xea, 0x41, 0x41, 0x40, 0xde, 0x5d, 0xae, 0x22, 0x23, 0xb0, 0x03, 0x61, 0xa3, 0x96, 0x17, 0x7a, 0x9c, 0xb4, 0x10, 0xff, 0x61, 0xf2, 0x00, 0x15, 0xad] := by decide +kernel
end Go.Proofs.Ytgcjbbliaelkcaa
