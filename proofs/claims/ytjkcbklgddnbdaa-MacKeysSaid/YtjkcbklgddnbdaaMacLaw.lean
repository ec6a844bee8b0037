/- What a mark is, in plain numbers. Conditions stand in the statements. -/
import Derived.Test.YtjkcbklgddnbdaaShaSumLaw
import Derived.Test.YtjkcbklgddnbdaaCopy
import Derived.WalkSpells
namespace Go.Proofs.Ytjkcbklgddnbdaa
open Go.RowKit

/-- A key that is a block or less. -/
def keyN (key : List UInt8) : List UInt8 := if key.length ≤ 64 then key else shaN key
def padK (key : List UInt8) : List UInt8 := keyN key ++ List.replicate (64 - (keyN key).length) 0
def blockN (key : List UInt8) (x : UInt8) : List UInt8 := (padK key).map (· ^^^ x)
/-- The mark of a text under a key. -/
def macN (key text : List UInt8) : List UInt8 := shaN (blockN key 92 ++ shaN (blockN key 54 ++ text))
theorem shaN_len (b : List UInt8) : (shaN b).length = 32 := outB_len _
theorem keyN_le (key : List UInt8) : (keyN key).length ≤ 64 := by
  unfold keyN
  split
  · assumption
  · rw [shaN_len]; decide
theorem padK_len (key : List UInt8) : (padK key).length = 64 := by
  have := keyN_le key
  unfold padK
  rw [List.length_append, List.length_replicate]
  omega
theorem blockN_len (key : List UInt8) (x : UInt8) : (blockN key x).length = 64 := by unfold blockN; rw [List.length_map, padK_len]
theorem macN_len (key text : List UInt8) : (macN key text).length = 32 := shaN_len _
theorem keyN_small {key : List UInt8} (h : key.length ≤ 64) : keyN key = key := if_pos h
theorem keyN_great {key : List UInt8} (h : 64 < key.length) : keyN key = shaN key := if_neg (by omega)
theorem blockN_at (key : List UInt8) (x : UInt8) (i : Nat) (h : i < 64) : (blockN key x).getD i 0 = (padK key).getD i 0 ^^^ x := by
  have hl := padK_len key
  unfold blockN
  simp [List.getD, hl, h]
theorem xor_u8 (x y : UInt8) : bits .xor .u8 (x.toNat : Int) (y.toNat : Int) = ((x ^^^ y).toNat : Int) := by
  have hx := x.toNat_lt
  have hy := y.toNat_lt
  rw [UInt8.toNat_xor]
  exact u8_xor_nat x.toNat y.toNat hx hy
theorem take_set_xor {l m : List UInt8} {n i : Nat} (hl : l.length = n) (hm : m.length = n) (hi : i < n) : (byts (m.take i ++ l.drop i)).toArray[i]? = some (.int .u8 ((l.getD i 0).toNat : Int)) := by
  rw [List.getElem?_toArray, byts, List.getElem?_map, List.getElem?_append_right (by rw [List.length_take]; omega), List.length_take, List.getElem?_drop, show i + (i - min i m.length) = i by omega]
  simp [List.getD, hl, hi]
end Go.Proofs.Ytjkcbklgddnbdaa
