/- A packet with a byte of its tag turned: plain lists. Conditions stand in the statements. -/
import Derived.Test.YtgcjbbliaelkcaaLkJ2
namespace Go.Proofs.Ytgcjbbliaelkcaa

theorem xor_ne {x y : UInt8} (h : y ≠ 0) : x ^^^ y ≠ x := by
  intro e
  have h1 : x ^^^ (x ^^^ y) = x ^^^ x := by rw [e]
  rw [← UInt8.xor_assoc, UInt8.xor_self, UInt8.zero_xor] at h1
  exact h h1
/-- A packet whose tag is turned at a place. -/
def flipL (b : List UInt8) (at' : Nat) (y : UInt8) : List UInt8 := b.set (b.length - 1 - at') (b.getD (b.length - 1 - at') 0 ^^^ y)
theorem flip_len (b : List UInt8) (a : Nat) (y : UInt8) : (flipL b a y).length = b.length := by simp [flipL]
theorem flip_take {b : List UInt8} {a : Nat} {y : UInt8} (hb : 16 ≤ b.length) (ha : a ≤ 15) : (flipL b a y).take (b.length - 16) = b.take (b.length - 16) := by
  unfold flipL
  rw [List.take_set_of_le (by omega)]
theorem flip_drop {b : List UInt8} {a : Nat} {y : UInt8} (hb : 16 ≤ b.length) (ha : a ≤ 15) (hy : y ≠ 0) : (flipL b a y).drop (b.length - 16) ≠ b.drop (b.length - 16) := by
  intro h
  have hi : b.length - 1 - a < b.length := by omega
  have h1 := congrArg (fun l => l.getD (15 - a) 0) h
  simp only [List.getD, List.getElem?_drop] at h1
  rw [show b.length - 16 + (15 - a) = b.length - 1 - a by omega] at h1
  unfold flipL at h1
  rw [List.getElem?_set_self hi] at h1
  have h2 : b.getD (b.length - 1 - a) 0 ^^^ y = b.getD (b.length - 1 - a) 0 := by simpa [List.getD] using h1
  exact xor_ne hy h2
theorem openP_flip (code mark : List UInt8) {wd : Nat} {text : List UInt8} {a : Nat} {y : UInt8} (hl : text.length ≤ 1200) (ha : a ≤ 15) (hy : y ≠ 0) :
    openP code mark (flipL (packL code mark wd text) a y) = ((false, 0), [], 60) := by
  have hp := packL_len code mark wd text
  unfold openP
  rw [if_neg (by rw [flip_len, hp]; omega), flip_len, flip_take (by omega) ha, pack_take, if_neg]
  rw [← pack_drop code mark wd text]
  exact flip_drop (by omega) ha hy
theorem peek_flip (code mark : List UInt8) {wd : Nat} (hw : wd < 18446744073709551616) (text : List UInt8) {a : Nat} {y : UInt8} (ha : a ≤ 15) :
    wdL ((flipL (packL code mark wd text) a y).take ((flipL (packL code mark wd text) a y).length - 16)) = wd := by
  rw [flip_len, flip_take (by rw [packL_len]; omega) ha, pack_take, wdL_head code hw]
end Go.Proofs.Ytgcjbbliaelkcaa
