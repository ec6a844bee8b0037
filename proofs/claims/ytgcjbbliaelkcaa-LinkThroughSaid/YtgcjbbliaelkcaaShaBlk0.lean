/- The words of a block's turns are words. No condition. -/
import Derived.Test.YtgcjbbliaelkcaaShaTake
namespace Go.Proofs.Ytgcjbbliaelkcaa
open Go.RowKit
theorem turnL_all : ∀ x ∈ turnL, x < 4294967296 := by
  unfold turnL
  rw [turn_tab]
  decide
theorem getD_lt {l : List Nat} {b : Nat} (h : ∀ x ∈ l, x < b) (hb : 0 < b) (i : Nat) : l.getD i 0 < b := by
  rcases Nat.lt_or_ge i l.length with h1 | h1
  · rw [show l.getD i 0 = l[i] from by simp [List.getD, h1]]; exact h _ (List.getElem_mem h1)
  · rw [show l.getD i 0 = 0 from by simp [List.getD, h1]]; exact hb
theorem turnL_lt (i : Nat) : turnL.getD i 0 < 4294967296 := getD_lt turnL_all (by decide) i
end Go.Proofs.Ytgcjbbliaelkcaa
