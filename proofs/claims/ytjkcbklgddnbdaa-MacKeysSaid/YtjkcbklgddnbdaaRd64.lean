/- A whole array of bytes, read as a slice. Conditions stand in the statements. -/
import Derived.Test.YtjkcbklgddnbdaaArrRd
namespace Go.Proofs.Ytjkcbklgddnbdaa
theorem rd64 {w : World} {g : Nat} {d : List UInt8} {t : TypeId} (h : Blk w g (byts d).toArray t) {n : Nat} (hn : d.length = n) (hm : n ≤ 1000) : RdB w (.slice (some ⟨g, 0, none⟩) n n) d := by
  have h1 := arr_rd h (o := 0) (k := n) (c := n) (by omega) (Nat.le_refl _) (by unfold maxLen; omega)
  rw [List.drop_zero, List.take_of_length_le (Nat.le_of_eq hn)] at h1
  exact h1
end Go.Proofs.Ytjkcbklgddnbdaa
