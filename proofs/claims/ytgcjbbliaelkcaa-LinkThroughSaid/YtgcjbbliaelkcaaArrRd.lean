/- A part of an array of bytes, read as a slice. Conditions stand in the statements. -/
import Derived.Test.YtgcjbbliaelkcaaBytes
namespace Go.Proofs.Ytgcjbbliaelkcaa
open Go.RowKit
theorem arr_rd {w : World} {g : Nat} {d : List UInt8} {t : TypeId} (h : Blk w g (byts d).toArray t) {o k c : Nat} (hk : o + k ≤ d.length) (hc : k ≤ c) (hm : c ≤ maxLen) : RdB w (.slice (some ⟨g, o, none⟩) k c) ((d.drop o).take k) := by
  have hl : ((d.drop o).take k).length = k := by rw [List.length_take, List.length_drop]; omega
  refine ⟨byts_len _, ⟨_, c, by rw [hl], by rw [hl]; exact hc, hm, fun h => by cases h⟩, fun _ => ⟨g, o, c, _, _, _, by rw [hl], h, fun j u hu => ?_⟩⟩
  have hj : j < k := by
    rcases Nat.lt_or_ge j k with h | h
    · exact h
    · rw [List.getElem?_eq_none (by rw [byts_len, hl]; omega)] at hu; cases hu
  rw [byts, List.getElem?_map, List.getElem?_take, if_pos hj, List.getElem?_drop] at hu
  rw [List.getElem?_toArray, byts, List.getElem?_map]
  exact hu
end Go.Proofs.Ytgcjbbliaelkcaa
