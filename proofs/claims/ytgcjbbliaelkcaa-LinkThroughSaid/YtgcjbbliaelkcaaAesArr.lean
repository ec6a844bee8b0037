/- Arrays of bytes known whole, filled from the front. Conditions stand in the statements. -/
import Derived.Test.YtgcjbbliaelkcaaBytes
import Derived.Test.YtgcjbbliaelkcaaSteps2
namespace Go.Proofs.Ytgcjbbliaelkcaa
open Go.RowKit

theorem byts_getD (l : List UInt8) (i : Nat) (h : i < l.length) : (byts l).toArray[i]? = some (.int .u8 ((l.getD i 0).toNat : Int)) := by
  rw [List.getElem?_toArray, byts_at l i h]
  simp [List.getD, h]
theorem byts_set (l : List UInt8) (i : Nat) (x : UInt8) : (byts l).toArray.setIfInBounds i (.int .u8 (x.toNat : Int)) = (byts (l.set i x)).toArray := by
  simp [byts, List.map_set]
/-- So many bytes of a list, noughts behind. -/
def fillU (T : List UInt8) (n i : Nat) : List UInt8 := T.take i ++ List.replicate (n - i) 0
theorem fillU_len {T : List UInt8} {n i : Nat} (hT : T.length = n) (h : i ≤ n) : (fillU T n i).length = n := by
  unfold fillU
  rw [List.length_append, List.length_take, List.length_replicate]; omega
theorem fillU_set {T : List UInt8} {n i : Nat} (hT : T.length = n) (h : i < n) : (fillU T n i).set i (T.getD i 0) = fillU T n (i + 1) := by
  unfold fillU
  have h1 : (T.take i).length = i := by rw [List.length_take]; omega
  have h2 : T.take (i + 1) = T.take i ++ [T.getD i 0] := by
    rw [List.take_add_one, show T[i]? = some (T.getD i 0) from by simp [List.getD, hT, h]]; rfl
  rw [List.set_append_right _ _ (by omega), h1, Nat.sub_self, show n - i = (n - (i + 1)) + 1 by omega, List.replicate_succ, List.set_cons_zero, h2, List.append_assoc]
  rfl
theorem fillU_low {T : List UInt8} {n i j : Nat} (hT : T.length = n) (hi : i ≤ n) (h : j < i) : (fillU T n i).getD j 0 = T.getD j 0 := by
  unfold fillU
  rw [List.getD, List.getD, List.getElem?_append_left (by rw [List.length_take]; omega), List.getElem?_take, if_pos h]
theorem fillU_all {T : List UInt8} {n : Nat} (hT : T.length = n) : fillU T n n = T := by
  unfold fillU
  rw [List.take_of_length_le (by omega), Nat.sub_self, List.replicate_zero, List.append_nil]
theorem fillU_zero (T : List UInt8) (n : Nat) : fillU T n 0 = List.replicate n 0 := rfl
section
variable {w : World} {g : Nat} {t : TypeId} {l : List UInt8}
theorem Blk.u8 (h : Blk w g (byts l).toArray t) {i : Nat} (hi : i < l.length) : w.cell? ⟨g, i, none⟩ = some (.int .u8 ((l.getD i 0).toNat : Int)) := h.cell i (byts_getD l i hi)
theorem Blk.put8 (h : Blk w g (byts l).toArray t) (i : Nat) (x : UInt8) : Blk (w.setCell ⟨g, i, none⟩ (.int .u8 (x.toNat : Int))) g (byts (l.set i x)).toArray t := by
  rw [← byts_set]; exact h.set i _
theorem Blk.fill {T : List UInt8} {n i : Nat} (h : Blk w g (byts (fillU T n i)).toArray t) (hT : T.length = n) (hi : i < n) : Blk (w.setCell ⟨g, i, none⟩ (.int .u8 ((T.getD i 0).toNat : Int))) g (byts (fillU T n (i + 1))).toArray t := by
  rw [← fillU_set hT hi]; exact h.put8 i _
end
/-- So many bytes of a list, another one's behind. -/
def overU (T b : List UInt8) (i : Nat) : List UInt8 := T.take i ++ b.drop i
theorem overU_len {T b : List UInt8} {n i : Nat} (hT : T.length = n) (hb : b.length = n) (h : i ≤ n) : (overU T b i).length = n := by
  unfold overU
  rw [List.length_append, List.length_take, List.length_drop]; omega
theorem overU_at {T b : List UInt8} {n i : Nat} (hT : T.length = n) (hb : b.length = n) (h : i ≤ n) : (overU T b i).getD i 0 = b.getD i 0 := by
  unfold overU
  rw [List.getD, List.getD, List.getElem?_append_right (by rw [List.length_take]; omega), List.length_take, List.getElem?_drop, show i + (i - min i T.length) = i by omega]
theorem overU_set {T b : List UInt8} {n i : Nat} (hT : T.length = n) (hb : b.length = n) (h : i < n) : (overU T b i).set i (T.getD i 0) = overU T b (i + 1) := by
  unfold overU
  have h1 : (T.take i).length = i := by rw [List.length_take]; omega
  have h2 : T.take (i + 1) = T.take i ++ [T.getD i 0] := by
    rw [List.take_add_one, show T[i]? = some (T.getD i 0) from by simp [List.getD, hT, h]]; rfl
  have h3 : b.drop i = b.getD i 0 :: b.drop (i + 1) := by rw [List.drop_eq_getElem_cons (by omega)]; simp [List.getD, hb, h]
  rw [h3, List.set_append_right _ _ (by omega), h1, Nat.sub_self, List.set_cons_zero, h2, List.append_assoc]
  rfl
theorem overU_all {T b : List UInt8} {n : Nat} (hT : T.length = n) (hb : b.length = n) : overU T b n = T := by
  unfold overU
  rw [List.take_of_length_le (by omega), List.drop_of_length_le (by omega), List.append_nil]
theorem Blk.over {w : World} {g : Nat} {t : TypeId} {T b : List UInt8} {n i : Nat} (h : Blk w g (byts (overU T b i)).toArray t) (hT : T.length = n) (hb : b.length = n) (hi : i < n) : Blk (w.setCell ⟨g, i, none⟩ (.int .u8 ((T.getD i 0).toNat : Int))) g (byts (overU T b (i + 1))).toArray t := by
  rw [← overU_set hT hb hi]; exact h.put8 i _
theorem map16_at (f : Nat → UInt8) {i : Nat} (h : i < 16) : ((List.range 16).map f).getD i 0 = f i := by simp [List.getD, h]
theorem Blk.range {w : World} {g : Nat} {t : TypeId} {l : List UInt8} (h : Blk w g (byts l).toArray t) (o n : Nat) : w.rangeAt g o (byts ((l.drop o).take n)) := fun j v hv => by
  have hj : j < n := by
    rcases Nat.lt_or_ge j n with h | h
    · exact h
    · rw [List.getElem?_eq_none (by rw [byts_len, List.length_take]; omega)] at hv; cases hv
  rw [byts, List.getElem?_map, List.getElem?_take, if_pos hj, List.getElem?_drop] at hv
  exact h.cell (o + j) (by rw [List.getElem?_toArray, byts, List.getElem?_map]; exact hv)
end Go.Proofs.Ytgcjbbliaelkcaa
