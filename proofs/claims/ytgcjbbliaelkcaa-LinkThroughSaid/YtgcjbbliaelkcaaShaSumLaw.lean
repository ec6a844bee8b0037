/- What Sum puts behind the bytes, and the bytes of a digest. Conditions stand in the statements. -/
import Derived.Test.YtgcjbbliaelkcaaShaCopy
namespace Go.Proofs.Ytgcjbbliaelkcaa
open Go.RowKit

theorem pad_not (n j : Nat) (h : j < padN n) : (n + 1 + j) % 64 ≠ 56 := by unfold padN at h; omega
theorem pad_end (n : Nat) : (n + 1 + padN n) % 64 = 56 := by unfold padN; omega
theorem lenB_len (n : Nat) : (lenB n).length = 8 := rfl
theorem padded_len (b : List UInt8) : (padded b).length % 64 = 0 := by
  have h := pad_end b.length
  unfold padded
  rw [List.length_append, List.length_cons, List.length_append, List.length_replicate, lenB_len]
  omega
theorem hRest_len (all : List UInt8) : (hRest all).length = all.length % 64 := by unfold hRest; rw [List.length_drop]; omega
theorem sha_eq (b : List UInt8) : shaN b = outB (hX (padded b)) := rfl
/-- What stands in front of each byte of the length. -/
theorem lenB_at (n k : Nat) (hk : k < 8) (hn : n ≤ 1000000) : (lenB n).take (k + 1) = (lenB n).take k ++ [UInt8.ofNat (n * 8 / 2 ^ (56 - 8 * k))] := by
  have e : n * 8 % 18446744073709551616 = n * 8 := Nat.mod_eq_of_lt (by omega)
  unfold lenB
  rw [e]
  rcases (by omega : k = 0 ∨ k = 1 ∨ k = 2 ∨ k = 3 ∨ k = 4 ∨ k = 5 ∨ k = 6 ∨ k = 7) with rfl | rfl | rfl | rfl | rfl | rfl | rfl | rfl <;> rfl
theorem byte_int (x : Nat) : ((UInt8.ofNat x).toNat : Int) = (x : Int) % 256 := by
  rw [UInt8.toNat_ofNat']
  omega
theorem outB_len (X : H8) : (outB X).length = 32 := rfl
theorem outB_at (X : H8) (a b : Nat) (ha : a < 8) (hb : b < 4) : (outB X).getD (4 * a + b) 0 = UInt8.ofNat (X.list.getD a 0 / 2 ^ (24 - 8 * b)) := by
  rcases (by omega : a = 0 ∨ a = 1 ∨ a = 2 ∨ a = 3 ∨ a = 4 ∨ a = 5 ∨ a = 6 ∨ a = 7) with rfl | rfl | rfl | rfl | rfl | rfl | rfl | rfl <;>
    rcases (by omega : b = 0 ∨ b = 1 ∨ b = 2 ∨ b = 3) with rfl | rfl | rfl | rfl <;>
    first
    | rfl
    | (simp only [outB, H8.list, List.flatMap_cons, List.flatMap_nil, List.cons_append, List.nil_append, List.getD_cons_zero, List.getD_cons_succ, Nat.mul_zero, Nat.sub_self, Nat.pow_zero, Nat.div_one])
/-- Half old, half new. -/
theorem bhalf_set {a b : List UInt8} {n i : Nat} (ha : a.length = n) (hb : b.length = n) (hi : i < n) : (byts (a.take i ++ b.drop i)).toArray.setIfInBounds i (.int .u8 ((a.getD i 0).toNat : Int)) = (byts (a.take (i + 1) ++ b.drop (i + 1))).toArray := by
  have h1 : (a.take i).length = i := by simp; omega
  obtain ⟨c, r, hr⟩ : ∃ c r, b.drop i = c :: r := by
    cases e : b.drop i with
    | nil => have := congrArg List.length e; simp at this; omega
    | cons c r => exact ⟨c, r, rfl⟩
  have h2 : b.drop (i + 1) = r := by rw [← List.drop_drop, hr]; rfl
  have h3 : a.take (i + 1) = a.take i ++ [a.getD i 0] := by rw [List.take_add_one, show a[i]? = some (a.getD i 0) from by simp [List.getD, ha, hi]]; rfl
  rw [hr, h2, h3, List.setIfInBounds_toArray]
  unfold byts
  rw [List.map_append, List.set_append_right _ _ (by simp; omega)]
  simp only [List.length_map, h1, Nat.sub_self, List.map_cons, List.set_cons_zero, List.map_append, List.map_nil, List.append_assoc]
  rfl
theorem byts_size (d : List UInt8) : (byts d).toArray.size = d.length := by simp [byts]
theorem byts_all (d : List UInt8) : (byts d).toArray.all (·.oneCell') = true := by
  rw [Array.all_eq_true_iff_forall_mem]
  intro v hv
  exact byts_one d v (by simpa using hv)
/-- One byte more. -/
theorem hput_any {base p : Nat} {W : World} {v : Value} {all : List UInt8} (h : HashV base W p v all) (hb : base ≤ W.heap.size) (b : UInt8) (hl : all.length + 1 ≤ 1000000) :
    Calls Try.prog 48 #[.pointer (some ⟨p, 0, none⟩), .slice (some ⟨W.heap.size, 0, none⟩) 1 1] (W.alloc (.cells #[.int .u8 (b.toNat : Int)] 5)) fun e w' => e = .returned (.tuple #[]) ∧ ∃ v', HashV base w' p v' (all ++ [b]) ∧ Fr (hOwn p v) W w' := by
  have hr : RdB (W.alloc (.cells #[.int .u8 (b.toNat : Int)] 5)) (.slice (some ⟨W.heap.size, 0, none⟩) 1 1) [b] := lit_bytes W 5 [b] (by simp) (0, 0)
  have hy : 0 < [b].length → Value.blk (.slice (some ⟨W.heap.size, 0, none⟩) 1 1) ≠ some p := fun _ hp => by injection hp with hp; exact absurd h.blk.lt (by have hp : W.heap.size = p := hp; omega)
  have hz : W.heap.size ≤ (W.alloc (.cells #[.int .u8 (b.toNat : Int)] 5)).heap.size := by simp
  refine (hwrite_any (h.fr0 ((Fr0.refl W).alloc _)) hr hy (Nat.le_trans hb hz) hl).mono ?_
  rintro e w' ⟨rfl, v', h1, h2, -⟩
  exact ⟨rfl, v', h1, Fr.trans (Fr.mono ((Fr0.refl W).alloc _) (fun _ h => h.elim)) h2⟩
end Go.Proofs.Ytgcjbbliaelkcaa
