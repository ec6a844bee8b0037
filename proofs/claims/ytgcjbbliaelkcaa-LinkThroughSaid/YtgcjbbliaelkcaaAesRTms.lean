/- The reference's product of two bytes. Conditions stand in the statements. -/
import Derived.Test.YtgcjbbliaelkcaaAesTimes
set_option linter.unusedSimpArgs false
set_option linter.unusedVariables false
namespace Go.Proofs.Ytgcjbbliaelkcaa
open Go.RowKit

theorem i64_xor_nat (a b : Nat) (ha : a < 9223372036854775808) (hb : b < 9223372036854775808) : bits .xor .i64 (a : Int) (b : Int) = ((a ^^^ b : Nat) : Int) := by
  have hx : a ^^^ b < 2 ^ 63 := Nat.xor_lt_two_pow (by omega) (by omega)
  have h1 : (BitVec.ofInt 64 (a : Int)).toNat = a := by
    rw [BitVec.ofInt_natCast, BitVec.toNat_ofNat]; exact Nat.mod_eq_of_lt (by omega)
  have h2 : (BitVec.ofInt 64 (b : Int)).toNat = b := by
    rw [BitVec.ofInt_natCast, BitVec.toNat_ofNat]; exact Nat.mod_eq_of_lt (by omega)
  show IntKind.i64.wrap ((BitVec.ofInt 64 (a : Int) ^^^ BitVec.ofInt 64 (b : Int)).toNat : Int) = _
  rw [BitVec.toNat_xor, h1, h2, IntKind.wrap_i64]
  omega
theorem rtP_lt (a b : Nat) (ha : a < 256) : ∀ i, i ≤ 8 → rtP a b i < 65536
  | 0, _ => by show 0 < 65536; omega
  | i + 1, h => by
    have ih := rtP_lt a b ha i (by omega)
    rw [rtP]
    split
    · have h2 : a * 2 ^ i < 65536 := by
        have h3 : 2 ^ i ≤ 2 ^ 8 := Nat.pow_le_pow_right (by decide) (by omega)
        have h4 := Nat.mul_le_mul (show a ≤ 255 by omega) h3
        omega
      exact Nat.xor_lt_two_pow (n := 16) ih h2
    · exact ih
theorem rtR_lt (p : Nat) (hp : p < 65536) : ∀ j, j ≤ 7 → rtR p j < 65536
  | 0, _ => hp
  | j + 1, h => by
    have ih := rtR_lt p hp j (by omega)
    rw [rtR]
    split
    · have h2 : 283 * 2 ^ (6 - j) < 65536 := by
        have h3 : 2 ^ (6 - j) ≤ 2 ^ 6 := Nat.pow_le_pow_right (by decide) (by omega)
        have h4 := Nat.mul_le_mul (Nat.le_refl 283) h3
        omega
      exact Nat.xor_lt_two_pow (n := 16) ih h2
    · exact ih
theorem div2_cast (n i : Nat) : ((n : Int) / 2 ^ i) = ((n / 2 ^ i : Nat) : Int) := by simp
theorem div2_mod1 {n i : Nat} (h : n / 2 ^ i % 2 = 1) : ((n : Int) / 2 ^ i) % 2 = 1 := by
  rw [div2_cast]
  obtain ⟨q, hq⟩ : ∃ q, q = n / 2 ^ i := ⟨_, rfl⟩
  rw [← hq] at h ⊢
  omega
theorem div2_mod0 {n i : Nat} (h : ¬ n / 2 ^ i % 2 = 1) : ((n : Int) / 2 ^ i) % 2 = 0 := by
  rw [div2_cast]
  obtain ⟨q, hq⟩ : ∃ q, q = n / 2 ^ i := ⟨_, rfl⟩
  rw [← hq] at h ⊢
  omega
theorem div2_tmod1 {n i : Nat} (h : n / 2 ^ i % 2 = 1) : ((n : Int) / 2 ^ i).tmod 2 = 1 := by
  rw [Int.tmod_eq_emod_of_nonneg (by rw [div2_cast]; exact Int.natCast_nonneg _)]; exact div2_mod1 h
theorem div2_tmod0 {n i : Nat} (h : ¬ n / 2 ^ i % 2 = 1) : ((n : Int) / 2 ^ i).tmod 2 = 0 := by
  rw [Int.tmod_eq_emod_of_nonneg (by rw [div2_cast]; exact Int.natCast_nonneg _)]; exact div2_mod0 h
theorem shl_i64 {m i : Nat} (h : m * 2 ^ i < 65536) : wrap64 ((m : Int) * 2 ^ i) = ((m * 2 ^ i : Nat) : Int) := by
  have : ((m : Int) * 2 ^ i) = ((m * 2 ^ i : Nat) : Int) := by simp
  rw [this]; unfold wrap64; omega
end Go.Proofs.Ytgcjbbliaelkcaa
