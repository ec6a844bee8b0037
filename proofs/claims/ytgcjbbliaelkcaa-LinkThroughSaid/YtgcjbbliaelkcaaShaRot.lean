/- Words turned. Conditions stand in the statements. -/
import Derived.Test.YtgcjbbliaelkcaaShaRoot
namespace Go.Proofs.Ytgcjbbliaelkcaa
open Go.RowKit

/-- A word turned to the right. -/
def rotr (x a : Nat) : Nat := x * 2 ^ (32 - a) % 4294967296 ||| x / 2 ^ a
theorem and31 (a : Nat) (h1 : 1 ≤ a) (h2 : a ≤ 31) : bits .and .u64 (IntKind.u64.wrap (-(a : Int))) 31 = ((32 - a : Nat) : Int) := by
  have e : IntKind.u64.wrap (-(a : Int)) = ((18446744073709551616 - a : Nat) : Int) := by show (-(a : Int)) % 18446744073709551616 = _; omega
  rw [e]
  have h := u64_and_nat (18446744073709551616 - a) 31 (by omega) (by omega)
  rw [show (18446744073709551616 - a) &&& 31 = (18446744073709551616 - a) % 32 from Nat.and_two_pow_sub_one_eq_mod _ 5] at h
  exact h.trans (by omega)
theorem rot_any (x a : Nat) (w : World) (hx : x < 4294967296) (h1 : 1 ≤ a) (h2 : a ≤ 31) : Calls Try.prog 71 #[.int .u32 x, .int .i64 (-(a : Int))] w fun e w' => e = .returned (.int .u32 (rotr x a : Nat)) ∧ w = w' := by
  have hb := and31 a h1 h2
  obtain ⟨s, hs⟩ : ∃ s, s = 32 - a := ⟨_, rfl⟩
  rw [← hs] at hb
  have hs2 : s ≤ 31 := by omega
  have hs3 : 1 ≤ s := by omega
  have HS := Lib.hid hs
  have HA := Lib.hid (show a = 32 - s by omega)
  have HR := Lib.hid (show bits .or .u32 ((x : Int) * 2 ^ s % 4294967296) ((x : Int) / 2 ^ (32 - s)) = ((rotr x a : Nat) : Int) by
    have e1 : (x : Int) * 2 ^ s % 4294967296 = ((x * 2 ^ s % 4294967296 : Nat) : Int) := by rw [Int.natCast_emod, Int.natCast_mul, Int.natCast_pow]; rfl
    have e2 : (x : Int) / 2 ^ (32 - s) = ((x / 2 ^ (32 - s) : Nat) : Int) := by rw [Int.natCast_ediv, Int.natCast_pow]; rfl
    rw [e1, e2]
    have h := u32_or_nat (x * 2 ^ s % 4294967296) (x / 2 ^ (32 - s)) (Nat.mod_lt _ (by decide)) (Nat.lt_of_le_of_lt (Nat.div_le_self _ _) hx)
    refine h.trans ?_
    unfold rotr
    rw [← hs, show 32 - s = a from by omega])
  clear hs
  go_enter Try.func71, Try.ntmps71
  go_wp2
  go_ret
  exact ⟨by rw [← HR.out]; rfl, rfl⟩
theorem turn_tab : (List.range 64).map turnN = [0x428a2f98, 0x71374491, 0xb5c0fbcf, 0xe9b5dba5, 0x3956c25b, 0x59f111f1, 0x923f82a4, 0xab1c5ed5, 0xd807aa98, 0x12835b01, 0x243185be, 0x550c7dc3, 0x72be5d74, 0x80deb1fe, 0x9bdc06a7, 0xc19bf174, 0xe49b69c1, 0xefbe4786, 0x0fc19dc6, 0x240ca1cc, 0x2de92c6f, 0x4a7484aa, 0x5cb0a9dc, 0x76f988da, 0x983e5152, 0xa831c66d, 0xb00327c8, 0xbf597fc7, 0xc6e00bf3, 0xd5a79147, 0x06ca6351, 0x14292967, 0x27b70a85, 0x2e1b2138, 0x4d2c6dfc, 0x53380d13, 0x650a7354, 0x766a0abb, 0x81c2c92e, 0x92722c85, 0xa2bfe8a1, 0xa81a664b, 0xc24b8b70, 0xc76c51a3, 0xd192e819, 0xd6990624, 0xf40e3585, 0x106aa070, 0x19a4c116, 0x1e376c08, 0x2748774c, 0x34b0bcb5, 0x391c0cb3, 0x4ed8aa4a, 0x5b9cca4f, 0x682e6ff3, 0x748f82ee, 0x78a5636f, 0x84c87814, 0x8cc70208, 0x90befffa, 0xa4506ceb, 0xbef9a3f7, 0xc67178f2] := by decide +kernel
theorem start_tab : (List.range 8).map startN = [0x6a09e667, 0xbb67ae85, 0x3c6ef372, 0xa54ff53a, 0x510e527f, 0x9b05688c, 0x1f83d9ab, 0x5be0cd19] := by decide +kernel
end Go.Proofs.Ytgcjbbliaelkcaa
