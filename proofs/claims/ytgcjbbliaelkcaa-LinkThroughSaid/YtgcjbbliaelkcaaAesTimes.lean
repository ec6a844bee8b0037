/- The product of two bytes, the program's and the reference's. Conditions stand in the statements. -/
import Derived.Test.YtgcjbbliaelkcaaAesLaw
import Derived.Test.YtgcjbbliaelkcaaRows
import Derived.WalkKit
import Derived.WalkSpells
import Derived.Handy
import Derived.Lib.Hide
import Derived.IntWalk
import Derived.KernelRfl
set_option linter.unusedSimpArgs false
set_option linter.unusedVariables false
namespace Go.Proofs.Ytgcjbbliaelkcaa
open Go.RowKit

theorem wrap_u8 (n : Nat) : IntKind.u8.wrap (n : Int) = ((UInt8.ofNat n).toNat : Int) := by
  rw [UInt8.toNat_ofNat']
  show (n : Int) % 256 = _
  omega
theorem xorU (x y : UInt8) : bits .xor .u8 (x.toNat : Int) (y.toNat : Int) = ((x ^^^ y).toNat : Int) := by
  rw [UInt8.toNat_xor]; exact u8_xor_nat _ _ x.toNat_lt y.toNat_lt
theorem orU (x y : UInt8) : bits .or .u8 (x.toNat : Int) (y.toNat : Int) = ((x ||| y).toNat : Int) := by
  rw [UInt8.toNat_or]; exact u8_or_nat _ _ x.toNat_lt y.toNat_lt
theorem and1U (n : Nat) (h : n < 256) : bits .and .u8 (n : Int) 1 = ((n % 2 : Nat) : Int) := by
  have := u8_and_nat n 1 h (by omega)
  rw [Nat.and_one_is_mod] at this
  exact this
theorem xtU_bits (a : UInt8) : Value.int .u8 (bits .xor .u8 ((a.toNat : Int) * 2 % 256) ((a.toNat : Int) / 128 * 27)) = .int .u8 ((xtU a).toNat : Int) := by
  have h1 : ((a.toNat : Int) * 2 % 256) = ((UInt8.ofNat (a.toNat * 2)).toNat : Int) := by rw [UInt8.toNat_ofNat']; omega
  have h2 : ((a.toNat : Int) / 128 * 27) = ((UInt8.ofNat (a.toNat / 128 * 27)).toNat : Int) := by have := a.toNat_lt; rw [UInt8.toNat_ofNat']; omega
  rw [h1, h2, xorU]
  rfl
set_option maxHeartbeats 1000000 in
theorem times_any (a b : UInt8) (w : World) : Calls Try.prog 84 #[.int .u8 (a.toNat : Int), .int .u8 (b.toNat : Int)] w fun e w' => e = .returned (.int .u8 ((tms a b).toNat : Int)) ∧ w = w' := by
  have hb := b.toNat_lt
  have HT := Lib.hid (show tms a b = tmsA 8 a b.toNat 0 from rfl)
  obtain ⟨r, hr⟩ : ∃ r, r = tms a b := ⟨_, rfl⟩
  obtain ⟨n, hn⟩ : ∃ n, n = b.toNat := ⟨_, rfl⟩
  rw [← hr] at HT ⊢
  rw [← hn] at HT hb ⊢
  clear hr hn
  go_enter Try.func84, Try.ntmps84
  go_wp2_with fail
  go_loop [0, 1, 5] (fun v0 v1 v5 => ∃ (k : Nat) (a' : UInt8) (m : Nat) (x : UInt8), v0 = .int .u8 (a'.toNat : Int) ∧ v1 = .int .u8 (m : Int) ∧ v5 = .int .u8 (x.toNat : Int) ∧ m < 2 ^ k ∧ m < 256 ∧ Hid (r = tmsA k a' m x)) (fun _ v1 _ => (intOf v1).toNat)
  case atStart => exact ⟨8, a, n, 0, rfl, rfl, rfl, hb, hb, HT⟩
  case round =>
    obtain ⟨k, a', m, x, rfl, rfl, rfl, hm, hm2, hT⟩ := hrel
    have hal := a'.toNat_lt
    by_cases h0 : m = 0
    · subst h0
      have HR := Lib.hid (show r = x by rw [hT.out, tmsA_zero])
      clear hm hT
      go_wp2_with fail
      go_ret
      exact ⟨by rw [HR.out]; rfl, rfl⟩
    · have h1 : (0 : Int) < (m : Int) := by omega
      obtain ⟨k, rfl⟩ : ∃ j, k = j + 1 := ⟨k - 1, by cases k with | zero => simp at hm; omega | succ j => rfl⟩
      have e1 := and1U m hm2
      have HX := Lib.hid (show r = tmsA k (xtU a') (m / 2) (if m % 2 = 1 then x ^^^ a' else x) by rw [hT.out, tmsA_step _ _ _ _ h0])
      have hm3 : m / 2 < 2 ^ k := by rw [Nat.pow_succ] at hm; omega
      clear hT hm
      by_cases hodd : m % 2 = 1
      · rw [hodd] at e1 HX
        go_wp2_with fail
        go_round
        case rel => exact ⟨k, xtU a', m / 2, x ^^^ a', xtU_bits a', by go_num, congrArg (Value.int .u8) (xorU x a'), hm3, by omega, Lib.hid (by rw [HX.out]; rfl)⟩
        case measure => simp [intOf]; omega
      · have hev : m % 2 = 0 := by omega
        rw [hev] at e1 HX
        go_wp2_with fail
        go_round
        case rel => exact ⟨k, xtU a', m / 2, x, xtU_bits a', by go_num, rfl, hm3, by omega, Lib.hid (by rw [HX.out]; rfl)⟩
        case measure => simp [intOf]; omega
end Go.Proofs.Ytgcjbbliaelkcaa
