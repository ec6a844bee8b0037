/- The reference's product of two bytes. Conditions stand in the statements. -/
import Derived.Test.YtpmindbipclphaaAesTimes
set_option linter.unusedSimpArgs false
set_option linter.unusedVariables false
namespace Go.Proofs.Ytpmindbipclphaa
open Go.RowKit

theorem i64_xor_nat (a b : Nat) (ha : a < 9223372036854775808) (hb : b < 9223372036854775808) : bits .xor .i64 (a : Int) (b : Int) = ((a ^^^ b : Nat) : Int) := by
  have hx : a ^^^ b < 2 ^ 63 := Nat.xor_lt_two_pow (by omega) (by omega)
  have h1 : (BitVec.ofInt 64 (a : Int)).toNat = a := by
    rw [BitVec.ofInt_natCast, BitVec.toNat_ofNat]; exact Nat.mod_eq_of_lt (by omega)
  have h2 : (BitVec.ofInt 64 (b : Int)).toNat = b := by
    rw [BitVec.ofInt_natCast, BitVec.toNat_ofNat]; exact Nat.mod_eq_of_lt (by omega)
  show IntKind.i64.wrap ((BitVec.ofInt 64 (a : Int) ^^^ BitVec.ofInt 64 (b : Int)).toNat : Int) = _
  rw [BitVec.toNat_xor, h1, h2, IntKind.wrap_i64]
  omega
theorem rtP_lt (a b : Nat) (ha : a < 256) : ∀ i, i ≤ 8 → rtP a b i < 65536
  | 0, _ => by show 0 < 65536; omega
  | i + 1, h => by
    have ih := rtP_lt a b ha i (by omega)
    rw [rtP]
    split
    · have h2 : a * 2 ^ i < 65536 := by
        have h3 : 2 ^ i ≤ 2 ^ 8 := Nat.pow_le_pow_right (by decide) (by omega)
        have h4 := Nat.mul_le_mul (show a ≤ 255 by omega) h3
        omega
      exact Nat.xor_lt_two_pow (n := 16) ih h2
    · exact ih
theorem rtR_lt (p : Nat) (hp : p < 65536) : ∀ j, j ≤ 7 → rtR p j < 65536
  | 0, _ => hp
  | j + 1, h => by
    have ih := rtR_lt p hp j (by omega)
    rw [rtR]
    split
    · have h2 : 283 * 2 ^ (6 - j) < 65536 := by
        have h3 : 2 ^ (6 - j) ≤ 2 ^ 6 := Nat.pow_le_pow_right (by decide) (by omega)
        have h4 := Nat.mul_le_mul (Nat.le_refl 283) h3
        omega
      exact Nat.xor_lt_two_pow (n := 16) ih h2
    · exact ih
theorem div2_cast (n i : Nat) : ((n : Int) / 2 ^ i) = ((n / 2 ^ i : Nat) : Int) := by simp
theorem div2_mod1 {n i : Nat} (h : n / 2 ^ i % 2 = 1) : ((n : Int) / 2 ^ i) % 2 = 1 := by
  rw [div2_cast]
  obtain ⟨q, hq⟩ : ∃ q, q = n / 2 ^ i := ⟨_, rfl⟩
  rw [← hq] at h ⊢
  omega
theorem div2_mod0 {n i : Nat} (h : ¬ n / 2 ^ i % 2 = 1) : ((n : Int) / 2 ^ i) % 2 = 0 := by
  rw [div2_cast]
  obtain ⟨q, hq⟩ : ∃ q, q = n / 2 ^ i := ⟨_, rfl⟩
  rw [← hq] at h ⊢
  omega
theorem div2_tmod1 {n i : Nat} (h : n / 2 ^ i % 2 = 1) : ((n : Int) / 2 ^ i).tmod 2 = 1 := by
  rw [Int.tmod_eq_emod_of_nonneg (by rw [div2_cast]; exact Int.natCast_nonneg _)]; exact div2_mod1 h
theorem div2_tmod0 {n i : Nat} (h : ¬ n / 2 ^ i % 2 = 1) : ((n : Int) / 2 ^ i).tmod 2 = 0 := by
  rw [Int.tmod_eq_emod_of_nonneg (by rw [div2_cast]; exact Int.natCast_nonneg _)]; exact div2_mod0 h
theorem shl_i64 {m i : Nat} (h : m * 2 ^ i < 65536) : wrap64 ((m : Int) * 2 ^ i) = ((m * 2 ^ i : Nat) : Int) := by
  have : ((m : Int) * 2 ^ i) = ((m * 2 ^ i : Nat) : Int) := by simp
  rw [this]; unfold wrap64; omega
set_option maxHeartbeats 1000000 in
theorem rtimes_any (a b : UInt8) (w : World) : Calls Try.prog 56 #[.int .u8 (a.toNat : Int), .int .u8 (b.toNat : Int)] w fun e w' => e = .returned (.int .u8 ((rtm a b).toNat : Int)) ∧ w = w' := by
  have ha := a.toNat_lt
  have hb := b.toNat_lt
  have HT := Lib.hid (show rtm a b = UInt8.ofNat (rtR (rtP a.toNat b.toNat 8) 7) from rfl)
  have HP := Lib.hid (rtP_lt a.toNat b.toNat ha)
  have HPS := Lib.hid (fun i => show rtP a.toNat b.toNat (i + 1) = if b.toNat / 2 ^ i % 2 = 1 then rtP a.toNat b.toNat i ^^^ (a.toNat * 2 ^ i) else rtP a.toNat b.toNat i from rfl)
  have HP0 := Lib.hid (show rtP a.toNat b.toNat 0 = 0 from rfl)
  have HR := Lib.hid (rtR_lt (rtP a.toNat b.toNat 8) (HP.out 8 (by omega)))
  obtain ⟨r, hr⟩ : ∃ r, r = rtm a b := ⟨_, rfl⟩
  obtain ⟨m, hm⟩ : ∃ n, n = a.toNat := ⟨_, rfl⟩
  obtain ⟨n, hn⟩ : ∃ n, n = b.toNat := ⟨_, rfl⟩
  rw [← hr] at HT ⊢
  rw [← hm] at HT HP HPS HP0 HR ha ⊢
  rw [← hn] at HT HP HPS HP0 HR hb ⊢
  clear hr hm hn
  go_enter Try.func56, Try.ntmps56
  go_wp2_with fail
  go_loop [5, 6] (fun v5 v6 => ∃ i : Nat, i ≤ 8 ∧ v6 = .int .i64 (i : Int) ∧ v5 = .int .i64 (rtP m n i : Int)) (fun _ v6 => 8 - (intOf v6).toNat)
  case atStart => exact ⟨0, by omega, rfl, by rw [HP0.out]; rfl⟩
  case round =>
    obtain ⟨i, hi, rfl, rfl⟩ := hrel
    have hp := HP.out i hi
    by_cases hlt : i < 8
    · have e1 : IntKind.u64.wrap (i : Int) = (i : Int) := by rw [IntKind.wrap_u64]; omega
      have h2 : 2 ^ i ≤ 2 ^ 7 := Nat.pow_le_pow_right (by decide) (by omega)
      have h3 : m * 2 ^ i < 65536 := by
        have h4 := Nat.mul_le_mul (show m ≤ 255 by omega) h2
        omega
      have h5 := HPS.out i
      obtain ⟨q, hq⟩ : ∃ q, q = rtP m n (i + 1) := ⟨_, rfl⟩
      obtain ⟨p, hpp⟩ : ∃ q, q = rtP m n i := ⟨_, rfl⟩
      rw [← hq, ← hpp] at h5
      rw [← hpp] at hp ⊢
      have HQ := Lib.hid hq
      have H5 := Lib.hid h5
      clear hq hpp h5
      have i0 : (0 : Int) ≤ (i : Int) := by omega
      by_cases hodd : n / 2 ^ i % 2 = 1
      · rw [if_pos hodd] at H5
        have e6 : ((n : Int) / 2 ^ i).tmod 2 = 1 := div2_tmod1 hodd
        have e7 : ((n : Int) / 2 ^ i) % 2 = 1 := div2_mod1 hodd
        clear hodd
        go_wp2_with fail
        go_round
        case rel => exact ⟨i + 1, by omega, by go_num, by rw [← HQ.out, H5.out, shl_i64 h3, i64_xor_nat _ _ (by omega) (by omega)]⟩
        case measure => simp [intOf]; omega
      · rw [if_neg hodd] at H5
        have e6 : ((n : Int) / 2 ^ i).tmod 2 = 0 := div2_tmod0 hodd
        have e7 : ((n : Int) / 2 ^ i) % 2 = 0 := div2_mod0 hodd
        clear hodd
        go_wp2_with fail
        go_round
        case rel => exact ⟨i + 1, by omega, by go_num, by rw [← HQ.out, H5.out]⟩
        case measure => simp [intOf]; omega
    · obtain rfl : i = 8 := by omega
      have HS := Lib.hid (fun j => show rtR (rtP m n 8) (j + 1) = if rtR (rtP m n 8) j / 2 ^ (14 - j) % 2 = 1 then rtR (rtP m n 8) j ^^^ (283 * 2 ^ (6 - j)) else rtR (rtP m n 8) j from rfl)
      have HZ := Lib.hid (show rtR (rtP m n 8) 0 = rtP m n 8 from rfl)
      obtain ⟨P, hP⟩ : ∃ P, P = rtP m n 8 := ⟨_, rfl⟩
      rw [← hP] at HT HR HS HZ hp ⊢
      clear hP HPS HP HP0 hlt hi
      go_wp2_with fail
      go_loop [5, 7] (fun v5 v7 => ∃ j : Nat, j ≤ 7 ∧ v7 = .int .i64 (14 - j : Int) ∧ v5 = .int .i64 (rtR P j : Int)) (fun _ v7 => (intOf v7).toNat)
      case atStart => exact ⟨0, by omega, rfl, by rw [HZ.out]⟩
      case round =>
        obtain ⟨j, hj, rfl, rfl⟩ := hrel
        have hp2 := HR.out j hj
        by_cases hlt : j < 7
        · have e1 : IntKind.u64.wrap (14 - (j : Int)) = 14 - (j : Int) := by rw [IntKind.wrap_u64]; omega
          have e2 : IntKind.u64.wrap (14 - (j : Int) - 8) = 14 - (j : Int) - 8 := by rw [IntKind.wrap_u64]; omega
          have e3 : (14 - (j : Int)).toNat = 14 - j := by omega
          have e4 : (14 - (j : Int) - 8).toNat = 6 - j := by omega
          have h2 : 2 ^ (6 - j) ≤ 2 ^ 6 := Nat.pow_le_pow_right (by decide) (by omega)
          have h3 : 283 * 2 ^ (6 - j) < 65536 := by
            have h4 := Nat.mul_le_mul (Nat.le_refl 283) h2
            omega
          have h5 := HS.out j
          obtain ⟨q, hq⟩ : ∃ q, q = rtR P (j + 1) := ⟨_, rfl⟩
          obtain ⟨p, hpp⟩ : ∃ q, q = rtR P j := ⟨_, rfl⟩
          rw [← hq, ← hpp] at h5
          rw [← hpp] at hp2 ⊢
          have HQ := Lib.hid hq
          have H5 := Lib.hid h5
          clear hq hpp h5 h2
          have i0 : (0 : Int) ≤ 14 - (j : Int) - 8 := by omega
          have i1 : (0 : Int) ≤ 14 - (j : Int) := by omega
          by_cases hodd : p / 2 ^ (14 - j) % 2 = 1
          · rw [if_pos hodd] at H5
            have e6 : ((p : Int) / 2 ^ (14 - j)).tmod 2 = 1 := div2_tmod1 hodd
            have e7 : ((p : Int) / 2 ^ (14 - j)) % 2 = 1 := div2_mod1 hodd
            clear hodd
            go_wp2_with fail
            go_round
            case rel => exact ⟨j + 1, by omega, by congr 1; push_cast; omega, by rw [← HQ.out, H5.out, show wrap64 (283 * 2 ^ (6 - j)) = ((283 * 2 ^ (6 - j) : Nat) : Int) from shl_i64 h3, i64_xor_nat _ _ (by omega) (by omega)]⟩
            case measure => simp [intOf]; omega
          · rw [if_neg hodd] at H5
            have e6 : ((p : Int) / 2 ^ (14 - j)).tmod 2 = 0 := div2_tmod0 hodd
            have e7 : ((p : Int) / 2 ^ (14 - j)) % 2 = 0 := div2_mod0 hodd
            clear hodd
            go_wp2_with fail
            go_round
            case rel => exact ⟨j + 1, by omega, by congr 1; push_cast; omega, by rw [← HQ.out, H5.out]⟩
            case measure => simp [intOf]; omega
        · obtain rfl : j = 7 := by omega
          go_wp2_with fail
          go_ret
          exact ⟨by rw [HT.out, ← wrap_u8]; rfl, rfl⟩
end Go.Proofs.Ytpmindbipclphaa
