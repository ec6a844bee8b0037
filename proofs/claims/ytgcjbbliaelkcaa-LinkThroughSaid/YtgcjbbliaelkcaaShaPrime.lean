/- Primes: of the program and of the reference, as far as they are asked for. Conditions stand in the statements. -/
import Derived.Test.YtgcjbbliaelkcaaRows
import Derived.Test.YtgcjbbliaelkcaaBase
import Derived.WalkKit
import Derived.WalkSpells
import Derived.BigQuiet
import Derived.Deep.QuietTactic
import Derived.Lib.Hide
import Derived.Handy
import Derived.KernelRfl
namespace Go.Proofs.Ytgcjbbliaelkcaa
open Go.RowKit

/-- Is a number prime? (As the program asks.) -/
def aloneB (n : Nat) : Bool := decide (1 < n) && (List.range n).all fun d => !(decide (2 ≤ d) && decide (d * d ≤ n) && decide (n % d = 0))
theorem alone_has {n d : Nat} (h1 : 2 ≤ d) (h2 : d * d ≤ n) (h3 : n % d = 0) : aloneB n = false := by
  unfold aloneB
  rw [Bool.and_eq_false_iff]
  refine .inr ?_
  rw [List.all_eq_false]
  have hdn : d < n := Nat.lt_of_lt_of_le (by have : d * 1 < d * d := Nat.mul_lt_mul_of_pos_left (by omega) (by omega); omega) h2
  exact ⟨d, List.mem_range.2 hdn, by simp [h1, h2, h3]⟩
theorem alone_not {n k : Nat} (h : ∀ d, 2 ≤ d → d < k → n % d ≠ 0) (hk : n < k * k) : aloneB n = decide (1 < n) := by
  unfold aloneB
  have : ((List.range n).all fun d => !(decide (2 ≤ d) && decide (d * d ≤ n) && decide (n % d = 0))) = true := by
    rw [List.all_eq_true]
    intro d hd
    by_cases h2 : 2 ≤ d
    · by_cases h3 : d * d ≤ n
      · have hdk : d < k := by
          rcases Nat.lt_or_ge d k with h | h
          · exact h
          · have := Nat.mul_le_mul h h; omega
        have := h d h2 hdk
        simp [this]
      · simp [h3]
    · simp [h2]
  rw [this]; simp
set_option maxHeartbeats 1000000 in
theorem alone_any (n : Nat) (w : World) (hn : n ≤ 10000) : Calls Try.prog 85 #[.int .u64 n] w fun e w' => e = .returned (.bool (aloneB n)) ∧ w = w' := by
  go_enter Try.func85, Try.ntmps85
  go_wp2_with fail
  go_loop [3] (fun v3 => ∃ d : Nat, 2 ≤ d ∧ d ≤ 102 ∧ v3 = .int .u64 d ∧ Hid (∀ c, 2 ≤ c → c < d → n % c ≠ 0)) (fun v3 => 200 - (intOf v3).toNat)
  case atStart => exact ⟨2, by omega, by omega, rfl, Lib.hid (fun c h1 h2 => by omega)⟩
  case round =>
    obtain ⟨d, h1, h2, rfl, hno⟩ := hrel
    have hdd : d * d ≤ 10404 := by have := Nat.mul_le_mul h2 h2; omega
    obtain ⟨q, hq⟩ : ∃ q, q = d * d := ⟨_, rfl⟩
    have hqi : (d : Int) * (d : Int) = (q : Int) := by rw [hq]; exact (Int.natCast_mul d d).symm
    have HQ := Lib.hid hq
    rw [← hq] at hdd
    clear hq
    obtain ⟨m, hm⟩ : ∃ m, m = n % d := ⟨_, rfl⟩
    have hmi : (n : Int) % (d : Int) = (m : Int) := by rw [hm]; exact (Int.natCast_emod n d).symm
    have hmi2 : (n : Int).tmod (d : Int) = (m : Int) := by rw [Int.tmod_eq_emod_of_nonneg (by omega)]; exact hmi
    have HM := Lib.hid hm
    clear hm
    by_cases hle : q ≤ n
    · have a1 : decide ((q : Int) ≤ (n : Int)) = true := by simp; omega
      have a2 : decide (q ≤ n) = true := by simpa using hle
      have HLe := Lib.hid hle
      have hd1 : d ≤ 100 := by
        rcases Nat.lt_or_ge 100 d with h | h
        · have := Nat.mul_le_mul h h; rw [← HQ.out] at this; omega
        · exact h
      clear hle
      by_cases hz : m = 0
      · have z1 : ((m : Int) == 0) = true := by simp; omega
        have z2 : (m == 0) = true := by simpa using hz
        have HA := Lib.hid (alone_has h1 (by rw [← HQ.out]; exact HLe.out) (by rw [← HM.out]; exact hz))
        clear hz
        go_wp2_with fail
        go_ret
        rw [HA.out]
        exact ⟨rfl, rfl⟩
      · have z1 : ((m : Int) == 0) = false := by simp; omega
        have z2 : (m == 0) = false := by simpa using hz
        have HN := Lib.hid (show ∀ c, 2 ≤ c → c < d + 1 → n % c ≠ 0 from fun c e1 e2 => by
          rcases Nat.lt_or_ge c d with h | h
          · exact hno.out c e1 h
          · obtain rfl : c = d := by omega
            rw [← HM.out]; exact hz)
        clear hz
        go_wp2_with fail
        go_round
        case rel => exact ⟨d + 1, by omega, by omega, by go_num, HN.out⟩
        case measure => simp [intOf]; omega
    · have a1 : decide ((q : Int) ≤ (n : Int)) = false := by simp; omega
      have a2 : decide (q ≤ n) = false := by simpa using hle
      have HA := Lib.hid (alone_not hno.out (by rw [← HQ.out]; omega))
      clear hle
      go_wp2_with fail
      go_ret
      rw [HA.out]
      exact ⟨by first | rfl | (simp; omega), rfl⟩
/-- One, and the first 64 primes. -/
def PT : List Nat := [1, 2, 3, 5, 7, 11, 13, 17, 19, 23, 29, 31, 37, 41, 43, 47, 53, 59, 61, 67, 71, 73, 79, 83, 89, 97, 101, 103, 107, 109, 113, 127, 131, 137, 139, 149, 151, 157, 163, 167, 173, 179, 181, 191, 193, 197, 199, 211, 223, 227, 229, 233, 239, 241, 251, 257, 263, 269, 271, 277, 281, 283, 293, 307, 311]
def pt (i : Nat) : Nat := PT.getD i 0
theorem pt_next : ∀ i, i < 64 → pt i < pt (i + 1) ∧ pt (i + 1) ≤ 311 ∧ aloneB (pt (i + 1)) = true ∧ ((List.range (pt (i + 1) - pt i)).all fun j => j == 0 || !aloneB (pt i + j)) = true := by decide +kernel
theorem pt_gap {i m : Nat} (hi : i < 64) (h1 : pt i < m) (h2 : m < pt (i + 1)) : aloneB m = false := by
  have := (pt_next i hi).2.2.2
  have := List.all_eq_true.1 this (m - pt i) (List.mem_range.2 (by omega))
  rw [show pt i + (m - pt i) = m from by omega] at this
  have h3 : (m - pt i == 0) = false := by simp; omega
  rw [h3] at this
  simpa using this
set_option maxHeartbeats 1000000 in
theorem prime_any (k : Nat) (w : World) (hk : k ≤ 63) : Calls Try.prog 79 #[.int .i64 k] w fun e w' => e = .returned (.int .u64 (pt (k + 1) : Nat)) ∧ w = w' := by
  go_enter Try.func79, Try.ntmps79
  go_wp2_with fail
  go_loop [0, 3] (fun v0 v3 => ∃ i : Nat, i ≤ k + 1 ∧ v0 = .int .i64 ((k : Int) - i) ∧ v3 = .int .u64 (pt i)) (fun v0 _ => (intOf v0 + 1).toNat)
  case atStart => exact ⟨0, by omega, by simp, rfl⟩
  case round =>
    obtain ⟨i, hi, rfl, rfl⟩ := hrel
    by_cases hlt : i ≤ k
    · obtain ⟨n1, n2, n3, -⟩ := pt_next i (by omega)
      have N3 := Lib.hid n3
      have GAP := Lib.hid (fun m h1 h2 => pt_gap (i := i) (m := m) (by omega) h1 h2)
      obtain ⟨a, ha⟩ : ∃ a, a = pt i := ⟨_, rfl⟩
      obtain ⟨b, hb⟩ : ∃ b, b = pt (i + 1) := ⟨_, rfl⟩
      rw [← ha] at n1 GAP ⊢
      rw [← hb] at n1 n2 N3 GAP
      have HB := Lib.hid hb
      clear ha hb n3
      have i0 : 0 ≤ (k : Int) - i := by omega
      go_wp2_with fail
      go_loop [3] (fun v3 => ∃ m : Nat, a < m ∧ m ≤ b ∧ v3 = .int .u64 m) (fun v3 => b - (intOf v3).toNat)
      case atStart => exact ⟨a + 1, by omega, by omega, by go_num⟩
      case round =>
        obtain ⟨m, m1, m2, rfl⟩ := hrel
        by_cases hmb : m < b
        · have HA := Lib.hid (GAP.out m m1 hmb)
          go_wp2_with (go_at_call 85; refine (alone_any m _ (by omega)).mono ?_; rintro e w' ⟨he, rfl⟩; rw [HA.out] at he; subst he)
          go_round
          case rel => exact ⟨m + 1, by omega, by omega, by go_num⟩
          case measure => simp [intOf]; omega
        · obtain rfl : m = b := by omega
          go_wp2_with (go_at_call 85; refine (alone_any m _ (by omega)).mono ?_; rintro e w' ⟨he, rfl⟩; rw [N3.out] at he; subst he)
          go_round
          case rel => exact ⟨i + 1, by omega, by go_num, by rw [HB.out]⟩
          case measure => simp [intOf]; omega
    · obtain rfl : i = k + 1 := by omega
      go_wp2_with fail
      go_ret
      exact ⟨rfl, rfl⟩
/-- Is a number prime? (As the reference asks, of numbers from 2 on.) -/
def primeB (n : Nat) : Bool := (List.range n).all fun d => !(decide (2 ≤ d) && decide (n % d = 0))
theorem prime_has {n k : Nat} (hk : k ≤ n) (h : ∃ d, 2 ≤ d ∧ d < k ∧ n % d = 0) : primeB n = false := by
  obtain ⟨d, h1, h2, h3⟩ := h
  unfold primeB
  rw [List.all_eq_false]
  exact ⟨d, List.mem_range.2 (by omega), by simp [h1, h3]⟩
theorem prime_not {n : Nat} (h : ∀ d, 2 ≤ d → d < n → n % d ≠ 0) : primeB n = true := by
  unfold primeB
  rw [List.all_eq_true]
  intro d hd
  by_cases h2 : 2 ≤ d
  · have := h d h2 (List.mem_range.1 hd); simp [this]
  · simp [h2]
theorem rpt_next : ∀ i, i < 64 → primeB (pt (i + 1)) = true ∧ ((List.range (pt (i + 1) - pt i)).all fun j => j == 0 || !primeB (pt i + j)) = true := by decide +kernel
theorem rpt_gap {i m : Nat} (hi : i < 64) (h1 : pt i < m) (h2 : m < pt (i + 1)) : primeB m = false := by
  have := (rpt_next i hi).2
  have := List.all_eq_true.1 this (m - pt i) (List.mem_range.2 (by omega))
  rw [show pt i + (m - pt i) = m from by omega] at this
  have h3 : (m - pt i == 0) = false := by simp; omega
  rw [h3] at this
  simpa using this
end Go.Proofs.Ytgcjbbliaelkcaa
