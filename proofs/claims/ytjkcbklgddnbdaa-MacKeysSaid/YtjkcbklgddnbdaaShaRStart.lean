/- The reference's words walked: they are the program's. Conditions stand in the statements. -/
import Derived.Test.YtjkcbklgddnbdaaShaRRoot
import Derived.Test.YtjkcbklgddnbdaaShaRoot
set_option linter.unusedSimpArgs false
namespace Go.Proofs.Ytjkcbklgddnbdaa
open Go.RowKit

theorem rc_start : ∀ k, k < 8 → RC (fun r => r * r) (pt (k + 1) * 65536 ^ 4) 40 % 4294967296 = startN k := by decide +kernel
theorem rc_turn : ∀ k, k < 64 → RC (fun r => r * r * r) (pt (k + 1) * 65536 ^ 6) 40 % 4294967296 = turnN k := by decide +kernel
theorem pt_small : ∀ k, k < 64 → pt (k + 1) < 4294967296 := by decide +kernel
theorem startI_at (k : Nat) (h : k ≤ 7) : startI (k : Int) = (startN k : Int) := by unfold startI; rw [if_pos (by omega)]; rfl
theorem turnI_at (k : Nat) (h : k ≤ 63) : turnI (k : Int) = (turnN k : Int) := by unfold turnI; rw [if_pos (by omega)]; rfl
theorem startI_out (k : Int) (h : k < 0 ∨ 7 < k) : startI k = 0 := by unfold startI; rw [if_neg (by omega)]
theorem turnI_out (k : Int) (h : k < 0 ∨ 63 < k) : turnI k = 0 := by unfold turnI; rw [if_neg (by omega)]
set_option maxHeartbeats 1000000 in
theorem rstart_any (k : Int) (w : World) : Calls Try.prog 27 #[.int .i64 k] w fun e w' => e = .returned (.int .u32 (startI k)) ∧ Fr0 w w' := by
  by_cases h0 : k < 0
  · have HE := Lib.hid (startI_out k (.inl h0))
    have q0 : decide (k < 0) = true := by simpa using h0
    clear h0
    go_enter Try.func27, Try.ntmps27
    go_wp2_with fail
    go_ret
    exact ⟨by rw [HE.out]; rfl, Fr0.refl _⟩
  · by_cases h7 : 7 < k
    · have HE := Lib.hid (startI_out k (.inr h7))
      have q0 : decide (k < 0) = false := by simpa using h0
      have q1 : decide (7 < k) = true := by simpa using h7
      clear h0 h7
      go_enter Try.func27, Try.ntmps27
      go_wp2_with fail
      go_ret
      exact ⟨by rw [HE.out]; rfl, Fr0.refl _⟩
    · obtain ⟨K, rfl⟩ : ∃ K : Nat, k = K := ⟨k.toNat, by omega⟩
      have hK : K ≤ 7 := by omega
      have HP := Lib.hid (rprime_any K w (by omega))
      have HRT := Lib.hid (fun W => root2_any (pt (K + 1)) W (pt_small K (by omega)))
      have HRC := Lib.hid (rc_start K (by omega))
      have HE := Lib.hid (startI_at K hK)
      obtain ⟨pk, hpk⟩ : ∃ p, p = pt (K + 1) := ⟨_, rfl⟩
      rw [← hpk] at HP HRT HRC
      obtain ⟨R, hR⟩ : ∃ R, R = RC (fun r => r * r) (pk * 65536 ^ 4) 40 := ⟨_, rfl⟩
      rw [← hR] at HRT HRC
      have em : (R : Int) % 4294967296 = ((R % 4294967296 : Nat) : Int) := by omega
      rw [HRC.out] at em
      have hlt : startN K < 4294967296 := by rw [← HRC.out]; exact Nat.mod_lt _ (by decide)
      obtain ⟨s, hs⟩ : ∃ s, s = startN K := ⟨_, rfl⟩
      rw [← hs] at em hlt HE
      have q0 : decide ((K : Int) < 0) = false := by simp
      have q1 : decide (7 < (K : Int)) = false := by simp; omega
      have q2 : decide (7 < K) = false := by simp; omega
      clear h0 h7 hpk hR hs HRC
      go_enter Try.func27, Try.ntmps27
      go_wp2_with (first
        | (go_at_call 37; refine (HP.out).mono ?_; rintro e w' ⟨rfl, rfl⟩)
        | (go_at_call 36; refine (HRT.out _).mono ?_; rintro e w2 ⟨rfl, hf⟩; have F := Lib.hid hf; clear hf))
      go_ret
      exact ⟨by rw [HE.out]; rfl, F.out⟩
set_option maxHeartbeats 1000000 in
theorem rturn_any (k : Int) (w : World) : Calls Try.prog 38 #[.int .i64 k] w fun e w' => e = .returned (.int .u32 (turnI k)) ∧ Fr0 w w' := by
  by_cases h0 : k < 0
  · have HE := Lib.hid (turnI_out k (.inl h0))
    have q0 : decide (k < 0) = true := by simpa using h0
    clear h0
    go_enter Try.func38, Try.ntmps38
    go_wp2_with fail
    go_ret
    exact ⟨by rw [HE.out]; rfl, Fr0.refl _⟩
  · by_cases h7 : 63 < k
    · have HE := Lib.hid (turnI_out k (.inr h7))
      have q0 : decide (k < 0) = false := by simpa using h0
      have q1 : decide (63 < k) = true := by simpa using h7
      clear h0 h7
      go_enter Try.func38, Try.ntmps38
      go_wp2_with fail
      go_ret
      exact ⟨by rw [HE.out]; rfl, Fr0.refl _⟩
    · obtain ⟨K, rfl⟩ : ∃ K : Nat, k = K := ⟨k.toNat, by omega⟩
      have hK : K ≤ 63 := by omega
      have HP := Lib.hid (rprime_any K w (by omega))
      have HRT := Lib.hid (fun W => root3_any (pt (K + 1)) W (pt_small K (by omega)))
      have HRC := Lib.hid (rc_turn K (by omega))
      have HE := Lib.hid (turnI_at K hK)
      obtain ⟨pk, hpk⟩ : ∃ p, p = pt (K + 1) := ⟨_, rfl⟩
      rw [← hpk] at HP HRT HRC
      obtain ⟨R, hR⟩ : ∃ R, R = RC (fun r => r * r * r) (pk * 65536 ^ 6) 40 := ⟨_, rfl⟩
      rw [← hR] at HRT HRC
      have em : (R : Int) % 4294967296 = ((R % 4294967296 : Nat) : Int) := by omega
      rw [HRC.out] at em
      have hlt : turnN K < 4294967296 := by rw [← HRC.out]; exact Nat.mod_lt _ (by decide)
      obtain ⟨s, hs⟩ : ∃ s, s = turnN K := ⟨_, rfl⟩
      rw [← hs] at em hlt HE
      have q0 : decide ((K : Int) < 0) = false := by simp
      have q1 : decide (63 < (K : Int)) = false := by simp; omega
      have q2 : decide (63 < K) = false := by simp; omega
      clear h0 h7 hpk hR hs HRC
      go_enter Try.func38, Try.ntmps38
      go_wp2_with (first
        | (go_at_call 37; refine (HP.out).mono ?_; rintro e w' ⟨rfl, rfl⟩)
        | (go_at_call 36; refine (HRT.out _).mono ?_; rintro e w2 ⟨rfl, hf⟩; have F := Lib.hid hf; clear hf))
      go_ret
      exact ⟨by rw [HE.out]; rfl, F.out⟩
end Go.Proofs.Ytjkcbklgddnbdaa
