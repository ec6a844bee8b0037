/- The program's roots. Conditions stand in the statements. -/
import Derived.Test.YtgcjbbliaelkcaaShaMul
namespace Go.Proofs.Ytgcjbbliaelkcaa
open Go.RowKit

/-- The greatest number of 37 bits whose power is not above T, bit by bit. -/
def RB (f : Nat → Nat) (T : Nat) : Nat → Nat
  | 0 => 0
  | j + 1 => if f (RB f T j + 2 ^ (36 - j)) ≤ T then RB f T j + 2 ^ (36 - j) else RB f T j
theorem pow_step {j : Nat} (h : j < 37) : 2 ^ (37 - j) = 2 ^ (36 - j) + 2 ^ (36 - j) := by
  rw [show 37 - j = (36 - j) + 1 from by omega, Nat.pow_succ]; omega
theorem rb_le (f : Nat → Nat) (T : Nat) : ∀ j, j ≤ 37 → RB f T j + 2 ^ (37 - j) ≤ 137438953472 := by
  intro j
  induction j with
  | zero => intro _; simp [RB]
  | succ j ih =>
    intro h
    have := ih (by omega)
    have e := pow_step (j := j) (by omega)
    have p1 : 1 ≤ 2 ^ (36 - j) := Nat.one_le_two_pow
    rw [show 37 - (j + 1) = 36 - j from by omega]
    unfold RB
    split <;> omega
theorem half_pow {b j : Nat} (h : j < 37) (hb : b = 2 ^ (36 - j)) : b / 2 = if j + 1 < 37 then 2 ^ (36 - (j + 1)) else 0 := by
  by_cases h1 : j + 1 < 37
  · rw [if_pos h1, hb, show 36 - j = (36 - (j + 1)) + 1 from by omega, Nat.pow_succ]; omega
  · obtain rfl : j = 36 := by omega
    rw [if_neg h1, hb]
theorem half_int (b : Nat) : Value.int .u64 ((b : Int) / 2) = Value.int .u64 ((b / 2 : Nat) : Int) := by rw [show ((b / 2 : Nat) : Int) = (b : Int) / 2 from by omega]
def PowFn (v : Value) (f : Nat → Nat) : Prop := ∃ fn, v = .func (.func fn) #[] #[] ∧ (∀ (args : Array Value) (w1 : World), (callFunc fn args).run Try.prog w1 = .ok (.enter fn args) w1) ∧
  ∀ (r : Nat) (w : World), r < 137438953472 → Calls Try.prog fn #[.int .u64 r] w fun e w' => e = .returned (.tuple #[.int .u64 (hi (f r)), .int .u64 (lo (f r))]) ∧ w = w'
set_option maxHeartbeats 2000000 in
theorem root_any {v : Value} {f : Nat → Nat} (hp : PowFn v f) (high low : Nat) (hl : low < 18446744073709551616) (w : World) :
    Calls Try.prog 78 #[.int .u64 high, .int .u64 low, v] w fun e w' => e = .returned (.int .u64 (RB f (high * 18446744073709551616 + low) 37 : Nat)) ∧ w = w' := by
  obtain ⟨fn, rfl, hbody, hcall⟩ := hp
  have HC := Lib.hid hcall
  obtain ⟨T, hT⟩ : ∃ T, T = high * 18446744073709551616 + low := ⟨_, rfl⟩
  rw [← hT]
  have HT := Lib.hid hT
  clear hcall hT
  go_enter Try.func78, Try.ntmps78
  go_wp2_with fail
  go_loop [7, 8] (fun v7 v8 => ∃ (j r b : Nat), j ≤ 37 ∧ v7 = .int .u64 r ∧ v8 = .int .u64 b ∧ Hid (r = RB f T j) ∧ Hid (b = if j < 37 then 2 ^ (36 - j) else 0)) (fun _ v8 => (intOf v8).toNat)
  case atStart => exact ⟨0, 0, 68719476736, by omega, rfl, rfl, Lib.hid rfl, Lib.hid rfl⟩
  case round =>
    obtain ⟨j, r, b, hj, rfl, rfl, hr, hb⟩ := hrel
    by_cases hlt : j < 37
    · have hb2 : b = 2 ^ (36 - j) := by rw [hb.out, if_pos hlt]
      have hrb := rb_le f T j hj
      rw [← hr.out, pow_step hlt, ← hb2] at hrb
      have hb1 : 1 ≤ b := by rw [hb2]; exact Nat.one_le_two_pow
      have HB2 := Lib.hid hb2
      have HCr := Lib.hid (HC.out (r + b) w (by omega))
      obtain ⟨F, hF⟩ : ∃ F, F = f (r + b) := ⟨_, rfl⟩
      rw [← hF] at HCr
      obtain ⟨hN, hhN⟩ : ∃ x, x = F / 18446744073709551616 := ⟨_, rfl⟩
      obtain ⟨lN, hlN⟩ : ∃ x, x = F % 18446744073709551616 := ⟨_, rfl⟩
      have e1 : hi F = (hN : Int) := by unfold hi; rw [← hhN]
      have e2 : lo F = (lN : Int) := by unfold lo; rw [← hlN]
      rw [e1, e2] at HCr
      have FT := Lib.hid (show F ≤ T ↔ (hN < high ∨ (hN = high ∧ lN ≤ low)) by rw [HT.out, hhN, hlN]; omega)
      have NX := Lib.hid (show RB f T (j + 1) = if F ≤ T then r + b else r by rw [hF, hr.out, hb2]; rfl)
      clear hb2 hr hb hF hhN hlN e1 e2
      by_cases k1 : hN < high
      · have a1 : decide ((hN : Int) < (high : Int)) = true := by simp; omega
        have a2 : decide (hN < high) = true := by simpa using k1
        have NX2 := Lib.hid ((NX.out).trans (if_pos ((FT.out).2 (.inl k1))))
        clear NX FT
        go_wp2_with ((refine (HCr.out).mono ?_; rintro e w' ⟨rfl, rfl⟩))
        go_round
        case rel => exact ⟨j + 1, r + b, b / 2, by omega, by go_num, half_int b, Lib.hid (NX2.out).symm, Lib.hid (half_pow hlt HB2.out)⟩
        case measure => simp [intOf]; omega
      · have a1 : decide ((hN : Int) < (high : Int)) = false := by simp; omega
        have a2 : decide (hN < high) = false := by simpa using k1
        by_cases k2 : hN = high
        · have a3 : ((hN : Int) == (high : Int)) = true := by simp; omega
          have a4 : (hN == high) = true := by simpa using k2
          by_cases k3 : lN ≤ low
          · have a5 : decide ((lN : Int) ≤ (low : Int)) = true := by simp; omega
            have a6 : decide (lN ≤ low) = true := by simpa using k3
            have NX2 := Lib.hid ((NX.out).trans (if_pos ((FT.out).2 (.inr ⟨k2, k3⟩))))
            clear NX FT k1 k2 k3
            go_wp2_with ((refine (HCr.out).mono ?_; rintro e w' ⟨rfl, rfl⟩))
            go_round
            case rel => exact ⟨j + 1, r + b, b / 2, by omega, by go_num, half_int b, Lib.hid (NX2.out).symm, Lib.hid (half_pow hlt HB2.out)⟩
            case measure => simp [intOf]; omega
          · have a5 : decide ((lN : Int) ≤ (low : Int)) = false := by simp; omega
            have a6 : decide (lN ≤ low) = false := by simpa using k3
            have NX2 := Lib.hid ((NX.out).trans (if_neg (fun h => by have := (FT.out).1 h; omega)))
            clear NX FT k1 k2 k3
            go_wp2_with ((refine (HCr.out).mono ?_; rintro e w' ⟨rfl, rfl⟩))
            go_round
            case rel => exact ⟨j + 1, r, b / 2, by omega, rfl, half_int b, Lib.hid (NX2.out).symm, Lib.hid (half_pow hlt HB2.out)⟩
            case measure => simp [intOf]; omega
        · have a3 : ((hN : Int) == (high : Int)) = false := by simp; omega
          have a4 : (hN == high) = false := by simpa using k2
          have NX2 := Lib.hid ((NX.out).trans (if_neg (fun h => by have := (FT.out).1 h; omega)))
          clear NX FT k1 k2
          go_wp2_with ((refine (HCr.out).mono ?_; rintro e w' ⟨rfl, rfl⟩))
          go_round
          case rel => exact ⟨j + 1, r, b / 2, by omega, rfl, half_int b, Lib.hid (NX2.out).symm, Lib.hid (half_pow hlt HB2.out)⟩
          case measure => simp [intOf]; omega
    · obtain rfl : j = 37 := by omega
      have hb2 : b = 0 := by rw [hb.out]; rfl
      have HR := Lib.hid hr.out
      subst hb2
      clear hb hr
      go_wp2_with fail
      go_ret
      rw [← HR.out]
      exact ⟨rfl, rfl⟩
theorem pow2 : PowFn (.func (.func 80) #[] #[]) (fun r => r * r) := ⟨_, rfl, fun _ _ => by kernel_rfl, fun r w hr => s1_any r w (by omega)⟩
theorem pow3 : PowFn (.func (.func 82) #[] #[]) (fun r => r * (r * r)) := ⟨_, rfl, fun _ _ => by kernel_rfl, fun r w hr => t1_any r w hr⟩
/-- The words, from roots of primes. -/
def startN (k : Nat) : Nat := RB (fun r => r * r) (pt (k + 1) * 18446744073709551616) 37 % 4294967296
def turnN (k : Nat) : Nat := RB (fun r => r * (r * r)) (pt (k + 1) * 4294967296 * 18446744073709551616) 37 % 4294967296
def startI (k : Int) : Int := if 0 ≤ k ∧ k ≤ 7 then (startN k.toNat : Nat) else 0
def turnI (k : Int) : Int := if 0 ≤ k ∧ k ≤ 63 then (turnN k.toNat : Nat) else 0
theorem start_any (k : Int) (w : World) : Calls Try.prog 67 #[.int .i64 k] w fun e w' => e = .returned (.int .u32 (startI k)) ∧ w = w' := by
  by_cases h : 0 ≤ k ∧ k ≤ 7
  · obtain ⟨K, rfl⟩ : ∃ K : Nat, k = K := ⟨k.toNat, by omega⟩
    have hk : K ≤ 7 := by omega
    have e : startI K = ((RB (fun r => r * r) (pt (K + 1) * 18446744073709551616 + 0) 37 % 4294967296 : Nat) : Int) := by unfold startI; rw [if_pos h, Int.toNat_natCast, Nat.add_zero]; rfl
    have E := Lib.hid e
    have HP := Lib.hid (prime_any K w (by omega))
    have HR := Lib.hid (root_any pow2 (pt (K + 1)) 0 (by decide) w)
    obtain ⟨R, hR⟩ : ∃ R, R = RB (fun r => r * r) (pt (K + 1) * 18446744073709551616 + 0) 37 := ⟨_, rfl⟩
    rw [← hR] at HR E
    clear e hR h
    go_enter Try.func67, Try.ntmps67
    go_wp2_with (first
      | (go_at_call 79; refine (HP.out).mono ?_; rintro e w' ⟨rfl, rfl⟩)
      | (go_at_call 78; refine (HR.out).mono ?_; rintro e w' ⟨rfl, rfl⟩))
    go_ret
    rw [E.out]
    exact ⟨rfl, rfl⟩
  · have e : startI k = 0 := by unfold startI; rw [if_neg h]
    rw [e]
    rcases (by omega : k < 0 ∨ (0 ≤ k ∧ 7 < k)) with h1 | ⟨h1, h2⟩
    all_goals
      clear h e
      go_enter Try.func67, Try.ntmps67
      go_wp2
      go_ret
      exact ⟨rfl, rfl⟩
theorem pt_le : ∀ i, i < 65 → pt i ≤ 311 := by decide +kernel
theorem turn_any (k : Int) (w : World) : Calls Try.prog 68 #[.int .i64 k] w fun e w' => e = .returned (.int .u32 (turnI k)) ∧ w = w' := by
  by_cases h : 0 ≤ k ∧ k ≤ 63
  · obtain ⟨K, rfl⟩ : ∃ K : Nat, k = K := ⟨k.toNat, by omega⟩
    have hk : K ≤ 63 := by omega
    have e : turnI K = ((RB (fun r => r * (r * r)) (pt (K + 1) * 4294967296 * 18446744073709551616 + 0) 37 % 4294967296 : Nat) : Int) := by unfold turnI; rw [if_pos h, Int.toNat_natCast, Nat.add_zero]; rfl
    have E := Lib.hid e
    have hp := pt_le (K + 1) (by omega)
    have HP := Lib.hid (prime_any K w (by omega))
    have HR := Lib.hid (root_any pow3 (pt (K + 1) * 4294967296) 0 (by decide) w)
    obtain ⟨R, hR⟩ : ∃ R, R = RB (fun r => r * (r * r)) (pt (K + 1) * 4294967296 * 18446744073709551616 + 0) 37 := ⟨_, rfl⟩
    rw [← hR] at HR E
    obtain ⟨p, hpp⟩ : ∃ p, p = pt (K + 1) := ⟨_, rfl⟩
    rw [← hpp] at HP HR hp
    clear e hR h hpp
    go_enter Try.func68, Try.ntmps68
    go_wp2_with (first
      | (go_at_call 79; refine (HP.out).mono ?_; rintro e w' ⟨rfl, rfl⟩)
      | (go_at_call 78; refine (HR.out).mono ?_; rintro e w' ⟨rfl, rfl⟩))
    go_ret
    rw [E.out]
    exact ⟨rfl, rfl⟩
  · have e : turnI k = 0 := by unfold turnI; rw [if_neg h]
    rw [e]
    rcases (by omega : k < 0 ∨ (0 ≤ k ∧ 63 < k)) with h1 | ⟨h1, h2⟩
    all_goals
      clear h e
      go_enter Try.func68, Try.ntmps68
      go_wp2
      go_ret
      exact ⟨rfl, rfl⟩
end Go.Proofs.Ytgcjbbliaelkcaa
