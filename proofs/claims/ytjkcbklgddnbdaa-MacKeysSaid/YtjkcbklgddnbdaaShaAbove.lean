/- The reference's above walked. Conditions stand in the statements. -/
import Derived.Test.YtjkcbklgddnbdaaShaDig
set_option linter.unusedSimpArgs false
namespace Go.Proofs.Ytjkcbklgddnbdaa
open Go.RowKit

set_option maxHeartbeats 4000000 in
theorem above_any {a b : List Nat} {va vb : Value} {w : World} (ha : RdU w va a) (hb : RdU w vb b) (da : Dig a) (db : Dig b) (la : a.length ≤ 1000) (lb : b.length ≤ 1000) :
    Calls Try.prog 48 #[va, vb] w fun e w' => e = .returned (.bool (decide (val b < val a))) ∧ w = w' := by
  obtain ⟨Aa, ca, rfl, -, -, -⟩ := Rd.form ha
  obtain ⟨Ab, cb, rfl, -, -, -⟩ := Rd.form hb
  have DA := Lib.hid da
  have DB := Lib.hid db
  obtain ⟨na, hna⟩ : ∃ n, n = a.length := ⟨_, rfl⟩
  obtain ⟨nb, hnb⟩ : ∃ n, n = b.length := ⟨_, rfl⟩
  rw [← hna] at la ha ⊢
  rw [← hnb] at lb hb ⊢
  have HA := Lib.hid ha
  have HB := Lib.hid hb
  have HNA := Lib.hid hna
  have HNB := Lib.hid hnb
  have HG := Lib.hid (fun (i : Nat) (hi : i < 2000) (hj : ∀ j, i + 1 ≤ j → a.getD j 0 = b.getD j 0) (h : b.getD i 0 < a.getD i 0) => show decide (val b < val a) = true from decide_eq_true (val_gt db hi (by omega) (by omega) (fun j h1 _ => hj j h1) h))
  have HL := Lib.hid (fun (i : Nat) (hi : i < 2000) (hj : ∀ j, i + 1 ≤ j → a.getD j 0 = b.getD j 0) (h : a.getD i 0 < b.getD i 0) => show decide (val b < val a) = false from decide_eq_false (by have := val_gt (a := b) (b := a) da hi (by omega) (by omega) (fun j h1 _ => (hj j h1).symm) h; omega))
  have HE := Lib.hid (fun (hj : ∀ j, 0 ≤ j → a.getD j 0 = b.getD j 0) => show decide (val b < val a) = false from decide_eq_false (by have := val_same (a := a) (b := b) (n := 2000) (by omega) (by omega) (fun j _ => hj j (Nat.zero_le _)); omega))
  obtain ⟨R, hR⟩ : ∃ R, R = decide (val b < val a) := ⟨_, rfl⟩
  rw [← hR] at HG HL HE ⊢
  have HST := Lib.hid (fun (N : Nat) (h1 : na ≤ N) (h2 : nb ≤ N) (j : Nat) (hj : N ≤ j) => show a.getD j 0 = b.getD j 0 from by
    rw [show a.getD j 0 = 0 from by rw [List.getD_eq_getElem?_getD, List.getElem?_eq_none (by omega)]; rfl, show b.getD j 0 = 0 from by rw [List.getD_eq_getElem?_getD, List.getElem?_eq_none (by omega)]; rfl])
  have A0 := Lib.hid (fun (k : Nat) (h : ¬ k < na) => show a.getD k 0 = 0 from by rw [List.getD_eq_getElem?_getD, List.getElem?_eq_none (by omega)]; rfl)
  have B0 := Lib.hid (fun (k : Nat) (h : ¬ k < nb) => show b.getD k 0 = 0 from by rw [List.getD_eq_getElem?_getD, List.getElem?_eq_none (by omega)]; rfl)
  clear ha hb da db hna hnb hR
  go_enter Try.func48, Try.ntmps48
  go_wp2_with fail
  all_goals
    go_loop [5] (fun v5 => ∃ (m : Nat) (i : Int), v5 = .int .i64 i ∧ Hid (i + 1 = (m : Int)) ∧ m ≤ 1000 ∧ Hid (∀ j, m ≤ j → a.getD j 0 = b.getD j 0)) (fun v5 => (intOf v5 + 1).toNat)
    case atStart => first | exact ⟨nb, _, rfl, Lib.hid (by omega), by omega, Lib.hid ((HST.out) nb (by omega) (Nat.le_refl _))⟩ | exact ⟨na, _, rfl, Lib.hid (by omega), by omega, Lib.hid ((HST.out) na (Nat.le_refl _) (by omega))⟩
    case round =>
      obtain ⟨m, i, rfl, hi, hm, hj⟩ := hrel
      cases m with
      | zero =>
        have hi2 := hi.out
        obtain rfl : i = -1 := by omega
        have hR2 := Lib.hid ((HE.out) hj.out)
        clear hi hi2
        go_wp2_with fail
        go_ret
        exact ⟨by rw [hR2.out]; rfl, rfl⟩
      | succ k =>
        have hi2 := hi.out
        obtain rfl : i = (k : Int) := by omega
        clear hi hi2
        have i0 : (0 : Int) ≤ (k : Int) := by omega
        have HG2 := Lib.hid ((HG.out) k (by omega) hj.out)
        have HL2 := Lib.hid ((HL.out) k (by omega) hj.out)
        have HJ2 := Lib.hid (fun (h : a.getD k 0 = b.getD k 0) (j : Nat) (h1 : k ≤ j) => show a.getD j 0 = b.getD j 0 from by rcases Nat.eq_or_lt_of_le h1 with rfl | h2; exact h; exact hj.out j h2)
        have HA2 := Lib.hid (fun (h : k < na) => (HA.out).cell (i := k) (by rw [← HNA.out]; exact h))
        have HB2 := Lib.hid (fun (h : k < nb) => (HB.out).cell (i := k) (by rw [← HNB.out]; exact h))
        have A02 := Lib.hid ((A0.out) k)
        have B02 := Lib.hid ((B0.out) k)
        obtain ⟨x, hx⟩ : ∃ x, x = a.getD k 0 := ⟨_, rfl⟩
        obtain ⟨y, hy⟩ : ∃ y, y = b.getD k 0 := ⟨_, rfl⟩
        rw [← hx, ← hy] at HG2 HL2 HJ2
        rw [← hx] at HA2 A02
        rw [← hy] at HB2 B02
        clear hx hy
        by_cases ka : k < na
        · obtain ⟨ga, oa, rfl, -, dA⟩ := (HA2.out) ka
          have r1 : (k : Int) < (na : Int) := by omega
          have r2 : decide ((k : Int) < (na : Int)) = true := by simp; omega
          have r3 : decide (k < na) = true := by simpa using ka
          clear ka
          by_cases kb : k < nb
          · obtain ⟨gb, ob, rfl, -, dB⟩ := (HB2.out) kb
            have t1 : (k : Int) < (nb : Int) := by omega
            have t2 : decide ((k : Int) < (nb : Int)) = true := by (first | (simp; done) | (simp; omega))
            have t3 : decide (k < nb) = true := by simpa using kb
            clear kb
            rcases Nat.lt_trichotomy x y with hc | hc | hc
            ·
              have e1 : ((x : Int) != (y : Int)) = true := by (first | (simp; done) | (simp; omega))
              have e2 : ((x : Nat) != y) = true := by (first | (simp; done) | (simp; omega))
              have e3 : decide ((y : Int) < (x : Int)) = false := by (first | (simp; done) | (simp; omega))
              have e4 : decide ((y : Nat) < x) = false := by (first | (simp; done) | (simp; omega))
              have HRR := Lib.hid ((HL2.out) hc)
              clear hc
              go_wp2_with fail
              go_ret
              exact ⟨by rw [HRR.out]; rfl, rfl⟩
            ·
              subst hc
              go_wp2_with fail
              go_round
              case measure => (first | (simp [intOf]; done) | (simp [intOf]; omega))
              case rel => exact ⟨k, _, rfl, Lib.hid (by omega), by omega, Lib.hid ((HJ2.out) rfl)⟩
            ·
              have e1 : ((x : Int) != (y : Int)) = true := by (first | (simp; done) | (simp; omega))
              have e2 : ((x : Nat) != y) = true := by (first | (simp; done) | (simp; omega))
              have e3 : decide ((y : Int) < (x : Int)) = true := by (first | (simp; done) | (simp; omega))
              have e4 : decide ((y : Nat) < x) = true := by (first | (simp; done) | (simp; omega))
              have HRR := Lib.hid ((HG2.out) hc)
              clear hc
              go_wp2_with fail
              go_ret
              exact ⟨by rw [HRR.out]; rfl, rfl⟩
          · have hy0 := (B02.out) kb
            subst hy0
            have t2 : decide ((k : Int) < (nb : Int)) = false := by (first | (simp; done) | (simp; omega))
            have t3 : decide (k < nb) = false := by simpa using kb
            clear kb
            rcases Nat.lt_trichotomy x 0 with hc | hc | hc
            ·
              omega
            ·
              subst hc
              go_wp2_with fail
              go_round
              case measure => (first | (simp [intOf]; done) | (simp [intOf]; omega))
              case rel => exact ⟨k, _, rfl, Lib.hid (by omega), by omega, Lib.hid ((HJ2.out) rfl)⟩
            ·
              have e1 : ((x : Int) != (0 : Int)) = true := by (first | (simp; done) | (simp; omega))
              have e2 : ((x : Nat) != 0) = true := by (first | (simp; done) | (simp; omega))
              have e3 : decide ((0 : Int) < (x : Int)) = true := by (first | (simp; done) | (simp; omega))
              have e4 : decide ((0 : Nat) < x) = true := by (first | (simp; done) | (simp; omega))
              have HRR := Lib.hid ((HG2.out) hc)
              clear hc
              go_wp2_with fail
              go_ret
              exact ⟨by rw [HRR.out]; rfl, rfl⟩
        · have hx0 := (A02.out) ka
          subst hx0
          have r2 : decide ((k : Int) < (na : Int)) = false := by (first | (simp; done) | (simp; omega))
          have r3 : decide (k < na) = false := by simpa using ka
          clear ka
          by_cases kb : k < nb
          · obtain ⟨gb, ob, rfl, -, dB⟩ := (HB2.out) kb
            have t1 : (k : Int) < (nb : Int) := by omega
            have t2 : decide ((k : Int) < (nb : Int)) = true := by (first | (simp; done) | (simp; omega))
            have t3 : decide (k < nb) = true := by simpa using kb
            clear kb
            rcases Nat.lt_trichotomy 0 y with hc | hc | hc
            ·
              have e1 : ((0 : Int) != (y : Int)) = true := by (first | (simp; done) | (simp; omega))
              have e2 : ((0 : Nat) != y) = true := by (first | (simp; done) | (simp; omega))
              have e3 : decide ((y : Int) < (0 : Int)) = false := by (first | (simp; done) | (simp; omega))
              have e4 : decide ((y : Nat) < 0) = false := by (first | (simp; done) | (simp; omega))
              have HRR := Lib.hid ((HL2.out) hc)
              clear hc
              go_wp2_with fail
              go_ret
              exact ⟨by rw [HRR.out]; rfl, rfl⟩
            ·
              subst hc
              go_wp2_with fail
              go_round
              case measure => (first | (simp [intOf]; done) | (simp [intOf]; omega))
              case rel => exact ⟨k, _, rfl, Lib.hid (by omega), by omega, Lib.hid ((HJ2.out) rfl)⟩
            ·
              omega
          · have hy0 := (B02.out) kb
            subst hy0
            have t2 : decide ((k : Int) < (nb : Int)) = false := by (first | (simp; done) | (simp; omega))
            have t3 : decide (k < nb) = false := by simpa using kb
            clear kb
            go_wp2_with fail
            go_round
            case measure => (first | (simp [intOf]; done) | (simp [intOf]; omega))
            case rel => exact ⟨k, _, rfl, Lib.hid (by omega), by omega, Lib.hid ((HJ2.out) rfl)⟩
end Go.Proofs.Ytjkcbklgddnbdaa
