/- Which deeds may be: the program's answer and the reference's. Conditions stand in the statements. -/
import Derived.Test.YtcbllkkbpjobpaaInD
set_option linter.unusedVariables false
namespace Go.Proofs.Ytcbllkkbpjobpaa
open Go.RowKit

theorem win_any (r : Int) (w : World) : Calls Try.prog 42 #[.int .i64 r] w fun e w' => e = .returned (.bool (decide (1 ≤ r ∧ r ≤ 1000))) ∧ w' = w := by
  by_cases h1 : 1 ≤ r
  · have b1 : decide (r ≥ 1) = true := by simpa using h1
    have b2 : decide (1 ≤ r) = true := by simpa using h1
    have hr : decide (1 ≤ r ∧ r ≤ 1000) = decide (r ≤ 1000) := by simp [h1]
    rw [hr]
    clear hr h1
    go_enter Try.func42, Try.ntmps42
    go_wp2_with fail
    go_ret
    exact ⟨rfl, rfl⟩
  · have b1 : decide (r ≥ 1) = false := by simpa using h1
    have b2 : decide (1 ≤ r) = false := by simpa using h1
    have hr : decide (1 ≤ r ∧ r ≤ 1000) = false := by simp [h1]
    rw [hr]
    clear hr h1
    go_enter Try.func42, Try.ntmps42
    go_wp2_with fail
    go_ret
    exact ⟨rfl, rfl⟩
theorem win_b (r : Int) (b : Bool) (h : decide (1 ≤ r ∧ r ≤ 1000) = b) (w : World) : Calls Try.prog 42 #[.int .i64 r] w fun e w' => e = .returned (.bool b) ∧ w' = w := by
  rw [← h]; exact win_any r w
set_option maxHeartbeats 4000000 in
theorem may_any (k r c : Int) (B : Option Addr) (n e : Nat) (w : World) (hn : n ≤ 9223372036854775807) :
    Calls Try.prog 26 #[.agg #[.int .i64 k, .slice B n e, .int .i64 r, .int .i64 c]] w fun e w' => e = .returned (.bool (mayN k n r c)) ∧ Fr0 w w' := by
  have HSZ0 := Lib.hid (show decide (r ≠ 0 ∨ c ≠ 0) = decide (r ≠ 0 ∨ c ≠ 0) from rfl)
  obtain ⟨sz, hsz⟩ : ∃ b, b = decide (r ≠ 0 ∨ c ≠ 0) := ⟨_, rfl⟩
  have HSZ := Lib.hid hsz
  clear hsz HSZ0
  go_enter Try.func26, Try.ntmps26
  go_upto_region 2 with (fail)
  go_cut [4] (fun s wx => s = .bool sz ∧ wx = w.alloc (.cells #[.int .i64 k, .slice B n e, .int .i64 r, .int .i64 c] 28))
  case first =>
    by_cases h1 : r = 0
    · have b1 : (r != 0) = false := by simpa using h1
      have DU := Lib.hid (show (c != 0) = sz by rw [HSZ.out]; by_cases h2 : c = 0 <;> simp [h1, h2])
      clear h1
      go_wp2_with fail
      go_meet
      exact ⟨by rw [DU.out], rfl⟩
    · have b1 : (r != 0) = true := by simpa using h1
      have DU := Lib.hid (show true = sz by rw [HSZ.out]; simp [h1])
      clear h1
      go_wp2_with fail
      go_meet
      exact ⟨by rw [DU.out], rfl⟩
  case rest =>
    obtain ⟨rfl, rfl⟩ := hcut
    by_cases h_k1 : k = 1
    · have b_k10 : (k == 1) = true := by first | simpa using h_k1 | (simp; omega)
      by_cases h_n1 : 1 ≤ n
      · have b_n10 : (decide (1 ≤ (n : Int))) = true := by first | simpa using h_n1 | (simp; omega)
        have b_n11 : (decide (0 < (n : Int))) = true := by first | simpa using h_n1 | (simp; omega)
        have b_n12 : (decide (0 < n)) = true := by first | simpa using h_n1 | (simp; omega)
        by_cases h_n16 : n ≤ 16
        · have b_n160 : (decide ((n : Int) ≤ 16)) = true := by first | simpa using h_n16 | (simp; omega)
          have b_n161 : (decide (n ≤ 16)) = true := by first | simpa using h_n16 | (simp; omega)
          have HR := Lib.hid (show mayN k n r c = (!sz) from by unfold mayN; have hs := HSZ.out; (try rw [hs]); (repeat' split) <;> first | omega | rfl | (rw [decide_eq_false_iff_not]; omega) | (by_cases hr : r = 0 <;> by_cases hc : c = 0 <;> simp [hr, hc] <;> omega) | (by_cases hn0 : n = 0 <;> simp [hn0] <;> omega))
          clear h_k1 h_n1 h_n16
          go_wp2_with fail
          go_ret
          exact ⟨by rw [HR.out]; rfl, (Fr0.refl w).alloc _⟩
        · have b_n160 : (decide ((n : Int) ≤ 16)) = false := by first | simpa using h_n16 | (simp; omega)
          have b_n161 : (decide (n ≤ 16)) = false := by first | simpa using h_n16 | (simp; omega)
          have HR := Lib.hid (show mayN k n r c = false from by unfold mayN; have hs := HSZ.out; (try rw [hs]); (repeat' split) <;> first | omega | rfl | (rw [decide_eq_false_iff_not]; omega) | (by_cases hr : r = 0 <;> by_cases hc : c = 0 <;> simp [hr, hc] <;> omega) | (by_cases hn0 : n = 0 <;> simp [hn0] <;> omega))
          clear h_k1 h_n1 h_n16
          go_wp2_with fail
          go_ret
          exact ⟨by rw [HR.out]; rfl, (Fr0.refl w).alloc _⟩
      · have b_n10 : (decide (1 ≤ (n : Int))) = false := by first | simpa using h_n1 | (simp; omega)
        have b_n11 : (decide (0 < (n : Int))) = false := by first | simpa using h_n1 | (simp; omega)
        have b_n12 : (decide (0 < n)) = false := by first | simpa using h_n1 | (simp; omega)
        have HR := Lib.hid (show mayN k n r c = false from by unfold mayN; have hs := HSZ.out; (try rw [hs]); (repeat' split) <;> first | omega | rfl | (rw [decide_eq_false_iff_not]; omega) | (by_cases hr : r = 0 <;> by_cases hc : c = 0 <;> simp [hr, hc] <;> omega) | (by_cases hn0 : n = 0 <;> simp [hn0] <;> omega))
        clear h_k1 h_n1
        go_wp2_with fail
        go_ret
        exact ⟨by rw [HR.out]; rfl, (Fr0.refl w).alloc _⟩
    · have b_k10 : (k == 1) = false := by first | simpa using h_k1 | (simp; omega)
      by_cases h_k2 : k = 2
      · have b_k20 : (k == 2) = true := by first | simpa using h_k2 | (simp; omega)
        by_cases h_wr : 1 ≤ r ∧ r ≤ 1000
        · by_cases h_wc : 1 ≤ c ∧ c ≤ 1000
          · have HR := Lib.hid (show mayN k n r c = ((n : Int) == 0) from by unfold mayN; have hs := HSZ.out; (try rw [hs]); (repeat' split) <;> first | omega | rfl | (rw [decide_eq_false_iff_not]; omega) | (by_cases hr : r = 0 <;> by_cases hc : c = 0 <;> simp [hr, hc] <;> omega) | (by_cases hn0 : n = 0 <;> simp [hn0] <;> omega))
            have Wr := Lib.hid (win_b r true (decide_eq_true h_wr))
            have Wc := Lib.hid (win_b c true (decide_eq_true h_wc))
            clear h_k1 h_k2 h_wr h_wc
            go_wp2_with (first | (go_at_call 42; refine (Wr.out _).mono ?_; rintro e w1 ⟨rfl, rfl⟩) | (go_at_call 42; refine (Wc.out _).mono ?_; rintro e w1 ⟨rfl, rfl⟩))
            go_ret
            exact ⟨by rw [HR.out]; rfl, (Fr0.refl w).alloc _⟩
          · have HR := Lib.hid (show mayN k n r c = false from by unfold mayN; have hs := HSZ.out; (try rw [hs]); (repeat' split) <;> first | omega | rfl | (rw [decide_eq_false_iff_not]; omega) | (by_cases hr : r = 0 <;> by_cases hc : c = 0 <;> simp [hr, hc] <;> omega) | (by_cases hn0 : n = 0 <;> simp [hn0] <;> omega))
            have Wr := Lib.hid (win_b r true (decide_eq_true h_wr))
            have Wc := Lib.hid (win_b c false (decide_eq_false h_wc))
            clear h_k1 h_k2 h_wr h_wc
            go_wp2_with (first | (go_at_call 42; refine (Wr.out _).mono ?_; rintro e w1 ⟨rfl, rfl⟩) | (go_at_call 42; refine (Wc.out _).mono ?_; rintro e w1 ⟨rfl, rfl⟩))
            go_ret
            exact ⟨by rw [HR.out]; rfl, (Fr0.refl w).alloc _⟩
        · have HR := Lib.hid (show mayN k n r c = false from by unfold mayN; have hs := HSZ.out; (try rw [hs]); (repeat' split) <;> first | omega | rfl | (rw [decide_eq_false_iff_not]; omega) | (by_cases hr : r = 0 <;> by_cases hc : c = 0 <;> simp [hr, hc] <;> omega) | (by_cases hn0 : n = 0 <;> simp [hn0] <;> omega))
          have Wr := Lib.hid (win_b r false (decide_eq_false h_wr))
          clear h_k1 h_k2 h_wr
          go_wp2_with (first | (go_at_call 42; refine (Wr.out _).mono ?_; rintro e w1 ⟨rfl, rfl⟩))
          go_ret
          exact ⟨by rw [HR.out]; rfl, (Fr0.refl w).alloc _⟩
      · have b_k20 : (k == 2) = false := by first | simpa using h_k2 | (simp; omega)
        by_cases h_k3 : k = 3
        · have b_k30 : (k == 3) = true := by first | simpa using h_k3 | (simp; omega)
          by_cases h_n0 : n = 0
          · have b_n00 : ((n : Int) == 0) = true := by first | simpa using h_n0 | (simp; omega)
            have b_n01 : (n == 0) = true := by first | simpa using h_n0 | (simp; omega)
            have HR := Lib.hid (show mayN k n r c = (!sz) from by unfold mayN; have hs := HSZ.out; (try rw [hs]); (repeat' split) <;> first | omega | rfl | (rw [decide_eq_false_iff_not]; omega) | (by_cases hr : r = 0 <;> by_cases hc : c = 0 <;> simp [hr, hc] <;> omega) | (by_cases hn0 : n = 0 <;> simp [hn0] <;> omega))
            clear h_k1 h_k2 h_k3 h_n0
            go_wp2_with fail
            go_ret
            exact ⟨by rw [HR.out]; rfl, (Fr0.refl w).alloc _⟩
          · have b_n00 : ((n : Int) == 0) = false := by first | simpa using h_n0 | (simp; omega)
            have b_n01 : (n == 0) = false := by first | simpa using h_n0 | (simp; omega)
            have HR := Lib.hid (show mayN k n r c = false from by unfold mayN; have hs := HSZ.out; (try rw [hs]); (repeat' split) <;> first | omega | rfl | (rw [decide_eq_false_iff_not]; omega) | (by_cases hr : r = 0 <;> by_cases hc : c = 0 <;> simp [hr, hc] <;> omega) | (by_cases hn0 : n = 0 <;> simp [hn0] <;> omega))
            clear h_k1 h_k2 h_k3 h_n0
            go_wp2_with fail
            go_ret
            exact ⟨by rw [HR.out]; rfl, (Fr0.refl w).alloc _⟩
        · have b_k30 : (k == 3) = false := by first | simpa using h_k3 | (simp; omega)
          by_cases h_k4 : k = 4
          · have b_k40 : (k == 4) = true := by first | simpa using h_k4 | (simp; omega)
            by_cases h_n0 : n = 0
            · have b_n00 : ((n : Int) == 0) = true := by first | simpa using h_n0 | (simp; omega)
              have b_n01 : (n == 0) = true := by first | simpa using h_n0 | (simp; omega)
              have HR := Lib.hid (show mayN k n r c = (!sz) from by unfold mayN; have hs := HSZ.out; (try rw [hs]); (repeat' split) <;> first | omega | rfl | (rw [decide_eq_false_iff_not]; omega) | (by_cases hr : r = 0 <;> by_cases hc : c = 0 <;> simp [hr, hc] <;> omega) | (by_cases hn0 : n = 0 <;> simp [hn0] <;> omega))
              clear h_k1 h_k2 h_k3 h_k4 h_n0
              go_wp2_with fail
              go_ret
              exact ⟨by rw [HR.out]; rfl, (Fr0.refl w).alloc _⟩
            · have b_n00 : ((n : Int) == 0) = false := by first | simpa using h_n0 | (simp; omega)
              have b_n01 : (n == 0) = false := by first | simpa using h_n0 | (simp; omega)
              have HR := Lib.hid (show mayN k n r c = false from by unfold mayN; have hs := HSZ.out; (try rw [hs]); (repeat' split) <;> first | omega | rfl | (rw [decide_eq_false_iff_not]; omega) | (by_cases hr : r = 0 <;> by_cases hc : c = 0 <;> simp [hr, hc] <;> omega) | (by_cases hn0 : n = 0 <;> simp [hn0] <;> omega))
              clear h_k1 h_k2 h_k3 h_k4 h_n0
              go_wp2_with fail
              go_ret
              exact ⟨by rw [HR.out]; rfl, (Fr0.refl w).alloc _⟩
          · have b_k40 : (k == 4) = false := by first | simpa using h_k4 | (simp; omega)
            have HR := Lib.hid (show mayN k n r c = false from by unfold mayN; have hs := HSZ.out; (try rw [hs]); (repeat' split) <;> first | omega | rfl | (rw [decide_eq_false_iff_not]; omega) | (by_cases hr : r = 0 <;> by_cases hc : c = 0 <;> simp [hr, hc] <;> omega) | (by_cases hn0 : n = 0 <;> simp [hn0] <;> omega))
            clear h_k1 h_k2 h_k3 h_k4
            go_wp2_with fail
            go_ret
            exact ⟨by rw [HR.out]; rfl, (Fr0.refl w).alloc _⟩
set_option maxHeartbeats 4000000 in
theorem rdeed_any (k r c : Int) (B : Option Addr) (n e : Nat) (w : World) (hn : n ≤ 9223372036854775807) :
    Calls Try.prog 15 #[.agg #[.int .i64 k, .slice B n e, .int .i64 r, .int .i64 c]] w fun e w' => e = .returned (.bool (mayN k n r c)) ∧ Fr0 w w' := by
  by_cases h_k2 : k = 2
  · have b_k20 : (k == 2) = true := by first | simpa using h_k2 | (simp; omega)
    by_cases h_r1 : 1 ≤ r
    · have b_r10 : (decide (1 ≤ r)) = true := by first | simpa using h_r1 | (simp; omega)
      by_cases h_rm : r ≤ 1000
      · have b_rm0 : (decide (r ≤ 1000)) = true := by first | simpa using h_rm | (simp; omega)
        by_cases h_c1 : 1 ≤ c
        · have b_c10 : (decide (1 ≤ c)) = true := by first | simpa using h_c1 | (simp; omega)
          by_cases h_cm : c ≤ 1000
          · have b_cm0 : (decide (c ≤ 1000)) = true := by first | simpa using h_cm | (simp; omega)
            by_cases h_n0 : n = 0
            · have b_n00 : ((n : Int) == 0) = true := by first | simpa using h_n0 | (simp; omega)
              have b_n01 : (n == 0) = true := by first | simpa using h_n0 | (simp; omega)
              have HR := Lib.hid (show mayN k n r c = true from by unfold mayN; (repeat' split) <;> first | (rw [decide_eq_true_eq]; omega) | (rw [decide_eq_false_iff_not]; omega) | omega | rfl)
              clear h_k2 h_r1 h_rm h_c1 h_cm h_n0
              go_enter Try.func15, Try.ntmps15
              go_wp2_with fail
              go_ret
              exact ⟨by rw [HR.out]; rfl, (Fr0.refl w).alloc _⟩
            · have b_n00 : ((n : Int) == 0) = false := by first | simpa using h_n0 | (simp; omega)
              have b_n01 : (n == 0) = false := by first | simpa using h_n0 | (simp; omega)
              have HR := Lib.hid (show mayN k n r c = false from by unfold mayN; (repeat' split) <;> first | (rw [decide_eq_true_eq]; omega) | (rw [decide_eq_false_iff_not]; omega) | omega | rfl)
              clear h_k2 h_r1 h_rm h_c1 h_cm h_n0
              go_enter Try.func15, Try.ntmps15
              go_wp2_with fail
              go_ret
              exact ⟨by rw [HR.out]; rfl, (Fr0.refl w).alloc _⟩
          · have b_cm0 : (decide (c ≤ 1000)) = false := by first | simpa using h_cm | (simp; omega)
            have HR := Lib.hid (show mayN k n r c = false from by unfold mayN; (repeat' split) <;> first | (rw [decide_eq_true_eq]; omega) | (rw [decide_eq_false_iff_not]; omega) | omega | rfl)
            clear h_k2 h_r1 h_rm h_c1 h_cm
            go_enter Try.func15, Try.ntmps15
            go_wp2_with fail
            go_ret
            exact ⟨by rw [HR.out]; rfl, (Fr0.refl w).alloc _⟩
        · have b_c10 : (decide (1 ≤ c)) = false := by first | simpa using h_c1 | (simp; omega)
          have HR := Lib.hid (show mayN k n r c = false from by unfold mayN; (repeat' split) <;> first | (rw [decide_eq_true_eq]; omega) | (rw [decide_eq_false_iff_not]; omega) | omega | rfl)
          clear h_k2 h_r1 h_rm h_c1
          go_enter Try.func15, Try.ntmps15
          go_wp2_with fail
          go_ret
          exact ⟨by rw [HR.out]; rfl, (Fr0.refl w).alloc _⟩
      · have b_rm0 : (decide (r ≤ 1000)) = false := by first | simpa using h_rm | (simp; omega)
        have HR := Lib.hid (show mayN k n r c = false from by unfold mayN; (repeat' split) <;> first | (rw [decide_eq_true_eq]; omega) | (rw [decide_eq_false_iff_not]; omega) | omega | rfl)
        clear h_k2 h_r1 h_rm
        go_enter Try.func15, Try.ntmps15
        go_wp2_with fail
        go_ret
        exact ⟨by rw [HR.out]; rfl, (Fr0.refl w).alloc _⟩
    · have b_r10 : (decide (1 ≤ r)) = false := by first | simpa using h_r1 | (simp; omega)
      have HR := Lib.hid (show mayN k n r c = false from by unfold mayN; (repeat' split) <;> first | (rw [decide_eq_true_eq]; omega) | (rw [decide_eq_false_iff_not]; omega) | omega | rfl)
      clear h_k2 h_r1
      go_enter Try.func15, Try.ntmps15
      go_wp2_with fail
      go_ret
      exact ⟨by rw [HR.out]; rfl, (Fr0.refl w).alloc _⟩
  · have b_k20 : (k == 2) = false := by first | simpa using h_k2 | (simp; omega)
    by_cases h_r : r ≠ 0
    · have b_r0 : (r != 0) = true := by first | simpa using h_r | (simp; omega)
      have HR := Lib.hid (show mayN k n r c = false from by unfold mayN; (repeat' split) <;> first | (rw [decide_eq_true_eq]; omega) | (rw [decide_eq_false_iff_not]; omega) | omega | rfl)
      clear h_k2 h_r
      go_enter Try.func15, Try.ntmps15
      go_wp2_with fail
      go_ret
      exact ⟨by rw [HR.out]; rfl, (Fr0.refl w).alloc _⟩
    · have b_r0 : (r != 0) = false := by first | simpa using h_r | (simp; omega)
      by_cases h_c : c ≠ 0
      · have b_c0 : (c != 0) = true := by first | simpa using h_c | (simp; omega)
        have HR := Lib.hid (show mayN k n r c = false from by unfold mayN; (repeat' split) <;> first | (rw [decide_eq_true_eq]; omega) | (rw [decide_eq_false_iff_not]; omega) | omega | rfl)
        clear h_k2 h_r h_c
        go_enter Try.func15, Try.ntmps15
        go_wp2_with fail
        go_ret
        exact ⟨by rw [HR.out]; rfl, (Fr0.refl w).alloc _⟩
      · have b_c0 : (c != 0) = false := by first | simpa using h_c | (simp; omega)
        by_cases h_k1 : k = 1
        · have b_k10 : (k == 1) = true := by first | simpa using h_k1 | (simp; omega)
          by_cases h_n1 : 1 ≤ n
          · have b_n10 : (decide (1 ≤ (n : Int))) = true := by first | simpa using h_n1 | (simp; omega)
            have b_n11 : (decide (0 < (n : Int))) = true := by first | simpa using h_n1 | (simp; omega)
            have b_n12 : (decide (0 < n)) = true := by first | simpa using h_n1 | (simp; omega)
            by_cases h_n16 : n ≤ 16
            · have b_n160 : (decide ((n : Int) ≤ 16)) = true := by first | simpa using h_n16 | (simp; omega)
              have b_n161 : (decide (n ≤ 16)) = true := by first | simpa using h_n16 | (simp; omega)
              have HR := Lib.hid (show mayN k n r c = true from by unfold mayN; (repeat' split) <;> first | (rw [decide_eq_true_eq]; omega) | (rw [decide_eq_false_iff_not]; omega) | omega | rfl)
              clear h_k2 h_r h_c h_k1 h_n1 h_n16
              go_enter Try.func15, Try.ntmps15
              go_wp2_with fail
              go_ret
              exact ⟨by rw [HR.out]; rfl, (Fr0.refl w).alloc _⟩
            · have b_n160 : (decide ((n : Int) ≤ 16)) = false := by first | simpa using h_n16 | (simp; omega)
              have b_n161 : (decide (n ≤ 16)) = false := by first | simpa using h_n16 | (simp; omega)
              have HR := Lib.hid (show mayN k n r c = false from by unfold mayN; (repeat' split) <;> first | (rw [decide_eq_true_eq]; omega) | (rw [decide_eq_false_iff_not]; omega) | omega | rfl)
              clear h_k2 h_r h_c h_k1 h_n1 h_n16
              go_enter Try.func15, Try.ntmps15
              go_wp2_with fail
              go_ret
              exact ⟨by rw [HR.out]; rfl, (Fr0.refl w).alloc _⟩
          · have b_n10 : (decide (1 ≤ (n : Int))) = false := by first | simpa using h_n1 | (simp; omega)
            have b_n11 : (decide (0 < (n : Int))) = false := by first | simpa using h_n1 | (simp; omega)
            have b_n12 : (decide (0 < n)) = false := by first | simpa using h_n1 | (simp; omega)
            have HR := Lib.hid (show mayN k n r c = false from by unfold mayN; (repeat' split) <;> first | (rw [decide_eq_true_eq]; omega) | (rw [decide_eq_false_iff_not]; omega) | omega | rfl)
            clear h_k2 h_r h_c h_k1 h_n1
            go_enter Try.func15, Try.ntmps15
            go_wp2_with fail
            go_ret
            exact ⟨by rw [HR.out]; rfl, (Fr0.refl w).alloc _⟩
        · have b_k10 : (k == 1) = false := by first | simpa using h_k1 | (simp; omega)
          by_cases h_k3 : k = 3
          · have b_k30 : (k == 3) = true := by first | simpa using h_k3 | (simp; omega)
            by_cases h_n0 : n = 0
            · have b_n00 : ((n : Int) == 0) = true := by first | simpa using h_n0 | (simp; omega)
              have b_n01 : (n == 0) = true := by first | simpa using h_n0 | (simp; omega)
              have HR := Lib.hid (show mayN k n r c = true from by unfold mayN; (repeat' split) <;> first | (rw [decide_eq_true_eq]; omega) | (rw [decide_eq_false_iff_not]; omega) | omega | rfl)
              clear h_k2 h_r h_c h_k1 h_k3 h_n0
              go_enter Try.func15, Try.ntmps15
              go_wp2_with fail
              go_ret
              exact ⟨by rw [HR.out]; rfl, (Fr0.refl w).alloc _⟩
            · have b_n00 : ((n : Int) == 0) = false := by first | simpa using h_n0 | (simp; omega)
              have b_n01 : (n == 0) = false := by first | simpa using h_n0 | (simp; omega)
              have HR := Lib.hid (show mayN k n r c = false from by unfold mayN; (repeat' split) <;> first | (rw [decide_eq_true_eq]; omega) | (rw [decide_eq_false_iff_not]; omega) | omega | rfl)
              clear h_k2 h_r h_c h_k1 h_k3 h_n0
              go_enter Try.func15, Try.ntmps15
              go_wp2_with fail
              go_ret
              exact ⟨by rw [HR.out]; rfl, (Fr0.refl w).alloc _⟩
          · have b_k30 : (k == 3) = false := by first | simpa using h_k3 | (simp; omega)
            by_cases h_k4 : k = 4
            · have b_k40 : (k == 4) = true := by first | simpa using h_k4 | (simp; omega)
              by_cases h_n0 : n = 0
              · have b_n00 : ((n : Int) == 0) = true := by first | simpa using h_n0 | (simp; omega)
                have b_n01 : (n == 0) = true := by first | simpa using h_n0 | (simp; omega)
                have HR := Lib.hid (show mayN k n r c = true from by unfold mayN; (repeat' split) <;> first | (rw [decide_eq_true_eq]; omega) | (rw [decide_eq_false_iff_not]; omega) | omega | rfl)
                clear h_k2 h_r h_c h_k1 h_k3 h_k4 h_n0
                go_enter Try.func15, Try.ntmps15
                go_wp2_with fail
                go_ret
                exact ⟨by rw [HR.out]; rfl, (Fr0.refl w).alloc _⟩
              · have b_n00 : ((n : Int) == 0) = false := by first | simpa using h_n0 | (simp; omega)
                have b_n01 : (n == 0) = false := by first | simpa using h_n0 | (simp; omega)
                have HR := Lib.hid (show mayN k n r c = false from by unfold mayN; (repeat' split) <;> first | (rw [decide_eq_true_eq]; omega) | (rw [decide_eq_false_iff_not]; omega) | omega | rfl)
                clear h_k2 h_r h_c h_k1 h_k3 h_k4 h_n0
                go_enter Try.func15, Try.ntmps15
                go_wp2_with fail
                go_ret
                exact ⟨by rw [HR.out]; rfl, (Fr0.refl w).alloc _⟩
            · have b_k40 : (k == 4) = false := by first | simpa using h_k4 | (simp; omega)
              have HR := Lib.hid (show mayN k n r c = false from by unfold mayN; (repeat' split) <;> first | (rw [decide_eq_true_eq]; omega) | (rw [decide_eq_false_iff_not]; omega) | omega | rfl)
              clear h_k2 h_r h_c h_k1 h_k3 h_k4
              go_enter Try.func15, Try.ntmps15
              go_wp2_with fail
              go_ret
              exact ⟨by rw [HR.out]; rfl, (Fr0.refl w).alloc _⟩
end Go.Proofs.Ytcbllkkbpjobpaa
