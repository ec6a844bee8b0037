/- The reference's May answers what the program's does. No condition. -/
import Derived.Test.YtkgjmfmnkcfabaaInstr
namespace Go.Proofs.Ytkgjmfmnkcfabaa
open Go.RowKit

/-- Whether a number may be one, as a Bool that the walk does not open. -/
def oknB (n : Int) : Bool := decide (okn n)
theorem oknB_true {n : Int} (h : okn n) : oknB n = true := by simp [oknB, h]
theorem oknB_false {n : Int} (h : ¬ okn n) : oknB n = false := by simp [oknB, h]

theorem numberR_any (n : Int) (w : World) : Calls Try.prog 26 #[.int .i64 n] w fun e w' => e = .returned (.bool (oknB n)) ∧ w = w' := by
  by_cases h : okn n
  · have h' := h
    unfold okn at h'
    obtain ⟨h1, h2⟩ := h'
    have H := Lib.hid (oknB_true h)
    clear h
    go_enter Try.func26, Try.ntmps26
    go_wp2
    go_ret
    refine ⟨?_, rfl⟩
    rw [H.out]
    have : decide (n ≤ 1099511627776) = true := by simpa using h2
    first | rfl | (show Ending.returned (Value.bool (decide (n ≤ 1099511627776))) = _; rw [this])
  · have H := Lib.hid (oknB_false h)
    rcases nok h with h1 | ⟨h1, h2⟩
    · clear h
      go_enter Try.func26, Try.ntmps26
      go_wp2
      go_ret
      exact ⟨by rw [H.out]; rfl, rfl⟩
    · clear h
      have h3 : 0 ≤ n := by omega
      go_enter Try.func26, Try.ntmps26
      go_wp2
      go_ret
      refine ⟨?_, rfl⟩
      rw [H.out]
      have : decide (n ≤ 1099511627776) = false := by simp; omega
      first | rfl | (show Ending.returned (Value.bool (decide (n ≤ 1099511627776))) = _; rw [this])

set_option maxHeartbeats 400000 in
theorem rmay_bad0 (old new ack trash : Int) (A : Option Addr) (n c : Nat) (w : World)  (h0 : oknB old = false) :
    Calls Try.prog 13 #[.agg #[.int .i64 old, .int .i64 new, .int .i64 ack, .int .i64 trash, .slice A n c]] w fun e w' => e = .returned (.int .i64 2) ∧ Fr0 w w' := by
  go_enter Try.func13, Try.ntmps13
  go_wp2_with (go_at_call 26; refine (numberR_any _ _).mono ?_; rintro e w' ⟨rfl, rfl⟩)
  all_goals (go_ret; exact ⟨rfl, by repeat (first | exact Fr0.refl _ | refine Fr.drew ?_ | refine Fr.alloc ?_ _)⟩)
set_option maxHeartbeats 400000 in
theorem rmay_bad1 (old new ack trash : Int) (A : Option Addr) (n c : Nat) (w : World) (h0 : oknB old = true) (h1 : oknB new = false) :
    Calls Try.prog 13 #[.agg #[.int .i64 old, .int .i64 new, .int .i64 ack, .int .i64 trash, .slice A n c]] w fun e w' => e = .returned (.int .i64 2) ∧ Fr0 w w' := by
  go_enter Try.func13, Try.ntmps13
  go_wp2_with (go_at_call 26; refine (numberR_any _ _).mono ?_; rintro e w' ⟨rfl, rfl⟩)
  all_goals (go_ret; exact ⟨rfl, by repeat (first | exact Fr0.refl _ | refine Fr.drew ?_ | refine Fr.alloc ?_ _)⟩)
set_option maxHeartbeats 400000 in
theorem rmay_bad2 (old new ack trash : Int) (A : Option Addr) (n c : Nat) (w : World) (h0 : oknB old = true) (h1 : oknB new = true) (h2 : oknB ack = false) :
    Calls Try.prog 13 #[.agg #[.int .i64 old, .int .i64 new, .int .i64 ack, .int .i64 trash, .slice A n c]] w fun e w' => e = .returned (.int .i64 2) ∧ Fr0 w w' := by
  go_enter Try.func13, Try.ntmps13
  go_wp2_with (go_at_call 26; refine (numberR_any _ _).mono ?_; rintro e w' ⟨rfl, rfl⟩)
  all_goals (go_ret; exact ⟨rfl, by repeat (first | exact Fr0.refl _ | refine Fr.drew ?_ | refine Fr.alloc ?_ _)⟩)
set_option maxHeartbeats 400000 in
theorem rmay_bad3 (old new ack trash : Int) (A : Option Addr) (n c : Nat) (w : World) (h0 : oknB old = true) (h1 : oknB new = true) (h2 : oknB ack = true) (h3 : oknB trash = false) :
    Calls Try.prog 13 #[.agg #[.int .i64 old, .int .i64 new, .int .i64 ack, .int .i64 trash, .slice A n c]] w fun e w' => e = .returned (.int .i64 2) ∧ Fr0 w w' := by
  go_enter Try.func13, Try.ntmps13
  go_wp2_with (go_at_call 26; refine (numberR_any _ _).mono ?_; rintro e w' ⟨rfl, rfl⟩)
  all_goals (go_ret; exact ⟨rfl, by repeat (first | exact Fr0.refl _ | refine Fr.drew ?_ | refine Fr.alloc ?_ _)⟩)
set_option maxHeartbeats 400000 in
theorem rmay_good0 (old new ack trash : Int) (A : Option Addr) (n c : Nat) (w : World) (h0 : oknB old = true) (h1 : oknB new = true) (h2 : oknB ack = true) (h3 : oknB trash = true) (q1 : new < old) :
    Calls Try.prog 13 #[.agg #[.int .i64 old, .int .i64 new, .int .i64 ack, .int .i64 trash, .slice A n c]] w fun e w' => e = .returned (.int .i64 2) ∧ Fr0 w w' := by
  go_enter Try.func13, Try.ntmps13
  go_wp2_with (go_at_call 26; refine (numberR_any _ _).mono ?_; rintro e w' ⟨rfl, rfl⟩)
  all_goals (go_ret; exact ⟨rfl, by repeat (first | exact Fr0.refl _ | refine Fr.drew ?_ | refine Fr.alloc ?_ _)⟩)
set_option maxHeartbeats 400000 in
theorem rmay_good1 (old new ack trash : Int) (A : Option Addr) (n c : Nat) (w : World) (h0 : oknB old = true) (h1 : oknB new = true) (h2 : oknB ack = true) (h3 : oknB trash = true) (q1 : ¬ new < old) (q2 : old < trash) :
    Calls Try.prog 13 #[.agg #[.int .i64 old, .int .i64 new, .int .i64 ack, .int .i64 trash, .slice A n c]] w fun e w' => e = .returned (.int .i64 2) ∧ Fr0 w w' := by
  go_enter Try.func13, Try.ntmps13
  go_wp2_with (go_at_call 26; refine (numberR_any _ _).mono ?_; rintro e w' ⟨rfl, rfl⟩)
  all_goals (go_ret; exact ⟨rfl, by repeat (first | exact Fr0.refl _ | refine Fr.drew ?_ | refine Fr.alloc ?_ _)⟩)
set_option maxHeartbeats 400000 in
theorem rmay_good2 (old new ack trash : Int) (A : Option Addr) (n c : Nat) (w : World) (h0 : oknB old = true) (h1 : oknB new = true) (h2 : oknB ack = true) (h3 : oknB trash = true) (q1 : ¬ new < old) (q2 : ¬ old < trash) (q3 : (new == old) = true) (q4 : 0 < n) :
    Calls Try.prog 13 #[.agg #[.int .i64 old, .int .i64 new, .int .i64 ack, .int .i64 trash, .slice A n c]] w fun e w' => e = .returned (.int .i64 2) ∧ Fr0 w w' := by
  go_enter Try.func13, Try.ntmps13
  go_wp2_with (go_at_call 26; refine (numberR_any _ _).mono ?_; rintro e w' ⟨rfl, rfl⟩)
  all_goals (go_ret; exact ⟨rfl, by repeat (first | exact Fr0.refl _ | refine Fr.drew ?_ | refine Fr.alloc ?_ _)⟩)
set_option maxHeartbeats 400000 in
theorem rmay_good3 (old new ack trash : Int) (A : Option Addr) (n c : Nat) (w : World) (h0 : oknB old = true) (h1 : oknB new = true) (h2 : oknB ack = true) (h3 : oknB trash = true) (q1 : ¬ new < old) (q2 : ¬ old < trash) (q3 : (new == old) = true) (q4 : ¬ 0 < n) :
    Calls Try.prog 13 #[.agg #[.int .i64 old, .int .i64 new, .int .i64 ack, .int .i64 trash, .slice A n c]] w fun e w' => e = .returned (.int .i64 0) ∧ Fr0 w w' := by
  go_enter Try.func13, Try.ntmps13
  go_wp2_with (go_at_call 26; refine (numberR_any _ _).mono ?_; rintro e w' ⟨rfl, rfl⟩)
  all_goals (go_ret; exact ⟨rfl, by repeat (first | exact Fr0.refl _ | refine Fr.drew ?_ | refine Fr.alloc ?_ _)⟩)
set_option maxHeartbeats 400000 in
theorem rmay_good4 (old new ack trash : Int) (A : Option Addr) (n c : Nat) (w : World) (h0 : oknB old = true) (h1 : oknB new = true) (h2 : oknB ack = true) (h3 : oknB trash = true) (q1 : ¬ new < old) (q2 : ¬ old < trash) (q3 : (new == old) = false) (q5 : 65496 < n) :
    Calls Try.prog 13 #[.agg #[.int .i64 old, .int .i64 new, .int .i64 ack, .int .i64 trash, .slice A n c]] w fun e w' => e = .returned (.int .i64 3) ∧ Fr0 w w' := by
  go_enter Try.func13, Try.ntmps13
  go_wp2_with (go_at_call 26; refine (numberR_any _ _).mono ?_; rintro e w' ⟨rfl, rfl⟩)
  all_goals (go_ret; exact ⟨rfl, by repeat (first | exact Fr0.refl _ | refine Fr.drew ?_ | refine Fr.alloc ?_ _)⟩)
set_option maxHeartbeats 400000 in
theorem rmay_good5 (old new ack trash : Int) (A : Option Addr) (n c : Nat) (w : World) (h0 : oknB old = true) (h1 : oknB new = true) (h2 : oknB ack = true) (h3 : oknB trash = true) (q1 : ¬ new < old) (q2 : ¬ old < trash) (q3 : (new == old) = false) (q5 : ¬ 65496 < n) :
    Calls Try.prog 13 #[.agg #[.int .i64 old, .int .i64 new, .int .i64 ack, .int .i64 trash, .slice A n c]] w fun e w' => e = .returned (.int .i64 0) ∧ Fr0 w w' := by
  go_enter Try.func13, Try.ntmps13
  go_wp2_with (go_at_call 26; refine (numberR_any _ _).mono ?_; rintro e w' ⟨rfl, rfl⟩)
  all_goals (go_ret; exact ⟨rfl, by repeat (first | exact Fr0.refl _ | refine Fr.drew ?_ | refine Fr.alloc ?_ _)⟩)
theorem rmay_any (old new ack trash : Int) (A : Option Addr) (n c : Nat) (w : World) : Calls Try.prog 13 #[.agg #[.int .i64 old, .int .i64 new, .int .i64 ack, .int .i64 trash, .slice A n c]] w fun e w' => e = .returned (.int .i64 (may old new ack trash n)) ∧ Fr0 w w' := by
  by_cases h0 : okn old
  · by_cases h1 : okn new
    · by_cases h2 : okn ack
      · by_cases h3 : okn trash
        · have g : ∀ {v : Int}, (¬ (new < old ∨ trash > old ∨ (new = old ∧ 0 < n)) → v = if 65496 < n then 3 else 0) → ((new < old ∨ trash > old ∨ (new = old ∧ 0 < n)) → v = 2) → v = may old new ack trash n := by
            intro v k1 k2
            unfold may
            rw [if_neg (by intro h; exact h ⟨h0, h1, h2, h3⟩)]
            by_cases q : new < old ∨ trash > old ∨ (new = old ∧ 0 < n)
            · rw [if_pos q]; exact k2 q
            · rw [if_neg q]; exact k1 q
          have b0 := oknB_true h0
          have b1 := oknB_true h1
          have b2 := oknB_true h2
          have b3 := oknB_true h3
          by_cases q1 : new < old
          · rw [← g (v := 2) (fun h => absurd (.inl q1) h) (fun _ => rfl)]
            exact rmay_good0 _ _ _ _ _ _ _ _ b0 b1 b2 b3 q1
          · by_cases q2 : old < trash
            · rw [← g (v := 2) (fun h => absurd (.inr (.inl q2)) h) (fun _ => rfl)]
              exact rmay_good1 _ _ _ _ _ _ _ _ b0 b1 b2 b3 q1 q2
            · by_cases q3 : new = old
              · by_cases q4 : 0 < n
                · rw [← g (v := 2) (fun h => absurd (.inr (.inr ⟨q3, q4⟩)) h) (fun _ => rfl)]
                  exact rmay_good2 _ _ _ _ _ _ _ _ b0 b1 b2 b3 q1 q2 (by simp [q3]) q4
                · rw [← g (v := 0) (fun _ => by rw [if_neg (by omega)]) (fun h => by omega)]
                  exact rmay_good3 _ _ _ _ _ _ _ _ b0 b1 b2 b3 q1 q2 (by simp [q3]) q4
              · by_cases q5 : 65496 < n
                · rw [← g (v := 3) (fun _ => by rw [if_pos q5]) (fun h => by omega)]
                  exact rmay_good4 _ _ _ _ _ _ _ _ b0 b1 b2 b3 q1 q2 (by simp [q3]) q5
                · rw [← g (v := 0) (fun _ => by rw [if_neg q5]) (fun h => by omega)]
                  exact rmay_good5 _ _ _ _ _ _ _ _ b0 b1 b2 b3 q1 q2 (by simp [q3]) q5
        · have e : may old new ack trash n = 2 := by unfold may; rw [if_pos (fun h => h3 h.2.2.2)]
          rw [e]
          exact rmay_bad3 _ _ _ _ _ _ _ _ (oknB_true h0) (oknB_true h1) (oknB_true h2) (oknB_false h3)
      · have e : may old new ack trash n = 2 := by unfold may; rw [if_pos (fun h => h2 h.2.2.1)]
        rw [e]
        exact rmay_bad2 _ _ _ _ _ _ _ _ (oknB_true h0) (oknB_true h1) (oknB_false h2)
    · have e : may old new ack trash n = 2 := by unfold may; rw [if_pos (fun h => h1 h.2.1)]
      rw [e]
      exact rmay_bad1 _ _ _ _ _ _ _ _ (oknB_true h0) (oknB_false h1)
  · have e : may old new ack trash n = 2 := by unfold may; rw [if_pos (fun h => h0 h.1)]
    rw [e]
    exact rmay_bad0 _ _ _ _ _ _ _ _ (oknB_false h0)
end Go.Proofs.Ytkgjmfmnkcfabaa
