/- A nonce's word and a word's nonce, the program's and the reference's. Conditions stand in the statements. -/
import Derived.Test.YtgcjbbliaelkcaaAesTimes
import Derived.Test.YtgcjbbliaelkcaaSteps2
import Derived.Laws.BitsAllLaws
set_option linter.unusedSimpArgs false
set_option linter.unusedVariables false
namespace Go.Proofs.Ytgcjbbliaelkcaa
open Go.RowKit

/-- A nonce's word. -/
def wordL (dn : Bool) (n : Nat) : Nat := if dn then n + 9223372036854775808 else n
def ofD (w : Nat) : Bool := decide (9223372036854775808 ≤ w)
def ofN (w : Nat) : Nat := w % 9223372036854775808
theorem ofD_word (dn : Bool) {n : Nat} (h : n < 9223372036854775808) : ofD (wordL dn n) = dn := by cases dn <;> simp [ofD, wordL] <;> omega
theorem ofN_word (dn : Bool) {n : Nat} (h : n < 9223372036854775808) : ofN (wordL dn n) = n := by cases dn <;> simp [ofN, wordL] <;> omega
theorem word_lt (dn : Bool) {n : Nat} (h : n < 9223372036854775808) : wordL dn n < 18446744073709551616 := by cases dn <;> simp [wordL] <;> omega
theorem word_inj {a b : Bool} {m n : Nat} (hm : m < 9223372036854775808) (hn : n < 9223372036854775808) (h : wordL a m = wordL b n) : a = b ∧ m = n := by
  refine ⟨?_, ?_⟩
  · rw [← ofD_word a hm, h, ofD_word b hn]
  · rw [← ofN_word a hm, h, ofN_word b hn]
theorem nonce_of (w : Nat) : ofN w < 9223372036854775808 := by unfold ofN; omega
theorem word_of {w : Nat} (h : w < 18446744073709551616) : wordL (ofD w) (ofN w) = w := by
  unfold wordL ofD ofN
  by_cases h1 : 9223372036854775808 ≤ w
  · simp [h1]; omega
  · simp [h1]; omega
theorem or63 {n : Nat} (h : n < 9223372036854775808) : bits .or .u64 (n : Int) 9223372036854775808 = ((n + 9223372036854775808 : Nat) : Int) := by
  have := u64_or_nat n 9223372036854775808 (by omega) (by omega)
  rw [show ((9223372036854775808 : Nat) : Int) = 9223372036854775808 from rfl] at this
  rw [this, Nat.or_comm]
  have h2 := Nat.two_pow_add_eq_or_of_lt (i := 63) (b := n) (by simpa using h) 1
  rw [show 2 ^ 63 * 1 = 9223372036854775808 from rfl] at h2
  rw [← h2, Nat.add_comm]
theorem and63 {n : Nat} (h : n < 18446744073709551616) : (bits .and .u64 (n : Int) 9223372036854775808 != 0) = ofD n := by
  have := u64_and_nat n 9223372036854775808 (by omega) (by omega)
  rw [show ((9223372036854775808 : Nat) : Int) = 9223372036854775808 from rfl] at this
  rw [this]
  unfold ofD
  by_cases h1 : 9223372036854775808 ≤ n
  · have ht : n.testBit 63 = true := by
      rw [Nat.testBit_eq_decide_div_mod_eq]
      have : n / 2 ^ 63 % 2 = 1 := by show n / 9223372036854775808 % 2 = 1; omega
      simp [this]
    have hb : (n &&& 9223372036854775808).testBit 63 = true := by
      rw [Nat.testBit_and, ht, show (9223372036854775808 : Nat) = 2 ^ 63 from rfl, Nat.testBit_two_pow]; rfl
    have hne : n &&& 9223372036854775808 ≠ 0 := fun e => by rw [e, Nat.zero_testBit] at hb; cases hb
    rw [decide_eq_true h1]
    exact bne_iff_ne.2 (by omega)
  · have e : n &&& 9223372036854775808 = 0 := by
      refine Nat.eq_of_testBit_eq fun i => ?_
      rw [Nat.testBit_and, Nat.zero_testBit, show (9223372036854775808 : Nat) = 2 ^ 63 from rfl, Nat.testBit_two_pow]
      by_cases hi : 63 = i
      · subst hi; rw [Nat.testBit_lt_two_pow (show n < 2 ^ 63 by show n < 9223372036854775808; omega)]; rfl
      · simp [hi]
    rw [e, decide_eq_false h1]; rfl
theorem andNot63 {n : Nat} (h : n < 18446744073709551616) : bits .andNot .u64 (n : Int) 9223372036854775808 = (ofN n : Int) := by
  have := u64_andNot_nat n 9223372036854775808 (by omega) (by omega)
  rw [show ((9223372036854775808 : Nat) : Int) = 9223372036854775808 from rfl] at this
  rw [this, show (18446744073709551615 - 9223372036854775808 : Nat) = 2 ^ 63 - 1 from rfl, Nat.and_two_pow_sub_one_eq_mod]
  rfl
def nonceV (dn : Bool) (n : Nat) : Value := .agg #[.bool dn, .int .u64 (n : Int)]
set_option maxHeartbeats 1000000 in
set_option maxRecDepth 10000 in
theorem nword_any {dn : Bool} {n : Nat} {w : World} (hn : n < 18446744073709551616) :
    Calls Try.prog 42 #[nonceV dn n] w fun e w' => e = .returned (.tuple #[.int .u64 ((if 9223372036854775808 ≤ n then 0 else wordL dn n : Nat) : Int), .int .i64 (if 9223372036854775808 ≤ n then 2 else 0)]) ∧ Fr0 w w' := by
  have b := Blk.new w #[.bool dn, .int .u64 (n : Int)] 41
  have c0 := b.cell 0 rfl
  have c1 := b.cell 1 rfl
  have F := Lib.hid ((Fr0.refl w).alloc (.cells #[.bool dn, .int .u64 (n : Int)] 41))
  unfold nonceV
  by_cases h : 9223372036854775808 ≤ n
  · rw [if_pos h, if_pos h]
    have h1 : (9223372036854775808 : Int) ≤ (n : Int) := by omega
    clear h
    go_enter Try.func42, Try.ntmps42
    go_wp2_with fail
    go_ret2
    exact ⟨rfl, F.out⟩
  · rw [if_neg h, if_neg h]
    have h1 : decide ((9223372036854775808 : Int) ≤ (n : Int)) = false := decide_eq_false (by omega)
    have ho := or63 (n := n) (by omega)
    clear h
    cases dn
    · rw [show wordL false n = n from rfl]
      go_enter Try.func42, Try.ntmps42
      go_wp2_with fail
      go_ret2
      exact ⟨rfl, F.out⟩
    · rw [show wordL true n = n + 9223372036854775808 from rfl]
      obtain ⟨m, hm⟩ : ∃ m, m = n + 9223372036854775808 := ⟨_, rfl⟩
      rw [← hm] at ho ⊢
      clear hm
      go_enter Try.func42, Try.ntmps42
      go_wp2_with fail
      go_ret2
      exact ⟨rfl, F.out⟩
set_option maxHeartbeats 1000000 in
theorem nof_any {n : Nat} {w : World} (hn : n < 18446744073709551616) :
    Calls Try.prog 38 #[.int .u64 (n : Int)] w fun e w' => e = .returned (nonceV (ofD n) (ofN n)) ∧ Fr0 w w' := by
  have h1 := and63 hn
  have h2 := andNot63 hn
  go_enter Try.func38, Try.ntmps38
  go_wp2_with fail
  have b := Blk.new w #[.bool (ofD n), .int .u64 (ofN n : Int)] 41
  exact bodyPost_ret (v := nonceV (ofD n) (ofN n)) (results_cell_row rfl _ _ w.heap.size 41 #[.bool (ofD n), .int .u64 (ofN n : Int)] (0, 0) _ rfl b Try.underlying41 rfl (by kernel_rfl)) rfl ⟨rfl, (Fr0.refl w).alloc _⟩
end Go.Proofs.Ytgcjbbliaelkcaa
