/- What was put is read again; cut within it is an error: plain lists. Conditions stand in the statements. -/
import Derived.Test.YthgmimeheeajgaaWireRest
import Derived.Test.YthgmimeheeajgaaWireFix
namespace Go.Proofs.Ythgmimeheeajgaa

theorem fixVal_form (n : Nat) : ∀ (k a : Nat), (fixForm n k).foldl (fun n x => n * 256 + x.toNat) a = a * 256 ^ k + n % 256 ^ k
  | 0, a => by simp [fixForm, Nat.mod_one]
  | k + 1, a => by
    rw [fixForm, List.foldl_cons, fixVal_form n k, u8_of _ (Nat.mod_lt _ (by decide)), Nat.mod_pow_succ, Nat.pow_succ, Nat.add_mul, Nat.mul_assoc, Nat.mul_comm 256 (256 ^ k), Nat.mul_comm (n / 256 ^ k % 256)]
    omega
theorem rFixed_form (n k : Nat) (h1 : 1 ≤ k) (h8 : k ≤ 8) (r : List UInt8) : rFixed (fixForm n k ++ r) 0 (k : Int) = (n % 256 ^ k, r, 0) := by
  have hs : fStep (fixForm n k ++ r) (k : Int) = (k, 0) := by
    unfold fStep
    rw [if_neg]
    · simp
    · rw [List.length_append, fixForm_len]; omega
  unfold rFixed
  rw [if_neg (by simp), hs, if_neg (by simp), List.take_left' (fixForm_len n k), List.drop_left' (fixForm_len n k)]
  have := fixVal_form n k 0
  rw [Nat.zero_mul, Nat.zero_add] at this
  rw [fixVal, this]
theorem rNum_form (n : Nat) (hn : n < 18446744073709551616) (r : List UInt8) : rNum (form n ++ r) 0 = (n, r, 0) := by
  have h : rd (form n ++ r) = (n, (form n).length) := rd_form n hn r
  have := form_pos n
  unfold rNum
  rw [if_neg (by simp), h, if_neg (by simp only; omega), List.drop_left' rfl]
theorem rText_form (s r : List UInt8) (hs : s.length < 18446744073709551616) (most : Int) (hm : (s.length : Int) ≤ most) : rText (textForm s ++ r) 0 most = (s, r, 0) := by
  have h : rd (textForm s ++ r) = (s.length, (form s.length).length) := by
    rw [textForm, List.append_assoc]; exact rd_form s.length hs (s ++ r)
  have hp := form_pos s.length
  have ht : tStep (textForm s ++ r) most = ((form s.length).length + s.length, 0, (form s.length).length) := by
    unfold tStep
    rw [h, if_neg (by simp only; omega), if_neg (by simp only; omega), if_neg]
    rw [List.length_append, textForm, List.length_append]
    simp only
    omega
  unfold rText
  rw [if_neg (by simp), ht, if_neg (by simp)]
  have hl : (textForm s).length = (form s.length).length + s.length := by rw [textForm, List.length_append]
  simp only
  rw [← hl, List.take_left' rfl, List.drop_left' rfl, textForm, List.drop_left' rfl]

/-- Short of a number's form nothing is read. -/
theorem rd_short (n : Nat) (hn : n < 18446744073709551616) (c : Nat) (hc : c < (form n).length) : (rd ((form n).take c)).2 = 0 := by
  rcases Nat.eq_zero_or_pos (rd ((form n).take c)).2 with h | h
  · exact h
  · exfalso
    obtain ⟨h1, h2, h3⟩ := rd_once (d := (form n).take c) (n := (rd ((form n).take c)).1) (k := (rd ((form n).take c)).2) rfl h
    rw [List.length_take] at h1
    rw [List.take_take, Nat.min_eq_left (by omega)] at h3
    have e : form n = form (rd ((form n).take c)).1 ++ (form n).drop (rd ((form n).take c)).2 := by rw [← h3, List.take_append_drop]
    have h4 := rd_form _ h2 ((form n).drop (rd ((form n).take c)).2)
    rw [← e] at h4
    have h5 := rd_form n hn []
    rw [List.append_nil] at h5
    rw [h4] at h5
    have h6 := congrArg Prod.snd h5
    simp only at h6
    have h7 : (form (rd ((form n).take c)).1).length ≤ c := by rw [← h3, List.length_take]; omega
    omega
theorem rNum_cut (n : Nat) (hn : n < 18446744073709551616) (r : List UInt8) (c : Nat) :
    rNum ((form n ++ r).take c) 0 = if c < (form n).length then (0, (form n ++ r).take c, 4) else (n, r.take (c - (form n).length), 0) := by
  split
  · rename_i h
    have e : (form n ++ r).take c = (form n).take c := List.take_append_of_le_length (by omega)
    unfold rNum
    rw [if_neg (by simp), e, if_pos (rd_short n hn c h)]
  · rename_i h
    rw [List.take_append, List.take_of_length_le (by omega), rNum_form n hn]
theorem rFixed_cut (m : Nat) (r : List UInt8) (c : Nat) :
    rFixed ((fixForm m 8 ++ r).take c) 0 8 = if c < 8 then (0, (fixForm m 8 ++ r).take c, 4) else (m % 256 ^ 8, r.take (c - 8), 0) := by
  have hl := fixForm_len m 8
  split
  · rename_i h
    have hs : fStep ((fixForm m 8 ++ r).take c) 8 = (0, 4) := by
      unfold fStep
      rw [if_pos]
      rw [List.length_take]
      omega
    unfold rFixed
    rw [if_neg (by simp), hs, if_pos (by simp)]
  · rename_i h
    rw [List.take_append, List.take_of_length_le (by omega), hl]
    exact rFixed_form m 8 (by decide) (by decide) _
theorem rText_cut (s r : List UInt8) (hs : s.length < 18446744073709551616) (c : Nat) :
    rText ((textForm s ++ r).take c) 0 s.length = if c < (textForm s).length then ([], (textForm s ++ r).take c, 4) else (s, r.take (c - (textForm s).length), 0) := by
  split
  · rename_i h
    have e : (textForm s ++ r).take c = (textForm s).take c := List.take_append_of_le_length (by omega)
    have hst : (tStep ((textForm s).take c) s.length).2.1 = 4 := by
      rw [textForm, List.length_append] at h
      unfold tStep
      by_cases h1 : c < (form s.length).length
      · have e2 : (textForm s).take c = (form s.length).take c := by rw [textForm]; exact List.take_append_of_le_length (by omega)
        rw [e2, if_pos (rd_short _ hs c h1)]
      · have e2 : (textForm s).take c = form s.length ++ s.take (c - (form s.length).length) := by rw [textForm, List.take_append, List.take_of_length_le (by omega)]
        have h2 : rd ((textForm s).take c) = (s.length, (form s.length).length) := by rw [e2]; exact rd_form _ hs _
        have hp := form_pos s.length
        have hl : ((textForm s).take c).length = c := by rw [List.length_take, textForm, List.length_append]; omega
        rw [h2, if_neg (by simp only; omega), if_neg (by simp only; omega), if_pos (by simp only [hl]; omega)]
    unfold rText
    rw [if_neg (by simp), e, if_pos (by rw [hst]; simp), hst]
  · rename_i h
    rw [List.take_append, List.take_of_length_le (by omega)]
    exact rText_form s _ hs _ (by omega)
theorem rNum_err (d : List UInt8) : rNum d 4 = (0, d, 4) := rfl
theorem rFixed_err (d : List UInt8) (k : Int) : rFixed d 4 k = (0, d, 4) := rfl
theorem rText_err (d : List UInt8) (k : Int) : rText d 4 k = ([], d, 4) := rfl

/-- All of it. -/
def backForm (n m : Nat) (s : List UInt8) : List UInt8 := form n ++ (fixForm m 8 ++ (textForm s ++ form m))
/-- The four reads, one behind the other: what is left, the error. -/
def back4 (d : List UInt8) (k : Int) : List UInt8 × Int :=
  let a := (rNum d 0).2
  let b := (rFixed a.1 a.2 8).2
  let c := (rText b.1 b.2 k).2
  (rNum c.1 c.2).2
theorem back_cut (n m : Nat) (s : List UInt8) (hn : n < 18446744073709551616) (hm : m < 18446744073709551616) (hs : s.length < 18446744073709551616) (c : Nat) (hc : c < (backForm n m s).length) :
    (back4 ((backForm n m s).take c) s.length).2 = 4 := by
  unfold back4 backForm
  rw [backForm, List.length_append, List.length_append, List.length_append, fixForm_len] at hc
  simp only
  rw [rNum_cut n hn]
  split
  · simp only [rFixed_err, rText_err, rNum_err]
  · simp only
    rw [rFixed_cut]
    split
    · simp only [rText_err, rNum_err]
    · simp only
      rw [rText_cut s _ hs]
      split
      · simp only [rNum_err]
      · simp only
        have := rNum_cut m hm [] (c - (form n).length - 8 - (textForm s).length)
        rw [List.append_nil] at this
        rw [this, if_pos (by omega)]
theorem rNum_left (d : List UInt8) (e : Int) : (rNum d e).2.1.length ≤ d.length := by
  unfold rNum; split
  · simp
  · split <;> simp
theorem rFixed_left (d : List UInt8) (e k : Int) : (rFixed d e k).2.1.length ≤ d.length := by
  unfold rFixed; split
  · simp
  · split <;> simp
theorem rText_left (d : List UInt8) (e k : Int) : (rText d e k).2.1.length ≤ d.length := by
  unfold rText; split
  · simp
  · split <;> simp
theorem rEnd_err (d : List UInt8) : rEnd d 4 = 4 := by unfold rEnd; simp
theorem rRest_ok (d : List UInt8) : rRest d 0 = (d, [], 0) := by unfold rRest; simp
/-- All reads of what was put. -/
theorem back_reads (n m : Nat) (s b : List UInt8) (hn : n < 18446744073709551616) (hm : m < 18446744073709551616) (hs : s.length < 18446744073709551616) :
    ∃ d1 d2 d3 : List UInt8, rNum (form n ++ fixForm m 8 ++ textForm s ++ form m ++ b) 0 = (n, d1, 0) ∧ rFixed d1 0 8 = (m, d2, 0) ∧ rText d2 0 s.length = (s, d3, 0) ∧ rNum d3 0 = (m, b, 0) := by
  refine ⟨fixForm m 8 ++ (textForm s ++ (form m ++ b)), textForm s ++ (form m ++ b), form m ++ b, ?_, ?_, ?_, rNum_form m hm b⟩
  · simp only [List.append_assoc]; exact rNum_form n hn _
  · have := rFixed_form m 8 (by decide) (by decide) (textForm s ++ (form m ++ b))
    rw [Nat.mod_eq_of_lt (by have : (256 : Nat) ^ 8 = 18446744073709551616 := by decide
                             omega)] at this
    exact this
  · exact rText_form s _ hs _ (by omega)
end Go.Proofs.Ythgmimeheeajgaa
