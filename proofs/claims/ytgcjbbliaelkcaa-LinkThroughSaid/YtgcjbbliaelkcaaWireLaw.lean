/- Numbers as bytes, groups of seven bits: plain lists. Conditions stand in the statements. -/
import Derived.Test.YtgcjbbliaelkcaaBytes
namespace Go.Proofs.Ytgcjbbliaelkcaa

/-- The groups ahead of the last one. -/
def hiW (n : Nat) : List UInt8 := if _h : n = 0 then [] else hiW (n / 128) ++ [UInt8.ofNat (128 + n % 128)]
termination_by n
decreasing_by omega
/-- A number's form. -/
def form (n : Nat) : List UInt8 := hiW (n / 128) ++ [UInt8.ofNat (n % 128)]

theorem hi_zero : hiW 0 = [] := by rw [hiW]; simp
theorem hi_pos {n : Nat} (h : 0 < n) : hiW n = hiW (n / 128) ++ [UInt8.ofNat (128 + n % 128)] := by rw [hiW, dif_neg (by omega)]

theorem hi_len_le (k : Nat) : ∀ n, n < 128 ^ k → (hiW n).length ≤ k := by
  induction k with
  | zero =>
    intro n h
    have h0 : n = 0 := by simpa using h
    subst h0
    simp [hi_zero]
  | succ k ih =>
    intro n h
    rcases Nat.eq_zero_or_pos n with h0 | h0
    · subst h0; simp [hi_zero]
    · rw [hi_pos h0, List.length_append]
      have := ih (n / 128) (by rw [Nat.div_lt_iff_lt_mul (by omega)]; rw [Nat.pow_succ] at h; exact h)
      simp; omega
theorem form_len_le {n : Nat} (h : n < 18446744073709551616) : (form n).length ≤ 10 := by
  unfold form
  have := hi_len_le 9 (n / 128) (by have : (128 : Nat) ^ 9 = 9223372036854775808 := by decide
                                    omega)
  rw [List.length_append]
  simp; omega
theorem form_pos (n : Nat) : 0 < (form n).length := by unfold form; rw [List.length_append]; simp

/-- What is read: the number and how many bytes; (0, 0): none. -/
def rdNum : List UInt8 → Nat → Nat → Nat × Nat
  | [], _, _ => (0, 0)
  | x :: r, i, n => if (i = 0 ∧ x = 128) ∨ 144115188075855871 < n then (0, 0) else if x < 128 then (n * 128 + x.toNat % 128, i + 1) else rdNum r (i + 1) (n * 128 + x.toNat % 128)

theorem u8_lt {x : UInt8} : x < 128 ↔ x.toNat < 128 := UInt8.lt_iff_toNat_lt
theorem u8_eq {x : UInt8} : x = 128 ↔ x.toNat = 128 := by rw [← UInt8.toNat_inj]; rfl
theorem u8_of (n : Nat) (h : n < 256) : (UInt8.ofNat n).toNat = n := by rw [UInt8.toNat_ofNat']; omega
theorem u8_back (x : UInt8) : UInt8.ofNat x.toNat = x := UInt8.ofNat_toNat

theorem rd_hi : ∀ (m : Nat), m < 144115188075855872 → ∀ r : List UInt8, rdNum (hiW m ++ r) 0 0 = if m = 0 then rdNum r 0 0 else rdNum r (hiW m).length m := by
  intro m
  induction m using Nat.strongRecOn with
  | _ m ih =>
    intro hm r
    rcases Nat.eq_zero_or_pos m with h0 | h0
    · subst h0; simp [hi_zero]
    · rw [if_neg (by omega), hi_pos h0, List.append_assoc, ih (m / 128) (by omega) (by omega)]
      have hx : (UInt8.ofNat (128 + m % 128)).toNat = 128 + m % 128 := u8_of _ (by omega)
      have hl : ¬ UInt8.ofNat (128 + m % 128) < 128 := by rw [u8_lt, hx]; omega
      by_cases h1 : m / 128 = 0
      · rw [if_pos h1, h1, hi_zero]
        simp only [List.singleton_append, rdNum, List.nil_append, List.length_singleton]
        rw [if_neg, if_neg hl, hx]
        · congr 1; omega
        · rintro (⟨_, h2⟩ | h2)
          · rw [u8_eq, hx] at h2; omega
          · omega
      · rw [if_neg h1]
        simp only [List.singleton_append, rdNum, List.length_append, List.length_singleton]
        rw [if_neg, if_neg hl, hx]
        · congr 1; omega
        · rintro (⟨h2, _⟩ | h2)
          · rw [hi_pos (by omega : 0 < m / 128), List.length_append] at h2; simp at h2
          · omega

theorem rd_form (n : Nat) (hn : n < 18446744073709551616) (r : List UInt8) : rdNum (form n ++ r) 0 0 = (n, (form n).length) := by
  unfold form
  rw [List.append_assoc, rd_hi (n / 128) (by omega)]
  have hx : (UInt8.ofNat (n % 128)).toNat = n % 128 := u8_of _ (by omega)
  have hl : UInt8.ofNat (n % 128) < 128 := by rw [u8_lt, hx]; omega
  by_cases h1 : n / 128 = 0
  · rw [if_pos h1, h1, hi_zero]
    simp only [List.singleton_append, rdNum, List.nil_append, List.length_singleton]
    rw [if_neg, if_pos hl, hx]
    · congr 1; omega
    · rintro (⟨_, h2⟩ | h2)
      · rw [u8_eq, hx] at h2; omega
      · omega
  · rw [if_neg h1]
    simp only [List.singleton_append, rdNum, List.length_append, List.length_singleton]
    rw [if_neg, if_pos hl, hx]
    · congr 1; omega
    · rintro (⟨h2, _⟩ | h2)
      · rw [hi_pos (by omega : 0 < n / 128), List.length_append] at h2; simp at h2
      · omega

theorem rd_back : ∀ (d : List UInt8) (i acc : Nat), (hiW acc).length = i → (∀ n k, rdNum d i acc = (n, k) → 0 < k → i < k ∧ k ≤ i + d.length ∧ n < 18446744073709551616 ∧ hiW acc ++ d.take (k - i) = form n) := by
  intro d
  induction d with
  | nil => intro i acc _ n k h hk; simp [rdNum] at h; omega
  | cons x r ih =>
    intro i acc hacc n k h hk
    simp only [rdNum] at h
    by_cases hc : (i = 0 ∧ x = 128) ∨ 144115188075855871 < acc
    · rw [if_pos hc] at h; simp at h; omega
    · rw [if_neg hc] at h
      have hxl := x.toNat_lt
      by_cases hl : x < 128
      · rw [if_pos hl] at h
        rw [u8_lt] at hl
        simp only [Prod.mk.injEq] at h
        obtain ⟨h1, h2⟩ := h
        subst h1 h2
        refine ⟨by omega, by simp, by omega, ?_⟩
        rw [show i + 1 - i = 1 from by omega]
        unfold form
        rw [show (acc * 128 + x.toNat % 128) / 128 = acc from by omega, show (acc * 128 + x.toNat % 128) % 128 = x.toNat from by omega, u8_back]
        simp
      · rw [if_neg hl] at h
        rw [u8_lt] at hl
        have hm : 0 < acc * 128 + x.toNat % 128 := by
          rcases Nat.eq_zero_or_pos acc with h0 | h0
          · subst h0
            rw [hi_zero] at hacc
            have : x ≠ 128 := fun e => hc (.inl ⟨by simpa using hacc.symm, e⟩)
            rw [Ne, u8_eq] at this
            omega
          · omega
        have hh : hiW (acc * 128 + x.toNat % 128) = hiW acc ++ [x] := by
          rw [hi_pos hm, show (acc * 128 + x.toNat % 128) / 128 = acc from by omega, show 128 + (acc * 128 + x.toNat % 128) % 128 = x.toNat from by omega, u8_back]
        obtain ⟨a, b, c, e⟩ := ih (i + 1) (acc * 128 + x.toNat % 128) (by rw [hh, List.length_append, hacc]; rfl) n k h hk
        refine ⟨by omega, by simp; omega, c, ?_⟩
        rw [hh, List.append_assoc] at e
        rw [← e, show k - i = (k - (i + 1)) + 1 from by omega]
        simp

/-- What was read, put again, is the bytes that were read. -/
theorem rd_once {d : List UInt8} {n k : Nat} (h : rdNum d 0 0 = (n, k)) (hk : 0 < k) : k ≤ d.length ∧ n < 18446744073709551616 ∧ d.take k = form n := by
  obtain ⟨_, b, c, e⟩ := rd_back d 0 0 (by simp [hi_zero]) n k h hk
  rw [hi_zero] at e
  exact ⟨by omega, c, by simpa using e⟩
theorem rd_zero {d : List UInt8} {n : Nat} (h : rdNum d 0 0 = (n, 0)) : n = 0 := by
  have gen : ∀ (d : List UInt8) (i acc : Nat), ∀ n, rdNum d i acc = (n, 0) → n = 0 := by
    intro d
    induction d with
    | nil => intro i acc n h; simp [rdNum] at h; omega
    | cons x r ih =>
      intro i acc n h
      simp only [rdNum] at h
      split at h
      · simp at h; omega
      · split at h
        · simp at h
        · exact ih _ _ _ h
  exact gen d 0 0 n h
end Go.Proofs.Ytgcjbbliaelkcaa
