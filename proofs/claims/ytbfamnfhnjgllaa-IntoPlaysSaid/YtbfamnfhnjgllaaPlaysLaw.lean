/- The reference's Hear and the program's leave and answer the same over numbers that rise: plain lists. Conditions stand in the statements. -/
import Derived.Test.YtbfamnfhnjgllaaRefInto
import Derived.Test.YtbfamnfhnjgllaaStaysLaw
namespace Go.Proofs.Ytbfamnfhnjgllaa
open Go.RowKit

def Rises (l : List (Int × ByteArray)) : Prop := ∀ i j (hi : i < j) (hj : j < l.length), (l[i]'(by omega)).1 < (l[j]).1

theorem rk_drop (l : List (Int × ByteArray)) (trash : Int) (h : Rises l) (hn : 0 < l.length) (K : Nat) (hK : K < l.length)
    (hK1 : trash ≤ l[K].1 ∨ l[K].1 = (l[l.length - 1]'(by omega)).1) (hK2 : ∀ j (hj : j < K), ¬ (trash ≤ (l[j]'(by omega)).1 ∨ (l[j]'(by omega)).1 = (l[l.length - 1]'(by omega)).1)) :
    ∀ k, k ≤ l.length → rk l trash k = (l.take k).drop K := by
  intro k
  induction k with
  | zero => intro _; simp [rk]
  | succ k ih =>
    intro hk
    simp only [rk]
    rw [ih (by omega), getD_at (by omega : k < l.length), List.take_succ_eq_append_getElem (by omega : k < l.length)]
    by_cases hkK : k < K
    · have := hK2 k hkK
      rw [if_neg]
      · rw [List.append_nil, List.drop_eq_nil_of_le (by rw [List.length_take]; omega), List.drop_eq_nil_of_le (by simp; omega)]
      · rintro (h1 | h1)
        · exact this (.inl h1)
        · exact this (.inr (by congr 1; congr 1))
    · have hin : trash ≤ l[k].1 ∨ k = l.length - 1 := by
        rcases Nat.lt_or_ge K k with hlt | hge
        · rcases hK1 with h1 | h1
          · have := h K k hlt (by omega); exact .inl (by omega)
          · exfalso
            have := h K (l.length - 1) (by omega) (by omega)
            omega
        · have hkk : k = K := by omega
          subst hkk
          rcases hK1 with h1 | h1
          · exact .inl h1
          · rcases Nat.lt_or_ge k (l.length - 1) with h2 | h2
            · exfalso
              have := h k (l.length - 1) h2 (by omega)
              omega
            · exact .inr (by omega)
      rw [if_pos hin, List.drop_append_of_le_length (by rw [List.length_take]; omega)]

theorem rk_all (l : List (Int × ByteArray)) (trash : Int) (h : Rises l) (hn : 0 < l.length) :
    rk l trash l.length = l.drop (idx (fun h => decide (h.1 ≥ trash) || h.1 == (l.getD (l.length - 1) (0, ⟨#[]⟩)).1) l).toNat := by
  have hlast : (l.getD (l.length - 1) (0, ⟨#[]⟩)).1 = (l[l.length - 1]'(by omega)).1 := by rw [getD_at (by omega)]
  rw [hlast]
  cases e : l.findIdx? (fun h => decide (h.1 ≥ trash) || h.1 == (l[l.length - 1]'(by omega)).1) with
  | none =>
    exfalso
    have := List.findIdx?_eq_none_iff.1 e (l[l.length - 1]'(by omega)) (List.getElem_mem _)
    simp at this
  | some K =>
    obtain ⟨hK, h1, h2⟩ := List.findIdx?_eq_some_iff_getElem.1 e
    have hi : idx (fun h => decide (h.1 ≥ trash) || h.1 == (l[l.length - 1]'(by omega)).1) l = K := by simp [idx, e]
    rw [hi, Int.toNat_natCast, rk_drop l trash h hn K hK (by simpa using h1) (fun j hj => by simpa using h2 j hj) l.length (Nat.le_refl _), List.take_length]

theorem rhear_eq (l : List (Int × ByteArray)) (old new ack trash : Int) (d : List UInt8) (h : Rises l) (hn : 0 < l.length) : rhear l old new ack trash d = hear applyF l old new ack trash d := by
  unfold rhear hear
  rw [rk_all l trash h hn]

theorem rises_drop {l : List (Int × ByteArray)} (h : Rises l) (K : Nat) : Rises (l.drop K) := by
  intro i j hi hj
  rw [List.length_drop] at hj
  rw [List.getElem_drop, List.getElem_drop]
  exact h (K + i) (K + j) (by omega) (by omega)
theorem rises_snoc {l : List (Int × ByteArray)} (h : Rises l) (hn : 0 < l.length) (x : Int × ByteArray) (hx : (l[l.length - 1]'(by omega)).1 < x.1) : Rises (l ++ [x]) := by
  intro i j hi hj
  rw [List.length_append, List.length_singleton] at hj
  rw [List.getElem_append_left (by omega : i < l.length)]
  rcases Nat.lt_or_ge j l.length with h1 | h1
  · rw [List.getElem_append_left h1]
    exact h i j hi h1
  · have hj' : j = l.length := by omega
    subst hj'
    rw [List.getElem_append_right (Nat.le_refl _)]
    simp only [Nat.sub_self, List.getElem_singleton]
    rcases Nat.lt_or_ge i (l.length - 1) with h2 | h2
    · have := h i (l.length - 1) h2 (by omega)
      omega
    · have : i = l.length - 1 := by omega
      subst this
      exact hx

theorem applyF_size (s : ByteArray) (d : List UInt8) : (applyF s d).1.size ≤ d.length := by
  unfold applyF
  split
  · exact Nat.zero_le _
  · split
    · exact Nat.zero_le _
    · split
      · exact Nat.zero_le _
      · rw [str_size, List.length_drop]; omega

/-- What one Hear keeps of what the law's loop carries. -/
theorem hear_keeps (l : List (Int × ByteArray)) (old new ack trash : Int) (d : List UInt8) (hr : Rises l) (hn : 0 < l.length) (hn16 : l.length ≤ 16) (B : Nat) (hs : ∀ x ∈ l, x.2.size ≤ B) (hd : d.length ≤ B) :
    Rises (hear applyF l old new ack trash d).1 ∧ 0 < (hear applyF l old new ack trash d).1.length ∧ (hear applyF l old new ack trash d).1.length ≤ 16 ∧ ∀ x ∈ (hear applyF l old new ack trash d).1, x.2.size ≤ B := by
  obtain ⟨K, hK, hc⟩ := hear_cases applyF l old new ack trash d hn
  rcases hc with ⟨_, h1⟩ | ⟨x, y, hy, h1, hnew, h16, hx, _⟩
  · rw [h1]
    exact ⟨rises_drop hr K, by rw [List.length_drop]; omega, by rw [List.length_drop]; omega, fun x hx => hs x (List.mem_of_mem_drop hx)⟩
  · rw [h1]
    have hlast : ∀ h, ((l.drop K)[(l.drop K).length - 1]'h) = l[l.length - 1]'(by omega) := by
      intro h
      rw [List.getElem_drop]
      congr 1
      rw [List.length_drop]; omega
    refine ⟨rises_snoc (rises_drop hr K) (by rw [List.length_drop]; omega) _ (by rw [hlast]; exact hnew), by simp, by rw [List.length_append]; simp at h16 ⊢; omega, fun q hq => ?_⟩
    rcases List.mem_append.1 hq with hq | hq
    · exact hs q (List.mem_of_mem_drop hq)
    · rw [List.mem_singleton] at hq
      rw [hq, hx]
      show (applyF y.2 d).1.size ≤ B
      have := applyF_size y.2 d
      omega
end Go.Proofs.Ytbfamnfhnjgllaa
