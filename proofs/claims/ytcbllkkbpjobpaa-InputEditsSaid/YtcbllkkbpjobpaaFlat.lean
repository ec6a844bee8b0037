/- Rows of equally long cells, laid one behind the other. Conditions stand in the statements. -/
import Derived.Test.YtcbllkkbpjobpaaBase
namespace Go.Proofs.Ytcbllkkbpjobpaa

/-- The cells of rows. -/
def flat {α : Type} (c : α → List Value) (l : List α) : List Value := l.flatMap c
section
variable {α : Type} {c : α → List Value} {k : Nat}
theorem flat_len (h : ∀ x, (c x).length = k) (l : List α) : (flat c l).length = l.length * k := by
  induction l with
  | nil => simp [flat]
  | cons x r ih => simp only [flat, List.flatMap_cons, List.length_append, List.length_cons, h] at ih ⊢; rw [ih, Nat.add_mul]; omega
theorem flat_at (h : ∀ x, (c x).length = k) (l : List α) (i : Nat) (hi : i < l.length) {j : Nat} (hj : j < k) : (flat c l)[i * k + j]? = (c l[i])[j]? := by
  induction l generalizing i with
  | nil => simp at hi
  | cons x r ih =>
    cases i with
    | zero =>
      simp only [flat, List.flatMap_cons, Nat.zero_mul, Nat.zero_add, List.getElem_cons_zero]
      rw [List.getElem?_append_left (by rw [h]; exact hj)]
    | succ i =>
      have h2 := ih i (by simpa using hi)
      simp only [flat, List.flatMap_cons, List.getElem_cons_succ] at h2 ⊢
      rw [List.getElem?_append_right (by rw [h, Nat.add_mul]; omega), h, show (i + 1) * k + j - k = i * k + j by rw [Nat.add_mul]; omega]
      exact h2
theorem flat_app (l m : List α) : flat c (l ++ m) = flat c l ++ flat c m := by simp [flat]
theorem flat_one (x : α) : flat c [x] = c x := by simp [flat]
theorem flat_take (h : ∀ x, (c x).length = k) (l : List α) (i : Nat) : (flat c l).take (i * k) = flat c (l.take i) := by
  induction l generalizing i with
  | nil => simp [flat]
  | cons x r ih =>
    cases i with
    | zero => simp [flat]
    | succ i =>
      have := ih i
      simp only [flat, List.flatMap_cons, List.take_succ_cons] at *
      rw [show (i + 1) * k = (c x).length + i * k from by rw [h, Nat.add_mul]; omega, List.take_length_add_append, this]
theorem flat_drop (h : ∀ x, (c x).length = k) (l : List α) (i : Nat) : (flat c l).drop (i * k) = flat c (l.drop i) := by
  induction l generalizing i with
  | nil => simp [flat]
  | cons x r ih =>
    cases i with
    | zero => simp [flat]
    | succ i =>
      have := ih i
      simp only [flat, List.flatMap_cons, List.drop_succ_cons] at *
      rw [show (i + 1) * k = (c x).length + i * k from by rw [h, Nat.add_mul]; omega, List.drop_length_add_append, this]
theorem flat_mem (h1 : ∀ x, ∀ u ∈ c x, u.oneCell' = true) (l : List α) : ∀ u ∈ flat c l, u.oneCell' = true := by
  intro u hu
  simp only [flat, List.mem_flatMap] at hu
  obtain ⟨x, _, hx⟩ := hu
  exact h1 x u hx
end
end Go.Proofs.Ytcbllkkbpjobpaa
