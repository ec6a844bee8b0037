/- Numbers in digits of 16 bits, in plain numbers. Conditions stand in the statements. -/
import Derived.Test.YtjkcbklgddnbdaaShaLaw
namespace Go.Proofs.Ytjkcbklgddnbdaa

/-- Digits, the lowest first, as a number. -/
def val : List Nat → Nat
  | [] => 0
  | x :: r => x + 65536 * val r
def Dig (l : List Nat) : Prop := ∀ x ∈ l, x < 65536
theorem val_lt {l : List Nat} (h : Dig l) : val l < 65536 ^ l.length := by
  induction l with
  | nil => simp [val]
  | cons x r ih =>
    have h1 := ih (fun y hy => h y (List.mem_cons_of_mem _ hy))
    have h2 := h x (List.mem_cons_self ..)
    simp only [val, List.length_cons, Nat.pow_succ]
    omega
theorem val_app (a b : List Nat) : val (a ++ b) = val a + 65536 ^ a.length * val b := by
  induction a with
  | nil => simp [val]
  | cons x r ih =>
    simp only [List.cons_append, val, ih, List.length_cons, Nat.pow_succ]
    rw [Nat.mul_add, Nat.add_assoc, ← Nat.mul_assoc, Nat.mul_comm 65536 (65536 ^ r.length)]
theorem val_zeros (n : Nat) : val (List.replicate n 0) = 0 := by
  induction n with
  | zero => rfl
  | succ n ih => simp [List.replicate_succ, val, ih]
theorem val_set (l : List Nat) : ∀ (i x : Nat), i < l.length → val (l.set i x) + 65536 ^ i * l.getD i 0 = val l + 65536 ^ i * x := by
  induction l with
  | nil => intro i x h; simp at h
  | cons y r ih =>
    intro i x h
    cases i with
    | zero => simp [val]; omega
    | succ i =>
      have h1 := ih i x (by simpa using h)
      simp only [List.set_cons_succ, val, List.getD_cons_succ, Nat.pow_succ]
      rw [Nat.mul_comm (65536 ^ i) 65536, Nat.mul_assoc, Nat.mul_assoc]
      omega
theorem val_take {l : List Nat} {k : Nat} (h : k < l.length) : val (l.take (k + 1)) = val (l.take k) + 65536 ^ k * l.getD k 0 := by
  rw [List.take_succ_eq_append_getElem h, val_app, List.length_take, Nat.min_eq_left (by omega), show l.getD k 0 = l[k] from by simp [List.getD, h]]
  simp [val]
theorem dig_set {l : List Nat} (h : Dig l) (i : Nat) {x : Nat} (hx : x < 65536) : Dig (l.set i x) := fun y hy => by
  rcases List.mem_or_eq_of_mem_set hy with h1 | h1
  · exact h y h1
  · rw [h1]; exact hx
theorem dig_getD {l : List Nat} (h : Dig l) (i : Nat) : l.getD i 0 < 65536 := by
  rcases Nat.lt_or_ge i l.length with h1 | h1
  · rw [show l.getD i 0 = l[i] from by simp [List.getD, h1]]; exact h _ (List.getElem_mem h1)
  · rw [show l.getD i 0 = 0 from by simp [List.getD, h1]]; decide
theorem dig_zeros (n : Nat) : Dig (List.replicate n 0) := fun x hx => by rw [List.eq_of_mem_replicate hx]; decide
/-- A step of the inner loop. -/
theorem times_step {P V A c Lk s v v' t : Nat} (h : v + c * P = V + A) (hs : s = Lk + c + t) (hv : v' + P * Lk = v + P * (s % 65536)) : v' + s / 65536 * (P * 65536) = V + (A + P * t) := by
  have e : P * (s % 65536) + s / 65536 * (P * 65536) = P * s := by
    have := Nat.div_add_mod s 65536
    calc P * (s % 65536) + s / 65536 * (P * 65536) = P * (65536 * (s / 65536) + s % 65536) := by rw [Nat.mul_add, Nat.mul_left_comm, Nat.mul_comm (s / 65536)]; omega
      _ = P * s := by rw [this]
  have e2 : P * s = P * Lk + c * P + P * t := by rw [hs, Nat.mul_add, Nat.mul_add, Nat.mul_comm c P]
  omega
/-- Where something is carried still there is room. -/
theorem times_room {v c i k lb : Nat} (h : v + c * 65536 ^ (i + k) < 65536 ^ (i + 1 + lb)) (hc : 0 < c) : i + k < i + 1 + lb := by
  have h1 : 65536 ^ (i + k) ≤ c * 65536 ^ (i + k) := Nat.le_mul_of_pos_left _ hc
  have h2 : 65536 ^ (i + k) < 65536 ^ (i + 1 + lb) := by omega
  exact (Nat.pow_lt_pow_iff_right (by decide)).1 h2
theorem times_tot {a b : List Nat} {i : Nat} (ha : Dig a) (hb : Dig b) (hi : i < a.length) : val (a.take i) * val b + a.getD i 0 * 65536 ^ i * val b = val (a.take (i + 1)) * val b ∧ val (a.take (i + 1)) * val b < 65536 ^ (i + 1 + b.length) := by
  have h1 := val_take hi
  refine ⟨by rw [h1, Nat.add_mul, Nat.mul_comm (65536 ^ i)], ?_⟩
  have h2 : val (a.take (i + 1)) < 65536 ^ (i + 1) := by
    have h := val_lt (l := a.take (i + 1)) (fun x hx => ha x (List.mem_of_mem_take hx))
    rw [List.length_take, Nat.min_eq_left (by omega)] at h
    exact h
  have h3 := val_lt hb
  rw [Nat.pow_add]
  exact Nat.mul_lt_mul'' h2 h3
/-- The first n digits as a number. -/
def vd (l : List Nat) : Nat → Nat
  | 0 => 0
  | n + 1 => vd l n + 65536 ^ n * l.getD n 0
theorem vd_lt {l : List Nat} (h : Dig l) : ∀ n, vd l n < 65536 ^ n := by
  intro n
  induction n with
  | zero => simp [vd]
  | succ n ih =>
    have h1 := dig_getD h n
    have h2 : 65536 ^ n * l.getD n 0 ≤ 65536 ^ n * 65535 := Nat.mul_le_mul_left _ (by omega)
    simp only [vd, Nat.pow_succ]
    omega
theorem vd_take (l : List Nat) : ∀ n, vd l n = val (l.take n) := by
  intro n
  induction n with
  | zero => simp [vd, val]
  | succ n ih =>
    rcases Nat.lt_or_ge n l.length with h | h
    · rw [vd, ih, val_take h]
    · rw [vd, ih, show l.getD n 0 = 0 from by simp [List.getD, h], Nat.mul_zero, Nat.add_zero, List.take_of_length_le h, List.take_of_length_le (by omega)]
theorem vd_val {l : List Nat} {n : Nat} (h : l.length ≤ n) : vd l n = val l := by rw [vd_take, List.take_of_length_le h]
theorem vd_above {a b : List Nat} {i : Nat} : ∀ n, i ≤ n → (∀ j, i ≤ j → j < n → a.getD j 0 = b.getD j 0) → vd a n + vd b i = vd b n + vd a i := by
  intro n
  induction n with
  | zero => intro h _; obtain rfl : i = 0 := by omega
            rfl
  | succ n ih =>
    intro h hj
    rcases Nat.lt_or_ge n i with h1 | h1
    · obtain rfl : i = n + 1 := by omega
      omega
    · have h2 := ih h1 (fun j h3 h4 => hj j h3 (by omega))
      have h3 := hj n h1 (by omega)
      simp only [vd, h3]
      omega
/-- Which of two is greater is told by the highest digit in which they differ. -/
theorem val_gt {a b : List Nat} (hb : Dig b) {i n : Nat} (hi : i < n) (la : a.length ≤ n) (lb : b.length ≤ n) (hj : ∀ j, i + 1 ≤ j → j < n → a.getD j 0 = b.getD j 0) (h : b.getD i 0 < a.getD i 0) : val b < val a := by
  have h1 := vd_above n (by omega) hj
  rw [vd_val la, vd_val lb] at h1
  have h2 := vd_lt hb i
  have h3 : 65536 ^ i * (b.getD i 0 + 1) ≤ 65536 ^ i * a.getD i 0 := Nat.mul_le_mul_left _ h
  rw [Nat.mul_add] at h3
  simp only [vd] at h1
  omega
theorem val_same {a b : List Nat} {n : Nat} (la : a.length ≤ n) (lb : b.length ≤ n) (hj : ∀ j, j < n → a.getD j 0 = b.getD j 0) : val a = val b := by
  have h1 := vd_above (i := 0) n (Nat.zero_le _) (fun j _ h => hj j h)
  rw [vd_val la, vd_val lb] at h1
  simpa [vd] using h1
def digs (n : Nat) : List Nat := [n % 65536, n / 65536 % 65536, n / 65536 / 65536 % 65536, n / 65536 / 65536 / 65536 % 65536]
theorem digs_val {n : Nat} (h : n < 18446744073709551616) : val (digs n) = n := by
  simp only [digs, val]
  omega
theorem digs_dig (n : Nat) : Dig (digs n) := fun x hx => by
  simp only [digs, List.mem_cons, List.not_mem_nil, or_false] at hx
  rcases hx with rfl | rfl | rfl | rfl <;> exact Nat.mod_lt _ (by decide)
end Go.Proofs.Ytjkcbklgddnbdaa
