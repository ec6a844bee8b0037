/- Products of two halves: the library's Mul64, and the powers of the program. Conditions stand in the statements. -/
import Derived.Test.YtgcjbbliaelkcaaShaPrime
import Derived.Shelf.Bits.Mul64
namespace Go.Proofs.Ytgcjbbliaelkcaa
open Go.RowKit

def renM : Go.Shelf.Ren := ⟨fun k => if k = 264 then 81 else 0, fun k => if k = 46 then 112 else if k = 53 then 31 else 0, fun k => k⟩
theorem laysM : Go.Proofs.Lays.n264 Try.prog renM where
  mixed := by kernel_rfl
  f264 := by kernel_rfl
  t46 := Try.underlying112
  a46 := Try.isAgg112
  z46 := Try.sizeOf112
  v46 := Try.zeroValue112
  t53 := Try.underlying31
  a53 := Try.isAgg31
  z53 := Try.sizeOf31
  v53 := Try.zeroValue31
theorem mul64_any (x y : Nat) (hx : x < 18446744073709551616) (hy : y < 18446744073709551616) (w : World) :
    Calls Try.prog 81 #[.int .u64 x, .int .u64 y] w fun e w' => e = .returned (.tuple #[.int .u64 ((x * y / 18446744073709551616 : Nat) : Int), .int .u64 ((x * y % 18446744073709551616 : Nat) : Int)]) ∧ w' = w :=
  Go.Proofs.Any.bits_Mul64 laysM x y hx hy w
/-- The two halves of a number. -/
def hi (n : Nat) : Int := ((n / 18446744073709551616 : Nat) : Int)
def lo (n : Nat) : Int := ((n % 18446744073709551616 : Nat) : Int)
theorem s1_any (r : Nat) (w : World) (hr : r < 274877906944) : Calls Try.prog 80 #[.int .u64 r] w fun e w' => e = .returned (.tuple #[.int .u64 (hi (r * r)), .int .u64 (lo (r * r))]) ∧ w = w' := by
  have HM := Lib.hid (mul64_any r r (by omega) (by omega) w)
  go_enter Try.func80, Try.ntmps80
  go_wp2_with (go_at_call 81; refine (HM.out).mono ?_; rintro e w' ⟨rfl, rfl⟩)
  go_ret2
  exact ⟨rfl, rfl⟩
theorem cube_parts (r : Nat) (hr : r < 137438953472) : r * r / 18446744073709551616 * r + r * r % 18446744073709551616 * r / 18446744073709551616 = r * (r * r) / 18446744073709551616 ∧ r * r % 18446744073709551616 * r % 18446744073709551616 = r * (r * r) % 18446744073709551616 ∧ r * r / 18446744073709551616 ≤ 1023 := by
  obtain ⟨h, hh⟩ : ∃ h, h = r * r / 18446744073709551616 := ⟨_, rfl⟩
  obtain ⟨l, hl⟩ : ∃ l, l = r * r % 18446744073709551616 := ⟨_, rfl⟩
  have e : r * r = 18446744073709551616 * h + l := by rw [hh, hl]; exact (Nat.div_add_mod _ _).symm
  have e2 : r * (r * r) = 18446744073709551616 * (h * r) + l * r := by rw [e, Nat.mul_comm r, Nat.add_mul, Nat.mul_assoc]
  have b : r * r < 137438953472 * 137438953472 := Nat.mul_lt_mul'' hr hr
  rw [← hh, ← hl, e2]
  refine ⟨?_, ?_, ?_⟩
  · rw [Nat.mul_add_div (by decide)]
  · rw [Nat.mul_add_mod]
  · rw [hh]; omega
set_option maxHeartbeats 1000000 in
theorem t1_any (r : Nat) (w : World) (hr : r < 137438953472) : Calls Try.prog 82 #[.int .u64 r] w fun e w' => e = .returned (.tuple #[.int .u64 (hi (r * (r * r))), .int .u64 (lo (r * (r * r)))]) ∧ w = w' := by
  obtain ⟨c1, c2, c3⟩ := cube_parts r hr
  have HM := Lib.hid (mul64_any r r (by omega) (by omega) w)
  obtain ⟨h, hh⟩ : ∃ h, h = r * r / 18446744073709551616 := ⟨_, rfl⟩
  obtain ⟨l, hl⟩ : ∃ l, l = r * r % 18446744073709551616 := ⟨_, rfl⟩
  have l1 : l < 18446744073709551616 := by rw [hl]; exact Nat.mod_lt _ (by decide)
  rw [← hh, ← hl] at HM c1
  rw [← hl] at c2
  rw [← hh] at c3
  have HM2 := Lib.hid (mul64_any l r l1 (by omega) w)
  obtain ⟨c, hc⟩ : ∃ c, c = l * r / 18446744073709551616 := ⟨_, rfl⟩
  obtain ⟨d, hd⟩ : ∃ d, d = l * r % 18446744073709551616 := ⟨_, rfl⟩
  rw [← hc, ← hd] at HM2
  rw [← hc] at c1
  rw [← hd] at c2
  have b1 : h * r ≤ 1023 * r := Nat.mul_le_mul_right _ c3
  have b2 : c ≤ r := by
    have h3 : l * r ≤ 18446744073709551616 * r := Nat.mul_le_mul_right _ (Nat.le_of_lt l1)
    rw [hc]
    exact Nat.le_trans (Nat.div_le_div_right h3) (by rw [Nat.mul_div_cancel_left _ (by decide)]; exact Nat.le_refl _)
  obtain ⟨q, hq⟩ : ∃ q, q = h * r := ⟨_, rfl⟩
  have hqi : (h : Int) * (r : Int) = (q : Int) := by rw [hq]; exact (Int.natCast_mul h r).symm
  rw [← hq] at b1 c1
  have E1 := Lib.hid (show (q : Int) + (c : Int) = hi (r * (r * r)) by unfold hi; rw [← c1]; exact (Int.natCast_add q c).symm)
  have E2 := Lib.hid (show (d : Int) = lo (r * (r * r)) by unfold lo; rw [← c2])
  clear c1 c2 hh hl hc hd hq c3
  go_enter Try.func82, Try.ntmps82
  go_wp2_with (first
    | (have _q := T9; go_at_call 81; refine (HM2.out).mono ?_; rintro e w' ⟨rfl, rfl⟩)
    | (go_at_call 81; refine (HM.out).mono ?_; rintro e w' ⟨rfl, rfl⟩; have T9 := Lib.hid True.intro))
  go_ret2
  rw [← E1.out, ← E2.out]
  exact ⟨rfl, rfl⟩
end Go.Proofs.Ytgcjbbliaelkcaa
