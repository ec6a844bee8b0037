/- The reader's Fixed. Conditions stand in the statements. -/
import Derived.Test.YthgmimeheeajgaaWireRText2
namespace Go.Proofs.Ythgmimeheeajgaa
open Go.RowKit

/-- What the step of Fixed finds. -/
def fStep (d : List UInt8) (size : Int) : Nat × Int :=
  if size < 1 ∨ 8 < size ∨ (d.length : Int) < size then (0, 4) else (size.toNat, 0)

set_option maxHeartbeats 400000 in
theorem fixed1_any {p b0 b1 : Nat} {A : Option Addr} {c : Nat} {d : List UInt8} {e : Int} {size : Int} {w : World} (h : RdrV w p A c d e) (_hn : d.length ≤ 100000000) (hm : -9223372036854775808 ≤ size ∧ size ≤ 9223372036854775807)
    (h0 : Blk w b0 #[.int .i64 size] 3) (h1 : Blk w b1 #[.pointer (some ⟨p, 0, none⟩)] 27) :
    Calls Try.prog 36 #[.pointer (some ⟨b0, 0, none⟩), .pointer (some ⟨b1, 0, none⟩)] w fun x w' =>
      x = .returned (.tuple #[.int .i64 ((fStep d size).1 : Nat), .int .i64 (fStep d size).2]) ∧ Fr0 w w' := by
  have c0 : w.cell? ⟨p, 0, none⟩ = some (.slice A d.length c) := h.blk.cell 0 rfl
  have d0 : w.cell? ⟨b0, 0, none⟩ = some (.int .i64 size) := h0.cell 0 rfl
  have d1 : w.cell? ⟨b1, 0, none⟩ = some (.pointer (some ⟨p, 0, none⟩)) := h1.cell 0 rfl
  clear h h0 h1
  by_cases k0 : size < 1
  · have hS := Lib.hid (show fStep d size = (0, 4) by unfold fStep; rw [if_pos (.inl k0)])
    have q0 : decide (size < 1) = true := by simpa using k0
    clear k0
    go_enter Try.func36, Try.ntmps36
    go_wp2_with fail
    go_quiet (fail)
    go_wp2_with fail
    go_ret2
    rw [hS.out]
    exact ⟨rfl, (Fr0.refl w).drewN _⟩
  · have q0 : decide (size < 1) = false := by simpa using k0
    by_cases k1 : 8 < size
    · have hS := Lib.hid (show fStep d size = (0, 4) by unfold fStep; rw [if_pos (.inr (.inl k1))])
      have q1 : decide (8 < size) = true := by simpa using k1
      clear k0 k1
      go_enter Try.func36, Try.ntmps36
      go_wp2_with fail
      go_quiet (fail)
      go_wp2_with fail
      go_ret2
      rw [hS.out]
      exact ⟨rfl, (Fr0.refl w).drewN _⟩
    · have q1 : decide (8 < size) = false := by simpa using k1
      by_cases k2 : (d.length : Int) < size
      · have hS := Lib.hid (show fStep d size = (0, 4) by unfold fStep; rw [if_pos (.inr (.inr k2))])
        have q2 : decide ((d.length : Int) < size) = true := by simpa using k2
        clear k0 k1 k2
        go_enter Try.func36, Try.ntmps36
        go_wp2_with fail
        go_quiet (fail)
        go_wp2_with fail
        go_ret2
        rw [hS.out]
        exact ⟨rfl, (Fr0.refl w).drewN _⟩
      · have hS := Lib.hid (show fStep d size = (size.toNat, 0) by unfold fStep; rw [if_neg (by omega)])
        have q2 : decide ((d.length : Int) < size) = false := by simpa using k2
        have hs := Lib.hid (show 0 ≤ size by omega)
        clear k0 k1 k2
        go_enter Try.func36, Try.ntmps36
        go_wp2_with fail
        go_quiet (fail)
        go_wp2_with fail
        go_ret2
        rw [hS.out]
        have := hs.out
        exact ⟨by simp; omega, (Fr0.refl w).drewN _⟩
end Go.Proofs.Ythgmimeheeajgaa
