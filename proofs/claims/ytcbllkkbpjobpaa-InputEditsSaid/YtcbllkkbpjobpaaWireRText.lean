/- The reader's Text. Conditions stand in the statements. -/
import Derived.Test.YtcbllkkbpjobpaaWireRNum
import Derived.Test.YtcbllkkbpjobpaaWireTx
namespace Go.Proofs.Ytcbllkkbpjobpaa
open Go.RowKit

/-- What the step of Text finds: how many bytes, the error, the head. -/
def tStep (d : List UInt8) (most : Int) : Nat × Int × Nat :=
  if (rd d).2 = 0 then (0, 4, 0) else if max most 0 < ((rd d).1 : Int) then (0, 3, 0) else if d.length - (rd d).2 < (rd d).1 then (0, 4, 0) else ((rd d).2 + (rd d).1, 0, (rd d).2)

set_option maxHeartbeats 400000 in
theorem text1_any {p b0 b1 b2 : Nat} {A : Option Addr} {c : Nat} {d : List UInt8} {e : Int} {most : Int} {w : World} (h : RdrV w p A c d e) (hn : d.length ≤ 100000000) (hm : -9223372036854775808 ≤ most ∧ most ≤ 9223372036854775807)
    (h0 : Blk w b0 #[.pointer (some ⟨p, 0, none⟩)] 52) (h1 : Blk w b1 #[.int .i64 most] 3) (h2 : Blk w b2 #[.int .i64 0] 3) :
    Calls Try.prog 50 #[.pointer (some ⟨b0, 0, none⟩), .pointer (some ⟨b1, 0, none⟩), .pointer (some ⟨b2, 0, none⟩)] w fun x w' =>
      x = .returned (.tuple #[.int .i64 ((tStep d most).1 : Nat), .int .i64 (tStep d most).2.1]) ∧ Fr1 b2 w w' ∧ Blk w' b2 #[.int .i64 ((tStep d most).2.2 : Nat)] 3 := by
  have c0 : w.cell? ⟨p, 0, none⟩ = some (.slice A d.length c) := h.blk.cell 0 rfl
  have d0 : w.cell? ⟨b0, 0, none⟩ = some (.pointer (some ⟨p, 0, none⟩)) := h0.cell 0 rfl
  have d1 : w.cell? ⟨b1, 0, none⟩ = some (.int .i64 most) := h1.cell 0 rfl
  have d2 : w.cell? ⟨b2, 0, none⟩ = some (.int .i64 0) := h2.cell 0 rfl
  have f2 : w.frozen? ⟨b2, 0, none⟩ = false := h2.free 0
  have hN := Lib.hid (number_any h.rd hn)
  have H2 := Lib.hid h2
  have hle := (rdNum_lt d 0 0)
  rw [show rdNum d 0 0 = rd d from rfl] at hle
  obtain ⟨N, hNN⟩ : ∃ N, N = rd d := ⟨_, rfl⟩
  have hS : tStep d most = if N.2 = 0 then (0, 4, 0) else if max most 0 < (N.1 : Int) then (0, 3, 0) else if d.length - N.2 < N.1 then (0, 4, 0) else (N.2 + N.1, 0, N.2) := by rw [hNN]; rfl
  rw [← hNN] at hN hle
  have HS := Lib.hid hS
  obtain ⟨n, k⟩ := N
  obtain ⟨hk, hn2⟩ := hle
  simp only [Nat.add_zero] at hk hn2
  have w1 : IntKind.u64.wrap (max most 0) = max most 0 := by show (max most 0) % 18446744073709551616 = _; omega
  clear h h0 h1 h2 hNN hS
  by_cases k0 : k = 0
  · have b0 : ((k : Int) == 0) = true := by simp; omega
    have hS := HS.out
    rw [if_pos k0] at hS
    have HS1 := Lib.hid hS
    clear hS k0 HS
    go_enter Try.func50, Try.ntmps50
    go_wp2_with (go_at_call 47; refine (hN.out).mono ?_; rintro e w1 ⟨rfl, rfl⟩)
    go_ret2
    rw [HS1.out]
    exact ⟨rfl, Fr1.refl _ _, H2.out⟩
  · have b0 : ((k : Int) == 0) = false := by simp; omega
    by_cases k1 : max most 0 < (n : Int)
    · have hS := HS.out
      rw [if_neg k0, if_pos k1] at hS
      have HS1 := Lib.hid hS
      clear hS k0 HS
      go_enter Try.func50, Try.ntmps50
      go_wp2_with (go_at_call 47; refine (hN.out).mono ?_; rintro e w1 ⟨rfl, rfl⟩)
      all_goals (go_ret2; rw [HS1.out]; exact ⟨rfl, Fr1.refl _ _, H2.out⟩)
    · have w2 : IntKind.u64.wrap ((d.length : Int) - (k : Int)) = (d.length : Int) - (k : Int) := by show ((d.length : Int) - (k : Int)) % 18446744073709551616 = _; omega
      have w3 : IntKind.i64.wrap ((d.length : Int) - (k : Int)) = (d.length : Int) - (k : Int) := IntWalk.i64_in _ (by omega)
      by_cases k2 : d.length - k < n
      · have k3 : (d.length : Int) - (k : Int) < (n : Int) := by omega
        have hS := HS.out
        rw [if_neg k0, if_neg k1, if_pos k2] at hS
        have HS1 := Lib.hid hS
        clear hS k0 HS
        go_enter Try.func50, Try.ntmps50
        go_wp2_with (go_at_call 47; refine (hN.out).mono ?_; rintro e w1 ⟨rfl, rfl⟩)
        all_goals (go_ret2; rw [HS1.out]; exact ⟨rfl, Fr1.refl _ _, H2.out⟩)
      · have k3 : ¬ (d.length : Int) - (k : Int) < (n : Int) := by omega
        have w4 : IntKind.i64.wrap (n : Int) = n := IntWalk.i64_in _ (by omega)
        have w5 : IntKind.i64.wrap ((k : Int) + (n : Int)) = (k : Int) + n := IntWalk.i64_in _ (by omega)
        have hS := HS.out
        rw [if_neg k0, if_neg k1, if_neg k2] at hS
        have HS1 := Lib.hid hS
        clear hS k0 HS
        go_enter Try.func50, Try.ntmps50
        go_wp2_with (go_at_call 47; refine (hN.out).mono ?_; rintro e w1 ⟨rfl, rfl⟩)
        all_goals (go_ret2; rw [HS1.out]; exact ⟨by simp, (Fr1.refl _ _).set 0 _, H2.out.set 0 _⟩)
end Go.Proofs.Ytcbllkkbpjobpaa
