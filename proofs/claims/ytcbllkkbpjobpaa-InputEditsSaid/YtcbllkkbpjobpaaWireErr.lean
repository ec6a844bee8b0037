/- The reader's Err. Conditions stand in the statements. -/
import Derived.Test.YtcbllkkbpjobpaaWireRNum
namespace Go.Proofs.Ytcbllkkbpjobpaa
open Go.RowKit

set_option maxHeartbeats 400000 in
theorem rerr_any {p : Nat} {A : Option Addr} {c : Nat} {d : List UInt8} {e : Int} {w : World} (h : RdrV w p A c d e) :
    Calls Try.prog 31 #[.pointer (some ⟨p, 0, none⟩)] w fun x w' => x = .returned (.int .i64 e) ∧ w' = w := by
  have c0 : w.cell? ⟨p, 1, none⟩ = some (.int .i64 e) := h.blk.cell 1 rfl
  clear h
  go_enter Try.func31, Try.ntmps31
  go_wp2_with fail
  go_ret
  exact ⟨rfl, rfl⟩
end Go.Proofs.Ytcbllkkbpjobpaa
