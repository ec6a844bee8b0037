/- The reader's Left. Conditions stand in the statements. -/
import Derived.Test.YtcbllkkbpjobpaaWireErr
namespace Go.Proofs.Ytcbllkkbpjobpaa
open Go.RowKit

set_option maxHeartbeats 400000 in
theorem rleft_any {p : Nat} {A : Option Addr} {c : Nat} {d : List UInt8} {e : Int} {w : World} (h : RdrV w p A c d e) :
    Calls Try.prog 30 #[.pointer (some ⟨p, 0, none⟩)] w fun x w' => x = .returned (.int .i64 (d.length : Nat)) ∧ w' = w := by
  have c0 : w.cell? ⟨p, 0, none⟩ = some (.slice A d.length c) := h.blk.cell 0 rfl
  clear h
  go_enter Try.func30, Try.ntmps30
  go_wp2_with fail
  go_ret
  exact ⟨rfl, rfl⟩
end Go.Proofs.Ytcbllkkbpjobpaa
