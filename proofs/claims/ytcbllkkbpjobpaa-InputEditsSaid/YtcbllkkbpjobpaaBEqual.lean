/- bytes.Equal, bytes.Clone. Conditions stand in the statements. -/
import Derived.Test.YtcbllkkbpjobpaaSlPut
import Derived.Test.YtcbllkkbpjobpaaOwn
import Derived.Test.YtcbllkkbpjobpaaStepSl
import Derived.WalkKit
import Derived.WalkSpells
import Derived.BigQuiet
import Derived.Deep.QuietTactic
import Derived.Lib.Hide
import Derived.Handy
namespace Go.Proofs.Ytcbllkkbpjobpaa
open Go.RowKit
set_option maxHeartbeats 400000 in
theorem beq_any {v1 v2 : Value} {d1 d2 : List UInt8} {w : World} (h1 : RdB w v1 d1) (h2 : RdB w v2 d2) :
    Calls Try.prog 41 #[v1, v2] w fun e w' => e = .returned (.bool (d1 == d2)) ∧ w' = w := by
  obtain ⟨A1, e1, rfl, -, -, -⟩ := h1.form
  obtain ⟨A2, e2, rfl, -, -, -⟩ := h2.form
  have c1 := conv_own h1
  have c2 := conv_own h2
  have t1 := strI d1
  have t2 := strI d2
  clear h1 h2
  go_enter Try.func41, Try.ntmps41
  go_wp2_with fail
  go_ret
  exact ⟨rfl, rfl⟩
end Go.Proofs.Ytcbllkkbpjobpaa
