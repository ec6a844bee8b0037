/- Contracts of package wire: Open. Conditions stand in the statements. -/
import Derived.Test.YtpmindbipclphaaWireC
import Derived.Test.YtpmindbipclphaaApp
namespace Go.Proofs.Ytpmindbipclphaa
open Go.RowKit

set_option maxHeartbeats 400000 in
theorem open_any {v : Value} {d : List UInt8} {w : World} (h : RdB w v d) (hn : d.length ≤ 100000000) :
    Calls Try.prog 28 #[v] w fun e w' => ∃ p v', e = .returned (.pointer (some ⟨p, 0, none⟩)) ∧ Blk w' p #[v', .int .i64 0] 79 ∧ w'.ownsRow w.heap.size 5 1 v' d.length (byts d) ∧ Fr0 w w' ∧ w.heap.size ≤ p := by
  have hC := Lib.hid (bytesClone_any h hn)
  clear h
  go_enter Try.func28, Try.ntmps28
  go_wp2_with (go_at_call 42; refine (hC.out).mono ?_; rintro e w1 ⟨v1, rfl, hown, hf⟩; obtain ⟨A1, c1, rfl, -, -, -⟩ := own_form hown)
  go_ret
  exact ⟨_, _, rfl, Blk.new _ _ _, hown.alloc _, hf.alloc _, hf.size⟩

end Go.Proofs.Ytpmindbipclphaa
