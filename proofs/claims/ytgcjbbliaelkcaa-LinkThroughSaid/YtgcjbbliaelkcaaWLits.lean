/- Arguments that are numbers: their bounds. Conditions stand in the statements. -/
import Derived.Test.YtgcjbbliaelkcaaArgs
import Derived.Test.YtgcjbbliaelkcaaRows
namespace Go.Proofs.Ytgcjbbliaelkcaa
open Go.RowKit
theorem lit_u64 {n : Int} (h : (Lit.int .u64 n).wf = true) : ∃ m : Nat, n = m ∧ m < 18446744073709551616 := by
  have : IntKind.u64.min ≤ n ∧ n ≤ IntKind.u64.max := by simpa [Lit.wf] using h
  rw [show IntKind.u64.min = 0 from by decide, show IntKind.u64.max = 18446744073709551615 from by decide] at this
  exact ⟨n.toNat, by omega, by omega⟩
theorem lit_i64 {n : Int} (h : (Lit.int .i64 n).wf = true) : -9223372036854775808 ≤ n ∧ n ≤ 9223372036854775807 := by
  have : IntKind.i64.min ≤ n ∧ n ≤ IntKind.i64.max := by simpa [Lit.wf] using h
  rw [show IntKind.i64.min = -9223372036854775808 from by decide, show IntKind.i64.max = 9223372036854775807 from by decide] at this
  exact this
end Go.Proofs.Ytgcjbbliaelkcaa
