/- Len. Conditions stand in the statements. -/
import Derived.Test.YtinajkhnfebgcaaShaCopy
set_option linter.unusedSimpArgs false
namespace Go.Proofs.Ytinajkhnfebgcaa
open Go.RowKit
theorem hlen_any {base p : Nat} {w : World} {v : Value} {all : List UInt8} (h : HashV base w p v all) :
    Calls Try.prog 23 #[.pointer (some ⟨p, 0, none⟩)] w fun e w' => e = .returned (.int .i64 all.length) ∧ w = w' := by
  have d73 := h.blk.cell 73 (hash_73 _ _ _)
  clear h
  go_enter Try.func23, Try.ntmps23
  go_wp2_with fail
  go_ret
  exact ⟨rfl, rfl⟩
theorem hlen_nil (w : World) : Calls Try.prog 23 #[.pointer none] w fun e w' => e = .returned (.int .i64 0) ∧ w = w' := by
  go_enter Try.func23, Try.ntmps23
  go_wp2_with fail
  go_ret
  exact ⟨rfl, rfl⟩
end Go.Proofs.Ytinajkhnfebgcaa
