/- Digests compared, and their cells. Conditions stand in the statements. -/
import Derived.Test.YtgcjbbliaelkcaaArr
import Derived.Test.YtgcjbbliaelkcaaQuiet
import Derived.Test.YtgcjbbliaelkcaaShaSum2
import Derived.Test.YtgcjbbliaelkcaaArrRd
namespace Go.Proofs.Ytgcjbbliaelkcaa
open Go.RowKit
theorem dig_eql {d e : List UInt8} (hd : d.length = 32) (he : e.length = 32) (w : World) : (binOp .eql 23 (.agg (byts d).toArray) (.agg (byts e).toArray)).run Try.prog w = .ok (.bool (decide (d = e))) w := by
  obtain ⟨i, hi⟩ := info_of_underlying Try.underlying5
  rw [iArr_byts, iArr_byts, run_eql_ints (n := 32) Try.underlying23 hi Try.underlying5 (by kernel_rfl) (by simpa using hd) (by simpa using he)]
  have : (d.map (fun b => (b.toNat : Int)) = e.map fun b => (b.toNat : Int)) ↔ d = e := ⟨byts_inj, fun h => by rw [h]⟩
  rw [decide_eq_decide.2 this]
theorem dig_neq {d e : List UInt8} (hd : d.length = 32) (he : e.length = 32) (w : World) : (binOp .neq 23 (.agg (byts d).toArray) (.agg (byts e).toArray)).run Try.prog w = .ok (.bool (!decide (d = e))) w := by
  obtain ⟨i, hi⟩ := info_of_underlying Try.underlying5
  rw [iArr_byts, iArr_byts, run_neq_ints (n := 32) Try.underlying23 hi Try.underlying5 (by kernel_rfl) (by simpa using hd) (by simpa using he)]
  have : (d.map (fun b => (b.toNat : Int)) = e.map fun b => (b.toNat : Int)) ↔ d = e := ⟨byts_inj, fun h => by rw [h]⟩
  rw [decide_eq_decide.2 this]
theorem dig_guard (op : BinOp) (x y : Operand) (xs ys : Array Value) (w : World) : (eqGuard op 23 x y (.agg xs) (.agg ys)).run Try.prog w = .ok () w := run_eqGuard_agg w _ _ _ _ _ _ (by kernel_rfl)
theorem sha_len (b : List UInt8) : (shaN b).length = 32 := outB_len _
theorem dig_info {d : List UInt8} (h : d.length = 32) : (Try.prog.info? 23).map (·.size) = some (byts d).toArray.size := by rw [byts_size, h]; kernel_rfl
def z32A : Array Value := (byts (List.replicate 32 0)).toArray
theorem z32_run (W : World) : (Instr.alloc 23 true (.tuple #[])).run Try.prog W = .ok (.pointer (some ⟨W.heap.size, 0, none⟩)) (W.alloc (.cells z32A 23)) := by kernel_rfl
theorem z32_size {d : List UInt8} (h : d.length = 32) : z32A.size = (byts d).toArray.size := by rw [byts_size, h]; rfl
end Go.Proofs.Ytgcjbbliaelkcaa
