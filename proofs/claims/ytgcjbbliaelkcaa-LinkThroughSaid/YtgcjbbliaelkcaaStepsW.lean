/- A whole block loaded where a guard, if any, holds. Conditions stand in the statements. -/
import Derived.Test.YtgcjbbliaelkcaaStepsG
namespace Go.Proofs.Ytgcjbbliaelkcaa
open Go.RowKit
variable {P : Program} {ops : Array Oper} {a : Act} {o : Oper}
theorem yieldsW_load_blk {S : World → Prop} (hw : Region.wanted o (yielded ops a.tmps) = true) (ty : TypeId) (x : Operand) (ho : o.op = .load ty x) (g : Nat) (hx : a.eval x = .pointer (some ⟨g, 0, none⟩)) (t : TypeId) (cs : Array Value) (hS : ∀ w, S w → Blk w g cs t) (d : TypeDesc)
    (hu : P.underlying ty = some d) (hd : d.isRow = true) (hi : (P.info? ty).map (·.size) = some cs.size) : YieldsIf P ops S o (.agg cs) a := by
  have h := yieldsIf_load_mid (P := P) (ops := ops) (S := S) (a := a) (op := o) hw ty x ho g 0 hx cs.toList d (fun w hw j v hv => (hS w hw).cell _ (by simpa using hv)) hu hd (by simpa using hi)
  simpa using h
theorem wp_val {w : World} {K : Act → World → Prop} {Q : Exit → Act → World → Prop} (v : Value) (hrun : (execOp a.eval o).run P w = .ok (.value v) w) (h : K (a.put o.dst v) w) : Oper.wp P o a w K Q := by
  unfold Oper.wp
  rw [hrun]
  exact h
end Go.Proofs.Ytgcjbbliaelkcaa
