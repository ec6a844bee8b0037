/- append onto a slice of the call's own, as one step. Conditions stand in the statements. -/
import Derived.Test.YtgcjbbliaelkcaaSteps2
namespace Go.Proofs.Ytgcjbbliaelkcaa
open Go.RowKit
theorem wp_append_sl {o : Oper} {w : World} {K : Act → World → Prop} {a : Act} {Q : Exit → Act → World → Prop} {base : Nat} {v v2 : Value} {d e : List UInt8} (s x : Operand) (ho : o.op = .call { callee := .builtin .append, args := #[s, x], argTypes := #[32, 32] })
    (h : SlO base w v d) (hs : a.eval s = v) (hb : base ≤ w.heap.size) (hr : RdB w v2 e) (hx : a.eval x = v2) (hl : d.length + e.length ≤ 1000000)
    (hK : ∀ A c w', SlO base w' (.slice A (d ++ e).length c) (d ++ e) → Fr (inBlk v) w w' → (∀ k, inBlk (.slice A (d ++ e).length c) k → inBlk v k ∨ w.heap.size ≤ k) → K (a.put o.dst (.slice A (d.length + e.length) c)) w') :
    Oper.wp Try.prog o a w K Q := by
  obtain ⟨A, c, w', hrun, h1, h2, h3⟩ := run_append_sl h hb hr hl o.type
  unfold Oper.wp execOp
  simp only [ho, resolve, invoke, builtin, Sem.run_bind, Sem.run_pure, Result.andThen_ok, List.map_toArray, List.map_cons, List.map_nil, hs, hx, hrun]
  exact hK A c w' h1 h2 h3
end Go.Proofs.Ytgcjbbliaelkcaa
