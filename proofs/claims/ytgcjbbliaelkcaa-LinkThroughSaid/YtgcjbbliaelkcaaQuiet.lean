/- A region that draws its order, whose operations only read and whose calls hand back one value each in every world of a class (and leave a world of it): one walk in the order of the text. Conditions stand in the statements. -/
import Derived.Test.YtgcjbbliaelkcaaBase
import Derived.Deep.Quiet
import Derived.Deep.MidRow
import Derived.KernelRfl
namespace Go.Proofs.Ytgcjbbliaelkcaa
open Go.RowKit
variable {P : Program} {ops : Array Oper} {C : World → Prop} {Q : Act → Prop} {a : Act} {o : Oper} {rest : List Oper}
theorem q_nil (h : Q a) : wpQuiet P ops C Q [] a := h
theorem q_skip (hw : Region.wanted o (yielded ops a.tmps) = false) (h : wpQuiet P ops C Q rest (a.put o.dst undef)) : wpQuiet P ops C Q (o :: rest) a :=
  wpQuiet_step fun K hK => by rw [if_neg (by rw [hw]; exact Bool.false_ne_true)]; exact hK _ h
theorem q_val {v : Value} (hw : Region.wanted o (yielded ops a.tmps) = true) (hr : ∀ w, C w → (execOp a.eval o).run P w = .ok (.value v) w) (h : wpQuiet P ops C Q rest (a.put o.dst v)) : wpQuiet P ops C Q (o :: rest) a :=
  wpQuiet_step fun K hK => by
    rw [if_pos hw]
    exact ⟨v, fun w hw => by unfold Oper.quietAt; rw [hr w hw]; exact ⟨rfl, rfl⟩, hK _ h⟩
theorem q_move (hw : Region.wanted o (yielded ops a.tmps) = true) (x : Operand) (ho : o.op = .move x) (h : wpQuiet P ops C Q rest (a.put o.dst (a.eval x))) : wpQuiet P ops C Q (o :: rest) a :=
  q_val hw (fun w _ => by unfold execOp; simp only [ho, Sem.run_pure]) h
theorem q_assign (hw : Region.wanted o (yielded ops a.tmps) = true) (x : Operand) (ho : o.op = .assign x) (h : wpQuiet P ops C Q rest (a.put o.dst (a.eval x))) : wpQuiet P ops C Q (o :: rest) a :=
  q_val hw (fun w _ => by unfold execOp; simp only [ho, Sem.run_pure]) h
theorem q_call {v : Value} (hw : Region.wanted o (yielded ops a.tmps) = true) (f : FuncId) (args : Array Value) (ho : ∀ w, (execOp a.eval o).run P w = .ok (.enter f args) w)
    (hc : ∀ w, C w → Calls P f args w fun e w' => e = .returned v ∧ C w') (h : wpQuiet P ops C Q rest (a.put o.dst v)) : wpQuiet P ops C Q (o :: rest) a :=
  wpQuiet_step fun K hK => by
    rw [if_pos hw]
    exact ⟨v, fun w hw => by unfold Oper.quietAt; rw [ho w]; exact ⟨rfl, hc w hw⟩, hK _ h⟩
/-- A whole block, loaded. -/
theorem q_load (hw : Region.wanted o (yielded ops a.tmps) = true) (ty : TypeId) (x : Operand) (ho : o.op = .load ty x) (g : Nat) (hx : a.eval x = .pointer (some ⟨g, 0, none⟩)) (t : TypeId) (cs : Array Value) (hS : ∀ w, C w → Blk w g cs t) (d : TypeDesc)
    (hu : P.underlying ty = some d) (hd : d.isRow = true) (hi : (P.info? ty).map (·.size) = some cs.size) (h : wpQuiet P ops C Q rest (a.put o.dst (.agg cs))) : wpQuiet P ops C Q (o :: rest) a :=
  q_val hw (fun w hC => by
    have hl := run_loadAt_mid (P := P) w g 0 ty cs.toList d (fun j v hv => by rw [Nat.zero_add]; exact (hS w hC).cell j (by simpa using hv)) hu hd (by simpa using hi)
    unfold execOp
    simp only [ho, hx, Sem.run_bind, hl, Result.andThen_ok]
    rfl) h
theorem q_bin (hw : Region.wanted o (yielded ops a.tmps) = true) (op : BinOp) (ty : TypeId) (x y : Operand) (t2 : TypeId) (ho : o.op = .binOp op ty x y t2) {v : Value}
    (hg : ∀ w, (eqGuard op ty x y (a.eval x) (a.eval y)).run P w = .ok () w) (hb : ∀ w, (binOp op ty (a.eval x) (a.eval y)).run P w = .ok v w) (h : wpQuiet P ops C Q rest (a.put o.dst v)) : wpQuiet P ops C Q (o :: rest) a :=
  q_val hw (fun w _ => by unfold execOp; simp only [ho, Sem.run_bind, hg, hb, Result.andThen_ok]; rfl) h
/-- The beginning. -/
theorem wp_region_class {id : Nat} {Q : Exit → Act → World → Prop} {a : Act} {w : World} {l : List Oper} (C : World → Prop) (hm : P.follows .mixedOrders = true) (hB : Region.lexB .any l.toArray = true) (hC : C w.drew)
    (h : wpQuiet P l.toArray C (fun a' => ∀ w', C w' → Q .normal a' w') l a) : (Code.region id l.toArray true).wp P Q a w :=
  wp_region_quiet (C := C) hm hB hC (by simpa using h)
end Go.Proofs.Ytgcjbbliaelkcaa
