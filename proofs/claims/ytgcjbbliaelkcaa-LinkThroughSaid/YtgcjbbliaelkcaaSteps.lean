/- Steps of a region that draws, the world behind each under a name: an alloc, a store or a load of a whole block. Conditions stand in the statements. -/
import Derived.Test.YtgcjbbliaelkcaaBase
import Derived.Deep.MidRow
import Derived.Deep.RegionHeldLaw
namespace Go.Proofs.Ytgcjbbliaelkcaa
open Go.RowKit
variable {P : Program} {ops : Array Oper} {o : Oper} {a : Act} {w : World} {K : Act → World → Prop} {Q : Exit → Act → World → Prop} {E : Prop}

theorem stp {c X : Prop} {_i : Decidable c} (hc : c) (h : X) : if c then X else E := by
  rw [if_pos hc]
  exact h
/-- An operation without a guard comes up, written out. -/
theorem consH {md : Region.Mode} {S : World → Prop} {fuel : Nat} {listed : Array Bool} {i : Nat} {rs : List Nat} (ho : (ops.toList.drop i).head? = some o) (hg : o.guard = none)
    (h : ∀ K' : Act → World → Prop, Shut (∀ a w, S w → wpAnyH P md ops Q S fuel (listed.setIfInBounds i true) a w → K' a w) → Oper.wp P o a w K' Q)
    (hs : AllReadyH P md ops Q S fuel listed a w rs) : AllReadyH P md ops Q S fuel listed a w (i :: rs) := by
  have ho' : ops[i]? = some o := by rw [← ho, List.head?_drop, Array.getElem?_toList]
  exact AllReadyH.cons ho' (fun K hK => stp (by simp [Region.wanted, hg]) (h K (fun a w hS hW => hK a w hS (fun _ => hW)))) hs
theorem Blk.setRow {w : World} {g : Nat} {old : Array Value} {t : TypeId} (h : Blk w g old t) (cs : Array Value) : Blk (w.setRow g cs) g cs t := setRow_heap w g old cs t (0, 0) h
theorem Fr.setRow {S : Nat → Prop} {w w1 : World} (h : Fr S w w1) {g : Nat} (hg : S g ∨ w.heap.size ≤ g) (cs : Array Value) : Fr S w (w1.setRow g cs) := by
  refine ⟨h.os, h.tape, h.output, ?_, ?_⟩
  · have := h.size
    simpa [World.setRow] using this
  · intro k hk hn
    have hne : ¬ g = k := by
      rintro rfl
      rcases hg with hg | hg
      · exact hn hg
      · omega
    have := h.block k hk hn
    simp only [World.setRow, Array.getElem?_modify, if_neg hne]
    exact this
theorem wp_alloc_blk (t : TypeId) (ho : o.op = .alloc t) (zs : Array Value) (hrun : ∀ W : World, (Instr.alloc t true (.tuple #[])).run P W = .ok (.pointer (some ⟨W.heap.size, 0, none⟩)) (W.alloc (.cells zs t)))
    (h : ∀ g W1, Blk W1 g zs t → Fr0 w W1 → w.heap.size ≤ g → K (a.put o.dst (.pointer (some ⟨g, 0, none⟩))) W1) : Oper.wp P o a w K Q := by
  unfold Oper.wp execOp
  simp only [ho, Sem.run_bind, Sem.run_pure, Result.andThen_ok, hrun]
  exact h _ _ (Blk.new w zs t) ((Fr0.refl w).alloc _) (Nat.le_refl _)
theorem wp_store_blk (ty : TypeId) (x y : Operand) (ho : o.op = .store ty x y) (g : Nat) (cells : Array Value) (hx : a.eval x = .pointer (some ⟨g, 0, none⟩)) (hy : a.eval y = .agg cells)
    (t : TypeId) (old : Array Value) (hg : Blk w g old t) (hi : (P.info? ty).map (·.size) = some cells.size) (hold : old.size = cells.size) (h1 : cells.all (·.oneCell') = true)
    (h : ∀ W1, Blk W1 g cells t → Fr1 g w W1 → K (a.put o.dst undef) W1) : Oper.wp P o a w K Q :=
  wp_store_row ty x y ho g cells hx hy t old hg hi hold h1 (h _ (hg.setRow cells) (Fr.setRow (Fr1.refl g w) (.inl rfl) cells))
theorem wp_load_blk (ty : TypeId) (x : Operand) (ho : o.op = .load ty x) (g : Nat) (hx : a.eval x = .pointer (some ⟨g, 0, none⟩)) (t : TypeId) (cs : Array Value) (hg : Blk w g cs t) (d : TypeDesc)
    (hu : P.underlying ty = some d) (hd : d.isRow = true) (hi : (P.info? ty).map (·.size) = some cs.size) (h : K (a.put o.dst (.agg cs)) w) : Oper.wp P o a w K Q := by
  refine wp_load_mid ty x ho g 0 hx cs.toList d (fun j v hv => hg.cell _ (by simpa using hv)) hu hd (by simpa using hi) (by simpa using h)
theorem yields_load_blk {S : World → Prop} (hgd : o.guard = none) (ty : TypeId) (x : Operand) (ho : o.op = .load ty x) (g : Nat) (hx : a.eval x = .pointer (some ⟨g, 0, none⟩)) (t : TypeId) (cs : Array Value) (hS : ∀ w, S w → Blk w g cs t) (d : TypeDesc)
    (hu : P.underlying ty = some d) (hd : d.isRow = true) (hi : (P.info? ty).map (·.size) = some cs.size) : YieldsIf P ops S o (.agg cs) a := by
  have h := yieldsIf_load_mid (P := P) (ops := ops) (S := S) (a := a) (op := o) (by simp [Region.wanted, hgd]) ty x ho g 0 hx cs.toList d (fun w hw j v hv => (hS w hw).cell _ (by simpa using hv)) hu hd (by simpa using hi)
  simpa using h
theorem yields_move {S : World → Prop} (hgd : o.guard = none) (x : Operand) (ho : o.op = .move x) : YieldsIf P ops S o (a.eval x) a :=
  .inl ⟨by simp [Region.wanted, hgd], fun w _ => by unfold execOp; simp only [ho, Sem.run_pure]⟩
variable {rest : List Oper}
theorem list_store_blk (hgd : o.guard = none) (ty : TypeId) (x y : Operand) (ho : o.op = .store ty x y) (g : Nat) (cells : Array Value) (hx : a.eval x = .pointer (some ⟨g, 0, none⟩)) (hy : a.eval y = .agg cells)
    (t : TypeId) (old : Array Value) (hg : Blk w g old t) (hi : (P.info? ty).map (·.size) = some cells.size) (hold : old.size = cells.size) (h1 : cells.all (·.oneCell') = true)
    (h : ∀ W1, Blk W1 g cells t → Fr1 g w W1 → wpList P ops Q rest (a.put o.dst undef) W1) : wpList P ops Q (o :: rest) a w :=
  wpList_plain hgd fun _ hK => wp_store_blk ty x y ho g cells hx hy t old hg hi hold h1 (fun W1 hB hF => hK _ _ (h W1 hB hF))
theorem list_load_blk (hgd : o.guard = none) (ty : TypeId) (x : Operand) (ho : o.op = .load ty x) (g : Nat) (hx : a.eval x = .pointer (some ⟨g, 0, none⟩)) (t : TypeId) (cs : Array Value) (hg : Blk w g cs t) (d : TypeDesc)
    (hu : P.underlying ty = some d) (hd : d.isRow = true) (hi : (P.info? ty).map (·.size) = some cs.size) (h : wpList P ops Q rest (a.put o.dst (.agg cs)) w) : wpList P ops Q (o :: rest) a w :=
  wpList_plain hgd fun _ hK => wp_load_blk ty x ho g hx t cs hg d hu hd hi (hK _ _ h)
theorem list_val (hgd : o.guard = none) (v : Value) (hrun : (execOp a.eval o).run P w = .ok (.value v) w) (h : wpList P ops Q rest (a.put o.dst v) w) : wpList P ops Q (o :: rest) a w := by
  refine wpList_plain hgd fun K hK => ?_
  unfold Oper.wp
  rw [hrun]
  exact hK _ _ h
theorem list_build (hgd : o.guard = none) (t : TypeId) (parts : Array (Nat × Operand)) (ho : o.op = .build t parts) (cells : Array Value) (hb : P.built t (parts.map fun (i, x) => (i, a.eval x)).toList = some cells)
    (h : wpList P ops Q rest (a.put o.dst (.agg cells)) w) : wpList P ops Q (o :: rest) a w := by
  refine list_val hgd _ ?_ h
  unfold execOp
  simp only [ho, Sem.run_bind, run_build w t _ cells hb, Result.andThen_ok]
  rfl
theorem Fr.und {S : Nat → Prop} {w w' : World} {n : Nat} (h : Fr S (w.drewN n) w') : Fr S w w' := ⟨h.os, h.tape, h.output, h.size, h.block⟩
theorem Fr1.und {b : Nat} {w w' : World} {n : Nat} (h : Fr1 b (w.drewN n) w') : Fr1 b w w' := Fr.und h
theorem Fr0.und {w w' : World} {n : Nat} (h : Fr0 (w.drewN n) w') : Fr0 w w' := Fr.und h
end Go.Proofs.Ytgcjbbliaelkcaa
