/- More steps of a plain list. Conditions stand in the statements. -/
import Derived.Test.YtgcjbbliaelkcaaSteps
import Derived.Test.YtgcjbbliaelkcaaSl
namespace Go.Proofs.Ytgcjbbliaelkcaa
open Go.RowKit
variable {P : Program} {ops : Array Oper} {o : Oper} {a : Act} {w : World} {K : Act → World → Prop} {Q : Exit → Act → World → Prop} {rest : List Oper}
theorem list_binop (hgd : o.guard = none) (op : BinOp) (ty : TypeId) (x y : Operand) (t2 : TypeId) (ho : o.op = .binOp op ty x y t2) (vx vy v : Value) (hx : a.eval x = vx) (hy : a.eval y = vy)
    (hg : (eqGuard op ty x y vx vy).run P w = .ok () w) (hb : (binOp op ty vx vy).run P w = .ok v w) (h : wpList P ops Q rest (a.put o.dst v) w) : wpList P ops Q (o :: rest) a w := by
  refine list_val hgd v ?_ h
  unfold execOp
  simp only [ho, hx, hy, Sem.run_bind, hg, hb, Result.andThen_ok]
  rfl
/-- An operation is taken first, written out. -/
theorem takeH {md : Region.Mode} {S : World → Prop} {i : Nat} {v : Value} {fuel : Nat} {listed : Array Bool} (hi : (ops.toList.drop i).head? = some o)
    (hs : Region.noSelect ops = true) (hf : Region.free md ops listed i = true) (hr : (Region.ready md ops listed).contains i = true)
    (hQ : ∀ c a w, Q (.panic c) (a.put o.dst v) w → Q (.panic c) a w) (hy : YieldsIf P ops S o v a) (hS : S w)
    (h : wpAnyH P md ops Q S fuel (listed.setIfInBounds i true) (a.put o.dst v) w) : wpAnyH P md ops Q S (fuel + 1) listed a w :=
  wpAnyH_take (by rw [← hi, List.head?_drop, Array.getElem?_toList]) hs hf hr hQ hy hS h
theorem wp_store_part (ty : TypeId) (x y : Operand) (ho : o.op = .store ty x y) (g off : Nat) (cells : Array Value) (hx : a.eval x = .pointer (some ⟨g, off, none⟩)) (hy : a.eval y = .agg cells)
    (t : TypeId) (old : Array Value) (hg : Blk w g old t) (hin : off + cells.size ≤ old.size) (hi : (P.info? ty).map (·.size) = some cells.size) (h1 : cells.all (·.oneCell') = true)
    (h : ∀ W1, Blk W1 g (putAt old off cells.toList) t → Fr1 g w W1 → K (a.put o.dst undef) W1) : Oper.wp P o a w K Q := by
  refine wp_store_mid ty x y ho g off cells hx hy (fun j hj => ?_) hi h1 (h _ (hg.setCells _ _) (Fr1.setCells _ _ (Fr1.refl g w)))
  rw [hg.cell (off + j) (Array.getElem?_eq_getElem (by omega))]
  exact ⟨rfl, hg.free _⟩
theorem list_alloc_blk (hgd : o.guard = none) (t : TypeId) (ho : o.op = .alloc t) (zs : Array Value) (hrun : ∀ W : World, (Instr.alloc t true (.tuple #[])).run P W = .ok (.pointer (some ⟨W.heap.size, 0, none⟩)) (W.alloc (.cells zs t)))
    (h : ∀ g W1, Blk W1 g zs t → Fr0 w W1 → w.heap.size ≤ g → wpList P ops Q rest (a.put o.dst (.pointer (some ⟨g, 0, none⟩))) W1) : wpList P ops Q (o :: rest) a w :=
  wpList_plain hgd fun _ hK => wp_alloc_blk t ho zs hrun (fun g W1 h1 h2 h3 => hK _ _ (h g W1 h1 h2 h3))
theorem wp_load_part (ty : TypeId) (x : Operand) (ho : o.op = .load ty x) (g off : Nat) (hx : a.eval x = .pointer (some ⟨g, off, none⟩)) (cs : Array Value) (hc : ∀ j v, cs[j]? = some v → w.cell? ⟨g, off + j, none⟩ = some v) (d : TypeDesc)
    (hu : P.underlying ty = some d) (hd : d.isRow = true) (hi : (P.info? ty).map (·.size) = some cs.size) (h : K (a.put o.dst (.agg cs)) w) : Oper.wp P o a w K Q :=
  wp_load_mid ty x ho g off hx cs.toList d (fun j v hv => hc j v (by simpa using hv)) hu hd (by simpa using hi) (by simpa using h)
theorem list_append_sl {a : Act} {Q : Exit → Act → World → Prop} {base : Nat} {v v2 : Value} {d e : List UInt8} (hgd : o.guard = none) (s x : Operand) (ho : o.op = .call { callee := .builtin .append, args := #[s, x], argTypes := #[32, 32] })
    (h : SlO base w v d) (hs : a.eval s = v) (hb : base ≤ w.heap.size) (hr : RdB w v2 e) (hx : a.eval x = v2) (hl : d.length + e.length ≤ 1000000)
    (hK : ∀ A c w', SlO base w' (.slice A (d ++ e).length c) (d ++ e) → Fr (inBlk v) w w' → (∀ k, inBlk (.slice A (d ++ e).length c) k → inBlk v k ∨ w.heap.size ≤ k) → wpList Try.prog ops Q rest (a.put o.dst (.slice A (d.length + e.length) c)) w') :
    wpList Try.prog ops Q (o :: rest) a w := by
  obtain ⟨A, c, w', hrun, h1, h2, h3⟩ := run_append_sl h hb hr hl o.type
  refine wpList_plain hgd fun K hK' => ?_
  unfold Oper.wp execOp
  simp only [ho, resolve, invoke, builtin, Sem.run_bind, Sem.run_pure, Result.andThen_ok, List.map_toArray, List.map_cons, List.map_nil, hs, hx, hrun]
  exact hK' _ _ (hK A c w' h1 h2 h3)
/-- 'v[k:]' at a place. -/
theorem sl_from {base : Nat} {w : World} {A : Option Addr} {c k : Nat} {d : List UInt8} (h : SlO base w (.slice A d.length c) d) (hk : k ≤ d.length) (i : Int) (hi : i = k) :
    ∃ A', (∀ w', (Instr.slice 32 (.slice A d.length c) (some (.int .i64 i)) none none).run Try.prog w' = .ok (.slice A' (d.length - k) (c - k)) w') ∧ SlO base w (.slice A' (d.length - k) (c - k)) (d.drop k) ∧
      ∀ j, inBlk (.slice A' (d.length - k) (c - k)) j → inBlk (.slice A d.length c) j := by
  obtain ⟨h1, h2⟩ := h.cut hk
  obtain ⟨_, hcl, hcm, _⟩ := h.rd.form
  have ht := Try.underlying32
  have hel : Try.prog.elem 32 = 5 := by simp [Program.elem, ht]
  subst hi
  have h63 : c ≤ maxLen := by
    obtain ⟨A', c', hv, _, hm, _⟩ := h.form
    injection hv with _ _ hc
    rw [hc]; exact hm
  refine ⟨_, fun w' => ?_, h1, h2⟩
  unfold maxLen at h63
  have hle : d.length ≤ c := by
    obtain ⟨A', c', hv, hm, _, _⟩ := h.form
    injection hv with _ _ hc
    rw [hc]; exact hm
  rw [run_slice_l (w := w') 32 A d.length c (by rw [hel]; exact ht) .i64 (k : Int) (by omega) (by omega), hel]
  have hs : (sizeOf 5).run Try.prog w' = .ok 1 w' := by
    obtain ⟨i, hi, _, hz1, _⟩ := info_parts infoB
    simp [sizeOf, typeInfo, hi, hz1]
  rw [hs]
  simp [Result.andThen, sliced]
end Go.Proofs.Ytgcjbbliaelkcaa
