/- Steps: a slice built where it stands; appends of bytes, and of so many noughts, onto bytes of the call's own. Conditions stand in the statements. -/
import Derived.Test.YtcbllkkbpjobpaaStepsG
import Derived.Test.YtcbllkkbpjobpaaAppZeros
namespace Go.Proofs.Ytcbllkkbpjobpaa
open Go.RowKit
variable {P : Program} {ops : Array Oper} {o : Oper} {a : Act} {w : World} {K : Act → World → Prop} {Q : Exit → Act → World → Prop} {rest : List Oper}
theorem wp_built_blk (t e : TypeId) (n : Nat) (parts : Array (Nat × Operand)) (ho : o.op = .buildSlice t n parts) (cells : Array Value)
    (hrun : ∀ W : World, (Instr.buildSlice t n (parts.map fun (i, x) => (i, a.eval x))).run P W = .ok (.slice (some ⟨W.heap.size, 0, none⟩) n n) (W.alloc (.cells cells e)))
    (h : ∀ g W1, Blk W1 g cells e → Fr0 w W1 → w.heap.size ≤ g → K (a.put o.dst (.slice (some ⟨g, 0, none⟩) n n)) W1) : Oper.wp P o a w K Q := by
  unfold Oper.wp execOp
  simp only [ho, Sem.run_bind, Sem.run_pure, Result.andThen_ok, hrun]
  exact h _ _ (Blk.new w cells e) ((Fr0.refl w).alloc _) (Nat.le_refl _)
theorem list_built_blk (hgd : o.guard = none) (t e : TypeId) (n : Nat) (parts : Array (Nat × Operand)) (ho : o.op = .buildSlice t n parts) (cells : Array Value)
    (hrun : ∀ W : World, (Instr.buildSlice t n (parts.map fun (i, x) => (i, a.eval x))).run P W = .ok (.slice (some ⟨W.heap.size, 0, none⟩) n n) (W.alloc (.cells cells e)))
    (h : ∀ g W1, Blk W1 g cells e → Fr0 w W1 → w.heap.size ≤ g → wpList P ops Q rest (a.put o.dst (.slice (some ⟨g, 0, none⟩) n n)) W1) : wpList P ops Q (o :: rest) a w :=
  wpList_plain hgd fun _ hK => wp_built_blk t e n parts ho cells hrun (fun g W1 h1 h2 h3 => hK _ _ (h g W1 h1 h2 h3))
theorem infoB2 : (Try.prog.info? 5).map (fun i => (i.zero, i.size, i.bytes)) = some (some (.int .u8 0), 1, 1) := by kernel_rfl
/-- The block of a row of the call's own. -/
def ownB (v : Value) (k : Nat) : Prop := v.ownBlock = some k
/-- append of bytes onto a row of the call's own. -/
theorem wp_append_own {base : Nat} {v v2 : Value} {n : Nat} {d e : List UInt8} (s x : Operand) (ho : o.op = .call { callee := .builtin .append, args := #[s, x], argTypes := #[26, 26] })
    (hb : base ≤ w.heap.size) (hown : w.ownsRow base 5 1 v n (byts d)) (hs : a.eval s = v) (hr : RdB w v2 e) (hx : a.eval x = v2) (hl : n + e.length ≤ 100000000)
    (hK : ∀ A c w', w'.ownsRow base 5 1 (.slice A (n + e.length) c) (n + e.length) (byts (d ++ e)) → Fr (ownB v) w w' → K (a.put o.dst (.slice A (n + e.length) c)) w') :
    Oper.wp Try.prog o a w K Q := by
  obtain ⟨i, hi, hz0, hz1, hz2⟩ := info_parts infoB2
  obtain ⟨A2, c2, rfl, hnc, hcm, hnone⟩ := hr.form
  have hrun : ∃ A c w', (Builtin.append_ #[26, 26] o.type #[v, .slice A2 e.length c2]).run Try.prog w = .ok (.slice A (n + e.length) c) w' ∧ w'.ownsRow base 5 1 (.slice A (n + e.length) c) (n + e.length) (byts d ++ byts e) ∧ Fr (ownB v) w w' := by
    cases A2 with
    | some ad =>
      obtain ⟨v', w', hrun, hown', hgrow, -⟩ := run_append_own (P := Try.prog) w base 26 o.type 5 i _ 1 1 Try.underlying26 hi hz0 hz1 hz2 rfl (by decide) v n (byts d) hown ad e.length c2 (byts e) (byts_len e) (fun j u hu => Rd.news hr j u hu) (byts_one e) (by unfold maxLen; omega) (by omega) hb
      obtain ⟨A', c', rfl, -, -, -⟩ := own_form hown'
      exact ⟨A', c', w', hrun, hown', Fr.grown (Fr.refl _ _) hgrow (fun j hj => .inl hj)⟩
    | none =>
      have hc : c2 = 0 := hnone rfl
      have hm : e = [] := List.eq_nil_of_length_eq_zero (by omega)
      subst hc hm
      have hrun := run_append_none (P := Try.prog) w base 26 26 o.type 5 5 i Try.underlying26 Try.underlying26 hi v n (byts d) (by rw [hz1]; exact hown) 0
      obtain ⟨A', c', rfl, -, -, -⟩ := own_form hown
      exact ⟨A', c', w, hrun, by simpa [byts] using hown, Fr.refl _ _⟩
  obtain ⟨A, c, w', hrun, hown', hf⟩ := hrun
  unfold Oper.wp execOp
  simp only [ho, resolve, invoke, builtin, Sem.run_bind, Sem.run_pure, Result.andThen_ok, List.map_toArray, List.map_cons, List.map_nil, hs, hx, hrun]
  refine hK A c w' ?_ hf
  rw [byts_app]
  exact hown'
/-- append of so many noughts. -/
theorem wp_append_zeros {base : Nat} {v : Value} {n m : Nat} {d : List UInt8} (s x : Operand) (ho : o.op = .call { callee := .builtin .append, args := #[s, x], argTypes := #[26, 3] })
    (hb : base ≤ w.heap.size) (hown : w.ownsRow base 5 1 v n (byts d)) (hs : a.eval s = v) (hx : a.eval x = .int .i64 m) (hl : n + m ≤ 100000000)
    (hK : ∀ A c w', w'.ownsRow base 5 1 (.slice A (n + m) c) (n + m) (byts (d ++ List.replicate m 0)) → Fr (ownB v) w w' → K (a.put o.dst (.slice A (n + m) c)) w') :
    Oper.wp Try.prog o a w K Q := by
  obtain ⟨i, hi, hz0, hz1, hz2⟩ := info_parts infoB2
  obtain ⟨v', w', hrun, hown', hgrow⟩ := run_app_zeros (P := Try.prog) w base 26 3 o.type 5 i .i64 Try.underlying26 Try.underlying3 hi hz0 hz1 hz2 v n (byts d) hown m hl hb
  obtain ⟨A, c, rfl, -⟩ := own_form hown'
  unfold Oper.wp execOp
  simp only [ho, resolve, invoke, builtin, Sem.run_bind, Sem.run_pure, Result.andThen_ok, List.map_toArray, List.map_cons, List.map_nil, hs, hx, hrun]
  refine hK A c w' ?_ (Fr.grown (Fr.refl _ _) hgrow (fun j hj => .inl hj))
  rw [byts_app, byts_zeros]
  exact hown'
end Go.Proofs.Ytcbllkkbpjobpaa
