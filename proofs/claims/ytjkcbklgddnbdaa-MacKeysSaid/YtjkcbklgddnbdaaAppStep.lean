/- append of a slice that reads as rows onto a row of the call's own, the frame carried: at a plain list and at a step of a region that draws. Conditions stand in the statements. -/
import Derived.Test.YtjkcbklgddnbdaaApp
import Derived.Deep.RegionHeldLaw
namespace Go.Proofs.Ytjkcbklgddnbdaa
open Go.RowKit

theorem run_append_rd {P : Program} {w0 w : World} (hf : Fr0 w0 w) (t ty e : TypeId) (i : TypeInfo) (z : Value) (size bytes : Nat) (ht : P.underlying t = some (.slice e)) (hi : P.info? e = some i) (hz : i.zero = some z)
    (hsize : i.size = size) (hby : i.bytes = bytes) (hzs : z.cells.size = size) (hsz : 0 < size) (v : Value) (n : Nat) (xs : List Value) (hown : w.ownsRow w0.heap.size e size v n xs)
    (v2 : Value) (m : Nat) (news : List Value) (hr : Rd w size v2 m news) (h1 : ∀ u ∈ news, u.oneCell' = true) (h63 : n + m ≤ maxLen) (hbytes : (n + m) * bytes ≤ 140737488355328) :
    ∃ A c w', (Builtin.append_ #[t, t] ty #[v, v2]).run P w = .ok (.slice A (n + m) c) w' ∧ w'.ownsRow w0.heap.size e size (.slice A (n + m) c) (n + m) (xs ++ news) ∧ Fr0 w0 w' := by
  obtain ⟨A, c, rfl, hnc, hcm, hnone⟩ := hr.form
  cases A with
  | some ad =>
    obtain ⟨v', w', hrun, hown', hgrow, -⟩ := run_append_own (P := P) w w0.heap.size t ty e i z size bytes ht hi hz hsize hby hzs hsz v n xs hown ad m c news hr.len hr.news h1 h63 hbytes hf.size
    obtain ⟨A', c', rfl, -, -, -⟩ := own_form hown'
    exact ⟨A', c', w', hrun, hown', Fr.grown hf hgrow (fun j hj => .inr (own_lt' hown j hj).1)⟩
  | none =>
    have hc : c = 0 := hnone rfl
    have hm : m = 0 := by omega
    subst hc hm
    have hnews : news = [] := List.eq_nil_of_length_eq_zero (by rw [hr.len]; omega)
    subst hnews
    have hrun := run_append_none (P := P) w w0.heap.size t t ty e e i ht ht hi v n xs (by rw [hsize]; exact hown) 0
    obtain ⟨A', c', rfl, -, -, -⟩ := own_form hown
    exact ⟨A', c', w, hrun, by simpa using hown, hf⟩
theorem step_append_rd {P : Program} {ops : Array Oper} {o : Oper} {a : Act} {K : Act → World → Prop} {Q : Exit → Act → World → Prop} {E : Prop} (hgd : o.guard = none) (s x : Operand) (t : TypeId)
    (ho : o.op = .call { callee := .builtin .append, args := #[s, x], argTypes := #[t, t] }) {w0 w : World} (hf : Fr0 w0 w) (e : TypeId) (i : TypeInfo) (z : Value) (size bytes : Nat) (ht : P.underlying t = some (.slice e)) (hi : P.info? e = some i) (hz : i.zero = some z)
    (hsize : i.size = size) (hby : i.bytes = bytes) (hzs : z.cells.size = size) (hsz : 0 < size) {v : Value} {n : Nat} {xs : List Value} (hown : w.ownsRow w0.heap.size e size v n xs) (hs : a.eval s = v)
    {v2 : Value} {m : Nat} {news : List Value} (hr : Rd w size v2 m news) (hx : a.eval x = v2) (h1 : ∀ u ∈ news, u.oneCell' = true) (h63 : n + m ≤ maxLen) (hbytes : (n + m) * bytes ≤ 140737488355328)
    (h : ∀ A c w', w'.ownsRow w0.heap.size e size (.slice A (n + m) c) (n + m) (xs ++ news) → Fr0 w0 w' → K (a.put o.dst (.slice A (n + m) c)) w') :
    if Region.wanted o (yielded ops a.tmps) = true then Oper.wp P o a w K Q else E := by
  have hw : Region.wanted o (yielded ops a.tmps) = true := by simp [Region.wanted, hgd]
  rw [if_pos hw]
  obtain ⟨A, c, w', hrun, hown', hf'⟩ := run_append_rd (P := P) hf t o.type e i z size bytes ht hi hz hsize hby hzs hsz v n xs hown v2 m news hr h1 h63 hbytes
  unfold Oper.wp execOp
  simp only [ho, resolve, invoke, builtin, Sem.run_bind, Sem.run_pure, Result.andThen_ok, List.map_toArray, List.map_cons, List.map_nil, hs, hx, hrun]
  exact h A c w' hown' hf'
theorem list_append_rd {P : Program} {ops : Array Oper} {rest : List Oper} {o : Oper} {a : Act} {Q : Exit → Act → World → Prop} (hgd : o.guard = none) (s x : Operand) (t : TypeId)
    (ho : o.op = .call { callee := .builtin .append, args := #[s, x], argTypes := #[t, t] }) {w0 w : World} (hf : Fr0 w0 w) (e : TypeId) (i : TypeInfo) (z : Value) (size bytes : Nat) (ht : P.underlying t = some (.slice e)) (hi : P.info? e = some i) (hz : i.zero = some z)
    (hsize : i.size = size) (hby : i.bytes = bytes) (hzs : z.cells.size = size) (hsz : 0 < size) {v : Value} {n : Nat} {xs : List Value} (hown : w.ownsRow w0.heap.size e size v n xs) (hs : a.eval s = v)
    {v2 : Value} {m : Nat} {news : List Value} (hr : Rd w size v2 m news) (hx : a.eval x = v2) (h1 : ∀ u ∈ news, u.oneCell' = true) (h63 : n + m ≤ maxLen) (hbytes : (n + m) * bytes ≤ 140737488355328)
    (h : ∀ A c w', w'.ownsRow w0.heap.size e size (.slice A (n + m) c) (n + m) (xs ++ news) → Fr0 w0 w' → wpList P ops Q rest (a.put o.dst (.slice A (n + m) c)) w') :
    wpList P ops Q (o :: rest) a w := by
  obtain ⟨A, c, w', hrun, hown', hf'⟩ := run_append_rd (P := P) hf t o.type e i z size bytes ht hi hz hsize hby hzs hsz v n xs hown v2 m news hr h1 h63 hbytes
  refine wpList_plain hgd fun K hK => ?_
  unfold Oper.wp execOp
  simp only [ho, resolve, invoke, builtin, Sem.run_bind, Sem.run_pure, Result.andThen_ok, List.map_toArray, List.map_cons, List.map_nil, hs, hx, hrun]
  exact hK _ _ (h A c w' hown' hf')
/-- A row of one element, built where the call stands. -/
theorem rd_one {w : World} {g : Nat} {cs : List Value} {t : TypeId} (h : Blk w g cs.toArray t) : Rd w cs.length (.slice (some ⟨g, 0, none⟩) 1 1) 1 cs :=
  ⟨by simp, ⟨_, _, rfl, Nat.le_refl _, by unfold maxLen; omega, fun h => by cases h⟩, fun _ => ⟨g, 0, 1, _, _, _, rfl, h, fun j u hu => by simpa using hu⟩⟩
theorem own_base {w : World} {base base' size n : Nat} {t : TypeId} {v : Value} {xs : List Value} (h : w.ownsRow base t size v n xs) (hb : base' ≤ base) : w.ownsRow base' t size v n xs := by
  refine ⟨h.1, ?_⟩
  rcases h.2 with h | ⟨g, cap, cur, hv, hg, rest⟩
  · exact .inl h
  · exact .inr ⟨g, cap, cur, hv, Nat.le_trans hb hg, rest⟩
end Go.Proofs.Ytjkcbklgddnbdaa
