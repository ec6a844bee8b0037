/- append onto a row of the call's own, whatever its elements: only the row's own block turns. Conditions stand in the statements. -/
import Derived.Test.YtgcjbbliaelkcaaLkJ1
namespace Go.Proofs.Ytgcjbbliaelkcaa
open Go.RowKit
variable {P : Program} {ops : Array Oper} {o : Oper} {a : Act} {w : World} {K : Act → World → Prop} {Q : Exit → Act → World → Prop} {rest : List Oper}
theorem run_append_own_rd {base : Nat} (hb : base ≤ w.heap.size) (t ty e : TypeId) (i : TypeInfo) (z : Value) (size bytes : Nat) (ht : P.underlying t = some (.slice e)) (hi : P.info? e = some i) (hz : i.zero = some z)
    (hsize : i.size = size) (hby : i.bytes = bytes) (hzs : z.cells.size = size) (hsz : 0 < size) (v : Value) (n : Nat) (xs : List Value) (hown : w.ownsRow base e size v n xs)
    (v2 : Value) (m : Nat) (news : List Value) (hr : Rd w size v2 m news) (h1 : ∀ u ∈ news, u.oneCell' = true) (h63 : n + m ≤ maxLen) (hbytes : (n + m) * bytes ≤ 140737488355328) :
    ∃ A c w', (Builtin.append_ #[t, t] ty #[v, v2]).run P w = .ok (.slice A (n + m) c) w' ∧ w'.ownsRow base e size (.slice A (n + m) c) (n + m) (xs ++ news) ∧ Fr (ownB v) w w' := by
  obtain ⟨A, c, rfl, hnc, hcm, hnone⟩ := hr.form
  cases A with
  | some ad =>
    obtain ⟨v', w', hrun, hown', hgrow, -⟩ := run_append_own (P := P) w base t ty e i z size bytes ht hi hz hsize hby hzs hsz v n xs hown ad m c news hr.len hr.news h1 h63 hbytes hb
    obtain ⟨A', c', rfl, -, -, -⟩ := own_form hown'
    exact ⟨A', c', w', hrun, hown', Fr.grown (Fr.refl _ _) hgrow (fun j hj => .inl hj)⟩
  | none =>
    have hc : c = 0 := hnone rfl
    have hm : m = 0 := by omega
    subst hc hm
    have hnews : news = [] := List.eq_nil_of_length_eq_zero (by rw [hr.len]; omega)
    subst hnews
    have hrun := run_append_none (P := P) w base t t ty e e i ht ht hi v n xs (by rw [hsize]; exact hown) 0
    obtain ⟨A', c', rfl, -, -, -⟩ := own_form hown
    exact ⟨A', c', w, hrun, by simpa using hown, Fr.refl _ _⟩
theorem wp_append_ownR (s x : Operand) (t : TypeId) (ho : o.op = .call { callee := .builtin .append, args := #[s, x], argTypes := #[t, t] }) {base : Nat} (hb : base ≤ w.heap.size) (e : TypeId) (i : TypeInfo) (z : Value) (size bytes : Nat)
    (ht : P.underlying t = some (.slice e)) (hi : P.info? e = some i) (hz : i.zero = some z)
    (hsize : i.size = size) (hby : i.bytes = bytes) (hzs : z.cells.size = size) (hsz : 0 < size) {v : Value} {n : Nat} {xs : List Value} (hown : w.ownsRow base e size v n xs) (hs : a.eval s = v)
    {v2 : Value} {m : Nat} {news : List Value} (hr : Rd w size v2 m news) (hx : a.eval x = v2) (h1 : ∀ u ∈ news, u.oneCell' = true) (h63 : n + m ≤ maxLen) (hbytes : (n + m) * bytes ≤ 140737488355328)
    (h : ∀ A c w', w'.ownsRow base e size (.slice A (n + m) c) (n + m) (xs ++ news) → Fr (ownB v) w w' → K (a.put o.dst (.slice A (n + m) c)) w') : Oper.wp P o a w K Q := by
  obtain ⟨A, c, w', hrun, hown', hf'⟩ := run_append_own_rd (P := P) hb t o.type e i z size bytes ht hi hz hsize hby hzs hsz v n xs hown v2 m news hr h1 h63 hbytes
  unfold Oper.wp execOp
  simp only [ho, resolve, invoke, builtin, Sem.run_bind, Sem.run_pure, Result.andThen_ok, List.map_toArray, List.map_cons, List.map_nil, hs, hx, hrun]
  exact h A c w' hown' hf'
theorem list_append_ownR (hgd : o.guard = none) (s x : Operand) (t : TypeId) (ho : o.op = .call { callee := .builtin .append, args := #[s, x], argTypes := #[t, t] }) {base : Nat} (hb : base ≤ w.heap.size) (e : TypeId) (i : TypeInfo) (z : Value) (size bytes : Nat)
    (ht : P.underlying t = some (.slice e)) (hi : P.info? e = some i) (hz : i.zero = some z)
    (hsize : i.size = size) (hby : i.bytes = bytes) (hzs : z.cells.size = size) (hsz : 0 < size) {v : Value} {n : Nat} {xs : List Value} (hown : w.ownsRow base e size v n xs) (hs : a.eval s = v)
    {v2 : Value} {m : Nat} {news : List Value} (hr : Rd w size v2 m news) (hx : a.eval x = v2) (h1 : ∀ u ∈ news, u.oneCell' = true) (h63 : n + m ≤ maxLen) (hbytes : (n + m) * bytes ≤ 140737488355328)
    (h : ∀ A c w', w'.ownsRow base e size (.slice A (n + m) c) (n + m) (xs ++ news) → Fr (ownB v) w w' → wpList P ops Q rest (a.put o.dst (.slice A (n + m) c)) w') : wpList P ops Q (o :: rest) a w :=
  wpList_plain hgd fun _ hK => wp_append_ownR s x t ho hb e i z size bytes ht hi hz hsize hby hzs hsz hown hs hr hx h1 h63 hbytes (fun A c w' h1 h2 => hK _ _ (h A c w' h1 h2))
end Go.Proofs.Ytgcjbbliaelkcaa
