/- Deeds in memory. Conditions stand in the statements. -/
import Derived.Test.YtcbllkkbpjobpaaAppF
import Derived.Test.YtcbllkkbpjobpaaArgsOf
import Derived.Test.YtcbllkkbpjobpaaSlPut
import Derived.WalkKit
import Derived.WalkSpells
import Derived.BigQuiet
import Derived.Deep.QuietTactic
import Derived.Lib.Hide
import Derived.Handy
import Derived.Deep.DeepCutAuto
import Derived.Deep.RegionHeldLaw
namespace Go.Proofs.Ytcbllkkbpjobpaa
open Go.RowKit

/-- A deed, without its place. -/
structure Dd where
  kind : Int
  t : List UInt8
  rows : Int
  cols : Int
deriving DecidableEq
def ddC (y : Value × Dd) : List Value := [.int .i64 y.2.kind, y.1, .int .i64 y.2.rows, .int .i64 y.2.cols]
theorem ddC_len (y : Value × Dd) : (ddC y).length = 4 := rfl
theorem rdb_one {w : World} {v : Value} {d : List UInt8} (h : RdB w v d) : v.oneCell' = true := by
  obtain ⟨A, c, rfl, -⟩ := h.form; rfl
theorem flat_dd_one {w : World} {tv : List (Value × Dd)} (h : ∀ y ∈ tv, RdB w y.1 y.2.t) : ∀ u ∈ flat ddC tv, u.oneCell' = true := by
  intro u hu
  simp only [flat, List.mem_flatMap] at hu
  obtain ⟨y, hy, hu⟩ := hu
  simp only [ddC, List.mem_cons, List.not_mem_nil, or_false] at hu
  rcases hu with rfl | rfl | rfl | rfl
  · rfl
  · exact rdb_one (h y hy)
  · rfl
  · rfl
theorem infoDd : (Try.prog.info? 28).map (fun i => (i.zero, i.size, i.bytes)) = some (some (.agg #[.int .i64 0, .slice none 0 0, .int .i64 0, .int .i64 0]), 4, 48) := by kernel_rfl
/-- Deeds that a slice reads as. -/
def Ds (w : World) (v : Value) (l : List Dd) : Prop := ∃ tv : List (Value × Dd), tv.map (·.2) = l ∧ Rd w 4 v tv.length (flat ddC tv) ∧ ∀ y ∈ tv, RdB w y.1 y.2.t
section
variable {w w' : World} {v : Value} {l : List Dd}
theorem Ds.fr0 (h : Ds w v l) (hf : Fr0 w w') : Ds w' v l := by
  obtain ⟨tv, h1, h2, h3⟩ := h
  exact ⟨tv, h1, h2.fr0 hf, fun y hy => (h3 y hy).fr0 hf⟩
theorem Ds.nil (w : World) : Ds w (.slice none 0 0) [] := ⟨[], rfl, Rd.nil w 4, fun y hy => by cases hy⟩
theorem Ds.form (h : Ds w v l) : ∃ A c, v = .slice A l.length c ∧ l.length ≤ c ∧ c ≤ maxLen ∧ (A = none → c = 0) := by
  obtain ⟨tv, rfl, h2, h3⟩ := h
  rw [List.length_map]
  exact h2.form
theorem Ds.le63 (h : Ds w v l) : l.length ≤ 9223372036854775807 := by
  obtain ⟨tv, rfl, h2, h3⟩ := h
  rw [List.length_map]
  exact h2.le63
/-- A deed's cells. -/
theorem Ds.cell {A : Option Addr} {n c : Nat} (h : Ds w (.slice A n c) l) {i : Nat} (hi : i < l.length) : ∃ g off B e, A = some ⟨g, off, none⟩ ∧ i < c ∧ g < w.heap.size ∧ w.cell? ⟨g, off + i * 4, none⟩ = some (.int .i64 l[i].kind) ∧
    w.cell? ⟨g, off + i * 4 + 1, none⟩ = some (.slice B l[i].t.length e) ∧ w.cell? ⟨g, off + i * 4 + 2, none⟩ = some (.int .i64 l[i].rows) ∧ w.cell? ⟨g, off + i * 4 + 3, none⟩ = some (.int .i64 l[i].cols) ∧ RdB w (.slice B l[i].t.length e) l[i].t := by
  obtain ⟨tv, rfl, h2, h3⟩ := h
  rw [List.length_map] at hi
  obtain ⟨g, off, c', hv, hic, hg, hc⟩ := h2.cellAt hi
  injection hv with hA _ hcc
  subst hA hcc
  have f := fun j (hj : j < 4) => flat_at ddC_len tv i hi hj
  have ht := h3 _ (List.getElem_mem hi)
  obtain ⟨B, e, hB, -⟩ := ht.form
  simp only [List.getElem_map]
  refine ⟨g, off, B, e, rfl, hic, hg, ?_, ?_, ?_, ?_, by rw [← hB]; exact ht⟩
  · have := hc 0 _ (f 0 (by omega)); simpa using this
  · rw [← hB]; exact hc 1 _ (f 1 (by omega))
  · exact hc 2 _ (f 2 (by omega))
  · exact hc 3 _ (f 3 (by omega))
/-- A part of the deeds. -/
theorem Ds.drop {A : Option Addr} {c : Nat} (h : Ds w (.slice A l.length c) l) {k : Nat} (hk : k ≤ l.length) : Ds w (.slice (if c = k then A else A.map (·.add (k * 4))) (l.length - k) (c - k)) (l.drop k) := by
  obtain ⟨tv, rfl, h2, h3⟩ := h
  rw [List.length_map] at hk h2 ⊢
  refine ⟨tv.drop k, by rw [List.map_drop], ?_, fun y hy => h3 y (List.mem_of_mem_drop hy)⟩
  have := h2.drop hk rfl
  rw [flat_drop ddC_len] at this
  rw [List.length_drop]
  exact this
end

/-- Deeds of the call's own; T: what is known of each text. -/
def DsG (T : World → Value → List UInt8 → Prop) (base : Nat) (w : World) (v : Value) (l : List Dd) : Prop :=
  ∃ tv : List (Value × Dd), tv.map (·.2) = l ∧ w.ownsRow base 28 4 v tv.length (flat ddC tv) ∧ ∀ y ∈ tv, T w y.1 y.2.t
section
variable {T : World → Value → List UInt8 → Prop} {base : Nat} {w w' : World} {v v2 : Value} {l l2 : List Dd}
theorem DsG.ds (h : DsG T base w v l) (hT : ∀ v t, T w v t → RdB w v t) : Ds w v l := by
  obtain ⟨tv, h1, h2, h3⟩ := h
  exact ⟨tv, h1, Rd.of_own h2, fun y hy => hT _ _ (h3 y hy)⟩
theorem DsG.nil (T : World → Value → List UInt8 → Prop) (base : Nat) (w : World) : DsG T base w (.slice none 0 0) [] := ⟨[], rfl, ⟨rfl, .inl ⟨rfl, rfl⟩⟩, fun y hy => by cases hy⟩
theorem DsG.mono {T2 : World → Value → List UInt8 → Prop} {b2 : Nat} (h : DsG T base w v l) (hb : b2 ≤ base) (hT : ∀ v t, T w v t → T2 w v t) : DsG T2 b2 w v l := by
  obtain ⟨tv, h1, h2, h3⟩ := h
  refine ⟨tv, h1, ⟨h2.1, ?_⟩, fun y hy => hT _ _ (h3 y hy)⟩
  rcases h2.2 with h | ⟨g, cap, cur, hv, hg, rest⟩
  · exact .inl h
  · exact .inr ⟨g, cap, cur, hv, Nat.le_trans hb hg, rest⟩
theorem DsG.fr {S : Nat → Prop} (h : DsG T base w v l) (hf : Fr S w w') (hs : ∀ g, ownB v g → ¬ S g) (hT : ∀ v t, T w v t → T w' v t) : DsG T base w' v l := by
  obtain ⟨tv, h1, h2, h3⟩ := h
  exact ⟨tv, h1, own_fr h2 hf hs, fun y hy => hT _ _ (h3 y hy)⟩
theorem DsG.fr0 (h : DsG T base w v l) (hf : Fr0 w w') (hT : ∀ v t, T w v t → T w' v t) : DsG T base w' v l := h.fr hf (fun _ _ h => h) hT
theorem DsG.lo (h : DsG T base w v l) : ∀ k, ownB v k → base ≤ k ∧ k < w.heap.size := by
  obtain ⟨tv, h1, h2, h3⟩ := h
  exact own_lt' h2
theorem DsG.len (h : DsG T base w v l) : ∃ A c, v = .slice A l.length c := by
  obtain ⟨tv, rfl, h2, h3⟩ := h
  obtain ⟨A, c, hv, -⟩ := own_form h2
  exact ⟨A, c, by rw [List.length_map]; exact hv⟩
theorem DsG.ne (h : DsG T base w v l) {p : Nat} {vs : Array Value} {t : TypeId} (hb : Blk w p vs t) (ht : 28 ≠ t) : ∀ k, ownB v k → k ≠ p := by
  obtain ⟨tv, h1, h2, h3⟩ := h
  exact own_ne h2 hb ht
/-- A text of the call's own keeps what it reads as when the row grows. -/
theorem slo_keep (h : DsG T base w v l) (hf : Fr (ownB v) w w') {b : Nat} {tv : Value} {d : List UInt8} (ht : SlO b w tv d) : SlO b w' tv d := by
  refine ht.fr hf fun k hk hs => ?_
  obtain ⟨tv', h1, h2, h3⟩ := h
  rcases h2.2 with ⟨rfl, _⟩ | ⟨g, cap, cur, rfl, _, hg, _⟩
  · cases hs
  · cases hs
    exact ht.ty.ne (vs := cur) (t' := 28) hg (by decide) hk
/-- append. -/
theorem list_append_ds {ops : Array Oper} {o : Oper} {a : Act} {Q : Exit → Act → World → Prop} {rest : List Oper} (hgd : o.guard = none) (s x : Operand) (ho : o.op = .call { callee := .builtin .append, args := #[s, x], argTypes := #[22, 22] })
    (hb : base ≤ w.heap.size) (h : DsG T base w v l) (hs : a.eval s = v) {l2 : List (Value × Dd)} {n m : Nat} (hln : l.length = n) (hlm : l2.length = m) (hr : Rd w 4 v2 m (flat ddC l2)) (hx : a.eval x = v2) (hT2 : ∀ y ∈ l2, RdB w y.1 y.2.t) (hn : n + m ≤ 1000000)
    (hT : ∀ w', Fr (ownB v) w w' → ∀ v t, T w v t → T w' v t) (hT3 : ∀ w', Fr (ownB v) w w' → ∀ y ∈ l2, T w' y.1 y.2.t)
    (hK : ∀ A c w', DsG T base w' (.slice A (n + m) c) (l ++ l2.map (·.2)) → Fr (ownB v) w w' → wpList Try.prog ops Q rest (a.put o.dst (.slice A (n + m) c)) w') : wpList Try.prog ops Q (o :: rest) a w := by
  obtain ⟨i, hi, hz0, hz1, hz2⟩ := info_parts infoDd
  obtain ⟨tv, rfl, h2, h3⟩ := h
  subst hln hlm
  rw [List.length_map] at hn hK
  refine list_append_ownR hgd s x 22 ho hb 28 i _ 4 48 Try.underlying22 hi hz0 hz1 hz2 rfl (by decide) h2 hs hr hx (flat_dd_one hT2) (by unfold maxLen; omega) (by omega) fun A c w' hown hf => hK A c w' ⟨tv ++ l2, by simp, ?_, fun y hy => ?_⟩ hf
  · rw [List.length_append, flat_app]; exact hown
  · rcases List.mem_append.1 hy with hy | hy
    · exact hT w' hf _ _ (h3 y hy)
    · exact hT3 w' hf y hy
theorem wp_append_ds {o : Oper} {a : Act} {K : Act → World → Prop} {Q : Exit → Act → World → Prop} (s x : Operand) (ho : o.op = .call { callee := .builtin .append, args := #[s, x], argTypes := #[22, 22] })
    (hb : base ≤ w.heap.size) (h : DsG T base w v l) (hs : a.eval s = v) {l2 : List (Value × Dd)} {n m : Nat} (hln : l.length = n) (hlm : l2.length = m) (hr : Rd w 4 v2 m (flat ddC l2)) (hx : a.eval x = v2) (hT2 : ∀ y ∈ l2, RdB w y.1 y.2.t) (hn : n + m ≤ 1000000)
    (hT : ∀ w', Fr (ownB v) w w' → ∀ v t, T w v t → T w' v t) (hT3 : ∀ w', Fr (ownB v) w w' → ∀ y ∈ l2, T w' y.1 y.2.t)
    (hK : ∀ A c w', DsG T base w' (.slice A (n + m) c) (l ++ l2.map (·.2)) → Fr (ownB v) w w' → K (a.put o.dst (.slice A (n + m) c)) w') : Oper.wp Try.prog o a w K Q := by
  obtain ⟨i, hi, hz0, hz1, hz2⟩ := info_parts infoDd
  obtain ⟨tv, rfl, h2, h3⟩ := h
  subst hln hlm
  rw [List.length_map] at hn hK
  refine wp_append_ownR s x 22 ho hb 28 i _ 4 48 Try.underlying22 hi hz0 hz1 hz2 rfl (by decide) h2 hs hr hx (flat_dd_one hT2) (by unfold maxLen; omega) (by omega) fun A c w' hown hf => hK A c w' ⟨tv ++ l2, by simp, ?_, fun y hy => ?_⟩ hf
  · rw [List.length_append, flat_app]; exact hown
  · rcases List.mem_append.1 hy with hy | hy
    · exact hT w' hf _ _ (h3 y hy)
    · exact hT3 w' hf y hy
end

/-- What deeds may be. -/
def mayN (k : Int) (n : Nat) (r c : Int) : Bool :=
  if k = 1 then decide (1 ≤ n ∧ n ≤ 16 ∧ r = 0 ∧ c = 0)
  else if k = 2 then decide ((1 ≤ r ∧ r ≤ 1000) ∧ (1 ≤ c ∧ c ≤ 1000) ∧ n = 0)
  else if k = 3 ∨ k = 4 then decide (n = 0 ∧ r = 0 ∧ c = 0) else false
def mayD (x : Dd) : Bool := mayN x.kind x.t.length x.rows x.cols
def mayS (b : Int) (l : List Dd) : Bool := decide (0 ≤ b ∧ l.length ≤ 64 ∧ b + l.length ≤ 1073741824) && l.all mayD
end Go.Proofs.Ytcbllkkbpjobpaa
