/- Arguments that are slices of structs of whole numbers. Conditions stand in the statements. -/
import Derived.Test.YthgmimeheeajgaaArgs
namespace Go.Proofs.Ythgmimeheeajgaa
open Go.ChangeShapes Go.WideShapes Go.ChangeAt Go.RowKit Go.Deep

/-- A struct of whole numbers, as cells: its numbers within their bounds. -/
def IntRow (k : Nat) (x : List Int) : Prop := x.length = k ∧ ∀ n ∈ x, -9223372036854775808 ≤ n ∧ n ≤ 9223372036854775807
def rowCells (l : List (List Int)) : List Value := l.flatMap icells
theorem rowCells_len {k : Nat} {l : List (List Int)} (h : ∀ x ∈ l, x.length = k) : (rowCells l).length = l.length * k := by
  induction l with
  | nil => simp [rowCells]
  | cons x r ih =>
    have h1 := h x (List.mem_cons_self)
    have h2 := ih (fun y hy => h y (List.mem_cons_of_mem _ hy))
    simp only [rowCells, List.flatMap_cons, List.length_append, List.length_cons] at h2 ⊢
    rw [h2, icells_len, h1, Nat.add_mul]
    omega
theorem rowCells_at {k : Nat} {l : List (List Int)} (h : ∀ x ∈ l, x.length = k) (i j : Nat) (hi : i < l.length) (hj : j < k) :
    (rowCells l)[i * k + j]? = some (.int .i64 (l[i][j]'(by rw [h _ (List.getElem_mem hi)]; exact hj))) := by
  induction l generalizing i with
  | nil => simp at hi
  | cons x r ih =>
    have h1 := h x (List.mem_cons_self)
    have hxl : (icells x).length = k := by rw [icells_len, h1, Nat.mul_one]
    cases i with
    | zero =>
      simp only [rowCells, List.flatMap_cons, Nat.zero_mul, Nat.zero_add, List.getElem_cons_zero]
      rw [List.getElem?_append_left (by omega)]
      exact icells_at x j (by omega)
    | succ i =>
      have h2 := ih (fun y hy => h y (List.mem_cons_of_mem _ hy)) i (by simpa using hi)
      simp only [rowCells, List.flatMap_cons, List.getElem_cons_succ] at h2 ⊢
      rw [List.getElem?_append_right (by rw [hxl, Nat.add_mul]; omega), hxl, show (i + 1) * k + j - k = i * k + j by rw [Nat.add_mul]; omega]
      exact h2

section
variable {P : Program} {H : Type} {enc : TypeId × Value → H} {w : World} {base : Nat} {spare : Nat → Bool} {held : Bool}
theorem read_row {e : TypeId} {fs : Array Field} {n k : Nat} {cs : List Value} {x : DataW H × List MemPlace} (he : P.underlying e = some (.struct fs))
    (hone : oneCellFields P fs = true) (hC : P.cellsOf e = k) (hint : ∀ j, j < k → ∃ f, fs[j]? = some f ∧ P.underlying f.type = some (.int .i64))
    (h : DataW.trod enc P w base spare held n e cs = some x) : ∃ y : List Int, cs = icells y ∧ IntRow k y := by
  obtain ⟨ys, n', hn', hy, hlen, hyl, hf⟩ := DataW.trod_struct he h
  rw [hC] at hlen
  have each : ∀ j (hj : j < cs.length), ∃ n, cs[j] = .int .i64 n ∧ -9223372036854775808 ≤ n ∧ n ≤ 9223372036854775807 := by
    intro j hj
    obtain ⟨f, hfj, hu⟩ := hint j (by omega)
    obtain ⟨ho, hk⟩ := hone_of hone j f hfj
    have h1 := hf j f hfj
    rw [ho, hk] at h1
    have hone' : (cs.drop j).take 1 = [cs[j]] := by rw [List.drop_eq_getElem_cons hj]; rfl
    rw [hone'] at h1
    have hjl : j < fs.size := (Array.getElem?_eq_some_iff.1 hfj).1
    obtain ⟨m, hm, _, hw⟩ := DataW.trod_int hu (h1.trans (List.getElem?_eq_getElem (by omega)))
    simp only [List.cons.injEq, and_true] at hm
    have hw2 : IntKind.i64.min ≤ m ∧ m ≤ IntKind.i64.max := by simpa [Lit.wf] using hw
    rw [show IntKind.i64.min = -9223372036854775808 from by decide, show IntKind.i64.max = 9223372036854775807 from by decide] at hw2
    exact ⟨m, hm, hw2⟩
  clear hf hyl hy h
  have gen : ∀ l : List Value, (∀ j (hj : j < l.length), ∃ n, l[j] = .int .i64 n ∧ -9223372036854775808 ≤ n ∧ n ≤ 9223372036854775807) → ∃ y : List Int, l = icells y ∧ IntRow l.length y := by
    intro l
    induction l with
    | nil => intro _; exact ⟨[], rfl, rfl, fun n hn => by cases hn⟩
    | cons v r ih =>
      intro h
      obtain ⟨y, hy, hyl, hyb⟩ := ih (fun j hj => h (j + 1) (by simpa using hj))
      obtain ⟨n, hn, hb⟩ := h 0 (by simp)
      simp only [List.getElem_cons_zero] at hn
      refine ⟨n :: y, by rw [hn, hy]; simp [icells], by simp [hyl], fun m hm => ?_⟩
      rcases List.mem_cons.1 hm with rfl | hm
      · exact hb
      · exact hyb m hm
  obtain ⟨y, h1, h2⟩ := gen cs each
  rw [hlen] at h2
  exact ⟨y, h1, h2⟩

theorem arg_rows {t e : TypeId} {fs : Array Field} {fuel k : Nat} {v : Value} {x : DataW H × List MemPlace} (hk : 0 < k) (ht : P.underlying t = some (.slice e)) (he : P.underlying e = some (.struct fs))
    (hone : oneCellFields P fs = true) (hC : P.cellsOf e = k) (hint : ∀ j, j < k → ∃ f, fs[j]? = some f ∧ P.underlying f.type = some (.int .i64))
    (h : DataW.trod enc P w base spare held fuel t [v] = some x) : ∃ l : List (List Int), Rd w k v l.length (rowCells l) ∧ ∀ x ∈ l, IntRow k x := by
  rcases open_slice ht h with ⟨hcs, _⟩ | ⟨a, len, cap, m, n, D, Pl, hcs, hb, hl, hm, hmm, hx, hi⟩
  · simp at hcs
    subst hcs
    exact ⟨[], Rd.nil w k, fun x hx => by cases hx⟩
  · simp at hcs
    subst hcs
    have hlm : len ≤ m := by rw [hmm]; split <;> omega
    have each : ∀ i, i < len → ∃ y : List Int, (∀ j u, (icells y)[j]? = some u → w.cell? (a.add (i * k + j)) = some u) ∧ IntRow k y := by
      intro i hil
      obtain ⟨cs', hc, ht'⟩ := hi i (by omega)
      rw [hC] at hc
      obtain ⟨_, hcl, hat⟩ := World.cells?_some hc
      obtain ⟨y, hy, hd⟩ := read_row he hone hC hint ht'
      refine ⟨y, fun j u hu => ?_, hd⟩
      have hadd : a.add (i * k + j) = (a.add (i * k)).add j := by rw [Go.Deep.add_add]
      have hjk : j < k := by
        rcases Nat.lt_or_ge j (icells y).length with h | h
        · rw [icells_len, hd.1] at h; omega
        · rw [List.getElem?_eq_none h] at hu; cases hu
      rw [hadd, hat j hjk, hy]
      exact hu
    have build : ∀ q, q ≤ len → ∃ l : List (List Int), l.length = q ∧ (∀ j u, (rowCells l)[j]? = some u → w.cell? (a.add j) = some u) ∧ ∀ x ∈ l, IntRow k x := by
      intro q
      induction q with
      | zero => intro _; exact ⟨[], rfl, fun j u hu => by simp [rowCells] at hu, fun x hx => by cases hx⟩
      | succ q ih =>
        intro hq
        obtain ⟨l, hll, hlc, hle⟩ := ih (by omega)
        obtain ⟨y, hy, hyd⟩ := each q (by omega)
        refine ⟨l ++ [y], by simp [hll], fun j u hu => ?_, fun x hx => ?_⟩
        · have hsp : rowCells (l ++ [y]) = rowCells l ++ icells y := by simp [rowCells]
          rw [hsp] at hu
          have hrl := rowCells_len (k := k) (l := l) (fun x hx => (hle x hx).1)
          by_cases hj : j < (rowCells l).length
          · rw [List.getElem?_append_left hj] at hu
            exact hlc j u hu
          · rw [List.getElem?_append_right (by omega)] at hu
            have := hy _ u hu
            rw [hrl, hll] at this
            rw [hrl, hll] at hj
            rwa [show q * k + (j - q * k) = j from by omega] at this
        · rcases List.mem_append.1 hx with hx | hx
          · exact hle x hx
          · simp at hx; rw [hx]; exact hyd
    obtain ⟨l, hll, hlc, hle⟩ := build len (Nat.le_refl _)
    subst hll
    exact ⟨l, rd_of_cells (rowCells_len (fun x hx => (hle x hx).1)) hk hl hm hlc, hle⟩
end
end Go.Proofs.Ythgmimeheeajgaa
