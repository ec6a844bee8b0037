/- Arguments that are slices of structs, whatever their fields, given how one is read. Conditions stand in the statements. -/
import Derived.Test.YtcbllkkbpjobpaaArgs
import Derived.Test.YtcbllkkbpjobpaaFlat
namespace Go.Proofs.Ytcbllkkbpjobpaa
open Go.ChangeShapes Go.WideShapes Go.ChangeAt Go.RowKit Go.Deep

section
variable {P : Program} {H : Type} {enc : TypeId × Value → H} {w : World} {base : Nat} {spare : Nat → Bool} {held : Bool}
/-- A struct of fields of one cell each: each cell is read at its field's type. -/
theorem read_fields {e : TypeId} {fs : Array Field} {n k : Nat} {cs : List Value} {x : DataW H × List MemPlace} (he : P.underlying e = some (.struct fs))
    (hone : oneCellFields P fs = true) (hC : P.cellsOf e = k) (h : DataW.trod enc P w base spare held n e cs = some x) :
    cs.length = k ∧ ∀ j (hj : j < cs.length) f, fs[j]? = some f → ∃ m y, DataW.trod enc P w base spare held m f.type [cs[j]] = some y := by
  obtain ⟨ys, n', hn', hy, hlen, hyl, hf⟩ := DataW.trod_struct he h
  rw [hC] at hlen
  refine ⟨hlen, fun j hj f hfj => ?_⟩
  obtain ⟨ho, hk⟩ := hone_of hone j f hfj
  have h1 := hf j f hfj
  rw [ho, hk] at h1
  have hone' : (cs.drop j).take 1 = [cs[j]] := by rw [List.drop_eq_getElem_cons hj]; rfl
  rw [hone'] at h1
  have hjl : j < fs.size := (Array.getElem?_eq_some_iff.1 hfj).1
  exact ⟨n', ys[j]'(by omega), h1.trans (List.getElem?_eq_getElem (by omega))⟩
theorem read_int {t : TypeId} {n : Nat} {v : Value} {x : DataW H × List MemPlace} (ht : P.underlying t = some (.int .i64)) (h : DataW.trod enc P w base spare held n t [v] = some x) : ∃ m : Int, v = .int .i64 m ∧ -9223372036854775808 ≤ m ∧ m ≤ 9223372036854775807 := by
  obtain ⟨m, hm, _, hw⟩ := DataW.trod_int ht h
  simp only [List.cons.injEq, and_true] at hm
  have hw2 : IntKind.i64.min ≤ m ∧ m ≤ IntKind.i64.max := by simpa [Lit.wf] using hw
  rw [show IntKind.i64.min = -9223372036854775808 from by decide, show IntKind.i64.max = 9223372036854775807 from by decide] at hw2
  exact ⟨m, hm, hw2⟩
theorem read_string {t : TypeId} {n : Nat} {v : Value} {x : DataW H × List MemPlace} (ht : P.underlying t = some .string) (h : DataW.trod enc P w base spare held n t [v] = some x) : ∃ s : ByteArray, v = .string s ∧ s.size ≤ maxLen := by
  obtain ⟨s, hs, _, hm⟩ := DataW.trod_string ht h
  simp only [List.cons.injEq, and_true] at hs
  exact ⟨s, hs, hm⟩
theorem read_bool {t : TypeId} {n : Nat} {v : Value} {x : DataW H × List MemPlace} (ht : P.underlying t = some .bool) (h : DataW.trod enc P w base spare held n t [v] = some x) : ∃ b : Bool, v = .bool b := by
  obtain ⟨b, hb, _⟩ := DataW.trod_bool ht h
  simp only [List.cons.injEq, and_true] at hb
  exact ⟨b, hb⟩

/-- A slice of rows, given how one row is read. -/
theorem arg_of {α : Type} (c : α → List Value) (G : α → Prop) {t e : TypeId} {fuel k : Nat} {v : Value} {x : DataW H × List MemPlace} (hk : 0 < k) (hck : ∀ y, (c y).length = k) (ht : P.underlying t = some (.slice e)) (hC : P.cellsOf e = k)
    (read : ∀ (n : Nat) (cs : List Value) (x : DataW H × List MemPlace), DataW.trod enc P w base spare held n e cs = some x → ∃ y, cs = c y ∧ G y)
    (h : DataW.trod enc P w base spare held fuel t [v] = some x) : ∃ l : List α, Rd w k v l.length (flat c l) ∧ ∀ x ∈ l, G x := by
  rcases open_slice ht h with ⟨hcs, _⟩ | ⟨a, len, cap, m, n, D, Pl, hcs, hb, hl, hm, hmm, hx, hi⟩
  · simp at hcs
    subst hcs
    exact ⟨[], Rd.nil w k, fun x hx => by cases hx⟩
  · simp at hcs
    subst hcs
    have hlm : len ≤ m := by rw [hmm]; split <;> omega
    have each : ∀ i, i < len → ∃ y : α, (∀ j u, (c y)[j]? = some u → w.cell? (a.add (i * k + j)) = some u) ∧ G y := by
      intro i hil
      obtain ⟨cs', hc, ht'⟩ := hi i (by omega)
      rw [hC] at hc
      obtain ⟨_, hcl, hat⟩ := World.cells?_some hc
      obtain ⟨y, hy, hd⟩ := read _ _ _ ht'
      refine ⟨y, fun j u hu => ?_, hd⟩
      have hadd : a.add (i * k + j) = (a.add (i * k)).add j := by rw [Go.Deep.add_add]
      have hjk : j < k := by
        rcases Nat.lt_or_ge j (c y).length with h | h
        · rw [hck] at h; omega
        · rw [List.getElem?_eq_none h] at hu; cases hu
      rw [hadd, hat j hjk, hy]
      exact hu
    have build : ∀ q, q ≤ len → ∃ l : List α, l.length = q ∧ (∀ j u, (flat c l)[j]? = some u → w.cell? (a.add j) = some u) ∧ ∀ x ∈ l, G x := by
      intro q
      induction q with
      | zero => intro _; exact ⟨[], rfl, fun j u hu => by simp [flat] at hu, fun x hx => by cases hx⟩
      | succ q ih =>
        intro hq
        obtain ⟨l, hll, hlc, hle⟩ := ih (by omega)
        obtain ⟨y, hy, hyd⟩ := each q (by omega)
        refine ⟨l ++ [y], by simp [hll], fun j u hu => ?_, fun x hx => ?_⟩
        · rw [flat_app, flat_one] at hu
          have hrl := flat_len hck l
          by_cases hj : j < (flat c l).length
          · rw [List.getElem?_append_left hj] at hu
            exact hlc j u hu
          · rw [List.getElem?_append_right (by omega)] at hu
            have := hy _ u hu
            rw [hrl, hll] at this
            rw [hrl, hll] at hj
            rwa [show q * k + (j - q * k) = j from by omega] at this
        · rcases List.mem_append.1 hx with hx | hx
          · exact hle x hx
          · simp at hx; rw [hx]; exact hyd
    obtain ⟨l, hll, hlc, hle⟩ := build len (Nat.le_refl _)
    subst hll
    exact ⟨l, rd_of_cells (flat_len hck l) hk hl hm hlc, hle⟩
end
end Go.Proofs.Ytcbllkkbpjobpaa
