/- Arguments that are deeds and streams. Conditions stand in the statements. -/
import Derived.Test.YtcbllkkbpjobpaaInCut
import Derived.Test.YtcbllkkbpjobpaaArgsOf
namespace Go.Proofs.Ytcbllkkbpjobpaa
open Go.ChangeShapes Go.WideShapes Go.ChangeAt Go.RowKit Go.Deep

section
variable {H : Type} {enc : TypeId × Value → H} {w : World} {base : Nat} {spare : Nat → Bool} {held : Bool}
theorem read_dd {n : Nat} {cs : List Value} {x : DataW H × List MemPlace} (h : DataW.trod enc Try.prog w base spare held n 28 cs = some x) : ∃ y : Value × Dd, cs = ddC y ∧ RdB w y.1 y.2.t := by
  obtain ⟨hl, hr⟩ := read_fields (k := 4) Try.underlying28 (by kernel_rfl) (by kernel_rfl) h
  match cs, hl with
  | [a, b, c, d], _ =>
    obtain ⟨m, y, hy⟩ := hr 0 (by simp) _ rfl
    obtain ⟨z0, h0, -⟩ := read_int Try.underlying25 hy
    obtain ⟨m, y, hy⟩ := hr 1 (by simp) _ rfl
    obtain ⟨t, ht⟩ := arg_bytes Try.underlying26 Try.underlying5 (by kernel_rfl) hy
    obtain ⟨m, y, hy⟩ := hr 2 (by simp) _ rfl
    obtain ⟨z2, h2, -⟩ := read_int Try.underlying3 hy
    obtain ⟨m, y, hy⟩ := hr 3 (by simp) _ rfl
    obtain ⟨z3, h3, -⟩ := read_int Try.underlying3 hy
    simp only [List.getElem_cons_zero, List.getElem_cons_succ] at h0 h2 h3 ht
    exact ⟨(b, ⟨z0, t, z2, z3⟩), by rw [h0, h2, h3]; rfl, ht⟩
theorem arg_ds {fuel : Nat} {v : Value} {x : DataW H × List MemPlace} (h : DataW.trod enc Try.prog w base spare held fuel 22 [v] = some x) : ∃ l : List Dd, Ds w v l := by
  obtain ⟨tv, h1, h2⟩ := arg_of (k := 4) ddC (fun y => RdB w y.1 y.2.t) (by decide) ddC_len Try.underlying22 (by kernel_rfl) (fun n cs x h => read_dd h) h
  exact ⟨tv.map (·.2), tv, rfl, h1, h2⟩
theorem arg_deed {b0 : Nat} {r : Reach} {v : Value} {d : DataW H} {ps : List MemPlace} (hv : Value.okWide Try.prog w r b0 28 v) (h : DataW.Trod enc Try.prog w base spare held 28 v d ps) : ∃ (dv : Value) (x : Dd), v = .agg #[.int .i64 x.kind, dv, .int .i64 x.rows, .int .i64 x.cols] ∧ RdB w dv x.t := by
  obtain ⟨cs, rfl, _⟩ := okWide_struct Try.underlying28 hv
  obtain ⟨fuel, hf⟩ := h
  obtain ⟨y, hy, hd⟩ := read_dd hf
  refine ⟨y.1, y.2, ?_, hd⟩
  have : cs.toList = _ := hy
  rw [show cs = cs.toList.toArray from by simp, this]; rfl
theorem arg_stream {b0 : Nat} {r : Reach} {v : Value} {d : DataW H} {ps : List MemPlace} (hv : Value.okWide Try.prog w r b0 24 v) (h : DataW.Trod enc Try.prog w base spare held 24 v d ps) : ∃ (b : Int) (sv : Value) (l : List Dd), v = .agg #[.int .i64 b, sv] ∧ Ds w sv l ∧ -9223372036854775808 ≤ b ∧ b ≤ 9223372036854775807 := by
  obtain ⟨cs, rfl, _⟩ := okWide_struct Try.underlying24 hv
  obtain ⟨fuel, hf0⟩ := h
  have hf : DataW.trod enc Try.prog w base spare held fuel 24 cs.toList = some (d, ps) := hf0
  obtain ⟨hl, hr⟩ := read_fields (k := 2) Try.underlying24 (by kernel_rfl) (by kernel_rfl) hf
  have hcs : cs = cs.toList.toArray := by simp
  obtain ⟨l, e⟩ : ∃ l, l = cs.toList := ⟨_, rfl⟩
  have hf' := hf
  rw [← e] at hcs
  have hl' : l.length = 2 := by rw [e]; exact hl
  match l, hl' with
  | [a, b], _ =>
    have hg : ∀ j (hj : j < 2), cs.toList[j]'(by rw [← e]; simpa using hj) = [a, b][j]'(by simpa using hj) := fun j hj => by simp [← e]
    obtain ⟨m, y, hy⟩ := hr 0 (by rw [← e]; simp) _ rfl
    rw [hg 0 (by omega)] at hy
    obtain ⟨z0, h0, hb1, hb2⟩ := read_int Try.underlying3 hy
    obtain ⟨m, y, hy⟩ := hr 1 (by rw [← e]; simp) _ rfl
    rw [hg 1 (by omega)] at hy
    obtain ⟨q, hq⟩ := arg_ds hy
    simp only [List.getElem_cons_zero, List.getElem_cons_succ] at h0 hq
    exact ⟨z0, b, q, by rw [hcs, h0], hq, hb1, hb2⟩
end
end Go.Proofs.Ytcbllkkbpjobpaa
