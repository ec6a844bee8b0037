/- Arguments that are things done with a link. Conditions stand in the statements. -/
import Derived.Test.YtgcjbbliaelkcaaLkJ2
set_option linter.unusedSimpArgs false
set_option linter.unusedVariables false
set_option linter.constructorNameAsVariable false
namespace Go.Proofs.Ytgcjbbliaelkcaa
open Go.RowKit Go.ChangeShapes Go.WideShapes Go.ChangeAt

/-- A thing done with a link: kind, number, time, address, nonce, bytes. -/
structure Lop where
  kind : Int
  num : Int
  now : Int
  frm : Int
  dn : Bool
  n : Nat
  b : List UInt8
def lopC (y : Value × Lop) : List Value := [.int .i64 y.2.kind, .int .i64 y.2.num, .int .i64 y.2.now, .int .i64 y.2.frm, .bool y.2.dn, .int .u64 (y.2.n : Int), y.1]
def i64R (x : Int) : Prop := -9223372036854775808 ≤ x ∧ x ≤ 9223372036854775807
def LopIn (w : World) (y : Value × Lop) : Prop := RdB w y.1 y.2.b ∧ y.2.n < 18446744073709551616 ∧ i64R y.2.kind ∧ i64R y.2.num ∧ i64R y.2.now ∧ i64R y.2.frm
theorem lopC_len (y : Value × Lop) : (lopC y).length = 7 := rfl
section
variable {H : Type} {enc : TypeId × Value → H} {w : World} {base : Nat} {spare : Nat → Bool} {held : Bool}
set_option maxRecDepth 100000 in
theorem read_lop {n : Nat} {cs : List Value} {x : DataW H × List MemPlace} (h : DataW.trod enc Try.prog w base spare held n 53 cs = some x) : ∃ y : Value × Lop, cs = lopC y ∧ LopIn w y := by
  obtain ⟨xs, m, -, -, hl, hxl, hf⟩ := DataW.trod_struct Try.underlying53 h
  have hl7 : cs.length = 7 := hl.trans (by kernel_rfl)
  have hxl6 : xs.length = 6 := hxl
  match cs, hl7, xs, hxl6 with
  | [a, b, c, d, e, f, g], _, [x0, x1, x2, x3, x4, x5], _ =>
    have h0 : DataW.trod enc Try.prog w base spare held m 3 [a] = some x0 := hf 0 _ rfl
    have h1 : DataW.trod enc Try.prog w base spare held m 3 [b] = some x1 := hf 1 _ rfl
    have h2 : DataW.trod enc Try.prog w base spare held m 3 [c] = some x2 := hf 2 _ rfl
    have h3 : DataW.trod enc Try.prog w base spare held m 3 [d] = some x3 := hf 3 _ rfl
    have h4 : DataW.trod enc Try.prog w base spare held m 41 [e, f] = some x4 := hf 4 _ rfl
    have h5 : DataW.trod enc Try.prog w base spare held m 32 [g] = some x5 := hf 5 _ rfl
    obtain ⟨z0, e0, p0⟩ := read_int Try.underlying3 h0
    obtain ⟨z1, e1, p1⟩ := read_int Try.underlying3 h1
    obtain ⟨z2, e2, p2⟩ := read_int Try.underlying3 h2
    obtain ⟨z3, e3, p3⟩ := read_int Try.underlying3 h3
    obtain ⟨y0, y1, k, -, -, g0, g1⟩ := trod_struct2 Try.underlying41 h4
    have g0' : DataW.trod enc Try.prog w base spare held k 4 [e] = some y0 := g0
    have g1' : DataW.trod enc Try.prog w base spare held k 31 [f] = some y1 := g1
    obtain ⟨z4, e4⟩ := read_bool Try.underlying4 g0'
    obtain ⟨q, hq, _, hw⟩ := DataW.trod_int Try.underlying31 g1'
    obtain ⟨nn, rfl, hn⟩ := lit_u64 hw
    obtain ⟨t, ht⟩ := arg_bytes Try.underlying32 Try.underlying5 (by kernel_rfl) h5
    simp only [List.cons.injEq, and_true] at hq
    exact ⟨(g, ⟨z0, z1, z2, z3, z4, nn, t⟩), by rw [e0, e1, e2, e3, e4, hq]; rfl, ht, hn, p0, p1, p2, p3⟩
set_option maxRecDepth 100000 in
theorem arg_lop {b0 : Nat} {r : Reach} {v : Value} {d : DataW H} {ps : List MemPlace} (hv : Value.okWide Try.prog w r b0 53 v) (h : DataW.Trod enc Try.prog w base spare held 53 v d ps) : ∃ (bv : Value) (x : Lop), v = .agg (lopC (bv, x)).toArray ∧ LopIn w (bv, x) := by
  obtain ⟨cs, rfl, _⟩ := okWide_struct Try.underlying53 hv
  obtain ⟨fuel, hf⟩ := h
  obtain ⟨y, hy, hd⟩ := read_lop hf
  refine ⟨y.1, y.2, ?_, hd⟩
  have : cs.toList = _ := hy
  rw [show cs = cs.toList.toArray from by simp, this]
end
end Go.Proofs.Ytgcjbbliaelkcaa
