/- Arguments that are packets that go. Conditions stand in the statements. -/
import Derived.Test.YtgcjbbliaelkcaaLkJ2
set_option linter.unusedSimpArgs false
set_option linter.unusedVariables false
set_option linter.constructorNameAsVariable false
namespace Go.Proofs.Ytgcjbbliaelkcaa
open Go.RowKit Go.ChangeShapes Go.WideShapes Go.ChangeAt Go.Deep

structure WayD where
  up : Bool
  t : List UInt8
  go : Int
  takes : Int
  wh : Int
def wayC (y : Value × WayD) : List Value := [.bool y.2.up, y.1, .int .i64 y.2.go, .int .i64 y.2.takes, .int .i64 y.2.wh]
def WayIn (w : World) (y : Value × WayD) : Prop := RdB w y.1 y.2.t
theorem wayC_len (y : Value × WayD) : (wayC y).length = 5 := rfl
section
variable {H : Type} {enc : TypeId × Value → H} {w : World} {base : Nat} {spare : Nat → Bool} {held : Bool}
set_option maxRecDepth 100000 in
theorem read_way {n : Nat} {cs : List Value} {x : DataW H × List MemPlace} (h : DataW.trod enc Try.prog w base spare held n 73 cs = some x) : ∃ y : Value × WayD, cs = wayC y ∧ WayIn w y := by
  obtain ⟨hl, hr⟩ := read_fields (k := 5) Try.underlying73 (by kernel_rfl) (by kernel_rfl) h
  match cs, hl with
  | [a, b, c, d, e], _ =>
    obtain ⟨m, y, hy⟩ := hr 0 (by simp) _ rfl
    obtain ⟨z0, h0⟩ := read_bool Try.underlying4 hy
    obtain ⟨m, y, hy⟩ := hr 1 (by simp) _ rfl
    obtain ⟨t, ht⟩ := arg_bytes Try.underlying32 Try.underlying5 (by kernel_rfl) hy
    obtain ⟨m, y, hy⟩ := hr 2 (by simp) _ rfl
    obtain ⟨z2, h2, -⟩ := read_int Try.underlying3 hy
    obtain ⟨m, y, hy⟩ := hr 3 (by simp) _ rfl
    obtain ⟨z3, h3, -⟩ := read_int Try.underlying3 hy
    obtain ⟨m, y, hy⟩ := hr 4 (by simp) _ rfl
    obtain ⟨z4, h4, -⟩ := read_int Try.underlying3 hy
    simp only [List.getElem_cons_zero, List.getElem_cons_succ] at h0 h2 h3 h4 ht
    exact ⟨(b, ⟨z0, t, z2, z3, z4⟩), by rw [h0, h2, h3, h4]; rfl, ht⟩
end
end Go.Proofs.Ytgcjbbliaelkcaa
