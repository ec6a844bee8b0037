/- Arguments that are slices of structs of a number and a byte slice. Conditions stand in the statements. -/
import Derived.Test.YtinajkhnfebgcaaArgsBp
import Derived.Test.YtinajkhnfebgcaaWLits
namespace Go.Proofs.Ytinajkhnfebgcaa
open Go.ChangeShapes Go.WideShapes Go.ChangeAt Go.RowKit Go.Deep

/-- A number, a byte slice and what it reads as. -/
def bopC (y : Int × Value × List UInt8) : List Value := [.int .i64 y.1, y.2.1]
theorem bopC_len (y : Int × Value × List UInt8) : (bopC y).length = 2 := rfl
def BopIn (w : World) (y : Int × Value × List UInt8) : Prop := RdB w y.2.1 y.2.2 ∧ -9223372036854775808 ≤ y.1 ∧ y.1 ≤ 9223372036854775807
section
variable {P : Program} {H : Type} {enc : TypeId × Value → H} {w : World} {base : Nat} {spare : Nat → Bool} {held : Bool}
theorem read_bop {t tb te : TypeId} {fs : Array Field} {n : Nat} {cs : List Value} {x : DataW H × List MemPlace} (he : P.underlying t = some (.struct fs)) (hone : oneCellFields P fs = true) (hC : P.cellsOf t = 2)
    (h0 : ∃ f, fs[0]? = some f ∧ P.underlying f.type = some (.int .i64)) (h1 : ∃ f, fs[1]? = some f ∧ f.type = tb) (ht : P.underlying tb = some (.slice te)) (hte : P.underlying te = some (.int .u8)) (hcb : P.cellsOf te = 1)
    (h : DataW.trod enc P w base spare held n t cs = some x) : ∃ y : Int × Value × List UInt8, cs = bopC y ∧ BopIn w y := by
  obtain ⟨hl, hr⟩ := read_fields he hone hC h
  match cs, hl with
  | [a, b], _ =>
    obtain ⟨f, hf, hu⟩ := h0
    obtain ⟨m, y, hy⟩ := hr 0 (by simp) f hf
    obtain ⟨z, hz, hz1, hz2⟩ := read_int hu hy
    obtain ⟨f, hf, hu⟩ := h1
    obtain ⟨m, y, hy⟩ := hr 1 (by simp) f hf
    rw [hu] at hy
    obtain ⟨d, hd⟩ := arg_bytes ht hte hcb hy
    simp only [List.getElem_cons_zero] at hz
    exact ⟨(z, b, d), by rw [hz]; rfl, hd, hz1, hz2⟩
end
end Go.Proofs.Ytinajkhnfebgcaa
