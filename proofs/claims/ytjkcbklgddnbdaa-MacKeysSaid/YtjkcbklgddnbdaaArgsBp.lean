/- Arguments that are slices of byte slices. Conditions stand in the statements. -/
import Derived.Test.YtjkcbklgddnbdaaArgsOf
namespace Go.Proofs.Ytjkcbklgddnbdaa
open Go.ChangeShapes Go.WideShapes Go.ChangeAt Go.RowKit Go.Deep

/-- A byte slice and what it reads as. -/
def bpC (y : Value × List UInt8) : List Value := [y.1]
theorem bpC_len (y : Value × List UInt8) : (bpC y).length = 1 := rfl
def BpIn (w : World) (y : Value × List UInt8) : Prop := RdB w y.1 y.2
theorem flat_bp (l : List (Value × List UInt8)) : flat bpC l = l.map (·.1) := by
  induction l with
  | nil => rfl
  | cons x r ih => simp only [flat, List.flatMap_cons, bpC, List.map_cons] at ih ⊢; rw [ih]; rfl
theorem flat_bp_at (l : List (Value × List UInt8)) (i : Nat) (h : i < l.length) : (flat bpC l)[i]? = some l[i].1 := by rw [flat_bp]; simp [h]
section
variable {P : Program} {H : Type} {enc : TypeId × Value → H} {w : World} {base : Nat} {spare : Nat → Bool} {held : Bool}
theorem read_bp {t e : TypeId} {fuel : Nat} {cs : List Value} {x : DataW H × List MemPlace} (ht : P.underlying t = some (.slice e)) (he : P.underlying e = some (.int .u8)) (hc : P.cellsOf e = 1)
    (h : DataW.trod enc P w base spare held fuel t cs = some x) : ∃ y : Value × List UInt8, cs = bpC y ∧ BpIn w y := by
  have hf : ∃ v, cs = [v] := by
    rcases open_slice ht h with ⟨hcs, _⟩ | ⟨a, len, cap, m, n, D, Pl, hcs, _⟩
    · exact ⟨_, hcs⟩
    · exact ⟨_, hcs⟩
  obtain ⟨v, rfl⟩ := hf
  obtain ⟨d, hd⟩ := arg_bytes ht he hc h
  exact ⟨(v, d), rfl, hd⟩
end
end Go.Proofs.Ytjkcbklgddnbdaa
