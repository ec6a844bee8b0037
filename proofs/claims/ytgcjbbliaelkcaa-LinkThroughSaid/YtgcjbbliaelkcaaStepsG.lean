/- Steps of a region that draws, guarded ones too. Conditions stand in the statements. -/
import Derived.Test.YtgcjbbliaelkcaaStepSl
namespace Go.Proofs.Ytgcjbbliaelkcaa
open Go.RowKit
variable {P : Program} {ops : Array Oper} {o : Oper} {a : Act} {w : World} {K : Act → World → Prop} {Q : Exit → Act → World → Prop}
/-- An operation whose guard, if any, holds comes up, written out. -/
theorem consG {md : Region.Mode} {S : World → Prop} {fuel : Nat} {listed : Array Bool} {i : Nat} {rs : List Nat} (ho : (ops.toList.drop i).head? = some o) (hw : Region.wanted o (yielded ops a.tmps) = true)
    (h : ∀ K' : Act → World → Prop, Shut (∀ a w, S w → wpAnyH P md ops Q S fuel (listed.setIfInBounds i true) a w → K' a w) → Oper.wp P o a w K' Q)
    (hs : AllReadyH P md ops Q S fuel listed a w rs) : AllReadyH P md ops Q S fuel listed a w (i :: rs) := by
  have ho' : ops[i]? = some o := by rw [← ho, List.head?_drop, Array.getElem?_toList]
  exact AllReadyH.cons ho' (fun K hK => stp hw (h K (fun a w hS hW => hK a w hS (fun _ => hW)))) hs
end Go.Proofs.Ytgcjbbliaelkcaa
