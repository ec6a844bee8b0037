/-
  No cell of these rows narrows 'for every input' (looked for: loops, veiled, ifaces, maps, wideKeys, modest, calm, conditions, laid).
  DERIVED. THE GIVEN ROWS OF THIS SEAT. 5 by the template 'for every input the law returns true; each argument reads behind the call as it read before'; 0 by the template 'total and deterministic' (their statements: YtgcjbbliaelkcaaTotals.lean).
  GIVEN WITH THE SEED: the statements are not yours to turn. If you find one false, say at which input.
  Laid BY PROGRAM, IN A SANDBOX (cutbox-rows.mjs): the forced cells as the released guide's own fill.sh prints them over the translation 6057911ac842d68f… (all of the seat's roots in one cut). By AI agents, Wed Nov 11 2026. No macro, syntax, notation, axiom, sorry.
-/
import Derived.Test.YtgcjbbliaelkcaaChecked
import GoSem.Claim
import GoSem.ClaimJoined
import GoSem.ClaimMapViews
import Derived.JoinedTies
import Derived.KernelRfl
namespace Go.Proofs.Ytgcjbbliaelkcaa
/- THE CELL 'sum', in the pinned program and in every row, IS THE sha256 OF THE DUMP (.gsa) THAT YtgcjbbliaelkcaaProg.lean LOADS. Nothing in Lean hashes anything: it is a label: what it is worth is what the hold of that sum in a sandbox is worth. -/
noncomputable def Try.pinned : Pinned := { name := "ytgcjbbliaelkcaa", sum := "6057911ac842d68fbff3695888252f844c2c7a8cde5ed853006a0e05a24b9e7b", checked := Try.checked }
namespace Rows
def none {H : Type} : Left H := { results := [], args := [] }

/-- 'oriellaw09.LinkSpent': WHATEVER THE INPUT: true; the input reads as it did. -/
def linkSpentSpec : ChangeSpec := { name := "linkSpent", fn := fun _ => fun
  | [d1, d2] => { results := [.lit (.bool true)], args := [d1, d2] }
  | _ => none }
def linkSpentRow : OpenClaim := { program := "ytgcjbbliaelkcaa", sum := "6057911ac842d68fbff3695888252f844c2c7a8cde5ed853006a0e05a24b9e7b", func := "oriel/oriellaw09.LinkSpent", spec := "linkSpent", unfollowed := true, recurses := true, apart := false }
def LinkSpentSaid : Prop := linkSpentRow.holds Try.pinned (OpenSpec.ofChange linkSpentSpec)

/-- ITS FALSE NEIGHBOUR: 'it returns false'. Refute it at one input. -/
def linkSpentWrong : ChangeSpec := { name := "linkSpent", fn := fun _ => fun
  | [d1, d2] => { results := [.lit (.bool false)], args := [d1, d2] }
  | _ => none }
def LinkSpentWrongFalsely : Prop := linkSpentRow.holds Try.pinned (OpenSpec.ofChange linkSpentWrong)

/-- 'oriellaw09.LinkCounts': WHATEVER THE INPUT: true; the input reads as it did. -/
def linkCountsSpec : ChangeSpec := { name := "linkCounts", fn := fun _ => fun
  | [d1, d2, d3, d4, d5] => { results := [.lit (.bool true)], args := [d1, d2, d3, d4, d5] }
  | _ => none }
def linkCountsRow : OpenClaim := { program := "ytgcjbbliaelkcaa", sum := "6057911ac842d68fbff3695888252f844c2c7a8cde5ed853006a0e05a24b9e7b", func := "oriel/oriellaw09.LinkCounts", spec := "linkCounts", unfollowed := true, recurses := true, apart := false }
def LinkCountsSaid : Prop := linkCountsRow.holds Try.pinned (OpenSpec.ofChange linkCountsSpec)

/-- ITS FALSE NEIGHBOUR: 'it returns false'. Refute it at one input. -/
def linkCountsWrong : ChangeSpec := { name := "linkCounts", fn := fun _ => fun
  | [d1, d2, d3, d4, d5] => { results := [.lit (.bool false)], args := [d1, d2, d3, d4, d5] }
  | _ => none }
def LinkCountsWrongFalsely : Prop := linkCountsRow.holds Try.pinned (OpenSpec.ofChange linkCountsWrong)

/-- 'oriellaw09.LinkPlays': WHATEVER THE INPUT: true; the input reads as it did. -/
def linkPlaysSpec : ChangeSpec := { name := "linkPlays", fn := fun _ => fun
  | [d1, d2, d3, d4, d5] => { results := [.lit (.bool true)], args := [d1, d2, d3, d4, d5] }
  | _ => none }
def linkPlaysRow : OpenClaim := { program := "ytgcjbbliaelkcaa", sum := "6057911ac842d68fbff3695888252f844c2c7a8cde5ed853006a0e05a24b9e7b", func := "oriel/oriellaw09.LinkPlays", spec := "linkPlays", unfollowed := true, recurses := true, apart := false }
def LinkPlaysSaid : Prop := linkPlaysRow.holds Try.pinned (OpenSpec.ofChange linkPlaysSpec)

/-- ITS FALSE NEIGHBOUR: 'it returns false'. Refute it at one input. -/
def linkPlaysWrong : ChangeSpec := { name := "linkPlays", fn := fun _ => fun
  | [d1, d2, d3, d4, d5] => { results := [.lit (.bool false)], args := [d1, d2, d3, d4, d5] }
  | _ => none }
def LinkPlaysWrongFalsely : Prop := linkPlaysRow.holds Try.pinned (OpenSpec.ofChange linkPlaysWrong)

/-- 'oriellaw09.LinkNone': WHATEVER THE INPUT: true; the input reads as it did. -/
def linkNoneSpec : ChangeSpec := { name := "linkNone", fn := fun _ => fun
  | [d] => { results := [.lit (.bool true)], args := [d] }
  | _ => none }
def linkNoneRow : OpenClaim := { program := "ytgcjbbliaelkcaa", sum := "6057911ac842d68fbff3695888252f844c2c7a8cde5ed853006a0e05a24b9e7b", func := "oriel/oriellaw09.LinkNone", spec := "linkNone", unfollowed := true, recurses := true, apart := false }
def LinkNoneSaid : Prop := linkNoneRow.holds Try.pinned (OpenSpec.ofChange linkNoneSpec)

/-- ITS FALSE NEIGHBOUR: 'it returns false'. Refute it at one input. -/
def linkNoneWrong : ChangeSpec := { name := "linkNone", fn := fun _ => fun
  | [d] => { results := [.lit (.bool false)], args := [d] }
  | _ => none }
def LinkNoneWrongFalsely : Prop := linkNoneRow.holds Try.pinned (OpenSpec.ofChange linkNoneWrong)

/-- 'oriellaw09.LinkThrough': WHATEVER THE INPUT: true; the input reads as it did. -/
def linkThroughSpec : ChangeSpec := { name := "linkThrough", fn := fun _ => fun
  | [d1, d2] => { results := [.lit (.bool true)], args := [d1, d2] }
  | _ => none }
def linkThroughRow : OpenClaim := { program := "ytgcjbbliaelkcaa", sum := "6057911ac842d68fbff3695888252f844c2c7a8cde5ed853006a0e05a24b9e7b", func := "oriel/oriellaw09.LinkThrough", spec := "linkThrough", unfollowed := true, recurses := true, apart := false }
def LinkThroughSaid : Prop := linkThroughRow.holds Try.pinned (OpenSpec.ofChange linkThroughSpec)

/-- ITS FALSE NEIGHBOUR: 'it returns false'. Refute it at one input. -/
def linkThroughWrong : ChangeSpec := { name := "linkThrough", fn := fun _ => fun
  | [d1, d2] => { results := [.lit (.bool false)], args := [d1, d2] }
  | _ => none }
def LinkThroughWrongFalsely : Prop := linkThroughRow.holds Try.pinned (OpenSpec.ofChange linkThroughWrong)

/- THE SECOND FORM. 'bulk': how many values and letters a reading holds, each counted each time it is reached (what is shared counts as often as it is met; a slice's spare places count too). A statement '..UptoSaid' is the law's where the arguments, and the package variables that the reading takes, are together of bulk at most 1048576: NARROWER than '..Said'. Prove '..Said' where nothing that the law and all that it calls make is longer than what came in: it says more and counts as full. Else prove '..UptoSaid'. A law counts once. -/
mutual
def uptoBulk {H : Type} : DataW H → Nat
  | .lit (.string bytes) => bytes.length + 1
  | .lit _ => 1
  | .nil => 1
  | .ptr d => uptoBulk d + 1
  | .slice elems spare => uptoBulkAll elems + uptoBulkAll spare + 1
  | .agg parts => uptoBulkAll parts + 1
  | .iface _ d => uptoBulk d + 1
  | .map entries => uptoBulkEntries entries + 1
  | .held _ => 1
def uptoBulkAll {H : Type} : List (DataW H) → Nat
  | [] => 0
  | d :: r => uptoBulk d + uptoBulkAll r
def uptoBulkEntries {H : Type} : List (Lit × DataW H) → Nat
  | [] => 0
  | x :: r => uptoBulkEntry x + uptoBulkEntries r
def uptoBulkEntry {H : Type} : Lit × DataW H → Nat
  | (.string bytes, d) => bytes.length + uptoBulk d + 1
  | (_, d) => uptoBulk d + 1
 end
def uptoSmall : (H : Type) → List (DataW H) → Bool := fun _ ds => decide (uptoBulkAll ds ≤ 1048576)
def OpenSpec.upto (s : _root_.Go.ChangeSpec) : _root_.Go.OpenSpec := { _root_.Go.OpenSpec.ofChange s with cond := some uptoSmall }

/-- 'oriellaw09.LinkSpent', WHERE WHAT IT READS IS OF BULK AT MOST 1048576: true; the input reads as it did. -/
def linkSpentUptoRow : OpenClaim := { program := "ytgcjbbliaelkcaa", sum := "6057911ac842d68fbff3695888252f844c2c7a8cde5ed853006a0e05a24b9e7b", func := "oriel/oriellaw09.LinkSpent", spec := "linkSpent", unfollowed := true, recurses := true, apart := false, narrowed := true }
def LinkSpentUptoSaid : Prop := linkSpentUptoRow.holds Try.pinned (OpenSpec.upto linkSpentSpec)

/-- 'oriellaw09.LinkCounts', WHERE WHAT IT READS IS OF BULK AT MOST 1048576: true; the input reads as it did. -/
def linkCountsUptoRow : OpenClaim := { program := "ytgcjbbliaelkcaa", sum := "6057911ac842d68fbff3695888252f844c2c7a8cde5ed853006a0e05a24b9e7b", func := "oriel/oriellaw09.LinkCounts", spec := "linkCounts", unfollowed := true, recurses := true, apart := false, narrowed := true }
def LinkCountsUptoSaid : Prop := linkCountsUptoRow.holds Try.pinned (OpenSpec.upto linkCountsSpec)

/-- 'oriellaw09.LinkPlays', WHERE WHAT IT READS IS OF BULK AT MOST 1048576: true; the input reads as it did. -/
def linkPlaysUptoRow : OpenClaim := { program := "ytgcjbbliaelkcaa", sum := "6057911ac842d68fbff3695888252f844c2c7a8cde5ed853006a0e05a24b9e7b", func := "oriel/oriellaw09.LinkPlays", spec := "linkPlays", unfollowed := true, recurses := true, apart := false, narrowed := true }
def LinkPlaysUptoSaid : Prop := linkPlaysUptoRow.holds Try.pinned (OpenSpec.upto linkPlaysSpec)

/-- 'oriellaw09.LinkNone', WHERE WHAT IT READS IS OF BULK AT MOST 1048576: true; the input reads as it did. -/
def linkNoneUptoRow : OpenClaim := { program := "ytgcjbbliaelkcaa", sum := "6057911ac842d68fbff3695888252f844c2c7a8cde5ed853006a0e05a24b9e7b", func := "oriel/oriellaw09.LinkNone", spec := "linkNone", unfollowed := true, recurses := true, apart := false, narrowed := true }
def LinkNoneUptoSaid : Prop := linkNoneUptoRow.holds Try.pinned (OpenSpec.upto linkNoneSpec)

/-- 'oriellaw09.LinkThrough', WHERE WHAT IT READS IS OF BULK AT MOST 1048576: true; the input reads as it did. -/
def linkThroughUptoRow : OpenClaim := { program := "ytgcjbbliaelkcaa", sum := "6057911ac842d68fbff3695888252f844c2c7a8cde5ed853006a0e05a24b9e7b", func := "oriel/oriellaw09.LinkThrough", spec := "linkThrough", unfollowed := true, recurses := true, apart := false, narrowed := true }
def LinkThroughUptoSaid : Prop := linkThroughUptoRow.holds Try.pinned (OpenSpec.upto linkThroughSpec)

end Rows
end Go.Proofs.Ytgcjbbliaelkcaa
