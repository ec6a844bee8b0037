/-
  No cell of these rows narrows 'for every input' (looked for: loops, veiled, ifaces, maps, wideKeys, modest, calm, conditions, laid).
  DERIVED. THE GIVEN ROWS OF THIS SEAT. 5 by the template 'for every input the law returns true; each argument reads behind the call as it read before'; 0 by the template 'total and deterministic' (their statements: YtcbllkkbpjobpaaTotals.lean).
  GIVEN WITH THE SEED: the statements are not yours to turn. If you find one false, say at which input.
  Laid BY PROGRAM, IN A SANDBOX (cutbox-rows.mjs): the forced cells as the released guide's own fill.sh prints them over the translation c9d59fb4c633579a… (all of the seat's roots in one cut). By AI agents, Wed Nov 11 2026. No macro, syntax, notation, axiom, sorry.
-/
import Derived.Test.YtcbllkkbpjobpaaChecked
import GoSem.Claim
import GoSem.ClaimJoined
import GoSem.ClaimMapViews
import Derived.JoinedTies
import Derived.KernelRfl
namespace Go.Proofs.Ytcbllkkbpjobpaa
/- THE CELL 'sum', in the pinned program and in every row, IS THE sha256 OF THE DUMP (.gsa) THAT YtcbllkkbpjobpaaProg.lean LOADS. Nothing in Lean hashes anything: it is a label: what it is worth is what the hold of that sum in a sandbox is worth. -/
noncomputable def Try.pinned : Pinned := { name := "ytcbllkkbpjobpaa", sum := "c9d59fb4c633579a32a4a79b0512752cdbde76f65570d72be19abb7793caa39c", checked := Try.checked }
namespace Rows
def none {H : Type} : Left H := { results := [], args := [] }

/-- 'oriellaw21.InputEdits': WHATEVER THE INPUT: true; the input reads as it did. -/
def inputEditsSpec : ChangeSpec := { name := "inputEdits", fn := fun _ => fun
  | [d1, d2, d3] => { results := [.lit (.bool true)], args := [d1, d2, d3] }
  | _ => none }
def inputEditsRow : OpenClaim := { program := "ytcbllkkbpjobpaa", sum := "c9d59fb4c633579a32a4a79b0512752cdbde76f65570d72be19abb7793caa39c", func := "oriel/oriellaw21.InputEdits", spec := "inputEdits", unfollowed := true, recurses := true, apart := false }
def InputEditsSaid : Prop := inputEditsRow.holds Try.pinned (OpenSpec.ofChange inputEditsSpec)

/-- ITS FALSE NEIGHBOUR: 'it returns false'. Refute it at one input. -/
def inputEditsWrong : ChangeSpec := { name := "inputEdits", fn := fun _ => fun
  | [d1, d2, d3] => { results := [.lit (.bool false)], args := [d1, d2, d3] }
  | _ => none }
def InputEditsWrongFalsely : Prop := inputEditsRow.holds Try.pinned (OpenSpec.ofChange inputEditsWrong)

/-- 'oriellaw21.InputSteps': WHATEVER THE INPUT: true; the input reads as it did. -/
def inputStepsSpec : ChangeSpec := { name := "inputSteps", fn := fun _ => fun
  | [d1, d2, d3] => { results := [.lit (.bool true)], args := [d1, d2, d3] }
  | _ => none }
def inputStepsRow : OpenClaim := { program := "ytcbllkkbpjobpaa", sum := "c9d59fb4c633579a32a4a79b0512752cdbde76f65570d72be19abb7793caa39c", func := "oriel/oriellaw21.InputSteps", spec := "inputSteps", unfollowed := true, recurses := true, apart := false }
def InputStepsSaid : Prop := inputStepsRow.holds Try.pinned (OpenSpec.ofChange inputStepsSpec)

/-- ITS FALSE NEIGHBOUR: 'it returns false'. Refute it at one input. -/
def inputStepsWrong : ChangeSpec := { name := "inputSteps", fn := fun _ => fun
  | [d1, d2, d3] => { results := [.lit (.bool false)], args := [d1, d2, d3] }
  | _ => none }
def InputStepsWrongFalsely : Prop := inputStepsRow.holds Try.pinned (OpenSpec.ofChange inputStepsWrong)

/-- 'oriellaw21.InputFollows': WHATEVER THE INPUT: true; the input reads as it did. -/
def inputFollowsSpec : ChangeSpec := { name := "inputFollows", fn := fun _ => fun
  | [d1, d2] => { results := [.lit (.bool true)], args := [d1, d2] }
  | _ => none }
def inputFollowsRow : OpenClaim := { program := "ytcbllkkbpjobpaa", sum := "c9d59fb4c633579a32a4a79b0512752cdbde76f65570d72be19abb7793caa39c", func := "oriel/oriellaw21.InputFollows", spec := "inputFollows", unfollowed := true, recurses := true, apart := false }
def InputFollowsSaid : Prop := inputFollowsRow.holds Try.pinned (OpenSpec.ofChange inputFollowsSpec)

/-- ITS FALSE NEIGHBOUR: 'it returns false'. Refute it at one input. -/
def inputFollowsWrong : ChangeSpec := { name := "inputFollows", fn := fun _ => fun
  | [d1, d2] => { results := [.lit (.bool false)], args := [d1, d2] }
  | _ => none }
def InputFollowsWrongFalsely : Prop := inputFollowsRow.holds Try.pinned (OpenSpec.ofChange inputFollowsWrong)

/-- 'oriellaw21.InputMay': WHATEVER THE INPUT: true; the input reads as it did. -/
def inputMaySpec : ChangeSpec := { name := "inputMay", fn := fun _ => fun
  | [d1, d2] => { results := [.lit (.bool true)], args := [d1, d2] }
  | _ => none }
def inputMayRow : OpenClaim := { program := "ytcbllkkbpjobpaa", sum := "c9d59fb4c633579a32a4a79b0512752cdbde76f65570d72be19abb7793caa39c", func := "oriel/oriellaw21.InputMay", spec := "inputMay", unfollowed := true, recurses := true, apart := false }
def InputMaySaid : Prop := inputMayRow.holds Try.pinned (OpenSpec.ofChange inputMaySpec)

/-- ITS FALSE NEIGHBOUR: 'it returns false'. Refute it at one input. -/
def inputMayWrong : ChangeSpec := { name := "inputMay", fn := fun _ => fun
  | [d1, d2] => { results := [.lit (.bool false)], args := [d1, d2] }
  | _ => none }
def InputMayWrongFalsely : Prop := inputMayRow.holds Try.pinned (OpenSpec.ofChange inputMayWrong)

/-- 'oriellaw21.InputTwice': WHATEVER THE INPUT: true; the input reads as it did. -/
def inputTwiceSpec : ChangeSpec := { name := "inputTwice", fn := fun _ => fun
  | [d1, d2, d3] => { results := [.lit (.bool true)], args := [d1, d2, d3] }
  | _ => none }
def inputTwiceRow : OpenClaim := { program := "ytcbllkkbpjobpaa", sum := "c9d59fb4c633579a32a4a79b0512752cdbde76f65570d72be19abb7793caa39c", func := "oriel/oriellaw21.InputTwice", spec := "inputTwice", unfollowed := true, recurses := true, apart := false }
def InputTwiceSaid : Prop := inputTwiceRow.holds Try.pinned (OpenSpec.ofChange inputTwiceSpec)

/-- ITS FALSE NEIGHBOUR: 'it returns false'. Refute it at one input. -/
def inputTwiceWrong : ChangeSpec := { name := "inputTwice", fn := fun _ => fun
  | [d1, d2, d3] => { results := [.lit (.bool false)], args := [d1, d2, d3] }
  | _ => none }
def InputTwiceWrongFalsely : Prop := inputTwiceRow.holds Try.pinned (OpenSpec.ofChange inputTwiceWrong)

/- THE SECOND FORM. 'bulk': how many values and letters a reading holds, each counted each time it is reached (what is shared counts as often as it is met; a slice's spare places count too). A statement '..UptoSaid' is the law's where the arguments, and the package variables that the reading takes, are together of bulk at most 1048576: NARROWER than '..Said'. Prove '..Said' where nothing that the law and all that it calls make is longer than what came in: it says more and counts as full. Else prove '..UptoSaid'. A law counts once. -/
mutual
def uptoBulk {H : Type} : DataW H → Nat
  | .lit (.string bytes) => bytes.length + 1
  | .lit _ => 1
  | .nil => 1
  | .ptr d => uptoBulk d + 1
  | .slice elems spare => uptoBulkAll elems + uptoBulkAll spare + 1
  | .agg parts => uptoBulkAll parts + 1
  | .iface _ d => uptoBulk d + 1
  | .map entries => uptoBulkEntries entries + 1
  | .held _ => 1
def uptoBulkAll {H : Type} : List (DataW H) → Nat
  | [] => 0
  | d :: r => uptoBulk d + uptoBulkAll r
def uptoBulkEntries {H : Type} : List (Lit × DataW H) → Nat
  | [] => 0
  | x :: r => uptoBulkEntry x + uptoBulkEntries r
def uptoBulkEntry {H : Type} : Lit × DataW H → Nat
  | (.string bytes, d) => bytes.length + uptoBulk d + 1
  | (_, d) => uptoBulk d + 1
 end
def uptoSmall : (H : Type) → List (DataW H) → Bool := fun _ ds => decide (uptoBulkAll ds ≤ 1048576)
def OpenSpec.upto (s : _root_.Go.ChangeSpec) : _root_.Go.OpenSpec := { _root_.Go.OpenSpec.ofChange s with cond := some uptoSmall }

/-- 'oriellaw21.InputEdits', WHERE WHAT IT READS IS OF BULK AT MOST 1048576: true; the input reads as it did. -/
def inputEditsUptoRow : OpenClaim := { program := "ytcbllkkbpjobpaa", sum := "c9d59fb4c633579a32a4a79b0512752cdbde76f65570d72be19abb7793caa39c", func := "oriel/oriellaw21.InputEdits", spec := "inputEdits", unfollowed := true, recurses := true, apart := false, narrowed := true }
def InputEditsUptoSaid : Prop := inputEditsUptoRow.holds Try.pinned (OpenSpec.upto inputEditsSpec)

/-- 'oriellaw21.InputSteps', WHERE WHAT IT READS IS OF BULK AT MOST 1048576: true; the input reads as it did. -/
def inputStepsUptoRow : OpenClaim := { program := "ytcbllkkbpjobpaa", sum := "c9d59fb4c633579a32a4a79b0512752cdbde76f65570d72be19abb7793caa39c", func := "oriel/oriellaw21.InputSteps", spec := "inputSteps", unfollowed := true, recurses := true, apart := false, narrowed := true }
def InputStepsUptoSaid : Prop := inputStepsUptoRow.holds Try.pinned (OpenSpec.upto inputStepsSpec)

/-- 'oriellaw21.InputFollows', WHERE WHAT IT READS IS OF BULK AT MOST 1048576: true; the input reads as it did. -/
def inputFollowsUptoRow : OpenClaim := { program := "ytcbllkkbpjobpaa", sum := "c9d59fb4c633579a32a4a79b0512752cdbde76f65570d72be19abb7793caa39c", func := "oriel/oriellaw21.InputFollows", spec := "inputFollows", unfollowed := true, recurses := true, apart := false, narrowed := true }
def InputFollowsUptoSaid : Prop := inputFollowsUptoRow.holds Try.pinned (OpenSpec.upto inputFollowsSpec)

/-- 'oriellaw21.InputMay', WHERE WHAT IT READS IS OF BULK AT MOST 1048576: true; the input reads as it did. -/
def inputMayUptoRow : OpenClaim := { program := "ytcbllkkbpjobpaa", sum := "c9d59fb4c633579a32a4a79b0512752cdbde76f65570d72be19abb7793caa39c", func := "oriel/oriellaw21.InputMay", spec := "inputMay", unfollowed := true, recurses := true, apart := false, narrowed := true }
def InputMayUptoSaid : Prop := inputMayUptoRow.holds Try.pinned (OpenSpec.upto inputMaySpec)

/-- 'oriellaw21.InputTwice', WHERE WHAT IT READS IS OF BULK AT MOST 1048576: true; the input reads as it did. -/
def inputTwiceUptoRow : OpenClaim := { program := "ytcbllkkbpjobpaa", sum := "c9d59fb4c633579a32a4a79b0512752cdbde76f65570d72be19abb7793caa39c", func := "oriel/oriellaw21.InputTwice", spec := "inputTwice", unfollowed := true, recurses := true, apart := false, narrowed := true }
def InputTwiceUptoSaid : Prop := inputTwiceUptoRow.holds Try.pinned (OpenSpec.upto inputTwiceSpec)

end Rows
end Go.Proofs.Ytcbllkkbpjobpaa
