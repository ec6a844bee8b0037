/-
  No cell of these rows narrows 'for every input' (looked for: loops, veiled, ifaces, maps, wideKeys, modest, calm, conditions, laid).
  DERIVED. THE GIVEN ROWS OF THIS SEAT. 4 by the template 'for every input the law returns true; each argument reads behind the call as it read before'; 0 by the template 'total and deterministic' (their statements: YtbfamnfhnjgllaaTotals.lean).
  GIVEN WITH THE SEED: the statements are not yours to turn. If you find one false, say at which input.
  Laid BY PROGRAM, IN A SANDBOX (cutbox-rows.mjs): the forced cells as the released guide's own fill.sh prints them over the translation 0c810a0786930130… (all of the seat's roots in one cut). By AI agents, Wed Nov 11 2026. No macro, syntax, notation, axiom, sorry.
-/
import Derived.Test.YtbfamnfhnjgllaaChecked
import GoSem.Claim
import GoSem.ClaimJoined
import GoSem.ClaimMapViews
import Derived.JoinedTies
import Derived.KernelRfl
namespace Go.Proofs.Ytbfamnfhnjgllaa
/- THE CELL 'sum', in the pinned program and in every row, IS THE sha256 OF THE DUMP (.gsa) THAT YtbfamnfhnjgllaaProg.lean LOADS. Nothing in Lean hashes anything: it is a label: what it is worth is what the hold of that sum in a sandbox is worth. -/
noncomputable def Try.pinned : Pinned := { name := "ytbfamnfhnjgllaa", sum := "0c810a0786930130bc0f1d962896c21f1ab474bc992e53a1afcf9498f67018a6", checked := Try.checked }
namespace Rows
def none {H : Type} : Left H := { results := [], args := [] }

/-- 'oriellaw24.IntoStays': WHATEVER THE INPUT: true; the input reads as it did. -/
def intoStaysSpec : ChangeSpec := { name := "intoStays", fn := fun _ => fun
  | [d1, d2] => { results := [.lit (.bool true)], args := [d1, d2] }
  | _ => none }
def intoStaysRow : OpenClaim := { program := "ytbfamnfhnjgllaa", sum := "0c810a0786930130bc0f1d962896c21f1ab474bc992e53a1afcf9498f67018a6", func := "oriel/oriellaw24.IntoStays", spec := "intoStays", unfollowed := true, recurses := true, apart := false }
def IntoStaysSaid : Prop := intoStaysRow.holds Try.pinned (OpenSpec.ofChange intoStaysSpec)

/-- ITS FALSE NEIGHBOUR: 'it returns false'. Refute it at one input. -/
def intoStaysWrong : ChangeSpec := { name := "intoStays", fn := fun _ => fun
  | [d1, d2] => { results := [.lit (.bool false)], args := [d1, d2] }
  | _ => none }
def IntoStaysWrongFalsely : Prop := intoStaysRow.holds Try.pinned (OpenSpec.ofChange intoStaysWrong)

/-- 'oriellaw24.IntoPlays': WHATEVER THE INPUT: true; the input reads as it did. -/
def intoPlaysSpec : ChangeSpec := { name := "intoPlays", fn := fun _ => fun
  | [d1, d2, d3] => { results := [.lit (.bool true)], args := [d1, d2, d3] }
  | _ => none }
def intoPlaysRow : OpenClaim := { program := "ytbfamnfhnjgllaa", sum := "0c810a0786930130bc0f1d962896c21f1ab474bc992e53a1afcf9498f67018a6", func := "oriel/oriellaw24.IntoPlays", spec := "intoPlays", unfollowed := true, recurses := true, apart := false }
def IntoPlaysSaid : Prop := intoPlaysRow.holds Try.pinned (OpenSpec.ofChange intoPlaysSpec)

/-- ITS FALSE NEIGHBOUR: 'it returns false'. Refute it at one input. -/
def intoPlaysWrong : ChangeSpec := { name := "intoPlays", fn := fun _ => fun
  | [d1, d2, d3] => { results := [.lit (.bool false)], args := [d1, d2, d3] }
  | _ => none }
def IntoPlaysWrongFalsely : Prop := intoPlaysRow.holds Try.pinned (OpenSpec.ofChange intoPlaysWrong)

/-- 'oriellaw24.IntoNone': WHATEVER THE INPUT: true; the input reads as it did. -/
def intoNoneSpec : ChangeSpec := { name := "intoNone", fn := fun _ => fun
  | [d] => { results := [.lit (.bool true)], args := [d] }
  | _ => none }
def intoNoneRow : OpenClaim := { program := "ytbfamnfhnjgllaa", sum := "0c810a0786930130bc0f1d962896c21f1ab474bc992e53a1afcf9498f67018a6", func := "oriel/oriellaw24.IntoNone", spec := "intoNone", unfollowed := true, recurses := true, apart := false }
def IntoNoneSaid : Prop := intoNoneRow.holds Try.pinned (OpenSpec.ofChange intoNoneSpec)

/-- ITS FALSE NEIGHBOUR: 'it returns false'. Refute it at one input. -/
def intoNoneWrong : ChangeSpec := { name := "intoNone", fn := fun _ => fun
  | [d] => { results := [.lit (.bool false)], args := [d] }
  | _ => none }
def IntoNoneWrongFalsely : Prop := intoNoneRow.holds Try.pinned (OpenSpec.ofChange intoNoneWrong)

/-- 'oriellaw24.IntoFollows': WHATEVER THE INPUT: true; the input reads as it did. -/
def intoFollowsSpec : ChangeSpec := { name := "intoFollows", fn := fun _ => fun
  | [d] => { results := [.lit (.bool true)], args := [d] }
  | _ => none }
def intoFollowsRow : OpenClaim := { program := "ytbfamnfhnjgllaa", sum := "0c810a0786930130bc0f1d962896c21f1ab474bc992e53a1afcf9498f67018a6", func := "oriel/oriellaw24.IntoFollows", spec := "intoFollows", unfollowed := true, recurses := true, apart := false }
def IntoFollowsSaid : Prop := intoFollowsRow.holds Try.pinned (OpenSpec.ofChange intoFollowsSpec)

/-- ITS FALSE NEIGHBOUR: 'it returns false'. Refute it at one input. -/
def intoFollowsWrong : ChangeSpec := { name := "intoFollows", fn := fun _ => fun
  | [d] => { results := [.lit (.bool false)], args := [d] }
  | _ => none }
def IntoFollowsWrongFalsely : Prop := intoFollowsRow.holds Try.pinned (OpenSpec.ofChange intoFollowsWrong)

/- THE SECOND FORM. 'bulk': how many values and letters a reading holds, each counted each time it is reached (what is shared counts as often as it is met; a slice's spare places count too). A statement '..UptoSaid' is the law's where the arguments, and the package variables that the reading takes, are together of bulk at most 1048576: NARROWER than '..Said'. Prove '..Said' where nothing that the law and all that it calls make is longer than what came in: it says more and counts as full. Else prove '..UptoSaid'. A law counts once. -/
mutual
def uptoBulk {H : Type} : DataW H → Nat
  | .lit (.string bytes) => bytes.length + 1
  | .lit _ => 1
  | .nil => 1
  | .ptr d => uptoBulk d + 1
  | .slice elems spare => uptoBulkAll elems + uptoBulkAll spare + 1
  | .agg parts => uptoBulkAll parts + 1
  | .iface _ d => uptoBulk d + 1
  | .map entries => uptoBulkEntries entries + 1
  | .held _ => 1
def uptoBulkAll {H : Type} : List (DataW H) → Nat
  | [] => 0
  | d :: r => uptoBulk d + uptoBulkAll r
def uptoBulkEntries {H : Type} : List (Lit × DataW H) → Nat
  | [] => 0
  | x :: r => uptoBulkEntry x + uptoBulkEntries r
def uptoBulkEntry {H : Type} : Lit × DataW H → Nat
  | (.string bytes, d) => bytes.length + uptoBulk d + 1
  | (_, d) => uptoBulk d + 1
 end
def uptoSmall : (H : Type) → List (DataW H) → Bool := fun _ ds => decide (uptoBulkAll ds ≤ 1048576)
def OpenSpec.upto (s : _root_.Go.ChangeSpec) : _root_.Go.OpenSpec := { _root_.Go.OpenSpec.ofChange s with cond := some uptoSmall }

/-- 'oriellaw24.IntoStays', WHERE WHAT IT READS IS OF BULK AT MOST 1048576: true; the input reads as it did. -/
def intoStaysUptoRow : OpenClaim := { program := "ytbfamnfhnjgllaa", sum := "0c810a0786930130bc0f1d962896c21f1ab474bc992e53a1afcf9498f67018a6", func := "oriel/oriellaw24.IntoStays", spec := "intoStays", unfollowed := true, recurses := true, apart := false, narrowed := true }
def IntoStaysUptoSaid : Prop := intoStaysUptoRow.holds Try.pinned (OpenSpec.upto intoStaysSpec)

/-- 'oriellaw24.IntoPlays', WHERE WHAT IT READS IS OF BULK AT MOST 1048576: true; the input reads as it did. -/
def intoPlaysUptoRow : OpenClaim := { program := "ytbfamnfhnjgllaa", sum := "0c810a0786930130bc0f1d962896c21f1ab474bc992e53a1afcf9498f67018a6", func := "oriel/oriellaw24.IntoPlays", spec := "intoPlays", unfollowed := true, recurses := true, apart := false, narrowed := true }
def IntoPlaysUptoSaid : Prop := intoPlaysUptoRow.holds Try.pinned (OpenSpec.upto intoPlaysSpec)

/-- 'oriellaw24.IntoNone', WHERE WHAT IT READS IS OF BULK AT MOST 1048576: true; the input reads as it did. -/
def intoNoneUptoRow : OpenClaim := { program := "ytbfamnfhnjgllaa", sum := "0c810a0786930130bc0f1d962896c21f1ab474bc992e53a1afcf9498f67018a6", func := "oriel/oriellaw24.IntoNone", spec := "intoNone", unfollowed := true, recurses := true, apart := false, narrowed := true }
def IntoNoneUptoSaid : Prop := intoNoneUptoRow.holds Try.pinned (OpenSpec.upto intoNoneSpec)

/-- 'oriellaw24.IntoFollows', WHERE WHAT IT READS IS OF BULK AT MOST 1048576: true; the input reads as it did. -/
def intoFollowsUptoRow : OpenClaim := { program := "ytbfamnfhnjgllaa", sum := "0c810a0786930130bc0f1d962896c21f1ab474bc992e53a1afcf9498f67018a6", func := "oriel/oriellaw24.IntoFollows", spec := "intoFollows", unfollowed := true, recurses := true, apart := false, narrowed := true }
def IntoFollowsUptoSaid : Prop := intoFollowsUptoRow.holds Try.pinned (OpenSpec.upto intoFollowsSpec)

end Rows
end Go.Proofs.Ytbfamnfhnjgllaa
