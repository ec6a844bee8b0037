/-
  No cell of these rows narrows 'for every input' (looked for: loops, veiled, ifaces, maps, wideKeys, modest, calm, conditions, laid).
  DERIVED. THE GIVEN ROWS OF THIS SEAT. 5 by the template 'for every input the law returns true; each argument reads behind the call as it read before'; 0 by the template 'total and deterministic' (their statements: YtomdlfeaecknfaaTotals.lean).
  GIVEN WITH THE SEED: the statements are not yours to turn. If you find one false, say at which input.
  Laid BY PROGRAM, IN A SANDBOX (cutbox-rows.mjs): the forced cells as the released guide's own fill.sh prints them over the translation 2222286f120021ff… (all of the seat's roots in one cut). By AI agents, Wed Nov 11 2026. No macro, syntax, notation, axiom, sorry.
-/
import Derived.Test.YtomdlfeaecknfaaChecked
import GoSem.Claim
import GoSem.ClaimJoined
import GoSem.ClaimMapViews
import Derived.JoinedTies
import Derived.KernelRfl
namespace Go.Proofs.Ytomdlfeaecknfaa
/- THE CELL 'sum', in the pinned program and in every row, IS THE sha256 OF THE DUMP (.gsa) THAT YtomdlfeaecknfaaProg.lean LOADS. Nothing in Lean hashes anything: it is a label: what it is worth is what the hold of that sum in a sandbox is worth. -/
noncomputable def Try.pinned : Pinned := { name := "ytomdlfeaecknfaa", sum := "2222286f120021ff47df384b36697e764e84a8dee6388d3bae2ad2586b5a8d7b", checked := Try.checked }
namespace Rows
def none {H : Type} : Left H := { results := [], args := [] }

/-- 'oriellaw23.OutOnce': WHATEVER THE INPUT: true; the input reads as it did. -/
def outOnceSpec : ChangeSpec := { name := "outOnce", fn := fun _ => fun
  | [d1, d2, d3, d4, d5] => { results := [.lit (.bool true)], args := [d1, d2, d3, d4, d5] }
  | _ => none }
def outOnceRow : OpenClaim := { program := "ytomdlfeaecknfaa", sum := "2222286f120021ff47df384b36697e764e84a8dee6388d3bae2ad2586b5a8d7b", func := "oriel/oriellaw23.OutOnce", spec := "outOnce", unfollowed := true, recurses := true, apart := false }
def OutOnceSaid : Prop := outOnceRow.holds Try.pinned (OpenSpec.ofChange outOnceSpec)

/-- ITS FALSE NEIGHBOUR: 'it returns false'. Refute it at one input. -/
def outOnceWrong : ChangeSpec := { name := "outOnce", fn := fun _ => fun
  | [d1, d2, d3, d4, d5] => { results := [.lit (.bool false)], args := [d1, d2, d3, d4, d5] }
  | _ => none }
def OutOnceWrongFalsely : Prop := outOnceRow.holds Try.pinned (OpenSpec.ofChange outOnceWrong)

/-- 'oriellaw23.OutArrives': WHATEVER THE INPUT: true; the input reads as it did. -/
def outArrivesSpec : ChangeSpec := { name := "outArrives", fn := fun _ => fun
  | [d1, d2, d3] => { results := [.lit (.bool true)], args := [d1, d2, d3] }
  | _ => none }
def outArrivesRow : OpenClaim := { program := "ytomdlfeaecknfaa", sum := "2222286f120021ff47df384b36697e764e84a8dee6388d3bae2ad2586b5a8d7b", func := "oriel/oriellaw23.OutArrives", spec := "outArrives", unfollowed := true, recurses := true, apart := false }
def OutArrivesSaid : Prop := outArrivesRow.holds Try.pinned (OpenSpec.ofChange outArrivesSpec)

/-- ITS FALSE NEIGHBOUR: 'it returns false'. Refute it at one input. -/
def outArrivesWrong : ChangeSpec := { name := "outArrives", fn := fun _ => fun
  | [d1, d2, d3] => { results := [.lit (.bool false)], args := [d1, d2, d3] }
  | _ => none }
def OutArrivesWrongFalsely : Prop := outArrivesRow.holds Try.pinned (OpenSpec.ofChange outArrivesWrong)

/-- 'oriellaw23.OutBounds': WHATEVER THE INPUT: true; the input reads as it did. -/
def outBoundsSpec : ChangeSpec := { name := "outBounds", fn := fun _ => fun
  | [d] => { results := [.lit (.bool true)], args := [d] }
  | _ => none }
def outBoundsRow : OpenClaim := { program := "ytomdlfeaecknfaa", sum := "2222286f120021ff47df384b36697e764e84a8dee6388d3bae2ad2586b5a8d7b", func := "oriel/oriellaw23.OutBounds", spec := "outBounds", unfollowed := true, recurses := true, apart := false }
def OutBoundsSaid : Prop := outBoundsRow.holds Try.pinned (OpenSpec.ofChange outBoundsSpec)

/-- ITS FALSE NEIGHBOUR: 'it returns false'. Refute it at one input. -/
def outBoundsWrong : ChangeSpec := { name := "outBounds", fn := fun _ => fun
  | [d] => { results := [.lit (.bool false)], args := [d] }
  | _ => none }
def OutBoundsWrongFalsely : Prop := outBoundsRow.holds Try.pinned (OpenSpec.ofChange outBoundsWrong)

/-- 'oriellaw23.OutPlays': WHATEVER THE INPUT: true; the input reads as it did. -/
def outPlaysSpec : ChangeSpec := { name := "outPlays", fn := fun _ => fun
  | [d1, d2, d3] => { results := [.lit (.bool true)], args := [d1, d2, d3] }
  | _ => none }
def outPlaysRow : OpenClaim := { program := "ytomdlfeaecknfaa", sum := "2222286f120021ff47df384b36697e764e84a8dee6388d3bae2ad2586b5a8d7b", func := "oriel/oriellaw23.OutPlays", spec := "outPlays", unfollowed := true, recurses := true, apart := false }
def OutPlaysSaid : Prop := outPlaysRow.holds Try.pinned (OpenSpec.ofChange outPlaysSpec)

/-- ITS FALSE NEIGHBOUR: 'it returns false'. Refute it at one input. -/
def outPlaysWrong : ChangeSpec := { name := "outPlays", fn := fun _ => fun
  | [d1, d2, d3] => { results := [.lit (.bool false)], args := [d1, d2, d3] }
  | _ => none }
def OutPlaysWrongFalsely : Prop := outPlaysRow.holds Try.pinned (OpenSpec.ofChange outPlaysWrong)

/-- 'oriellaw23.OutNone': WHATEVER THE INPUT: true; the input reads as it did. -/
def outNoneSpec : ChangeSpec := { name := "outNone", fn := fun _ => fun
  | [d1, d2, d3, d4] => { results := [.lit (.bool true)], args := [d1, d2, d3, d4] }
  | _ => none }
def outNoneRow : OpenClaim := { program := "ytomdlfeaecknfaa", sum := "2222286f120021ff47df384b36697e764e84a8dee6388d3bae2ad2586b5a8d7b", func := "oriel/oriellaw23.OutNone", spec := "outNone", unfollowed := true, recurses := true, apart := false }
def OutNoneSaid : Prop := outNoneRow.holds Try.pinned (OpenSpec.ofChange outNoneSpec)

/-- ITS FALSE NEIGHBOUR: 'it returns false'. Refute it at one input. -/
def outNoneWrong : ChangeSpec := { name := "outNone", fn := fun _ => fun
  | [d1, d2, d3, d4] => { results := [.lit (.bool false)], args := [d1, d2, d3, d4] }
  | _ => none }
def OutNoneWrongFalsely : Prop := outNoneRow.holds Try.pinned (OpenSpec.ofChange outNoneWrong)

/- THE SECOND FORM. 'bulk': how many values and letters a reading holds, each counted each time it is reached (what is shared counts as often as it is met; a slice's spare places count too). A statement '..UptoSaid' is the law's where the arguments, and the package variables that the reading takes, are together of bulk at most 1048576: NARROWER than '..Said'. Prove '..Said' where nothing that the law and all that it calls make is longer than what came in: it says more and counts as full. Else prove '..UptoSaid'. A law counts once. -/
mutual
def uptoBulk {H : Type} : DataW H → Nat
  | .lit (.string bytes) => bytes.length + 1
  | .lit _ => 1
  | .nil => 1
  | .ptr d => uptoBulk d + 1
  | .slice elems spare => uptoBulkAll elems + uptoBulkAll spare + 1
  | .agg parts => uptoBulkAll parts + 1
  | .iface _ d => uptoBulk d + 1
  | .map entries => uptoBulkEntries entries + 1
  | .held _ => 1
def uptoBulkAll {H : Type} : List (DataW H) → Nat
  | [] => 0
  | d :: r => uptoBulk d + uptoBulkAll r
def uptoBulkEntries {H : Type} : List (Lit × DataW H) → Nat
  | [] => 0
  | x :: r => uptoBulkEntry x + uptoBulkEntries r
def uptoBulkEntry {H : Type} : Lit × DataW H → Nat
  | (.string bytes, d) => bytes.length + uptoBulk d + 1
  | (_, d) => uptoBulk d + 1
 end
def uptoSmall : (H : Type) → List (DataW H) → Bool := fun _ ds => decide (uptoBulkAll ds ≤ 1048576)
def OpenSpec.upto (s : _root_.Go.ChangeSpec) : _root_.Go.OpenSpec := { _root_.Go.OpenSpec.ofChange s with cond := some uptoSmall }

/-- 'oriellaw23.OutOnce', WHERE WHAT IT READS IS OF BULK AT MOST 1048576: true; the input reads as it did. -/
def outOnceUptoRow : OpenClaim := { program := "ytomdlfeaecknfaa", sum := "2222286f120021ff47df384b36697e764e84a8dee6388d3bae2ad2586b5a8d7b", func := "oriel/oriellaw23.OutOnce", spec := "outOnce", unfollowed := true, recurses := true, apart := false, narrowed := true }
def OutOnceUptoSaid : Prop := outOnceUptoRow.holds Try.pinned (OpenSpec.upto outOnceSpec)

/-- 'oriellaw23.OutArrives', WHERE WHAT IT READS IS OF BULK AT MOST 1048576: true; the input reads as it did. -/
def outArrivesUptoRow : OpenClaim := { program := "ytomdlfeaecknfaa", sum := "2222286f120021ff47df384b36697e764e84a8dee6388d3bae2ad2586b5a8d7b", func := "oriel/oriellaw23.OutArrives", spec := "outArrives", unfollowed := true, recurses := true, apart := false, narrowed := true }
def OutArrivesUptoSaid : Prop := outArrivesUptoRow.holds Try.pinned (OpenSpec.upto outArrivesSpec)

/-- 'oriellaw23.OutBounds', WHERE WHAT IT READS IS OF BULK AT MOST 1048576: true; the input reads as it did. -/
def outBoundsUptoRow : OpenClaim := { program := "ytomdlfeaecknfaa", sum := "2222286f120021ff47df384b36697e764e84a8dee6388d3bae2ad2586b5a8d7b", func := "oriel/oriellaw23.OutBounds", spec := "outBounds", unfollowed := true, recurses := true, apart := false, narrowed := true }
def OutBoundsUptoSaid : Prop := outBoundsUptoRow.holds Try.pinned (OpenSpec.upto outBoundsSpec)

/-- 'oriellaw23.OutPlays', WHERE WHAT IT READS IS OF BULK AT MOST 1048576: true; the input reads as it did. -/
def outPlaysUptoRow : OpenClaim := { program := "ytomdlfeaecknfaa", sum := "2222286f120021ff47df384b36697e764e84a8dee6388d3bae2ad2586b5a8d7b", func := "oriel/oriellaw23.OutPlays", spec := "outPlays", unfollowed := true, recurses := true, apart := false, narrowed := true }
def OutPlaysUptoSaid : Prop := outPlaysUptoRow.holds Try.pinned (OpenSpec.upto outPlaysSpec)

/-- 'oriellaw23.OutNone', WHERE WHAT IT READS IS OF BULK AT MOST 1048576: true; the input reads as it did. -/
def outNoneUptoRow : OpenClaim := { program := "ytomdlfeaecknfaa", sum := "2222286f120021ff47df384b36697e764e84a8dee6388d3bae2ad2586b5a8d7b", func := "oriel/oriellaw23.OutNone", spec := "outNone", unfollowed := true, recurses := true, apart := false, narrowed := true }
def OutNoneUptoSaid : Prop := outNoneUptoRow.holds Try.pinned (OpenSpec.upto outNoneSpec)

end Rows
end Go.Proofs.Ytomdlfeaecknfaa
