/-
  No cell of these rows narrows 'for every input' (looked for: loops, veiled, ifaces, maps, wideKeys, modest, calm, conditions, laid).
  DERIVED. THE GIVEN ROWS OF THIS SEAT. 10 by the template 'for every input the law returns true; each argument reads behind the call as it read before'; 0 by the template 'total and deterministic' (their statements: YtcmcpiajbamoaaaTotals.lean).
  GIVEN WITH THE SEED: the statements are not yours to turn. If you find one false, say at which input.
  Laid BY PROGRAM, IN A SANDBOX (cutbox-rows.mjs): the forced cells as the released guide's own fill.sh prints them over the translation 106b0c4faa37fa4a… (all of the seat's roots in one cut). By AI agents, Wed Nov 11 2026. No macro, syntax, notation, axiom, sorry.
-/
import Derived.Test.YtcmcpiajbamoaaaChecked
import GoSem.Claim
import GoSem.ClaimJoined
import GoSem.ClaimMapViews
import Derived.JoinedTies
import Derived.KernelRfl
namespace Go.Proofs.Ytcmcpiajbamoaaa
/- THE CELL 'sum', in the pinned program and in every row, IS THE sha256 OF THE DUMP (.gsa) THAT YtcmcpiajbamoaaaProg.lean LOADS. Nothing in Lean hashes anything: it is a label: what it is worth is what the hold of that sum in a sandbox is worth. -/
noncomputable def Try.pinned : Pinned := { name := "ytcmcpiajbamoaaa", sum := "106b0c4faa37fa4a0ea948a43b2b36fc22cec93d25e0146ddf98592d5f44eddd", checked := Try.checked }
namespace Rows
def none {H : Type} : Left H := { results := [], args := [] }

/-- 'laws.FnExactMirrorFacing': WHATEVER THE INPUT: true; the input reads as it did. -/
def fnExactMirrorFacingSpec : ChangeSpec := { name := "fnExactMirrorFacing", fn := fun _ => fun
  | [d] => { results := [.lit (.bool true)], args := [d] }
  | _ => none }
def fnExactMirrorFacingRow : OpenClaim := { program := "ytcmcpiajbamoaaa", sum := "106b0c4faa37fa4a0ea948a43b2b36fc22cec93d25e0146ddf98592d5f44eddd", func := "loop.example/g00939/laws.FnExactMirrorFacing", spec := "fnExactMirrorFacing", apart := false }
def FnExactMirrorFacingSaid : Prop := fnExactMirrorFacingRow.holds Try.pinned (OpenSpec.ofChange fnExactMirrorFacingSpec)

/-- ITS FALSE NEIGHBOUR: 'it returns false'. Refute it at one input. -/
def fnExactMirrorFacingWrong : ChangeSpec := { name := "fnExactMirrorFacing", fn := fun _ => fun
  | [d] => { results := [.lit (.bool false)], args := [d] }
  | _ => none }
def FnExactMirrorFacingWrongFalsely : Prop := fnExactMirrorFacingRow.holds Try.pinned (OpenSpec.ofChange fnExactMirrorFacingWrong)

/-- 'laws.FnExactTurnBy': WHATEVER THE INPUT: true; the input reads as it did. -/
def fnExactTurnBySpec : ChangeSpec := { name := "fnExactTurnBy", fn := fun _ => fun
  | [d1, d2] => { results := [.lit (.bool true)], args := [d1, d2] }
  | _ => none }
def fnExactTurnByRow : OpenClaim := { program := "ytcmcpiajbamoaaa", sum := "106b0c4faa37fa4a0ea948a43b2b36fc22cec93d25e0146ddf98592d5f44eddd", func := "loop.example/g00939/laws.FnExactTurnBy", spec := "fnExactTurnBy", apart := false }
def FnExactTurnBySaid : Prop := fnExactTurnByRow.holds Try.pinned (OpenSpec.ofChange fnExactTurnBySpec)

/-- ITS FALSE NEIGHBOUR: 'it returns false'. Refute it at one input. -/
def fnExactTurnByWrong : ChangeSpec := { name := "fnExactTurnBy", fn := fun _ => fun
  | [d1, d2] => { results := [.lit (.bool false)], args := [d1, d2] }
  | _ => none }
def FnExactTurnByWrongFalsely : Prop := fnExactTurnByRow.holds Try.pinned (OpenSpec.ofChange fnExactTurnByWrong)

/-- 'laws.FnExactTurnNeeded': WHATEVER THE INPUT: true; the input reads as it did. -/
def fnExactTurnNeededSpec : ChangeSpec := { name := "fnExactTurnNeeded", fn := fun _ => fun
  | [d1, d2] => { results := [.lit (.bool true)], args := [d1, d2] }
  | _ => none }
def fnExactTurnNeededRow : OpenClaim := { program := "ytcmcpiajbamoaaa", sum := "106b0c4faa37fa4a0ea948a43b2b36fc22cec93d25e0146ddf98592d5f44eddd", func := "loop.example/g00939/laws.FnExactTurnNeeded", spec := "fnExactTurnNeeded", apart := false }
def FnExactTurnNeededSaid : Prop := fnExactTurnNeededRow.holds Try.pinned (OpenSpec.ofChange fnExactTurnNeededSpec)

/-- ITS FALSE NEIGHBOUR: 'it returns false'. Refute it at one input. -/
def fnExactTurnNeededWrong : ChangeSpec := { name := "fnExactTurnNeeded", fn := fun _ => fun
  | [d1, d2] => { results := [.lit (.bool false)], args := [d1, d2] }
  | _ => none }
def FnExactTurnNeededWrongFalsely : Prop := fnExactTurnNeededRow.holds Try.pinned (OpenSpec.ofChange fnExactTurnNeededWrong)

/-- 'laws.FnExactCountsToTurn': WHATEVER THE INPUT: true; the input reads as it did. -/
def fnExactCountsToTurnSpec : ChangeSpec := { name := "fnExactCountsToTurn", fn := fun _ => fun
  | [d1, d2, d3] => { results := [.lit (.bool true)], args := [d1, d2, d3] }
  | _ => none }
def fnExactCountsToTurnRow : OpenClaim := { program := "ytcmcpiajbamoaaa", sum := "106b0c4faa37fa4a0ea948a43b2b36fc22cec93d25e0146ddf98592d5f44eddd", func := "loop.example/g00939/laws.FnExactCountsToTurn", spec := "fnExactCountsToTurn", apart := false }
def FnExactCountsToTurnSaid : Prop := fnExactCountsToTurnRow.holds Try.pinned (OpenSpec.ofChange fnExactCountsToTurnSpec)

/-- ITS FALSE NEIGHBOUR: 'it returns false'. Refute it at one input. -/
def fnExactCountsToTurnWrong : ChangeSpec := { name := "fnExactCountsToTurn", fn := fun _ => fun
  | [d1, d2, d3] => { results := [.lit (.bool false)], args := [d1, d2, d3] }
  | _ => none }
def FnExactCountsToTurnWrongFalsely : Prop := fnExactCountsToTurnRow.holds Try.pinned (OpenSpec.ofChange fnExactCountsToTurnWrong)

/-- 'laws.FnExactFacingsAfter': WHATEVER THE INPUT: true; the input reads as it did. -/
def fnExactFacingsAfterSpec : ChangeSpec := { name := "fnExactFacingsAfter", fn := fun _ => fun
  | [d1, d2] => { results := [.lit (.bool true)], args := [d1, d2] }
  | _ => none }
def fnExactFacingsAfterRow : OpenClaim := { program := "ytcmcpiajbamoaaa", sum := "106b0c4faa37fa4a0ea948a43b2b36fc22cec93d25e0146ddf98592d5f44eddd", func := "loop.example/g00939/laws.FnExactFacingsAfter", spec := "fnExactFacingsAfter", apart := false }
def FnExactFacingsAfterSaid : Prop := fnExactFacingsAfterRow.holds Try.pinned (OpenSpec.ofChange fnExactFacingsAfterSpec)

/-- ITS FALSE NEIGHBOUR: 'it returns false'. Refute it at one input. -/
def fnExactFacingsAfterWrong : ChangeSpec := { name := "fnExactFacingsAfter", fn := fun _ => fun
  | [d1, d2] => { results := [.lit (.bool false)], args := [d1, d2] }
  | _ => none }
def FnExactFacingsAfterWrongFalsely : Prop := fnExactFacingsAfterRow.holds Try.pinned (OpenSpec.ofChange fnExactFacingsAfterWrong)

/-- 'laws.FnExactDirectionOf': WHATEVER THE INPUT: true; the input reads as it did. -/
def fnExactDirectionOfSpec : ChangeSpec := { name := "fnExactDirectionOf", fn := fun _ => fun
  | [d] => { results := [.lit (.bool true)], args := [d] }
  | _ => none }
def fnExactDirectionOfRow : OpenClaim := { program := "ytcmcpiajbamoaaa", sum := "106b0c4faa37fa4a0ea948a43b2b36fc22cec93d25e0146ddf98592d5f44eddd", func := "loop.example/g00939/laws.FnExactDirectionOf", spec := "fnExactDirectionOf", apart := false }
def FnExactDirectionOfSaid : Prop := fnExactDirectionOfRow.holds Try.pinned (OpenSpec.ofChange fnExactDirectionOfSpec)

/-- ITS FALSE NEIGHBOUR: 'it returns false'. Refute it at one input. -/
def fnExactDirectionOfWrong : ChangeSpec := { name := "fnExactDirectionOf", fn := fun _ => fun
  | [d] => { results := [.lit (.bool false)], args := [d] }
  | _ => none }
def FnExactDirectionOfWrongFalsely : Prop := fnExactDirectionOfRow.holds Try.pinned (OpenSpec.ofChange fnExactDirectionOfWrong)

/-- 'laws.FnExactStepKind': WHATEVER THE INPUT: true; the input reads as it did. -/
def fnExactStepKindSpec : ChangeSpec := { name := "fnExactStepKind", fn := fun _ => fun
  | [d1, d2] => { results := [.lit (.bool true)], args := [d1, d2] }
  | _ => none }
def fnExactStepKindRow : OpenClaim := { program := "ytcmcpiajbamoaaa", sum := "106b0c4faa37fa4a0ea948a43b2b36fc22cec93d25e0146ddf98592d5f44eddd", func := "loop.example/g00939/laws.FnExactStepKind", spec := "fnExactStepKind", apart := false }
def FnExactStepKindSaid : Prop := fnExactStepKindRow.holds Try.pinned (OpenSpec.ofChange fnExactStepKindSpec)

/-- ITS FALSE NEIGHBOUR: 'it returns false'. Refute it at one input. -/
def fnExactStepKindWrong : ChangeSpec := { name := "fnExactStepKind", fn := fun _ => fun
  | [d1, d2] => { results := [.lit (.bool false)], args := [d1, d2] }
  | _ => none }
def FnExactStepKindWrongFalsely : Prop := fnExactStepKindRow.holds Try.pinned (OpenSpec.ofChange fnExactStepKindWrong)

/-- 'laws.FnExactBestFacing': WHATEVER THE INPUT: true; the input reads as it did. -/
def fnExactBestFacingSpec : ChangeSpec := { name := "fnExactBestFacing", fn := fun _ => fun
  | [d1, d2] => { results := [.lit (.bool true)], args := [d1, d2] }
  | _ => none }
def fnExactBestFacingRow : OpenClaim := { program := "ytcmcpiajbamoaaa", sum := "106b0c4faa37fa4a0ea948a43b2b36fc22cec93d25e0146ddf98592d5f44eddd", func := "loop.example/g00939/laws.FnExactBestFacing", spec := "fnExactBestFacing", apart := false }
def FnExactBestFacingSaid : Prop := fnExactBestFacingRow.holds Try.pinned (OpenSpec.ofChange fnExactBestFacingSpec)

/-- ITS FALSE NEIGHBOUR: 'it returns false'. Refute it at one input. -/
def fnExactBestFacingWrong : ChangeSpec := { name := "fnExactBestFacing", fn := fun _ => fun
  | [d1, d2] => { results := [.lit (.bool false)], args := [d1, d2] }
  | _ => none }
def FnExactBestFacingWrongFalsely : Prop := fnExactBestFacingRow.holds Try.pinned (OpenSpec.ofChange fnExactBestFacingWrong)

/-- 'laws.FnExactStepAllowed': WHATEVER THE INPUT: true; the input reads as it did. -/
def fnExactStepAllowedSpec : ChangeSpec := { name := "fnExactStepAllowed", fn := fun _ => fun
  | [d1, d2, d3, d4, d5] => { results := [.lit (.bool true)], args := [d1, d2, d3, d4, d5] }
  | _ => none }
def fnExactStepAllowedRow : OpenClaim := { program := "ytcmcpiajbamoaaa", sum := "106b0c4faa37fa4a0ea948a43b2b36fc22cec93d25e0146ddf98592d5f44eddd", func := "loop.example/g00939/laws.FnExactStepAllowed", spec := "fnExactStepAllowed", apart := false }
def FnExactStepAllowedSaid : Prop := fnExactStepAllowedRow.holds Try.pinned (OpenSpec.ofChange fnExactStepAllowedSpec)

/-- ITS FALSE NEIGHBOUR: 'it returns false'. Refute it at one input. -/
def fnExactStepAllowedWrong : ChangeSpec := { name := "fnExactStepAllowed", fn := fun _ => fun
  | [d1, d2, d3, d4, d5] => { results := [.lit (.bool false)], args := [d1, d2, d3, d4, d5] }
  | _ => none }
def FnExactStepAllowedWrongFalsely : Prop := fnExactStepAllowedRow.holds Try.pinned (OpenSpec.ofChange fnExactStepAllowedWrong)

/-- 'laws.FnSteps': WHATEVER THE INPUT: true; the input reads as it did. -/
def fnStepsSpec : ChangeSpec := { name := "fnSteps", fn := fun _ => fun
  | [d1, d2] => { results := [.lit (.bool true)], args := [d1, d2] }
  | _ => none }
def fnStepsRow : OpenClaim := { program := "ytcmcpiajbamoaaa", sum := "106b0c4faa37fa4a0ea948a43b2b36fc22cec93d25e0146ddf98592d5f44eddd", func := "loop.example/g00939/laws.FnSteps", spec := "fnSteps", apart := false }
def FnStepsSaid : Prop := fnStepsRow.holds Try.pinned (OpenSpec.ofChange fnStepsSpec)

/-- ITS FALSE NEIGHBOUR: 'it returns false'. Refute it at one input. -/
def fnStepsWrong : ChangeSpec := { name := "fnSteps", fn := fun _ => fun
  | [d1, d2] => { results := [.lit (.bool false)], args := [d1, d2] }
  | _ => none }
def FnStepsWrongFalsely : Prop := fnStepsRow.holds Try.pinned (OpenSpec.ofChange fnStepsWrong)

/- THE SECOND FORM. 'bulk': how many values and letters a reading holds, each counted each time it is reached (what is shared counts as often as it is met; a slice's spare places count too). A statement '..UptoSaid' is the law's where the arguments, and the package variables that the reading takes, are together of bulk at most 1048576: NARROWER than '..Said'. Prove '..Said' where nothing that the law and all that it calls make is longer than what came in: it says more and counts as full. Else prove '..UptoSaid'. A law counts once. -/
mutual
def uptoBulk {H : Type} : DataW H → Nat
  | .lit (.string bytes) => bytes.length + 1
  | .lit _ => 1
  | .nil => 1
  | .ptr d => uptoBulk d + 1
  | .slice elems spare => uptoBulkAll elems + uptoBulkAll spare + 1
  | .agg parts => uptoBulkAll parts + 1
  | .iface _ d => uptoBulk d + 1
  | .map entries => uptoBulkEntries entries + 1
  | .held _ => 1
def uptoBulkAll {H : Type} : List (DataW H) → Nat
  | [] => 0
  | d :: r => uptoBulk d + uptoBulkAll r
def uptoBulkEntries {H : Type} : List (Lit × DataW H) → Nat
  | [] => 0
  | x :: r => uptoBulkEntry x + uptoBulkEntries r
def uptoBulkEntry {H : Type} : Lit × DataW H → Nat
  | (.string bytes, d) => bytes.length + uptoBulk d + 1
  | (_, d) => uptoBulk d + 1
 end
def uptoSmall : (H : Type) → List (DataW H) → Bool := fun _ ds => decide (uptoBulkAll ds ≤ 1048576)
def OpenSpec.upto (s : _root_.Go.ChangeSpec) : _root_.Go.OpenSpec := { _root_.Go.OpenSpec.ofChange s with cond := some uptoSmall }

/-- 'laws.FnExactMirrorFacing', WHERE WHAT IT READS IS OF BULK AT MOST 1048576: true; the input reads as it did. -/
def fnExactMirrorFacingUptoRow : OpenClaim := { program := "ytcmcpiajbamoaaa", sum := "106b0c4faa37fa4a0ea948a43b2b36fc22cec93d25e0146ddf98592d5f44eddd", func := "loop.example/g00939/laws.FnExactMirrorFacing", spec := "fnExactMirrorFacing", apart := false, narrowed := true }
def FnExactMirrorFacingUptoSaid : Prop := fnExactMirrorFacingUptoRow.holds Try.pinned (OpenSpec.upto fnExactMirrorFacingSpec)

/-- 'laws.FnExactTurnBy', WHERE WHAT IT READS IS OF BULK AT MOST 1048576: true; the input reads as it did. -/
def fnExactTurnByUptoRow : OpenClaim := { program := "ytcmcpiajbamoaaa", sum := "106b0c4faa37fa4a0ea948a43b2b36fc22cec93d25e0146ddf98592d5f44eddd", func := "loop.example/g00939/laws.FnExactTurnBy", spec := "fnExactTurnBy", apart := false, narrowed := true }
def FnExactTurnByUptoSaid : Prop := fnExactTurnByUptoRow.holds Try.pinned (OpenSpec.upto fnExactTurnBySpec)

/-- 'laws.FnExactTurnNeeded', WHERE WHAT IT READS IS OF BULK AT MOST 1048576: true; the input reads as it did. -/
def fnExactTurnNeededUptoRow : OpenClaim := { program := "ytcmcpiajbamoaaa", sum := "106b0c4faa37fa4a0ea948a43b2b36fc22cec93d25e0146ddf98592d5f44eddd", func := "loop.example/g00939/laws.FnExactTurnNeeded", spec := "fnExactTurnNeeded", apart := false, narrowed := true }
def FnExactTurnNeededUptoSaid : Prop := fnExactTurnNeededUptoRow.holds Try.pinned (OpenSpec.upto fnExactTurnNeededSpec)

/-- 'laws.FnExactCountsToTurn', WHERE WHAT IT READS IS OF BULK AT MOST 1048576: true; the input reads as it did. -/
def fnExactCountsToTurnUptoRow : OpenClaim := { program := "ytcmcpiajbamoaaa", sum := "106b0c4faa37fa4a0ea948a43b2b36fc22cec93d25e0146ddf98592d5f44eddd", func := "loop.example/g00939/laws.FnExactCountsToTurn", spec := "fnExactCountsToTurn", apart := false, narrowed := true }
def FnExactCountsToTurnUptoSaid : Prop := fnExactCountsToTurnUptoRow.holds Try.pinned (OpenSpec.upto fnExactCountsToTurnSpec)

/-- 'laws.FnExactFacingsAfter', WHERE WHAT IT READS IS OF BULK AT MOST 1048576: true; the input reads as it did. -/
def fnExactFacingsAfterUptoRow : OpenClaim := { program := "ytcmcpiajbamoaaa", sum := "106b0c4faa37fa4a0ea948a43b2b36fc22cec93d25e0146ddf98592d5f44eddd", func := "loop.example/g00939/laws.FnExactFacingsAfter", spec := "fnExactFacingsAfter", apart := false, narrowed := true }
def FnExactFacingsAfterUptoSaid : Prop := fnExactFacingsAfterUptoRow.holds Try.pinned (OpenSpec.upto fnExactFacingsAfterSpec)

/-- 'laws.FnExactDirectionOf', WHERE WHAT IT READS IS OF BULK AT MOST 1048576: true; the input reads as it did. -/
def fnExactDirectionOfUptoRow : OpenClaim := { program := "ytcmcpiajbamoaaa", sum := "106b0c4faa37fa4a0ea948a43b2b36fc22cec93d25e0146ddf98592d5f44eddd", func := "loop.example/g00939/laws.FnExactDirectionOf", spec := "fnExactDirectionOf", apart := false, narrowed := true }
def FnExactDirectionOfUptoSaid : Prop := fnExactDirectionOfUptoRow.holds Try.pinned (OpenSpec.upto fnExactDirectionOfSpec)

/-- 'laws.FnExactStepKind', WHERE WHAT IT READS IS OF BULK AT MOST 1048576: true; the input reads as it did. -/
def fnExactStepKindUptoRow : OpenClaim := { program := "ytcmcpiajbamoaaa", sum := "106b0c4faa37fa4a0ea948a43b2b36fc22cec93d25e0146ddf98592d5f44eddd", func := "loop.example/g00939/laws.FnExactStepKind", spec := "fnExactStepKind", apart := false, narrowed := true }
def FnExactStepKindUptoSaid : Prop := fnExactStepKindUptoRow.holds Try.pinned (OpenSpec.upto fnExactStepKindSpec)

/-- 'laws.FnExactBestFacing', WHERE WHAT IT READS IS OF BULK AT MOST 1048576: true; the input reads as it did. -/
def fnExactBestFacingUptoRow : OpenClaim := { program := "ytcmcpiajbamoaaa", sum := "106b0c4faa37fa4a0ea948a43b2b36fc22cec93d25e0146ddf98592d5f44eddd", func := "loop.example/g00939/laws.FnExactBestFacing", spec := "fnExactBestFacing", apart := false, narrowed := true }
def FnExactBestFacingUptoSaid : Prop := fnExactBestFacingUptoRow.holds Try.pinned (OpenSpec.upto fnExactBestFacingSpec)

/-- 'laws.FnExactStepAllowed', WHERE WHAT IT READS IS OF BULK AT MOST 1048576: true; the input reads as it did. -/
def fnExactStepAllowedUptoRow : OpenClaim := { program := "ytcmcpiajbamoaaa", sum := "106b0c4faa37fa4a0ea948a43b2b36fc22cec93d25e0146ddf98592d5f44eddd", func := "loop.example/g00939/laws.FnExactStepAllowed", spec := "fnExactStepAllowed", apart := false, narrowed := true }
def FnExactStepAllowedUptoSaid : Prop := fnExactStepAllowedUptoRow.holds Try.pinned (OpenSpec.upto fnExactStepAllowedSpec)

/-- 'laws.FnSteps', WHERE WHAT IT READS IS OF BULK AT MOST 1048576: true; the input reads as it did. -/
def fnStepsUptoRow : OpenClaim := { program := "ytcmcpiajbamoaaa", sum := "106b0c4faa37fa4a0ea948a43b2b36fc22cec93d25e0146ddf98592d5f44eddd", func := "loop.example/g00939/laws.FnSteps", spec := "fnSteps", apart := false, narrowed := true }
def FnStepsUptoSaid : Prop := fnStepsUptoRow.holds Try.pinned (OpenSpec.upto fnStepsSpec)

end Rows
end Go.Proofs.Ytcmcpiajbamoaaa
