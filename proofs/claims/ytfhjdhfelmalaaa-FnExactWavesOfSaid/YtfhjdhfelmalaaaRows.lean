/-
  No cell of these rows narrows 'for every input' (looked for: loops, veiled, ifaces, maps, wideKeys, modest, calm, conditions, laid).
  DERIVED. THE GIVEN ROWS OF THIS SEAT. 17 by the template 'for every input the law returns true; each argument reads behind the call as it read before'; 0 by the template 'total and deterministic' (their statements: YtfhjdhfelmalaaaTotals.lean).
  GIVEN WITH THE SEED: the statements are not yours to turn. If you find one false, say at which input.
  Laid BY PROGRAM, IN A SANDBOX (cutbox-rows.mjs): the forced cells as the released guide's own fill.sh prints them over the translation 82d8d765000c4722… (all of the seat's roots in one cut). By AI agents, Wed Nov 11 2026. No macro, syntax, notation, axiom, sorry.
-/
import Derived.Test.YtfhjdhfelmalaaaChecked
import GoSem.Claim
import GoSem.ClaimJoined
import GoSem.ClaimMapViews
import Derived.JoinedTies
import Derived.KernelRfl
namespace Go.Proofs.Ytfhjdhfelmalaaa
/- THE CELL 'sum', in the pinned program and in every row, IS THE sha256 OF THE DUMP (.gsa) THAT YtfhjdhfelmalaaaProg.lean LOADS. Nothing in Lean hashes anything: it is a label: what it is worth is what the hold of that sum in a sandbox is worth. -/
noncomputable def Try.pinned : Pinned := { name := "ytfhjdhfelmalaaa", sum := "82d8d765000c472203bcd19ac70309105aaa88268600bd38afea2d1c37247b17", checked := Try.checked }
namespace Rows
def none {H : Type} : Left H := { results := [], args := [] }

/-- 'laws.FnConflicts': WHATEVER THE INPUT: true; the input reads as it did. -/
def fnConflictsSpec : ChangeSpec := { name := "fnConflicts", fn := fun _ => fun
  | [d1, d2] => { results := [.lit (.bool true)], args := [d1, d2] }
  | _ => none }
def fnConflictsRow : OpenClaim := { program := "ytfhjdhfelmalaaa", sum := "82d8d765000c472203bcd19ac70309105aaa88268600bd38afea2d1c37247b17", func := "loop.example/g00939/laws.FnConflicts", spec := "fnConflicts", apart := false }
def FnConflictsSaid : Prop := fnConflictsRow.holds Try.pinned (OpenSpec.ofChange fnConflictsSpec)

/-- ITS FALSE NEIGHBOUR: 'it returns false'. Refute it at one input. -/
def fnConflictsWrong : ChangeSpec := { name := "fnConflicts", fn := fun _ => fun
  | [d1, d2] => { results := [.lit (.bool false)], args := [d1, d2] }
  | _ => none }
def FnConflictsWrongFalsely : Prop := fnConflictsRow.holds Try.pinned (OpenSpec.ofChange fnConflictsWrong)

/-- 'laws.FnExactPlaceDelayed': WHATEVER THE INPUT: true; the input reads as it did. -/
def fnExactPlaceDelayedSpec : ChangeSpec := { name := "fnExactPlaceDelayed", fn := fun _ => fun
  | [d1, d2, d3] => { results := [.lit (.bool true)], args := [d1, d2, d3] }
  | _ => none }
def fnExactPlaceDelayedRow : OpenClaim := { program := "ytfhjdhfelmalaaa", sum := "82d8d765000c472203bcd19ac70309105aaa88268600bd38afea2d1c37247b17", func := "loop.example/g00939/laws.FnExactPlaceDelayed", spec := "fnExactPlaceDelayed", apart := false }
def FnExactPlaceDelayedSaid : Prop := fnExactPlaceDelayedRow.holds Try.pinned (OpenSpec.ofChange fnExactPlaceDelayedSpec)

/-- ITS FALSE NEIGHBOUR: 'it returns false'. Refute it at one input. -/
def fnExactPlaceDelayedWrong : ChangeSpec := { name := "fnExactPlaceDelayed", fn := fun _ => fun
  | [d1, d2, d3] => { results := [.lit (.bool false)], args := [d1, d2, d3] }
  | _ => none }
def FnExactPlaceDelayedWrongFalsely : Prop := fnExactPlaceDelayedRow.holds Try.pinned (OpenSpec.ofChange fnExactPlaceDelayedWrong)

/-- 'laws.FnTransitions': WHATEVER THE INPUT: true; the input reads as it did. -/
def fnTransitionsSpec : ChangeSpec := { name := "fnTransitions", fn := fun _ => fun
  | [d1, d2] => { results := [.lit (.bool true)], args := [d1, d2] }
  | _ => none }
def fnTransitionsRow : OpenClaim := { program := "ytfhjdhfelmalaaa", sum := "82d8d765000c472203bcd19ac70309105aaa88268600bd38afea2d1c37247b17", func := "loop.example/g00939/laws.FnTransitions", spec := "fnTransitions", apart := false }
def FnTransitionsSaid : Prop := fnTransitionsRow.holds Try.pinned (OpenSpec.ofChange fnTransitionsSpec)

/-- ITS FALSE NEIGHBOUR: 'it returns false'. Refute it at one input. -/
def fnTransitionsWrong : ChangeSpec := { name := "fnTransitions", fn := fun _ => fun
  | [d1, d2] => { results := [.lit (.bool false)], args := [d1, d2] }
  | _ => none }
def FnTransitionsWrongFalsely : Prop := fnTransitionsRow.holds Try.pinned (OpenSpec.ofChange fnTransitionsWrong)

/-- 'laws.FnExactLeastDelayed': WHATEVER THE INPUT: true; the input reads as it did. -/
def fnExactLeastDelayedSpec : ChangeSpec := { name := "fnExactLeastDelayed", fn := fun _ => fun
  | [d1, d2, d3, d4] => { results := [.lit (.bool true)], args := [d1, d2, d3, d4] }
  | _ => none }
def fnExactLeastDelayedRow : OpenClaim := { program := "ytfhjdhfelmalaaa", sum := "82d8d765000c472203bcd19ac70309105aaa88268600bd38afea2d1c37247b17", func := "loop.example/g00939/laws.FnExactLeastDelayed", spec := "fnExactLeastDelayed", apart := false }
def FnExactLeastDelayedSaid : Prop := fnExactLeastDelayedRow.holds Try.pinned (OpenSpec.ofChange fnExactLeastDelayedSpec)

/-- ITS FALSE NEIGHBOUR: 'it returns false'. Refute it at one input. -/
def fnExactLeastDelayedWrong : ChangeSpec := { name := "fnExactLeastDelayed", fn := fun _ => fun
  | [d1, d2, d3, d4] => { results := [.lit (.bool false)], args := [d1, d2, d3, d4] }
  | _ => none }
def FnExactLeastDelayedWrongFalsely : Prop := fnExactLeastDelayedRow.holds Try.pinned (OpenSpec.ofChange fnExactLeastDelayedWrong)

/-- 'laws.FnExactGreatestLeast': WHATEVER THE INPUT: true; the input reads as it did. -/
def fnExactGreatestLeastSpec : ChangeSpec := { name := "fnExactGreatestLeast", fn := fun _ => fun
  | [d] => { results := [.lit (.bool true)], args := [d] }
  | _ => none }
def fnExactGreatestLeastRow : OpenClaim := { program := "ytfhjdhfelmalaaa", sum := "82d8d765000c472203bcd19ac70309105aaa88268600bd38afea2d1c37247b17", func := "loop.example/g00939/laws.FnExactGreatestLeast", spec := "fnExactGreatestLeast", apart := false }
def FnExactGreatestLeastSaid : Prop := fnExactGreatestLeastRow.holds Try.pinned (OpenSpec.ofChange fnExactGreatestLeastSpec)

/-- ITS FALSE NEIGHBOUR: 'it returns false'. Refute it at one input. -/
def fnExactGreatestLeastWrong : ChangeSpec := { name := "fnExactGreatestLeast", fn := fun _ => fun
  | [d] => { results := [.lit (.bool false)], args := [d] }
  | _ => none }
def FnExactGreatestLeastWrongFalsely : Prop := fnExactGreatestLeastRow.holds Try.pinned (OpenSpec.ofChange fnExactGreatestLeastWrong)

/-- 'laws.FnExactCollidingPairs': WHATEVER THE INPUT: true; the input reads as it did. -/
def fnExactCollidingPairsSpec : ChangeSpec := { name := "fnExactCollidingPairs", fn := fun _ => fun
  | [d] => { results := [.lit (.bool true)], args := [d] }
  | _ => none }
def fnExactCollidingPairsRow : OpenClaim := { program := "ytfhjdhfelmalaaa", sum := "82d8d765000c472203bcd19ac70309105aaa88268600bd38afea2d1c37247b17", func := "loop.example/g00939/laws.FnExactCollidingPairs", spec := "fnExactCollidingPairs", apart := false }
def FnExactCollidingPairsSaid : Prop := fnExactCollidingPairsRow.holds Try.pinned (OpenSpec.ofChange fnExactCollidingPairsSpec)

/-- ITS FALSE NEIGHBOUR: 'it returns false'. Refute it at one input. -/
def fnExactCollidingPairsWrong : ChangeSpec := { name := "fnExactCollidingPairs", fn := fun _ => fun
  | [d] => { results := [.lit (.bool false)], args := [d] }
  | _ => none }
def FnExactCollidingPairsWrongFalsely : Prop := fnExactCollidingPairsRow.holds Try.pinned (OpenSpec.ofChange fnExactCollidingPairsWrong)

/-- 'laws.FnExactRoomOf': WHATEVER THE INPUT: true; the input reads as it did. -/
def fnExactRoomOfSpec : ChangeSpec := { name := "fnExactRoomOf", fn := fun _ => fun
  | [d] => { results := [.lit (.bool true)], args := [d] }
  | _ => none }
def fnExactRoomOfRow : OpenClaim := { program := "ytfhjdhfelmalaaa", sum := "82d8d765000c472203bcd19ac70309105aaa88268600bd38afea2d1c37247b17", func := "loop.example/g00939/laws.FnExactRoomOf", spec := "fnExactRoomOf", apart := false }
def FnExactRoomOfSaid : Prop := fnExactRoomOfRow.holds Try.pinned (OpenSpec.ofChange fnExactRoomOfSpec)

/-- ITS FALSE NEIGHBOUR: 'it returns false'. Refute it at one input. -/
def fnExactRoomOfWrong : ChangeSpec := { name := "fnExactRoomOf", fn := fun _ => fun
  | [d] => { results := [.lit (.bool false)], args := [d] }
  | _ => none }
def FnExactRoomOfWrongFalsely : Prop := fnExactRoomOfRow.holds Try.pinned (OpenSpec.ofChange fnExactRoomOfWrong)

/-- 'laws.FnExactConflictCounts': WHATEVER THE INPUT: true; the input reads as it did. -/
def fnExactConflictCountsSpec : ChangeSpec := { name := "fnExactConflictCounts", fn := fun _ => fun
  | [d1, d2] => { results := [.lit (.bool true)], args := [d1, d2] }
  | _ => none }
def fnExactConflictCountsRow : OpenClaim := { program := "ytfhjdhfelmalaaa", sum := "82d8d765000c472203bcd19ac70309105aaa88268600bd38afea2d1c37247b17", func := "loop.example/g00939/laws.FnExactConflictCounts", spec := "fnExactConflictCounts", apart := false }
def FnExactConflictCountsSaid : Prop := fnExactConflictCountsRow.holds Try.pinned (OpenSpec.ofChange fnExactConflictCountsSpec)

/-- ITS FALSE NEIGHBOUR: 'it returns false'. Refute it at one input. -/
def fnExactConflictCountsWrong : ChangeSpec := { name := "fnExactConflictCounts", fn := fun _ => fun
  | [d1, d2] => { results := [.lit (.bool false)], args := [d1, d2] }
  | _ => none }
def FnExactConflictCountsWrongFalsely : Prop := fnExactConflictCountsRow.holds Try.pinned (OpenSpec.ofChange fnExactConflictCountsWrong)

/-- 'laws.FnExactConflictPairs': WHATEVER THE INPUT: true; the input reads as it did. -/
def fnExactConflictPairsSpec : ChangeSpec := { name := "fnExactConflictPairs", fn := fun _ => fun
  | [d1, d2] => { results := [.lit (.bool true)], args := [d1, d2] }
  | _ => none }
def fnExactConflictPairsRow : OpenClaim := { program := "ytfhjdhfelmalaaa", sum := "82d8d765000c472203bcd19ac70309105aaa88268600bd38afea2d1c37247b17", func := "loop.example/g00939/laws.FnExactConflictPairs", spec := "fnExactConflictPairs", apart := false }
def FnExactConflictPairsSaid : Prop := fnExactConflictPairsRow.holds Try.pinned (OpenSpec.ofChange fnExactConflictPairsSpec)

/-- ITS FALSE NEIGHBOUR: 'it returns false'. Refute it at one input. -/
def fnExactConflictPairsWrong : ChangeSpec := { name := "fnExactConflictPairs", fn := fun _ => fun
  | [d1, d2] => { results := [.lit (.bool false)], args := [d1, d2] }
  | _ => none }
def FnExactConflictPairsWrongFalsely : Prop := fnExactConflictPairsRow.holds Try.pinned (OpenSpec.ofChange fnExactConflictPairsWrong)

/-- 'laws.FnExactFreePerformers': WHATEVER THE INPUT: true; the input reads as it did. -/
def fnExactFreePerformersSpec : ChangeSpec := { name := "fnExactFreePerformers", fn := fun _ => fun
  | [d1, d2] => { results := [.lit (.bool true)], args := [d1, d2] }
  | _ => none }
def fnExactFreePerformersRow : OpenClaim := { program := "ytfhjdhfelmalaaa", sum := "82d8d765000c472203bcd19ac70309105aaa88268600bd38afea2d1c37247b17", func := "loop.example/g00939/laws.FnExactFreePerformers", spec := "fnExactFreePerformers", apart := false }
def FnExactFreePerformersSaid : Prop := fnExactFreePerformersRow.holds Try.pinned (OpenSpec.ofChange fnExactFreePerformersSpec)

/-- ITS FALSE NEIGHBOUR: 'it returns false'. Refute it at one input. -/
def fnExactFreePerformersWrong : ChangeSpec := { name := "fnExactFreePerformers", fn := fun _ => fun
  | [d1, d2] => { results := [.lit (.bool false)], args := [d1, d2] }
  | _ => none }
def FnExactFreePerformersWrongFalsely : Prop := fnExactFreePerformersRow.holds Try.pinned (OpenSpec.ofChange fnExactFreePerformersWrong)

/-- 'laws.FnExactEndConflicts': WHATEVER THE INPUT: true; the input reads as it did. -/
def fnExactEndConflictsSpec : ChangeSpec := { name := "fnExactEndConflicts", fn := fun _ => fun
  | [d1, d2] => { results := [.lit (.bool true)], args := [d1, d2] }
  | _ => none }
def fnExactEndConflictsRow : OpenClaim := { program := "ytfhjdhfelmalaaa", sum := "82d8d765000c472203bcd19ac70309105aaa88268600bd38afea2d1c37247b17", func := "loop.example/g00939/laws.FnExactEndConflicts", spec := "fnExactEndConflicts", apart := false }
def FnExactEndConflictsSaid : Prop := fnExactEndConflictsRow.holds Try.pinned (OpenSpec.ofChange fnExactEndConflictsSpec)

/-- ITS FALSE NEIGHBOUR: 'it returns false'. Refute it at one input. -/
def fnExactEndConflictsWrong : ChangeSpec := { name := "fnExactEndConflicts", fn := fun _ => fun
  | [d1, d2] => { results := [.lit (.bool false)], args := [d1, d2] }
  | _ => none }
def FnExactEndConflictsWrongFalsely : Prop := fnExactEndConflictsRow.holds Try.pinned (OpenSpec.ofChange fnExactEndConflictsWrong)

/-- 'laws.FnExactFewestWaves': WHATEVER THE INPUT: true; the input reads as it did. -/
def fnExactFewestWavesSpec : ChangeSpec := { name := "fnExactFewestWaves", fn := fun _ => fun
  | [d1, d2] => { results := [.lit (.bool true)], args := [d1, d2] }
  | _ => none }
def fnExactFewestWavesRow : OpenClaim := { program := "ytfhjdhfelmalaaa", sum := "82d8d765000c472203bcd19ac70309105aaa88268600bd38afea2d1c37247b17", func := "loop.example/g00939/laws.FnExactFewestWaves", spec := "fnExactFewestWaves", recurses := true, apart := false }
def FnExactFewestWavesSaid : Prop := fnExactFewestWavesRow.holds Try.pinned (OpenSpec.ofChange fnExactFewestWavesSpec)

/-- ITS FALSE NEIGHBOUR: 'it returns false'. Refute it at one input. -/
def fnExactFewestWavesWrong : ChangeSpec := { name := "fnExactFewestWaves", fn := fun _ => fun
  | [d1, d2] => { results := [.lit (.bool false)], args := [d1, d2] }
  | _ => none }
def FnExactFewestWavesWrongFalsely : Prop := fnExactFewestWavesRow.holds Try.pinned (OpenSpec.ofChange fnExactFewestWavesWrong)

/-- 'laws.FnExactMostTogether': WHATEVER THE INPUT: true; the input reads as it did. -/
def fnExactMostTogetherSpec : ChangeSpec := { name := "fnExactMostTogether", fn := fun _ => fun
  | [d1, d2] => { results := [.lit (.bool true)], args := [d1, d2] }
  | _ => none }
def fnExactMostTogetherRow : OpenClaim := { program := "ytfhjdhfelmalaaa", sum := "82d8d765000c472203bcd19ac70309105aaa88268600bd38afea2d1c37247b17", func := "loop.example/g00939/laws.FnExactMostTogether", spec := "fnExactMostTogether", recurses := true, apart := false }
def FnExactMostTogetherSaid : Prop := fnExactMostTogetherRow.holds Try.pinned (OpenSpec.ofChange fnExactMostTogetherSpec)

/-- ITS FALSE NEIGHBOUR: 'it returns false'. Refute it at one input. -/
def fnExactMostTogetherWrong : ChangeSpec := { name := "fnExactMostTogether", fn := fun _ => fun
  | [d1, d2] => { results := [.lit (.bool false)], args := [d1, d2] }
  | _ => none }
def FnExactMostTogetherWrongFalsely : Prop := fnExactMostTogetherRow.holds Try.pinned (OpenSpec.ofChange fnExactMostTogetherWrong)

/-- 'laws.FnExactConflictTimes': WHATEVER THE INPUT: true; the input reads as it did. -/
def fnExactConflictTimesSpec : ChangeSpec := { name := "fnExactConflictTimes", fn := fun _ => fun
  | [d1, d2] => { results := [.lit (.bool true)], args := [d1, d2] }
  | _ => none }
def fnExactConflictTimesRow : OpenClaim := { program := "ytfhjdhfelmalaaa", sum := "82d8d765000c472203bcd19ac70309105aaa88268600bd38afea2d1c37247b17", func := "loop.example/g00939/laws.FnExactConflictTimes", spec := "fnExactConflictTimes", apart := false }
def FnExactConflictTimesSaid : Prop := fnExactConflictTimesRow.holds Try.pinned (OpenSpec.ofChange fnExactConflictTimesSpec)

/-- ITS FALSE NEIGHBOUR: 'it returns false'. Refute it at one input. -/
def fnExactConflictTimesWrong : ChangeSpec := { name := "fnExactConflictTimes", fn := fun _ => fun
  | [d1, d2] => { results := [.lit (.bool false)], args := [d1, d2] }
  | _ => none }
def FnExactConflictTimesWrongFalsely : Prop := fnExactConflictTimesRow.holds Try.pinned (OpenSpec.ofChange fnExactConflictTimesWrong)

/-- 'laws.FnExactEvenTransition': WHATEVER THE INPUT: true; the input reads as it did. -/
def fnExactEvenTransitionSpec : ChangeSpec := { name := "fnExactEvenTransition", fn := fun _ => fun
  | [d1, d2, d3] => { results := [.lit (.bool true)], args := [d1, d2, d3] }
  | _ => none }
def fnExactEvenTransitionRow : OpenClaim := { program := "ytfhjdhfelmalaaa", sum := "82d8d765000c472203bcd19ac70309105aaa88268600bd38afea2d1c37247b17", func := "loop.example/g00939/laws.FnExactEvenTransition", spec := "fnExactEvenTransition", apart := false }
def FnExactEvenTransitionSaid : Prop := fnExactEvenTransitionRow.holds Try.pinned (OpenSpec.ofChange fnExactEvenTransitionSpec)

/-- ITS FALSE NEIGHBOUR: 'it returns false'. Refute it at one input. -/
def fnExactEvenTransitionWrong : ChangeSpec := { name := "fnExactEvenTransition", fn := fun _ => fun
  | [d1, d2, d3] => { results := [.lit (.bool false)], args := [d1, d2, d3] }
  | _ => none }
def FnExactEvenTransitionWrongFalsely : Prop := fnExactEvenTransitionRow.holds Try.pinned (OpenSpec.ofChange fnExactEvenTransitionWrong)

/-- 'laws.FnExactWavesOf': WHATEVER THE INPUT: true; the input reads as it did. -/
def fnExactWavesOfSpec : ChangeSpec := { name := "fnExactWavesOf", fn := fun _ => fun
  | [d1, d2] => { results := [.lit (.bool true)], args := [d1, d2] }
  | _ => none }
def fnExactWavesOfRow : OpenClaim := { program := "ytfhjdhfelmalaaa", sum := "82d8d765000c472203bcd19ac70309105aaa88268600bd38afea2d1c37247b17", func := "loop.example/g00939/laws.FnExactWavesOf", spec := "fnExactWavesOf", recurses := true, apart := false }
def FnExactWavesOfSaid : Prop := fnExactWavesOfRow.holds Try.pinned (OpenSpec.ofChange fnExactWavesOfSpec)

/-- ITS FALSE NEIGHBOUR: 'it returns false'. Refute it at one input. -/
def fnExactWavesOfWrong : ChangeSpec := { name := "fnExactWavesOf", fn := fun _ => fun
  | [d1, d2] => { results := [.lit (.bool false)], args := [d1, d2] }
  | _ => none }
def FnExactWavesOfWrongFalsely : Prop := fnExactWavesOfRow.holds Try.pinned (OpenSpec.ofChange fnExactWavesOfWrong)

/-- 'laws.FnSwaps': WHATEVER THE INPUT: true; the input reads as it did. -/
def fnSwapsSpec : ChangeSpec := { name := "fnSwaps", fn := fun _ => fun
  | [d1, d2] => { results := [.lit (.bool true)], args := [d1, d2] }
  | _ => none }
def fnSwapsRow : OpenClaim := { program := "ytfhjdhfelmalaaa", sum := "82d8d765000c472203bcd19ac70309105aaa88268600bd38afea2d1c37247b17", func := "loop.example/g00939/laws.FnSwaps", spec := "fnSwaps", apart := false }
def FnSwapsSaid : Prop := fnSwapsRow.holds Try.pinned (OpenSpec.ofChange fnSwapsSpec)

/-- ITS FALSE NEIGHBOUR: 'it returns false'. Refute it at one input. -/
def fnSwapsWrong : ChangeSpec := { name := "fnSwaps", fn := fun _ => fun
  | [d1, d2] => { results := [.lit (.bool false)], args := [d1, d2] }
  | _ => none }
def FnSwapsWrongFalsely : Prop := fnSwapsRow.holds Try.pinned (OpenSpec.ofChange fnSwapsWrong)

/- THE SECOND FORM. 'bulk': how many values and letters a reading holds, each counted each time it is reached (what is shared counts as often as it is met; a slice's spare places count too). A statement '..UptoSaid' is the law's where the arguments, and the package variables that the reading takes, are together of bulk at most 1048576: NARROWER than '..Said'. Prove '..Said' where nothing that the law and all that it calls make is longer than what came in: it says more and counts as full. Else prove '..UptoSaid'. A law counts once. -/
mutual
def uptoBulk {H : Type} : DataW H → Nat
  | .lit (.string bytes) => bytes.length + 1
  | .lit _ => 1
  | .nil => 1
  | .ptr d => uptoBulk d + 1
  | .slice elems spare => uptoBulkAll elems + uptoBulkAll spare + 1
  | .agg parts => uptoBulkAll parts + 1
  | .iface _ d => uptoBulk d + 1
  | .map entries => uptoBulkEntries entries + 1
  | .held _ => 1
def uptoBulkAll {H : Type} : List (DataW H) → Nat
  | [] => 0
  | d :: r => uptoBulk d + uptoBulkAll r
def uptoBulkEntries {H : Type} : List (Lit × DataW H) → Nat
  | [] => 0
  | x :: r => uptoBulkEntry x + uptoBulkEntries r
def uptoBulkEntry {H : Type} : Lit × DataW H → Nat
  | (.string bytes, d) => bytes.length + uptoBulk d + 1
  | (_, d) => uptoBulk d + 1
 end
def uptoSmall : (H : Type) → List (DataW H) → Bool := fun _ ds => decide (uptoBulkAll ds ≤ 1048576)
def OpenSpec.upto (s : _root_.Go.ChangeSpec) : _root_.Go.OpenSpec := { _root_.Go.OpenSpec.ofChange s with cond := some uptoSmall }

/-- 'laws.FnConflicts', WHERE WHAT IT READS IS OF BULK AT MOST 1048576: true; the input reads as it did. -/
def fnConflictsUptoRow : OpenClaim := { program := "ytfhjdhfelmalaaa", sum := "82d8d765000c472203bcd19ac70309105aaa88268600bd38afea2d1c37247b17", func := "loop.example/g00939/laws.FnConflicts", spec := "fnConflicts", apart := false, narrowed := true }
def FnConflictsUptoSaid : Prop := fnConflictsUptoRow.holds Try.pinned (OpenSpec.upto fnConflictsSpec)

/-- 'laws.FnExactPlaceDelayed', WHERE WHAT IT READS IS OF BULK AT MOST 1048576: true; the input reads as it did. -/
def fnExactPlaceDelayedUptoRow : OpenClaim := { program := "ytfhjdhfelmalaaa", sum := "82d8d765000c472203bcd19ac70309105aaa88268600bd38afea2d1c37247b17", func := "loop.example/g00939/laws.FnExactPlaceDelayed", spec := "fnExactPlaceDelayed", apart := false, narrowed := true }
def FnExactPlaceDelayedUptoSaid : Prop := fnExactPlaceDelayedUptoRow.holds Try.pinned (OpenSpec.upto fnExactPlaceDelayedSpec)

/-- 'laws.FnTransitions', WHERE WHAT IT READS IS OF BULK AT MOST 1048576: true; the input reads as it did. -/
def fnTransitionsUptoRow : OpenClaim := { program := "ytfhjdhfelmalaaa", sum := "82d8d765000c472203bcd19ac70309105aaa88268600bd38afea2d1c37247b17", func := "loop.example/g00939/laws.FnTransitions", spec := "fnTransitions", apart := false, narrowed := true }
def FnTransitionsUptoSaid : Prop := fnTransitionsUptoRow.holds Try.pinned (OpenSpec.upto fnTransitionsSpec)

/-- 'laws.FnExactLeastDelayed', WHERE WHAT IT READS IS OF BULK AT MOST 1048576: true; the input reads as it did. -/
def fnExactLeastDelayedUptoRow : OpenClaim := { program := "ytfhjdhfelmalaaa", sum := "82d8d765000c472203bcd19ac70309105aaa88268600bd38afea2d1c37247b17", func := "loop.example/g00939/laws.FnExactLeastDelayed", spec := "fnExactLeastDelayed", apart := false, narrowed := true }
def FnExactLeastDelayedUptoSaid : Prop := fnExactLeastDelayedUptoRow.holds Try.pinned (OpenSpec.upto fnExactLeastDelayedSpec)

/-- 'laws.FnExactGreatestLeast', WHERE WHAT IT READS IS OF BULK AT MOST 1048576: true; the input reads as it did. -/
def fnExactGreatestLeastUptoRow : OpenClaim := { program := "ytfhjdhfelmalaaa", sum := "82d8d765000c472203bcd19ac70309105aaa88268600bd38afea2d1c37247b17", func := "loop.example/g00939/laws.FnExactGreatestLeast", spec := "fnExactGreatestLeast", apart := false, narrowed := true }
def FnExactGreatestLeastUptoSaid : Prop := fnExactGreatestLeastUptoRow.holds Try.pinned (OpenSpec.upto fnExactGreatestLeastSpec)

/-- 'laws.FnExactCollidingPairs', WHERE WHAT IT READS IS OF BULK AT MOST 1048576: true; the input reads as it did. -/
def fnExactCollidingPairsUptoRow : OpenClaim := { program := "ytfhjdhfelmalaaa", sum := "82d8d765000c472203bcd19ac70309105aaa88268600bd38afea2d1c37247b17", func := "loop.example/g00939/laws.FnExactCollidingPairs", spec := "fnExactCollidingPairs", apart := false, narrowed := true }
def FnExactCollidingPairsUptoSaid : Prop := fnExactCollidingPairsUptoRow.holds Try.pinned (OpenSpec.upto fnExactCollidingPairsSpec)

/-- 'laws.FnExactRoomOf', WHERE WHAT IT READS IS OF BULK AT MOST 1048576: true; the input reads as it did. -/
def fnExactRoomOfUptoRow : OpenClaim := { program := "ytfhjdhfelmalaaa", sum := "82d8d765000c472203bcd19ac70309105aaa88268600bd38afea2d1c37247b17", func := "loop.example/g00939/laws.FnExactRoomOf", spec := "fnExactRoomOf", apart := false, narrowed := true }
def FnExactRoomOfUptoSaid : Prop := fnExactRoomOfUptoRow.holds Try.pinned (OpenSpec.upto fnExactRoomOfSpec)

/-- 'laws.FnExactConflictCounts', WHERE WHAT IT READS IS OF BULK AT MOST 1048576: true; the input reads as it did. -/
def fnExactConflictCountsUptoRow : OpenClaim := { program := "ytfhjdhfelmalaaa", sum := "82d8d765000c472203bcd19ac70309105aaa88268600bd38afea2d1c37247b17", func := "loop.example/g00939/laws.FnExactConflictCounts", spec := "fnExactConflictCounts", apart := false, narrowed := true }
def FnExactConflictCountsUptoSaid : Prop := fnExactConflictCountsUptoRow.holds Try.pinned (OpenSpec.upto fnExactConflictCountsSpec)

/-- 'laws.FnExactConflictPairs', WHERE WHAT IT READS IS OF BULK AT MOST 1048576: true; the input reads as it did. -/
def fnExactConflictPairsUptoRow : OpenClaim := { program := "ytfhjdhfelmalaaa", sum := "82d8d765000c472203bcd19ac70309105aaa88268600bd38afea2d1c37247b17", func := "loop.example/g00939/laws.FnExactConflictPairs", spec := "fnExactConflictPairs", apart := false, narrowed := true }
def FnExactConflictPairsUptoSaid : Prop := fnExactConflictPairsUptoRow.holds Try.pinned (OpenSpec.upto fnExactConflictPairsSpec)

/-- 'laws.FnExactFreePerformers', WHERE WHAT IT READS IS OF BULK AT MOST 1048576: true; the input reads as it did. -/
def fnExactFreePerformersUptoRow : OpenClaim := { program := "ytfhjdhfelmalaaa", sum := "82d8d765000c472203bcd19ac70309105aaa88268600bd38afea2d1c37247b17", func := "loop.example/g00939/laws.FnExactFreePerformers", spec := "fnExactFreePerformers", apart := false, narrowed := true }
def FnExactFreePerformersUptoSaid : Prop := fnExactFreePerformersUptoRow.holds Try.pinned (OpenSpec.upto fnExactFreePerformersSpec)

/-- 'laws.FnExactEndConflicts', WHERE WHAT IT READS IS OF BULK AT MOST 1048576: true; the input reads as it did. -/
def fnExactEndConflictsUptoRow : OpenClaim := { program := "ytfhjdhfelmalaaa", sum := "82d8d765000c472203bcd19ac70309105aaa88268600bd38afea2d1c37247b17", func := "loop.example/g00939/laws.FnExactEndConflicts", spec := "fnExactEndConflicts", apart := false, narrowed := true }
def FnExactEndConflictsUptoSaid : Prop := fnExactEndConflictsUptoRow.holds Try.pinned (OpenSpec.upto fnExactEndConflictsSpec)

/-- 'laws.FnExactFewestWaves', WHERE WHAT IT READS IS OF BULK AT MOST 1048576: true; the input reads as it did. -/
def fnExactFewestWavesUptoRow : OpenClaim := { program := "ytfhjdhfelmalaaa", sum := "82d8d765000c472203bcd19ac70309105aaa88268600bd38afea2d1c37247b17", func := "loop.example/g00939/laws.FnExactFewestWaves", spec := "fnExactFewestWaves", recurses := true, apart := false, narrowed := true }
def FnExactFewestWavesUptoSaid : Prop := fnExactFewestWavesUptoRow.holds Try.pinned (OpenSpec.upto fnExactFewestWavesSpec)

/-- 'laws.FnExactMostTogether', WHERE WHAT IT READS IS OF BULK AT MOST 1048576: true; the input reads as it did. -/
def fnExactMostTogetherUptoRow : OpenClaim := { program := "ytfhjdhfelmalaaa", sum := "82d8d765000c472203bcd19ac70309105aaa88268600bd38afea2d1c37247b17", func := "loop.example/g00939/laws.FnExactMostTogether", spec := "fnExactMostTogether", recurses := true, apart := false, narrowed := true }
def FnExactMostTogetherUptoSaid : Prop := fnExactMostTogetherUptoRow.holds Try.pinned (OpenSpec.upto fnExactMostTogetherSpec)

/-- 'laws.FnExactConflictTimes', WHERE WHAT IT READS IS OF BULK AT MOST 1048576: true; the input reads as it did. -/
def fnExactConflictTimesUptoRow : OpenClaim := { program := "ytfhjdhfelmalaaa", sum := "82d8d765000c472203bcd19ac70309105aaa88268600bd38afea2d1c37247b17", func := "loop.example/g00939/laws.FnExactConflictTimes", spec := "fnExactConflictTimes", apart := false, narrowed := true }
def FnExactConflictTimesUptoSaid : Prop := fnExactConflictTimesUptoRow.holds Try.pinned (OpenSpec.upto fnExactConflictTimesSpec)

/-- 'laws.FnExactEvenTransition', WHERE WHAT IT READS IS OF BULK AT MOST 1048576: true; the input reads as it did. -/
def fnExactEvenTransitionUptoRow : OpenClaim := { program := "ytfhjdhfelmalaaa", sum := "82d8d765000c472203bcd19ac70309105aaa88268600bd38afea2d1c37247b17", func := "loop.example/g00939/laws.FnExactEvenTransition", spec := "fnExactEvenTransition", apart := false, narrowed := true }
def FnExactEvenTransitionUptoSaid : Prop := fnExactEvenTransitionUptoRow.holds Try.pinned (OpenSpec.upto fnExactEvenTransitionSpec)

/-- 'laws.FnExactWavesOf', WHERE WHAT IT READS IS OF BULK AT MOST 1048576: true; the input reads as it did. -/
def fnExactWavesOfUptoRow : OpenClaim := { program := "ytfhjdhfelmalaaa", sum := "82d8d765000c472203bcd19ac70309105aaa88268600bd38afea2d1c37247b17", func := "loop.example/g00939/laws.FnExactWavesOf", spec := "fnExactWavesOf", recurses := true, apart := false, narrowed := true }
def FnExactWavesOfUptoSaid : Prop := fnExactWavesOfUptoRow.holds Try.pinned (OpenSpec.upto fnExactWavesOfSpec)

/-- 'laws.FnSwaps', WHERE WHAT IT READS IS OF BULK AT MOST 1048576: true; the input reads as it did. -/
def fnSwapsUptoRow : OpenClaim := { program := "ytfhjdhfelmalaaa", sum := "82d8d765000c472203bcd19ac70309105aaa88268600bd38afea2d1c37247b17", func := "loop.example/g00939/laws.FnSwaps", spec := "fnSwaps", apart := false, narrowed := true }
def FnSwapsUptoSaid : Prop := fnSwapsUptoRow.holds Try.pinned (OpenSpec.upto fnSwapsSpec)

end Rows
end Go.Proofs.Ytfhjdhfelmalaaa
