/-
  No cell of these rows narrows 'for every input' (looked for: loops, veiled, ifaces, maps, wideKeys, modest, calm, conditions, laid).
  DERIVED. THE GIVEN ROWS OF THIS SEAT. 7 by the template 'for every input the law returns true; each argument reads behind the call as it read before'; 0 by the template 'total and deterministic' (their statements: YtmklinmlliabaaaTotals.lean).
  GIVEN WITH THE SEED: the statements are not yours to turn. If you find one false, say at which input.
  Laid BY PROGRAM, IN A SANDBOX (cutbox-rows.mjs): the forced cells as the released guide's own fill.sh prints them over the translation 75eeb83ef2607c13… (all of the seat's roots in one cut). By AI agents, Wed Nov 11 2026. No macro, syntax, notation, axiom, sorry.
-/
import Derived.Test.YtmklinmlliabaaaChecked
import GoSem.Claim
import GoSem.ClaimJoined
import GoSem.ClaimMapViews
import Derived.JoinedTies
import Derived.KernelRfl
namespace Go.Proofs.Ytmklinmlliabaaa
/- THE CELL 'sum', in the pinned program and in every row, IS THE sha256 OF THE DUMP (.gsa) THAT YtmklinmlliabaaaProg.lean LOADS. Nothing in Lean hashes anything: it is a label: what it is worth is what the hold of that sum in a sandbox is worth. -/
noncomputable def Try.pinned : Pinned := { name := "ytmklinmlliabaaa", sum := "75eeb83ef2607c139cebeeb32a717edf1ca2b352ee118dd442714c43320d648e", checked := Try.checked }
namespace Rows
def none {H : Type} : Left H := { results := [], args := [] }

/-- 'laws.FnExactConflictPairs': WHATEVER THE INPUT: true; the input reads as it did. -/
def fnExactConflictPairsSpec : ChangeSpec := { name := "fnExactConflictPairs", fn := fun _ => fun
  | [d1, d2] => { results := [.lit (.bool true)], args := [d1, d2] }
  | _ => none }
def fnExactConflictPairsRow : OpenClaim := { program := "ytmklinmlliabaaa", sum := "75eeb83ef2607c139cebeeb32a717edf1ca2b352ee118dd442714c43320d648e", func := "loop.example/g00939/laws.FnExactConflictPairs", spec := "fnExactConflictPairs", apart := false }
def FnExactConflictPairsSaid : Prop := fnExactConflictPairsRow.holds Try.pinned (OpenSpec.ofChange fnExactConflictPairsSpec)

/-- ITS FALSE NEIGHBOUR: 'it returns false'. Refute it at one input. -/
def fnExactConflictPairsWrong : ChangeSpec := { name := "fnExactConflictPairs", fn := fun _ => fun
  | [d1, d2] => { results := [.lit (.bool false)], args := [d1, d2] }
  | _ => none }
def FnExactConflictPairsWrongFalsely : Prop := fnExactConflictPairsRow.holds Try.pinned (OpenSpec.ofChange fnExactConflictPairsWrong)

/-- 'laws.FnExactConflictCounts': WHATEVER THE INPUT: true; the input reads as it did. -/
def fnExactConflictCountsSpec : ChangeSpec := { name := "fnExactConflictCounts", fn := fun _ => fun
  | [d1, d2] => { results := [.lit (.bool true)], args := [d1, d2] }
  | _ => none }
def fnExactConflictCountsRow : OpenClaim := { program := "ytmklinmlliabaaa", sum := "75eeb83ef2607c139cebeeb32a717edf1ca2b352ee118dd442714c43320d648e", func := "loop.example/g00939/laws.FnExactConflictCounts", spec := "fnExactConflictCounts", apart := false }
def FnExactConflictCountsSaid : Prop := fnExactConflictCountsRow.holds Try.pinned (OpenSpec.ofChange fnExactConflictCountsSpec)

/-- ITS FALSE NEIGHBOUR: 'it returns false'. Refute it at one input. -/
def fnExactConflictCountsWrong : ChangeSpec := { name := "fnExactConflictCounts", fn := fun _ => fun
  | [d1, d2] => { results := [.lit (.bool false)], args := [d1, d2] }
  | _ => none }
def FnExactConflictCountsWrongFalsely : Prop := fnExactConflictCountsRow.holds Try.pinned (OpenSpec.ofChange fnExactConflictCountsWrong)

/-- 'laws.FnExactFreePerformers': WHATEVER THE INPUT: true; the input reads as it did. -/
def fnExactFreePerformersSpec : ChangeSpec := { name := "fnExactFreePerformers", fn := fun _ => fun
  | [d1, d2] => { results := [.lit (.bool true)], args := [d1, d2] }
  | _ => none }
def fnExactFreePerformersRow : OpenClaim := { program := "ytmklinmlliabaaa", sum := "75eeb83ef2607c139cebeeb32a717edf1ca2b352ee118dd442714c43320d648e", func := "loop.example/g00939/laws.FnExactFreePerformers", spec := "fnExactFreePerformers", apart := false }
def FnExactFreePerformersSaid : Prop := fnExactFreePerformersRow.holds Try.pinned (OpenSpec.ofChange fnExactFreePerformersSpec)

/-- ITS FALSE NEIGHBOUR: 'it returns false'. Refute it at one input. -/
def fnExactFreePerformersWrong : ChangeSpec := { name := "fnExactFreePerformers", fn := fun _ => fun
  | [d1, d2] => { results := [.lit (.bool false)], args := [d1, d2] }
  | _ => none }
def FnExactFreePerformersWrongFalsely : Prop := fnExactFreePerformersRow.holds Try.pinned (OpenSpec.ofChange fnExactFreePerformersWrong)

/-- 'laws.FnExactEndConflicts': WHATEVER THE INPUT: true; the input reads as it did. -/
def fnExactEndConflictsSpec : ChangeSpec := { name := "fnExactEndConflicts", fn := fun _ => fun
  | [d1, d2] => { results := [.lit (.bool true)], args := [d1, d2] }
  | _ => none }
def fnExactEndConflictsRow : OpenClaim := { program := "ytmklinmlliabaaa", sum := "75eeb83ef2607c139cebeeb32a717edf1ca2b352ee118dd442714c43320d648e", func := "loop.example/g00939/laws.FnExactEndConflicts", spec := "fnExactEndConflicts", apart := false }
def FnExactEndConflictsSaid : Prop := fnExactEndConflictsRow.holds Try.pinned (OpenSpec.ofChange fnExactEndConflictsSpec)

/-- ITS FALSE NEIGHBOUR: 'it returns false'. Refute it at one input. -/
def fnExactEndConflictsWrong : ChangeSpec := { name := "fnExactEndConflicts", fn := fun _ => fun
  | [d1, d2] => { results := [.lit (.bool false)], args := [d1, d2] }
  | _ => none }
def FnExactEndConflictsWrongFalsely : Prop := fnExactEndConflictsRow.holds Try.pinned (OpenSpec.ofChange fnExactEndConflictsWrong)

/-- 'laws.FnExactGreatestLeast': WHATEVER THE INPUT: true; the input reads as it did. -/
def fnExactGreatestLeastSpec : ChangeSpec := { name := "fnExactGreatestLeast", fn := fun _ => fun
  | [d] => { results := [.lit (.bool true)], args := [d] }
  | _ => none }
def fnExactGreatestLeastRow : OpenClaim := { program := "ytmklinmlliabaaa", sum := "75eeb83ef2607c139cebeeb32a717edf1ca2b352ee118dd442714c43320d648e", func := "loop.example/g00939/laws.FnExactGreatestLeast", spec := "fnExactGreatestLeast", apart := false }
def FnExactGreatestLeastSaid : Prop := fnExactGreatestLeastRow.holds Try.pinned (OpenSpec.ofChange fnExactGreatestLeastSpec)

/-- ITS FALSE NEIGHBOUR: 'it returns false'. Refute it at one input. -/
def fnExactGreatestLeastWrong : ChangeSpec := { name := "fnExactGreatestLeast", fn := fun _ => fun
  | [d] => { results := [.lit (.bool false)], args := [d] }
  | _ => none }
def FnExactGreatestLeastWrongFalsely : Prop := fnExactGreatestLeastRow.holds Try.pinned (OpenSpec.ofChange fnExactGreatestLeastWrong)

/-- 'laws.FnExactCollidingPairs': WHATEVER THE INPUT: true; the input reads as it did. -/
def fnExactCollidingPairsSpec : ChangeSpec := { name := "fnExactCollidingPairs", fn := fun _ => fun
  | [d] => { results := [.lit (.bool true)], args := [d] }
  | _ => none }
def fnExactCollidingPairsRow : OpenClaim := { program := "ytmklinmlliabaaa", sum := "75eeb83ef2607c139cebeeb32a717edf1ca2b352ee118dd442714c43320d648e", func := "loop.example/g00939/laws.FnExactCollidingPairs", spec := "fnExactCollidingPairs", apart := false }
def FnExactCollidingPairsSaid : Prop := fnExactCollidingPairsRow.holds Try.pinned (OpenSpec.ofChange fnExactCollidingPairsSpec)

/-- ITS FALSE NEIGHBOUR: 'it returns false'. Refute it at one input. -/
def fnExactCollidingPairsWrong : ChangeSpec := { name := "fnExactCollidingPairs", fn := fun _ => fun
  | [d] => { results := [.lit (.bool false)], args := [d] }
  | _ => none }
def FnExactCollidingPairsWrongFalsely : Prop := fnExactCollidingPairsRow.holds Try.pinned (OpenSpec.ofChange fnExactCollidingPairsWrong)

/-- 'laws.FnExactConflictTimes': WHATEVER THE INPUT: true; the input reads as it did. -/
def fnExactConflictTimesSpec : ChangeSpec := { name := "fnExactConflictTimes", fn := fun _ => fun
  | [d1, d2] => { results := [.lit (.bool true)], args := [d1, d2] }
  | _ => none }
def fnExactConflictTimesRow : OpenClaim := { program := "ytmklinmlliabaaa", sum := "75eeb83ef2607c139cebeeb32a717edf1ca2b352ee118dd442714c43320d648e", func := "loop.example/g00939/laws.FnExactConflictTimes", spec := "fnExactConflictTimes", apart := false }
def FnExactConflictTimesSaid : Prop := fnExactConflictTimesRow.holds Try.pinned (OpenSpec.ofChange fnExactConflictTimesSpec)

/-- ITS FALSE NEIGHBOUR: 'it returns false'. Refute it at one input. -/
def fnExactConflictTimesWrong : ChangeSpec := { name := "fnExactConflictTimes", fn := fun _ => fun
  | [d1, d2] => { results := [.lit (.bool false)], args := [d1, d2] }
  | _ => none }
def FnExactConflictTimesWrongFalsely : Prop := fnExactConflictTimesRow.holds Try.pinned (OpenSpec.ofChange fnExactConflictTimesWrong)

/- THE SECOND FORM. 'bulk': how many values and letters a reading holds, each counted each time it is reached (what is shared counts as often as it is met; a slice's spare places count too). A statement '..UptoSaid' is the law's where the arguments, and the package variables that the reading takes, are together of bulk at most 1048576: NARROWER than '..Said'. Prove '..Said' where nothing that the law and all that it calls make is longer than what came in: it says more and counts as full. Else prove '..UptoSaid'. A law counts once. -/
mutual
def uptoBulk {H : Type} : DataW H → Nat
  | .lit (.string bytes) => bytes.length + 1
  | .lit _ => 1
  | .nil => 1
  | .ptr d => uptoBulk d + 1
  | .slice elems spare => uptoBulkAll elems + uptoBulkAll spare + 1
  | .agg parts => uptoBulkAll parts + 1
  | .iface _ d => uptoBulk d + 1
  | .map entries => uptoBulkEntries entries + 1
  | .held _ => 1
def uptoBulkAll {H : Type} : List (DataW H) → Nat
  | [] => 0
  | d :: r => uptoBulk d + uptoBulkAll r
def uptoBulkEntries {H : Type} : List (Lit × DataW H) → Nat
  | [] => 0
  | x :: r => uptoBulkEntry x + uptoBulkEntries r
def uptoBulkEntry {H : Type} : Lit × DataW H → Nat
  | (.string bytes, d) => bytes.length + uptoBulk d + 1
  | (_, d) => uptoBulk d + 1
 end
def uptoSmall : (H : Type) → List (DataW H) → Bool := fun _ ds => decide (uptoBulkAll ds ≤ 1048576)
def OpenSpec.upto (s : _root_.Go.ChangeSpec) : _root_.Go.OpenSpec := { _root_.Go.OpenSpec.ofChange s with cond := some uptoSmall }

/-- 'laws.FnExactConflictPairs', WHERE WHAT IT READS IS OF BULK AT MOST 1048576: true; the input reads as it did. -/
def fnExactConflictPairsUptoRow : OpenClaim := { program := "ytmklinmlliabaaa", sum := "75eeb83ef2607c139cebeeb32a717edf1ca2b352ee118dd442714c43320d648e", func := "loop.example/g00939/laws.FnExactConflictPairs", spec := "fnExactConflictPairs", apart := false, narrowed := true }
def FnExactConflictPairsUptoSaid : Prop := fnExactConflictPairsUptoRow.holds Try.pinned (OpenSpec.upto fnExactConflictPairsSpec)

/-- 'laws.FnExactConflictCounts', WHERE WHAT IT READS IS OF BULK AT MOST 1048576: true; the input reads as it did. -/
def fnExactConflictCountsUptoRow : OpenClaim := { program := "ytmklinmlliabaaa", sum := "75eeb83ef2607c139cebeeb32a717edf1ca2b352ee118dd442714c43320d648e", func := "loop.example/g00939/laws.FnExactConflictCounts", spec := "fnExactConflictCounts", apart := false, narrowed := true }
def FnExactConflictCountsUptoSaid : Prop := fnExactConflictCountsUptoRow.holds Try.pinned (OpenSpec.upto fnExactConflictCountsSpec)

/-- 'laws.FnExactFreePerformers', WHERE WHAT IT READS IS OF BULK AT MOST 1048576: true; the input reads as it did. -/
def fnExactFreePerformersUptoRow : OpenClaim := { program := "ytmklinmlliabaaa", sum := "75eeb83ef2607c139cebeeb32a717edf1ca2b352ee118dd442714c43320d648e", func := "loop.example/g00939/laws.FnExactFreePerformers", spec := "fnExactFreePerformers", apart := false, narrowed := true }
def FnExactFreePerformersUptoSaid : Prop := fnExactFreePerformersUptoRow.holds Try.pinned (OpenSpec.upto fnExactFreePerformersSpec)

/-- 'laws.FnExactEndConflicts', WHERE WHAT IT READS IS OF BULK AT MOST 1048576: true; the input reads as it did. -/
def fnExactEndConflictsUptoRow : OpenClaim := { program := "ytmklinmlliabaaa", sum := "75eeb83ef2607c139cebeeb32a717edf1ca2b352ee118dd442714c43320d648e", func := "loop.example/g00939/laws.FnExactEndConflicts", spec := "fnExactEndConflicts", apart := false, narrowed := true }
def FnExactEndConflictsUptoSaid : Prop := fnExactEndConflictsUptoRow.holds Try.pinned (OpenSpec.upto fnExactEndConflictsSpec)

/-- 'laws.FnExactGreatestLeast', WHERE WHAT IT READS IS OF BULK AT MOST 1048576: true; the input reads as it did. -/
def fnExactGreatestLeastUptoRow : OpenClaim := { program := "ytmklinmlliabaaa", sum := "75eeb83ef2607c139cebeeb32a717edf1ca2b352ee118dd442714c43320d648e", func := "loop.example/g00939/laws.FnExactGreatestLeast", spec := "fnExactGreatestLeast", apart := false, narrowed := true }
def FnExactGreatestLeastUptoSaid : Prop := fnExactGreatestLeastUptoRow.holds Try.pinned (OpenSpec.upto fnExactGreatestLeastSpec)

/-- 'laws.FnExactCollidingPairs', WHERE WHAT IT READS IS OF BULK AT MOST 1048576: true; the input reads as it did. -/
def fnExactCollidingPairsUptoRow : OpenClaim := { program := "ytmklinmlliabaaa", sum := "75eeb83ef2607c139cebeeb32a717edf1ca2b352ee118dd442714c43320d648e", func := "loop.example/g00939/laws.FnExactCollidingPairs", spec := "fnExactCollidingPairs", apart := false, narrowed := true }
def FnExactCollidingPairsUptoSaid : Prop := fnExactCollidingPairsUptoRow.holds Try.pinned (OpenSpec.upto fnExactCollidingPairsSpec)

/-- 'laws.FnExactConflictTimes', WHERE WHAT IT READS IS OF BULK AT MOST 1048576: true; the input reads as it did. -/
def fnExactConflictTimesUptoRow : OpenClaim := { program := "ytmklinmlliabaaa", sum := "75eeb83ef2607c139cebeeb32a717edf1ca2b352ee118dd442714c43320d648e", func := "loop.example/g00939/laws.FnExactConflictTimes", spec := "fnExactConflictTimes", apart := false, narrowed := true }
def FnExactConflictTimesUptoSaid : Prop := fnExactConflictTimesUptoRow.holds Try.pinned (OpenSpec.upto fnExactConflictTimesSpec)

end Rows
end Go.Proofs.Ytmklinmlliabaaa
