/-
  No cell of these rows narrows 'for every input' (looked for: loops, veiled, ifaces, maps, wideKeys, modest, calm, conditions, laid).
  DERIVED. THE GIVEN ROWS OF THIS SEAT. 11 by the template 'for every input the law returns true; each argument reads behind the call as it read before'; 0 by the template 'total and deterministic' (their statements: YtmhgcfacliefeaaTotals.lean).
  GIVEN WITH THE SEED: the statements are not yours to turn. If you find one false, say at which input.
  Laid BY PROGRAM, IN A SANDBOX (cutbox-rows.mjs): the forced cells as the released guide's own fill.sh prints them over the translation 91740e7a7025eb4a… (all of the seat's roots in one cut). By AI agents, Wed Nov 11 2026. No macro, syntax, notation, axiom, sorry.
-/
import Derived.Test.YtmhgcfacliefeaaChecked
import GoSem.Claim
import GoSem.ClaimJoined
import GoSem.ClaimMapViews
import Derived.JoinedTies
import Derived.KernelRfl
namespace Go.Proofs.Ytmhgcfacliefeaa
/- THE CELL 'sum', in the pinned program and in every row, IS THE sha256 OF THE DUMP (.gsa) THAT YtmhgcfacliefeaaProg.lean LOADS. Nothing in Lean hashes anything: it is a label: what it is worth is what the hold of that sum in a sandbox is worth. -/
noncomputable def Try.pinned : Pinned := { name := "ytmhgcfacliefeaa", sum := "91740e7a7025eb4abfb6a471a4c7a767a00a7a3865c4d6d8d8d67b533de8f2d1", checked := Try.checked }
namespace Rows
def none {H : Type} : Left H := { results := [], args := [] }

/-- 'laws.FnExactFewestCarriers': WHATEVER THE INPUT: true; the input reads as it did. -/
def fnExactFewestCarriersSpec : ChangeSpec := { name := "fnExactFewestCarriers", fn := fun _ => fun
  | [d1, d2, d3, d4] => { results := [.lit (.bool true)], args := [d1, d2, d3, d4] }
  | _ => none }
def fnExactFewestCarriersRow : OpenClaim := { program := "ytmhgcfacliefeaa", sum := "91740e7a7025eb4abfb6a471a4c7a767a00a7a3865c4d6d8d8d67b533de8f2d1", func := "loop.example/g00939/laws.FnExactFewestCarriers", spec := "fnExactFewestCarriers", apart := false }
def FnExactFewestCarriersSaid : Prop := fnExactFewestCarriersRow.holds Try.pinned (OpenSpec.ofChange fnExactFewestCarriersSpec)

/-- ITS FALSE NEIGHBOUR: 'it returns false'. Refute it at one input. -/
def fnExactFewestCarriersWrong : ChangeSpec := { name := "fnExactFewestCarriers", fn := fun _ => fun
  | [d1, d2, d3, d4] => { results := [.lit (.bool false)], args := [d1, d2, d3, d4] }
  | _ => none }
def FnExactFewestCarriersWrongFalsely : Prop := fnExactFewestCarriersRow.holds Try.pinned (OpenSpec.ofChange fnExactFewestCarriersWrong)

/-- 'laws.FnExactAreCarries': WHATEVER THE INPUT: true; the input reads as it did. -/
def fnExactAreCarriesSpec : ChangeSpec := { name := "fnExactAreCarries", fn := fun _ => fun
  | [d] => { results := [.lit (.bool true)], args := [d] }
  | _ => none }
def fnExactAreCarriesRow : OpenClaim := { program := "ytmhgcfacliefeaa", sum := "91740e7a7025eb4abfb6a471a4c7a767a00a7a3865c4d6d8d8d67b533de8f2d1", func := "loop.example/g00939/laws.FnExactAreCarries", spec := "fnExactAreCarries", apart := false }
def FnExactAreCarriesSaid : Prop := fnExactAreCarriesRow.holds Try.pinned (OpenSpec.ofChange fnExactAreCarriesSpec)

/-- ITS FALSE NEIGHBOUR: 'it returns false'. Refute it at one input. -/
def fnExactAreCarriesWrong : ChangeSpec := { name := "fnExactAreCarries", fn := fun _ => fun
  | [d] => { results := [.lit (.bool false)], args := [d] }
  | _ => none }
def FnExactAreCarriesWrongFalsely : Prop := fnExactAreCarriesRow.holds Try.pinned (OpenSpec.ofChange fnExactAreCarriesWrong)

/-- 'laws.FnExactCarrierAt': WHATEVER THE INPUT: true; the input reads as it did. -/
def fnExactCarrierAtSpec : ChangeSpec := { name := "fnExactCarrierAt", fn := fun _ => fun
  | [d1, d2, d3] => { results := [.lit (.bool true)], args := [d1, d2, d3] }
  | _ => none }
def fnExactCarrierAtRow : OpenClaim := { program := "ytmhgcfacliefeaa", sum := "91740e7a7025eb4abfb6a471a4c7a767a00a7a3865c4d6d8d8d67b533de8f2d1", func := "loop.example/g00939/laws.FnExactCarrierAt", spec := "fnExactCarrierAt", apart := false }
def FnExactCarrierAtSaid : Prop := fnExactCarrierAtRow.holds Try.pinned (OpenSpec.ofChange fnExactCarrierAtSpec)

/-- ITS FALSE NEIGHBOUR: 'it returns false'. Refute it at one input. -/
def fnExactCarrierAtWrong : ChangeSpec := { name := "fnExactCarrierAt", fn := fun _ => fun
  | [d1, d2, d3] => { results := [.lit (.bool false)], args := [d1, d2, d3] }
  | _ => none }
def FnExactCarrierAtWrongFalsely : Prop := fnExactCarrierAtRow.holds Try.pinned (OpenSpec.ofChange fnExactCarrierAtWrong)

/-- 'laws.FnExactLoadAt': WHATEVER THE INPUT: true; the input reads as it did. -/
def fnExactLoadAtSpec : ChangeSpec := { name := "fnExactLoadAt", fn := fun _ => fun
  | [d1, d2, d3] => { results := [.lit (.bool true)], args := [d1, d2, d3] }
  | _ => none }
def fnExactLoadAtRow : OpenClaim := { program := "ytmhgcfacliefeaa", sum := "91740e7a7025eb4abfb6a471a4c7a767a00a7a3865c4d6d8d8d67b533de8f2d1", func := "loop.example/g00939/laws.FnExactLoadAt", spec := "fnExactLoadAt", apart := false }
def FnExactLoadAtSaid : Prop := fnExactLoadAtRow.holds Try.pinned (OpenSpec.ofChange fnExactLoadAtSpec)

/-- ITS FALSE NEIGHBOUR: 'it returns false'. Refute it at one input. -/
def fnExactLoadAtWrong : ChangeSpec := { name := "fnExactLoadAt", fn := fun _ => fun
  | [d1, d2, d3] => { results := [.lit (.bool false)], args := [d1, d2, d3] }
  | _ => none }
def FnExactLoadAtWrongFalsely : Prop := fnExactLoadAtRow.holds Try.pinned (OpenSpec.ofChange fnExactLoadAtWrong)

/-- 'laws.FnExactLongestCarry': WHATEVER THE INPUT: true; the input reads as it did. -/
def fnExactLongestCarrySpec : ChangeSpec := { name := "fnExactLongestCarry", fn := fun _ => fun
  | [d1, d2] => { results := [.lit (.bool true)], args := [d1, d2] }
  | _ => none }
def fnExactLongestCarryRow : OpenClaim := { program := "ytmhgcfacliefeaa", sum := "91740e7a7025eb4abfb6a471a4c7a767a00a7a3865c4d6d8d8d67b533de8f2d1", func := "loop.example/g00939/laws.FnExactLongestCarry", spec := "fnExactLongestCarry", apart := false }
def FnExactLongestCarrySaid : Prop := fnExactLongestCarryRow.holds Try.pinned (OpenSpec.ofChange fnExactLongestCarrySpec)

/-- ITS FALSE NEIGHBOUR: 'it returns false'. Refute it at one input. -/
def fnExactLongestCarryWrong : ChangeSpec := { name := "fnExactLongestCarry", fn := fun _ => fun
  | [d1, d2] => { results := [.lit (.bool false)], args := [d1, d2] }
  | _ => none }
def FnExactLongestCarryWrongFalsely : Prop := fnExactLongestCarryRow.holds Try.pinned (OpenSpec.ofChange fnExactLongestCarryWrong)

/-- 'laws.FnExactEffortOf': WHATEVER THE INPUT: true; the input reads as it did. -/
def fnExactEffortOfSpec : ChangeSpec := { name := "fnExactEffortOf", fn := fun _ => fun
  | [d1, d2, d3] => { results := [.lit (.bool true)], args := [d1, d2, d3] }
  | _ => none }
def fnExactEffortOfRow : OpenClaim := { program := "ytmhgcfacliefeaa", sum := "91740e7a7025eb4abfb6a471a4c7a767a00a7a3865c4d6d8d8d67b533de8f2d1", func := "loop.example/g00939/laws.FnExactEffortOf", spec := "fnExactEffortOf", apart := false }
def FnExactEffortOfSaid : Prop := fnExactEffortOfRow.holds Try.pinned (OpenSpec.ofChange fnExactEffortOfSpec)

/-- ITS FALSE NEIGHBOUR: 'it returns false'. Refute it at one input. -/
def fnExactEffortOfWrong : ChangeSpec := { name := "fnExactEffortOf", fn := fun _ => fun
  | [d1, d2, d3] => { results := [.lit (.bool false)], args := [d1, d2, d3] }
  | _ => none }
def FnExactEffortOfWrongFalsely : Prop := fnExactEffortOfRow.holds Try.pinned (OpenSpec.ofChange fnExactEffortOfWrong)

/-- 'laws.FnExactHandOversOf': WHATEVER THE INPUT: true; the input reads as it did. -/
def fnExactHandOversOfSpec : ChangeSpec := { name := "fnExactHandOversOf", fn := fun _ => fun
  | [d1, d2] => { results := [.lit (.bool true)], args := [d1, d2] }
  | _ => none }
def fnExactHandOversOfRow : OpenClaim := { program := "ytmhgcfacliefeaa", sum := "91740e7a7025eb4abfb6a471a4c7a767a00a7a3865c4d6d8d8d67b533de8f2d1", func := "loop.example/g00939/laws.FnExactHandOversOf", spec := "fnExactHandOversOf", apart := false }
def FnExactHandOversOfSaid : Prop := fnExactHandOversOfRow.holds Try.pinned (OpenSpec.ofChange fnExactHandOversOfSpec)

/-- ITS FALSE NEIGHBOUR: 'it returns false'. Refute it at one input. -/
def fnExactHandOversOfWrong : ChangeSpec := { name := "fnExactHandOversOf", fn := fun _ => fun
  | [d1, d2] => { results := [.lit (.bool false)], args := [d1, d2] }
  | _ => none }
def FnExactHandOversOfWrongFalsely : Prop := fnExactHandOversOfRow.holds Try.pinned (OpenSpec.ofChange fnExactHandOversOfWrong)

/-- 'laws.FnExactTooLong': WHATEVER THE INPUT: true; the input reads as it did. -/
def fnExactTooLongSpec : ChangeSpec := { name := "fnExactTooLong", fn := fun _ => fun
  | [d1, d2] => { results := [.lit (.bool true)], args := [d1, d2] }
  | _ => none }
def fnExactTooLongRow : OpenClaim := { program := "ytmhgcfacliefeaa", sum := "91740e7a7025eb4abfb6a471a4c7a767a00a7a3865c4d6d8d8d67b533de8f2d1", func := "loop.example/g00939/laws.FnExactTooLong", spec := "fnExactTooLong", apart := false }
def FnExactTooLongSaid : Prop := fnExactTooLongRow.holds Try.pinned (OpenSpec.ofChange fnExactTooLongSpec)

/-- ITS FALSE NEIGHBOUR: 'it returns false'. Refute it at one input. -/
def fnExactTooLongWrong : ChangeSpec := { name := "fnExactTooLong", fn := fun _ => fun
  | [d1, d2] => { results := [.lit (.bool false)], args := [d1, d2] }
  | _ => none }
def FnExactTooLongWrongFalsely : Prop := fnExactTooLongRow.holds Try.pinned (OpenSpec.ofChange fnExactTooLongWrong)

/-- 'laws.FnExactDroppedRanges': WHATEVER THE INPUT: true; the input reads as it did. -/
def fnExactDroppedRangesSpec : ChangeSpec := { name := "fnExactDroppedRanges", fn := fun _ => fun
  | [d1, d2, d3, d4] => { results := [.lit (.bool true)], args := [d1, d2, d3, d4] }
  | _ => none }
def fnExactDroppedRangesRow : OpenClaim := { program := "ytmhgcfacliefeaa", sum := "91740e7a7025eb4abfb6a471a4c7a767a00a7a3865c4d6d8d8d67b533de8f2d1", func := "loop.example/g00939/laws.FnExactDroppedRanges", spec := "fnExactDroppedRanges", apart := false }
def FnExactDroppedRangesSaid : Prop := fnExactDroppedRangesRow.holds Try.pinned (OpenSpec.ofChange fnExactDroppedRangesSpec)

/-- ITS FALSE NEIGHBOUR: 'it returns false'. Refute it at one input. -/
def fnExactDroppedRangesWrong : ChangeSpec := { name := "fnExactDroppedRanges", fn := fun _ => fun
  | [d1, d2, d3, d4] => { results := [.lit (.bool false)], args := [d1, d2, d3, d4] }
  | _ => none }
def FnExactDroppedRangesWrongFalsely : Prop := fnExactDroppedRangesRow.holds Try.pinned (OpenSpec.ofChange fnExactDroppedRangesWrong)

/-- 'laws.FnExactSplitCarry': WHATEVER THE INPUT: true; the input reads as it did. -/
def fnExactSplitCarrySpec : ChangeSpec := { name := "fnExactSplitCarry", fn := fun _ => fun
  | [d1, d2, d3, d4] => { results := [.lit (.bool true)], args := [d1, d2, d3, d4] }
  | _ => none }
def fnExactSplitCarryRow : OpenClaim := { program := "ytmhgcfacliefeaa", sum := "91740e7a7025eb4abfb6a471a4c7a767a00a7a3865c4d6d8d8d67b533de8f2d1", func := "loop.example/g00939/laws.FnExactSplitCarry", spec := "fnExactSplitCarry", unfollowed := true, recurses := true, apart := false }
def FnExactSplitCarrySaid : Prop := fnExactSplitCarryRow.holds Try.pinned (OpenSpec.ofChange fnExactSplitCarrySpec)

/-- ITS FALSE NEIGHBOUR: 'it returns false'. Refute it at one input. -/
def fnExactSplitCarryWrong : ChangeSpec := { name := "fnExactSplitCarry", fn := fun _ => fun
  | [d1, d2, d3, d4] => { results := [.lit (.bool false)], args := [d1, d2, d3, d4] }
  | _ => none }
def FnExactSplitCarryWrongFalsely : Prop := fnExactSplitCarryRow.holds Try.pinned (OpenSpec.ofChange fnExactSplitCarryWrong)

/-- 'laws.FnEfforts': WHATEVER THE INPUT: true; the input reads as it did. -/
def fnEffortsSpec : ChangeSpec := { name := "fnEfforts", fn := fun _ => fun
  | [d1, d2] => { results := [.lit (.bool true)], args := [d1, d2] }
  | _ => none }
def fnEffortsRow : OpenClaim := { program := "ytmhgcfacliefeaa", sum := "91740e7a7025eb4abfb6a471a4c7a767a00a7a3865c4d6d8d8d67b533de8f2d1", func := "loop.example/g00939/laws.FnEfforts", spec := "fnEfforts", unfollowed := true, recurses := true, apart := false }
def FnEffortsSaid : Prop := fnEffortsRow.holds Try.pinned (OpenSpec.ofChange fnEffortsSpec)

/-- ITS FALSE NEIGHBOUR: 'it returns false'. Refute it at one input. -/
def fnEffortsWrong : ChangeSpec := { name := "fnEfforts", fn := fun _ => fun
  | [d1, d2] => { results := [.lit (.bool false)], args := [d1, d2] }
  | _ => none }
def FnEffortsWrongFalsely : Prop := fnEffortsRow.holds Try.pinned (OpenSpec.ofChange fnEffortsWrong)

/- THE SECOND FORM. 'bulk': how many values and letters a reading holds, each counted each time it is reached (what is shared counts as often as it is met; a slice's spare places count too). A statement '..UptoSaid' is the law's where the arguments, and the package variables that the reading takes, are together of bulk at most 1048576: NARROWER than '..Said'. Prove '..Said' where nothing that the law and all that it calls make is longer than what came in: it says more and counts as full. Else prove '..UptoSaid'. A law counts once. -/
mutual
def uptoBulk {H : Type} : DataW H → Nat
  | .lit (.string bytes) => bytes.length + 1
  | .lit _ => 1
  | .nil => 1
  | .ptr d => uptoBulk d + 1
  | .slice elems spare => uptoBulkAll elems + uptoBulkAll spare + 1
  | .agg parts => uptoBulkAll parts + 1
  | .iface _ d => uptoBulk d + 1
  | .map entries => uptoBulkEntries entries + 1
  | .held _ => 1
def uptoBulkAll {H : Type} : List (DataW H) → Nat
  | [] => 0
  | d :: r => uptoBulk d + uptoBulkAll r
def uptoBulkEntries {H : Type} : List (Lit × DataW H) → Nat
  | [] => 0
  | x :: r => uptoBulkEntry x + uptoBulkEntries r
def uptoBulkEntry {H : Type} : Lit × DataW H → Nat
  | (.string bytes, d) => bytes.length + uptoBulk d + 1
  | (_, d) => uptoBulk d + 1
 end
def uptoSmall : (H : Type) → List (DataW H) → Bool := fun _ ds => decide (uptoBulkAll ds ≤ 1048576)
def OpenSpec.upto (s : _root_.Go.ChangeSpec) : _root_.Go.OpenSpec := { _root_.Go.OpenSpec.ofChange s with cond := some uptoSmall }

/-- 'laws.FnExactFewestCarriers', WHERE WHAT IT READS IS OF BULK AT MOST 1048576: true; the input reads as it did. -/
def fnExactFewestCarriersUptoRow : OpenClaim := { program := "ytmhgcfacliefeaa", sum := "91740e7a7025eb4abfb6a471a4c7a767a00a7a3865c4d6d8d8d67b533de8f2d1", func := "loop.example/g00939/laws.FnExactFewestCarriers", spec := "fnExactFewestCarriers", apart := false, narrowed := true }
def FnExactFewestCarriersUptoSaid : Prop := fnExactFewestCarriersUptoRow.holds Try.pinned (OpenSpec.upto fnExactFewestCarriersSpec)

/-- 'laws.FnExactAreCarries', WHERE WHAT IT READS IS OF BULK AT MOST 1048576: true; the input reads as it did. -/
def fnExactAreCarriesUptoRow : OpenClaim := { program := "ytmhgcfacliefeaa", sum := "91740e7a7025eb4abfb6a471a4c7a767a00a7a3865c4d6d8d8d67b533de8f2d1", func := "loop.example/g00939/laws.FnExactAreCarries", spec := "fnExactAreCarries", apart := false, narrowed := true }
def FnExactAreCarriesUptoSaid : Prop := fnExactAreCarriesUptoRow.holds Try.pinned (OpenSpec.upto fnExactAreCarriesSpec)

/-- 'laws.FnExactCarrierAt', WHERE WHAT IT READS IS OF BULK AT MOST 1048576: true; the input reads as it did. -/
def fnExactCarrierAtUptoRow : OpenClaim := { program := "ytmhgcfacliefeaa", sum := "91740e7a7025eb4abfb6a471a4c7a767a00a7a3865c4d6d8d8d67b533de8f2d1", func := "loop.example/g00939/laws.FnExactCarrierAt", spec := "fnExactCarrierAt", apart := false, narrowed := true }
def FnExactCarrierAtUptoSaid : Prop := fnExactCarrierAtUptoRow.holds Try.pinned (OpenSpec.upto fnExactCarrierAtSpec)

/-- 'laws.FnExactLoadAt', WHERE WHAT IT READS IS OF BULK AT MOST 1048576: true; the input reads as it did. -/
def fnExactLoadAtUptoRow : OpenClaim := { program := "ytmhgcfacliefeaa", sum := "91740e7a7025eb4abfb6a471a4c7a767a00a7a3865c4d6d8d8d67b533de8f2d1", func := "loop.example/g00939/laws.FnExactLoadAt", spec := "fnExactLoadAt", apart := false, narrowed := true }
def FnExactLoadAtUptoSaid : Prop := fnExactLoadAtUptoRow.holds Try.pinned (OpenSpec.upto fnExactLoadAtSpec)

/-- 'laws.FnExactLongestCarry', WHERE WHAT IT READS IS OF BULK AT MOST 1048576: true; the input reads as it did. -/
def fnExactLongestCarryUptoRow : OpenClaim := { program := "ytmhgcfacliefeaa", sum := "91740e7a7025eb4abfb6a471a4c7a767a00a7a3865c4d6d8d8d67b533de8f2d1", func := "loop.example/g00939/laws.FnExactLongestCarry", spec := "fnExactLongestCarry", apart := false, narrowed := true }
def FnExactLongestCarryUptoSaid : Prop := fnExactLongestCarryUptoRow.holds Try.pinned (OpenSpec.upto fnExactLongestCarrySpec)

/-- 'laws.FnExactEffortOf', WHERE WHAT IT READS IS OF BULK AT MOST 1048576: true; the input reads as it did. -/
def fnExactEffortOfUptoRow : OpenClaim := { program := "ytmhgcfacliefeaa", sum := "91740e7a7025eb4abfb6a471a4c7a767a00a7a3865c4d6d8d8d67b533de8f2d1", func := "loop.example/g00939/laws.FnExactEffortOf", spec := "fnExactEffortOf", apart := false, narrowed := true }
def FnExactEffortOfUptoSaid : Prop := fnExactEffortOfUptoRow.holds Try.pinned (OpenSpec.upto fnExactEffortOfSpec)

/-- 'laws.FnExactHandOversOf', WHERE WHAT IT READS IS OF BULK AT MOST 1048576: true; the input reads as it did. -/
def fnExactHandOversOfUptoRow : OpenClaim := { program := "ytmhgcfacliefeaa", sum := "91740e7a7025eb4abfb6a471a4c7a767a00a7a3865c4d6d8d8d67b533de8f2d1", func := "loop.example/g00939/laws.FnExactHandOversOf", spec := "fnExactHandOversOf", apart := false, narrowed := true }
def FnExactHandOversOfUptoSaid : Prop := fnExactHandOversOfUptoRow.holds Try.pinned (OpenSpec.upto fnExactHandOversOfSpec)

/-- 'laws.FnExactTooLong', WHERE WHAT IT READS IS OF BULK AT MOST 1048576: true; the input reads as it did. -/
def fnExactTooLongUptoRow : OpenClaim := { program := "ytmhgcfacliefeaa", sum := "91740e7a7025eb4abfb6a471a4c7a767a00a7a3865c4d6d8d8d67b533de8f2d1", func := "loop.example/g00939/laws.FnExactTooLong", spec := "fnExactTooLong", apart := false, narrowed := true }
def FnExactTooLongUptoSaid : Prop := fnExactTooLongUptoRow.holds Try.pinned (OpenSpec.upto fnExactTooLongSpec)

/-- 'laws.FnExactDroppedRanges', WHERE WHAT IT READS IS OF BULK AT MOST 1048576: true; the input reads as it did. -/
def fnExactDroppedRangesUptoRow : OpenClaim := { program := "ytmhgcfacliefeaa", sum := "91740e7a7025eb4abfb6a471a4c7a767a00a7a3865c4d6d8d8d67b533de8f2d1", func := "loop.example/g00939/laws.FnExactDroppedRanges", spec := "fnExactDroppedRanges", apart := false, narrowed := true }
def FnExactDroppedRangesUptoSaid : Prop := fnExactDroppedRangesUptoRow.holds Try.pinned (OpenSpec.upto fnExactDroppedRangesSpec)

/-- 'laws.FnExactSplitCarry', WHERE WHAT IT READS IS OF BULK AT MOST 1048576: true; the input reads as it did. -/
def fnExactSplitCarryUptoRow : OpenClaim := { program := "ytmhgcfacliefeaa", sum := "91740e7a7025eb4abfb6a471a4c7a767a00a7a3865c4d6d8d8d67b533de8f2d1", func := "loop.example/g00939/laws.FnExactSplitCarry", spec := "fnExactSplitCarry", unfollowed := true, recurses := true, apart := false, narrowed := true }
def FnExactSplitCarryUptoSaid : Prop := fnExactSplitCarryUptoRow.holds Try.pinned (OpenSpec.upto fnExactSplitCarrySpec)

/-- 'laws.FnEfforts', WHERE WHAT IT READS IS OF BULK AT MOST 1048576: true; the input reads as it did. -/
def fnEffortsUptoRow : OpenClaim := { program := "ytmhgcfacliefeaa", sum := "91740e7a7025eb4abfb6a471a4c7a767a00a7a3865c4d6d8d8d67b533de8f2d1", func := "loop.example/g00939/laws.FnEfforts", spec := "fnEfforts", unfollowed := true, recurses := true, apart := false, narrowed := true }
def FnEffortsUptoSaid : Prop := fnEffortsUptoRow.holds Try.pinned (OpenSpec.upto fnEffortsSpec)

end Rows
end Go.Proofs.Ytmhgcfacliefeaa
