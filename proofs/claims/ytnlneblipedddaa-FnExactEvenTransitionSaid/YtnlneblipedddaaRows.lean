/-
  No cell of these rows narrows 'for every input' (looked for: loops, veiled, ifaces, maps, wideKeys, modest, calm, conditions, laid).
  DERIVED. THE GIVEN ROWS OF THIS SEAT. 2 by the template 'for every input the law returns true; each argument reads behind the call as it read before'; 0 by the template 'total and deterministic' (their statements: YtnlneblipedddaaTotals.lean).
  GIVEN WITH THE SEED: the statements are not yours to turn. If you find one false, say at which input.
  Laid BY PROGRAM, IN A SANDBOX (cutbox-rows.mjs): the forced cells as the released guide's own fill.sh prints them over the translation 9f8a4390c1d8f5db… (all of the seat's roots in one cut). By AI agents, Wed Nov 11 2026. No macro, syntax, notation, axiom, sorry.
-/
import Derived.Test.YtnlneblipedddaaChecked
import GoSem.Claim
import GoSem.ClaimJoined
import GoSem.ClaimMapViews
import Derived.JoinedTies
import Derived.KernelRfl
namespace Go.Proofs.Ytnlneblipedddaa
/- THE CELL 'sum', in the pinned program and in every row, IS THE sha256 OF THE DUMP (.gsa) THAT YtnlneblipedddaaProg.lean LOADS. Nothing in Lean hashes anything: it is a label: what it is worth is what the hold of that sum in a sandbox is worth. -/
noncomputable def Try.pinned : Pinned := { name := "ytnlneblipedddaa", sum := "9f8a4390c1d8f5db84c4c0273e0abb68287f7da38528547cf23d2a8dc443df86", checked := Try.checked }
namespace Rows
def none {H : Type} : Left H := { results := [], args := [] }

/-- 'laws.FnTransitions': WHATEVER THE INPUT: true; the input reads as it did. -/
def fnTransitionsSpec : ChangeSpec := { name := "fnTransitions", fn := fun _ => fun
  | [d1, d2] => { results := [.lit (.bool true)], args := [d1, d2] }
  | _ => none }
def fnTransitionsRow : OpenClaim := { program := "ytnlneblipedddaa", sum := "9f8a4390c1d8f5db84c4c0273e0abb68287f7da38528547cf23d2a8dc443df86", func := "loop.example/g00939/laws.FnTransitions", spec := "fnTransitions", apart := false }
def FnTransitionsSaid : Prop := fnTransitionsRow.holds Try.pinned (OpenSpec.ofChange fnTransitionsSpec)

/-- ITS FALSE NEIGHBOUR: 'it returns false'. Refute it at one input. -/
def fnTransitionsWrong : ChangeSpec := { name := "fnTransitions", fn := fun _ => fun
  | [d1, d2] => { results := [.lit (.bool false)], args := [d1, d2] }
  | _ => none }
def FnTransitionsWrongFalsely : Prop := fnTransitionsRow.holds Try.pinned (OpenSpec.ofChange fnTransitionsWrong)

/-- 'laws.FnExactEvenTransition': WHATEVER THE INPUT: true; the input reads as it did. -/
def fnExactEvenTransitionSpec : ChangeSpec := { name := "fnExactEvenTransition", fn := fun _ => fun
  | [d1, d2, d3] => { results := [.lit (.bool true)], args := [d1, d2, d3] }
  | _ => none }
def fnExactEvenTransitionRow : OpenClaim := { program := "ytnlneblipedddaa", sum := "9f8a4390c1d8f5db84c4c0273e0abb68287f7da38528547cf23d2a8dc443df86", func := "loop.example/g00939/laws.FnExactEvenTransition", spec := "fnExactEvenTransition", apart := false }
def FnExactEvenTransitionSaid : Prop := fnExactEvenTransitionRow.holds Try.pinned (OpenSpec.ofChange fnExactEvenTransitionSpec)

/-- ITS FALSE NEIGHBOUR: 'it returns false'. Refute it at one input. -/
def fnExactEvenTransitionWrong : ChangeSpec := { name := "fnExactEvenTransition", fn := fun _ => fun
  | [d1, d2, d3] => { results := [.lit (.bool false)], args := [d1, d2, d3] }
  | _ => none }
def FnExactEvenTransitionWrongFalsely : Prop := fnExactEvenTransitionRow.holds Try.pinned (OpenSpec.ofChange fnExactEvenTransitionWrong)

/- THE SECOND FORM. 'bulk': how many values and letters a reading holds, each counted each time it is reached (what is shared counts as often as it is met; a slice's spare places count too). A statement '..UptoSaid' is the law's where the arguments, and the package variables that the reading takes, are together of bulk at most 1048576: NARROWER than '..Said'. Prove '..Said' where nothing that the law and all that it calls make is longer than what came in: it says more and counts as full. Else prove '..UptoSaid'. A law counts once. -/
mutual
def uptoBulk {H : Type} : DataW H → Nat
  | .lit (.string bytes) => bytes.length + 1
  | .lit _ => 1
  | .nil => 1
  | .ptr d => uptoBulk d + 1
  | .slice elems spare => uptoBulkAll elems + uptoBulkAll spare + 1
  | .agg parts => uptoBulkAll parts + 1
  | .iface _ d => uptoBulk d + 1
  | .map entries => uptoBulkEntries entries + 1
  | .held _ => 1
def uptoBulkAll {H : Type} : List (DataW H) → Nat
  | [] => 0
  | d :: r => uptoBulk d + uptoBulkAll r
def uptoBulkEntries {H : Type} : List (Lit × DataW H) → Nat
  | [] => 0
  | x :: r => uptoBulkEntry x + uptoBulkEntries r
def uptoBulkEntry {H : Type} : Lit × DataW H → Nat
  | (.string bytes, d) => bytes.length + uptoBulk d + 1
  | (_, d) => uptoBulk d + 1
 end
def uptoSmall : (H : Type) → List (DataW H) → Bool := fun _ ds => decide (uptoBulkAll ds ≤ 1048576)
def OpenSpec.upto (s : _root_.Go.ChangeSpec) : _root_.Go.OpenSpec := { _root_.Go.OpenSpec.ofChange s with cond := some uptoSmall }

/-- 'laws.FnTransitions', WHERE WHAT IT READS IS OF BULK AT MOST 1048576: true; the input reads as it did. -/
def fnTransitionsUptoRow : OpenClaim := { program := "ytnlneblipedddaa", sum := "9f8a4390c1d8f5db84c4c0273e0abb68287f7da38528547cf23d2a8dc443df86", func := "loop.example/g00939/laws.FnTransitions", spec := "fnTransitions", apart := false, narrowed := true }
def FnTransitionsUptoSaid : Prop := fnTransitionsUptoRow.holds Try.pinned (OpenSpec.upto fnTransitionsSpec)

/-- 'laws.FnExactEvenTransition', WHERE WHAT IT READS IS OF BULK AT MOST 1048576: true; the input reads as it did. -/
def fnExactEvenTransitionUptoRow : OpenClaim := { program := "ytnlneblipedddaa", sum := "9f8a4390c1d8f5db84c4c0273e0abb68287f7da38528547cf23d2a8dc443df86", func := "loop.example/g00939/laws.FnExactEvenTransition", spec := "fnExactEvenTransition", apart := false, narrowed := true }
def FnExactEvenTransitionUptoSaid : Prop := fnExactEvenTransitionUptoRow.holds Try.pinned (OpenSpec.upto fnExactEvenTransitionSpec)

end Rows
end Go.Proofs.Ytnlneblipedddaa
