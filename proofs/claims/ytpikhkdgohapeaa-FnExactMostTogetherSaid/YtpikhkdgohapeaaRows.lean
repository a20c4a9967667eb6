/-
  No cell of these rows narrows 'for every input' (looked for: loops, veiled, ifaces, maps, wideKeys, modest, calm, conditions, laid).
  DERIVED. THE GIVEN ROWS OF THIS SEAT. 6 by the template 'for every input the law returns true; each argument reads behind the call as it read before'; 0 by the template 'total and deterministic' (their statements: YtpikhkdgohapeaaTotals.lean).
  GIVEN WITH THE SEED: the statements are not yours to turn. If you find one false, say at which input.
  Laid BY PROGRAM, IN A SANDBOX (cutbox-rows.mjs): the forced cells as the released guide's own fill.sh prints them over the translation 53e8162818afad02… (all of the seat's roots in one cut). By AI agents, Wed Nov 11 2026. No macro, syntax, notation, axiom, sorry.
-/
import Derived.Test.YtpikhkdgohapeaaChecked
import GoSem.Claim
import GoSem.ClaimJoined
import GoSem.ClaimMapViews
import Derived.JoinedTies
import Derived.KernelRfl
namespace Go.Proofs.Ytpikhkdgohapeaa
/- THE CELL 'sum', in the pinned program and in every row, IS THE sha256 OF THE DUMP (.gsa) THAT YtpikhkdgohapeaaProg.lean LOADS. Nothing in Lean hashes anything: it is a label: what it is worth is what the hold of that sum in a sandbox is worth. -/
noncomputable def Try.pinned : Pinned := { name := "ytpikhkdgohapeaa", sum := "53e8162818afad0261df10ee130861ca9b8459899f3c808ce84f71da33de7051", checked := Try.checked }
namespace Rows
def none {H : Type} : Left H := { results := [], args := [] }

/-- 'laws.FnExactPlaceDelayed': WHATEVER THE INPUT: true; the input reads as it did. -/
def fnExactPlaceDelayedSpec : ChangeSpec := { name := "fnExactPlaceDelayed", fn := fun _ => fun
  | [d1, d2, d3] => { results := [.lit (.bool true)], args := [d1, d2, d3] }
  | _ => none }
def fnExactPlaceDelayedRow : OpenClaim := { program := "ytpikhkdgohapeaa", sum := "53e8162818afad0261df10ee130861ca9b8459899f3c808ce84f71da33de7051", func := "loop.example/g00939/laws.FnExactPlaceDelayed", spec := "fnExactPlaceDelayed", apart := false }
def FnExactPlaceDelayedSaid : Prop := fnExactPlaceDelayedRow.holds Try.pinned (OpenSpec.ofChange fnExactPlaceDelayedSpec)

/-- ITS FALSE NEIGHBOUR: 'it returns false'. Refute it at one input. -/
def fnExactPlaceDelayedWrong : ChangeSpec := { name := "fnExactPlaceDelayed", fn := fun _ => fun
  | [d1, d2, d3] => { results := [.lit (.bool false)], args := [d1, d2, d3] }
  | _ => none }
def FnExactPlaceDelayedWrongFalsely : Prop := fnExactPlaceDelayedRow.holds Try.pinned (OpenSpec.ofChange fnExactPlaceDelayedWrong)

/-- 'laws.FnExactLeastDelayed': WHATEVER THE INPUT: true; the input reads as it did. -/
def fnExactLeastDelayedSpec : ChangeSpec := { name := "fnExactLeastDelayed", fn := fun _ => fun
  | [d1, d2, d3, d4] => { results := [.lit (.bool true)], args := [d1, d2, d3, d4] }
  | _ => none }
def fnExactLeastDelayedRow : OpenClaim := { program := "ytpikhkdgohapeaa", sum := "53e8162818afad0261df10ee130861ca9b8459899f3c808ce84f71da33de7051", func := "loop.example/g00939/laws.FnExactLeastDelayed", spec := "fnExactLeastDelayed", apart := false }
def FnExactLeastDelayedSaid : Prop := fnExactLeastDelayedRow.holds Try.pinned (OpenSpec.ofChange fnExactLeastDelayedSpec)

/-- ITS FALSE NEIGHBOUR: 'it returns false'. Refute it at one input. -/
def fnExactLeastDelayedWrong : ChangeSpec := { name := "fnExactLeastDelayed", fn := fun _ => fun
  | [d1, d2, d3, d4] => { results := [.lit (.bool false)], args := [d1, d2, d3, d4] }
  | _ => none }
def FnExactLeastDelayedWrongFalsely : Prop := fnExactLeastDelayedRow.holds Try.pinned (OpenSpec.ofChange fnExactLeastDelayedWrong)

/-- 'laws.FnExactRoomOf': WHATEVER THE INPUT: true; the input reads as it did. -/
def fnExactRoomOfSpec : ChangeSpec := { name := "fnExactRoomOf", fn := fun _ => fun
  | [d] => { results := [.lit (.bool true)], args := [d] }
  | _ => none }
def fnExactRoomOfRow : OpenClaim := { program := "ytpikhkdgohapeaa", sum := "53e8162818afad0261df10ee130861ca9b8459899f3c808ce84f71da33de7051", func := "loop.example/g00939/laws.FnExactRoomOf", spec := "fnExactRoomOf", apart := false }
def FnExactRoomOfSaid : Prop := fnExactRoomOfRow.holds Try.pinned (OpenSpec.ofChange fnExactRoomOfSpec)

/-- ITS FALSE NEIGHBOUR: 'it returns false'. Refute it at one input. -/
def fnExactRoomOfWrong : ChangeSpec := { name := "fnExactRoomOf", fn := fun _ => fun
  | [d] => { results := [.lit (.bool false)], args := [d] }
  | _ => none }
def FnExactRoomOfWrongFalsely : Prop := fnExactRoomOfRow.holds Try.pinned (OpenSpec.ofChange fnExactRoomOfWrong)

/-- 'laws.FnExactFewestWaves': WHATEVER THE INPUT: true; the input reads as it did. -/
def fnExactFewestWavesSpec : ChangeSpec := { name := "fnExactFewestWaves", fn := fun _ => fun
  | [d1, d2] => { results := [.lit (.bool true)], args := [d1, d2] }
  | _ => none }
def fnExactFewestWavesRow : OpenClaim := { program := "ytpikhkdgohapeaa", sum := "53e8162818afad0261df10ee130861ca9b8459899f3c808ce84f71da33de7051", func := "loop.example/g00939/laws.FnExactFewestWaves", spec := "fnExactFewestWaves", recurses := true, apart := false }
def FnExactFewestWavesSaid : Prop := fnExactFewestWavesRow.holds Try.pinned (OpenSpec.ofChange fnExactFewestWavesSpec)

/-- ITS FALSE NEIGHBOUR: 'it returns false'. Refute it at one input. -/
def fnExactFewestWavesWrong : ChangeSpec := { name := "fnExactFewestWaves", fn := fun _ => fun
  | [d1, d2] => { results := [.lit (.bool false)], args := [d1, d2] }
  | _ => none }
def FnExactFewestWavesWrongFalsely : Prop := fnExactFewestWavesRow.holds Try.pinned (OpenSpec.ofChange fnExactFewestWavesWrong)

/-- 'laws.FnExactWavesOf': WHATEVER THE INPUT: true; the input reads as it did. -/
def fnExactWavesOfSpec : ChangeSpec := { name := "fnExactWavesOf", fn := fun _ => fun
  | [d1, d2] => { results := [.lit (.bool true)], args := [d1, d2] }
  | _ => none }
def fnExactWavesOfRow : OpenClaim := { program := "ytpikhkdgohapeaa", sum := "53e8162818afad0261df10ee130861ca9b8459899f3c808ce84f71da33de7051", func := "loop.example/g00939/laws.FnExactWavesOf", spec := "fnExactWavesOf", recurses := true, apart := false }
def FnExactWavesOfSaid : Prop := fnExactWavesOfRow.holds Try.pinned (OpenSpec.ofChange fnExactWavesOfSpec)

/-- ITS FALSE NEIGHBOUR: 'it returns false'. Refute it at one input. -/
def fnExactWavesOfWrong : ChangeSpec := { name := "fnExactWavesOf", fn := fun _ => fun
  | [d1, d2] => { results := [.lit (.bool false)], args := [d1, d2] }
  | _ => none }
def FnExactWavesOfWrongFalsely : Prop := fnExactWavesOfRow.holds Try.pinned (OpenSpec.ofChange fnExactWavesOfWrong)

/-- 'laws.FnExactMostTogether': WHATEVER THE INPUT: true; the input reads as it did. -/
def fnExactMostTogetherSpec : ChangeSpec := { name := "fnExactMostTogether", fn := fun _ => fun
  | [d1, d2] => { results := [.lit (.bool true)], args := [d1, d2] }
  | _ => none }
def fnExactMostTogetherRow : OpenClaim := { program := "ytpikhkdgohapeaa", sum := "53e8162818afad0261df10ee130861ca9b8459899f3c808ce84f71da33de7051", func := "loop.example/g00939/laws.FnExactMostTogether", spec := "fnExactMostTogether", recurses := true, apart := false }
def FnExactMostTogetherSaid : Prop := fnExactMostTogetherRow.holds Try.pinned (OpenSpec.ofChange fnExactMostTogetherSpec)

/-- ITS FALSE NEIGHBOUR: 'it returns false'. Refute it at one input. -/
def fnExactMostTogetherWrong : ChangeSpec := { name := "fnExactMostTogether", fn := fun _ => fun
  | [d1, d2] => { results := [.lit (.bool false)], args := [d1, d2] }
  | _ => none }
def FnExactMostTogetherWrongFalsely : Prop := fnExactMostTogetherRow.holds Try.pinned (OpenSpec.ofChange fnExactMostTogetherWrong)

/- THE SECOND FORM. 'bulk': how many values and letters a reading holds, each counted each time it is reached (what is shared counts as often as it is met; a slice's spare places count too). A statement '..UptoSaid' is the law's where the arguments, and the package variables that the reading takes, are together of bulk at most 1048576: NARROWER than '..Said'. Prove '..Said' where nothing that the law and all that it calls make is longer than what came in: it says more and counts as full. Else prove '..UptoSaid'. A law counts once. -/
mutual
def uptoBulk {H : Type} : DataW H → Nat
  | .lit (.string bytes) => bytes.length + 1
  | .lit _ => 1
  | .nil => 1
  | .ptr d => uptoBulk d + 1
  | .slice elems spare => uptoBulkAll elems + uptoBulkAll spare + 1
  | .agg parts => uptoBulkAll parts + 1
  | .iface _ d => uptoBulk d + 1
  | .map entries => uptoBulkEntries entries + 1
  | .held _ => 1
def uptoBulkAll {H : Type} : List (DataW H) → Nat
  | [] => 0
  | d :: r => uptoBulk d + uptoBulkAll r
def uptoBulkEntries {H : Type} : List (Lit × DataW H) → Nat
  | [] => 0
  | x :: r => uptoBulkEntry x + uptoBulkEntries r
def uptoBulkEntry {H : Type} : Lit × DataW H → Nat
  | (.string bytes, d) => bytes.length + uptoBulk d + 1
  | (_, d) => uptoBulk d + 1
 end
def uptoSmall : (H : Type) → List (DataW H) → Bool := fun _ ds => decide (uptoBulkAll ds ≤ 1048576)
def OpenSpec.upto (s : _root_.Go.ChangeSpec) : _root_.Go.OpenSpec := { _root_.Go.OpenSpec.ofChange s with cond := some uptoSmall }

/-- 'laws.FnExactPlaceDelayed', WHERE WHAT IT READS IS OF BULK AT MOST 1048576: true; the input reads as it did. -/
def fnExactPlaceDelayedUptoRow : OpenClaim := { program := "ytpikhkdgohapeaa", sum := "53e8162818afad0261df10ee130861ca9b8459899f3c808ce84f71da33de7051", func := "loop.example/g00939/laws.FnExactPlaceDelayed", spec := "fnExactPlaceDelayed", apart := false, narrowed := true }
def FnExactPlaceDelayedUptoSaid : Prop := fnExactPlaceDelayedUptoRow.holds Try.pinned (OpenSpec.upto fnExactPlaceDelayedSpec)

/-- 'laws.FnExactLeastDelayed', WHERE WHAT IT READS IS OF BULK AT MOST 1048576: true; the input reads as it did. -/
def fnExactLeastDelayedUptoRow : OpenClaim := { program := "ytpikhkdgohapeaa", sum := "53e8162818afad0261df10ee130861ca9b8459899f3c808ce84f71da33de7051", func := "loop.example/g00939/laws.FnExactLeastDelayed", spec := "fnExactLeastDelayed", apart := false, narrowed := true }
def FnExactLeastDelayedUptoSaid : Prop := fnExactLeastDelayedUptoRow.holds Try.pinned (OpenSpec.upto fnExactLeastDelayedSpec)

/-- 'laws.FnExactRoomOf', WHERE WHAT IT READS IS OF BULK AT MOST 1048576: true; the input reads as it did. -/
def fnExactRoomOfUptoRow : OpenClaim := { program := "ytpikhkdgohapeaa", sum := "53e8162818afad0261df10ee130861ca9b8459899f3c808ce84f71da33de7051", func := "loop.example/g00939/laws.FnExactRoomOf", spec := "fnExactRoomOf", apart := false, narrowed := true }
def FnExactRoomOfUptoSaid : Prop := fnExactRoomOfUptoRow.holds Try.pinned (OpenSpec.upto fnExactRoomOfSpec)

/-- 'laws.FnExactFewestWaves', WHERE WHAT IT READS IS OF BULK AT MOST 1048576: true; the input reads as it did. -/
def fnExactFewestWavesUptoRow : OpenClaim := { program := "ytpikhkdgohapeaa", sum := "53e8162818afad0261df10ee130861ca9b8459899f3c808ce84f71da33de7051", func := "loop.example/g00939/laws.FnExactFewestWaves", spec := "fnExactFewestWaves", recurses := true, apart := false, narrowed := true }
def FnExactFewestWavesUptoSaid : Prop := fnExactFewestWavesUptoRow.holds Try.pinned (OpenSpec.upto fnExactFewestWavesSpec)

/-- 'laws.FnExactWavesOf', WHERE WHAT IT READS IS OF BULK AT MOST 1048576: true; the input reads as it did. -/
def fnExactWavesOfUptoRow : OpenClaim := { program := "ytpikhkdgohapeaa", sum := "53e8162818afad0261df10ee130861ca9b8459899f3c808ce84f71da33de7051", func := "loop.example/g00939/laws.FnExactWavesOf", spec := "fnExactWavesOf", recurses := true, apart := false, narrowed := true }
def FnExactWavesOfUptoSaid : Prop := fnExactWavesOfUptoRow.holds Try.pinned (OpenSpec.upto fnExactWavesOfSpec)

/-- 'laws.FnExactMostTogether', WHERE WHAT IT READS IS OF BULK AT MOST 1048576: true; the input reads as it did. -/
def fnExactMostTogetherUptoRow : OpenClaim := { program := "ytpikhkdgohapeaa", sum := "53e8162818afad0261df10ee130861ca9b8459899f3c808ce84f71da33de7051", func := "loop.example/g00939/laws.FnExactMostTogether", spec := "fnExactMostTogether", recurses := true, apart := false, narrowed := true }
def FnExactMostTogetherUptoSaid : Prop := fnExactMostTogetherUptoRow.holds Try.pinned (OpenSpec.upto fnExactMostTogetherSpec)

end Rows
end Go.Proofs.Ytpikhkdgohapeaa
