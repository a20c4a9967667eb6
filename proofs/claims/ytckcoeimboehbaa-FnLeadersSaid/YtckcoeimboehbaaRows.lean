/-
  No cell of these rows narrows 'for every input' (looked for: loops, veiled, ifaces, maps, wideKeys, modest, calm, conditions, laid).
  DERIVED. THE GIVEN ROWS OF THIS SEAT. 13 by the template 'for every input the law returns true; each argument reads behind the call as it read before'; 0 by the template 'total and deterministic' (their statements: YtckcoeimboehbaaTotals.lean).
  GIVEN WITH THE SEED: the statements are not yours to turn. If you find one false, say at which input.
  Laid BY PROGRAM, IN A SANDBOX (cutbox-rows.mjs): the forced cells as the released guide's own fill.sh prints them over the translation c9eaf7f0c86e3943… (all of the seat's roots in one cut). By AI agents, Wed Nov 11 2026. No macro, syntax, notation, axiom, sorry.
-/
import Derived.Test.YtckcoeimboehbaaChecked
import GoSem.Claim
import GoSem.ClaimJoined
import GoSem.ClaimMapViews
import Derived.JoinedTies
import Derived.KernelRfl
namespace Go.Proofs.Ytckcoeimboehbaa
/- THE CELL 'sum', in the pinned program and in every row, IS THE sha256 OF THE DUMP (.gsa) THAT YtckcoeimboehbaaProg.lean LOADS. Nothing in Lean hashes anything: it is a label: what it is worth is what the hold of that sum in a sandbox is worth. -/
noncomputable def Try.pinned : Pinned := { name := "ytckcoeimboehbaa", sum := "c9eaf7f0c86e394340f086fdbbfac96590ac7d26f088ebebb25432382ee3ed8f", checked := Try.checked }
namespace Rows
def none {H : Type} : Left H := { results := [], args := [] }

/-- 'laws.FnExactIsWay': WHATEVER THE INPUT: true; the input reads as it did. -/
def fnExactIsWaySpec : ChangeSpec := { name := "fnExactIsWay", fn := fun _ => fun
  | [d] => { results := [.lit (.bool true)], args := [d] }
  | _ => none }
def fnExactIsWayRow : OpenClaim := { program := "ytckcoeimboehbaa", sum := "c9eaf7f0c86e394340f086fdbbfac96590ac7d26f088ebebb25432382ee3ed8f", func := "loop.example/g00939/laws.FnExactIsWay", spec := "fnExactIsWay", apart := false }
def FnExactIsWaySaid : Prop := fnExactIsWayRow.holds Try.pinned (OpenSpec.ofChange fnExactIsWaySpec)

/-- ITS FALSE NEIGHBOUR: 'it returns false'. Refute it at one input. -/
def fnExactIsWayWrong : ChangeSpec := { name := "fnExactIsWay", fn := fun _ => fun
  | [d] => { results := [.lit (.bool false)], args := [d] }
  | _ => none }
def FnExactIsWayWrongFalsely : Prop := fnExactIsWayRow.holds Try.pinned (OpenSpec.ofChange fnExactIsWayWrong)

/-- 'laws.FnExactWayLength': WHATEVER THE INPUT: true; the input reads as it did. -/
def fnExactWayLengthSpec : ChangeSpec := { name := "fnExactWayLength", fn := fun _ => fun
  | [d] => { results := [.lit (.bool true)], args := [d] }
  | _ => none }
def fnExactWayLengthRow : OpenClaim := { program := "ytckcoeimboehbaa", sum := "c9eaf7f0c86e394340f086fdbbfac96590ac7d26f088ebebb25432382ee3ed8f", func := "loop.example/g00939/laws.FnExactWayLength", spec := "fnExactWayLength", apart := false }
def FnExactWayLengthSaid : Prop := fnExactWayLengthRow.holds Try.pinned (OpenSpec.ofChange fnExactWayLengthSpec)

/-- ITS FALSE NEIGHBOUR: 'it returns false'. Refute it at one input. -/
def fnExactWayLengthWrong : ChangeSpec := { name := "fnExactWayLength", fn := fun _ => fun
  | [d] => { results := [.lit (.bool false)], args := [d] }
  | _ => none }
def FnExactWayLengthWrongFalsely : Prop := fnExactWayLengthRow.holds Try.pinned (OpenSpec.ofChange fnExactWayLengthWrong)

/-- 'laws.FnExactCountsToWalk': WHATEVER THE INPUT: true; the input reads as it did. -/
def fnExactCountsToWalkSpec : ChangeSpec := { name := "fnExactCountsToWalk", fn := fun _ => fun
  | [d1, d2] => { results := [.lit (.bool true)], args := [d1, d2] }
  | _ => none }
def fnExactCountsToWalkRow : OpenClaim := { program := "ytckcoeimboehbaa", sum := "c9eaf7f0c86e394340f086fdbbfac96590ac7d26f088ebebb25432382ee3ed8f", func := "loop.example/g00939/laws.FnExactCountsToWalk", spec := "fnExactCountsToWalk", apart := false }
def FnExactCountsToWalkSaid : Prop := fnExactCountsToWalkRow.holds Try.pinned (OpenSpec.ofChange fnExactCountsToWalkSpec)

/-- ITS FALSE NEIGHBOUR: 'it returns false'. Refute it at one input. -/
def fnExactCountsToWalkWrong : ChangeSpec := { name := "fnExactCountsToWalk", fn := fun _ => fun
  | [d1, d2] => { results := [.lit (.bool false)], args := [d1, d2] }
  | _ => none }
def FnExactCountsToWalkWrongFalsely : Prop := fnExactCountsToWalkRow.holds Try.pinned (OpenSpec.ofChange fnExactCountsToWalkWrong)

/-- 'laws.FnExactReverseWay': WHATEVER THE INPUT: true; the input reads as it did. -/
def fnExactReverseWaySpec : ChangeSpec := { name := "fnExactReverseWay", fn := fun _ => fun
  | [d] => { results := [.lit (.bool true)], args := [d] }
  | _ => none }
def fnExactReverseWayRow : OpenClaim := { program := "ytckcoeimboehbaa", sum := "c9eaf7f0c86e394340f086fdbbfac96590ac7d26f088ebebb25432382ee3ed8f", func := "loop.example/g00939/laws.FnExactReverseWay", spec := "fnExactReverseWay", apart := false }
def FnExactReverseWaySaid : Prop := fnExactReverseWayRow.holds Try.pinned (OpenSpec.ofChange fnExactReverseWaySpec)

/-- ITS FALSE NEIGHBOUR: 'it returns false'. Refute it at one input. -/
def fnExactReverseWayWrong : ChangeSpec := { name := "fnExactReverseWay", fn := fun _ => fun
  | [d] => { results := [.lit (.bool false)], args := [d] }
  | _ => none }
def FnExactReverseWayWrongFalsely : Prop := fnExactReverseWayRow.holds Try.pinned (OpenSpec.ofChange fnExactReverseWayWrong)

/-- 'laws.FnExactCornersPassed': WHATEVER THE INPUT: true; the input reads as it did. -/
def fnExactCornersPassedSpec : ChangeSpec := { name := "fnExactCornersPassed", fn := fun _ => fun
  | [d1, d2] => { results := [.lit (.bool true)], args := [d1, d2] }
  | _ => none }
def fnExactCornersPassedRow : OpenClaim := { program := "ytckcoeimboehbaa", sum := "c9eaf7f0c86e394340f086fdbbfac96590ac7d26f088ebebb25432382ee3ed8f", func := "loop.example/g00939/laws.FnExactCornersPassed", spec := "fnExactCornersPassed", apart := false }
def FnExactCornersPassedSaid : Prop := fnExactCornersPassedRow.holds Try.pinned (OpenSpec.ofChange fnExactCornersPassedSpec)

/-- ITS FALSE NEIGHBOUR: 'it returns false'. Refute it at one input. -/
def fnExactCornersPassedWrong : ChangeSpec := { name := "fnExactCornersPassed", fn := fun _ => fun
  | [d1, d2] => { results := [.lit (.bool false)], args := [d1, d2] }
  | _ => none }
def FnExactCornersPassedWrongFalsely : Prop := fnExactCornersPassedRow.holds Try.pinned (OpenSpec.ofChange fnExactCornersPassedWrong)

/-- 'laws.FnExactFoldsBack': WHATEVER THE INPUT: true; the input reads as it did. -/
def fnExactFoldsBackSpec : ChangeSpec := { name := "fnExactFoldsBack", fn := fun _ => fun
  | [d] => { results := [.lit (.bool true)], args := [d] }
  | _ => none }
def fnExactFoldsBackRow : OpenClaim := { program := "ytckcoeimboehbaa", sum := "c9eaf7f0c86e394340f086fdbbfac96590ac7d26f088ebebb25432382ee3ed8f", func := "loop.example/g00939/laws.FnExactFoldsBack", spec := "fnExactFoldsBack", apart := false }
def FnExactFoldsBackSaid : Prop := fnExactFoldsBackRow.holds Try.pinned (OpenSpec.ofChange fnExactFoldsBackSpec)

/-- ITS FALSE NEIGHBOUR: 'it returns false'. Refute it at one input. -/
def fnExactFoldsBackWrong : ChangeSpec := { name := "fnExactFoldsBack", fn := fun _ => fun
  | [d] => { results := [.lit (.bool false)], args := [d] }
  | _ => none }
def FnExactFoldsBackWrongFalsely : Prop := fnExactFoldsBackRow.holds Try.pinned (OpenSpec.ofChange fnExactFoldsBackWrong)

/-- 'laws.FnExactShortWay': WHATEVER THE INPUT: true; the input reads as it did. -/
def fnExactShortWaySpec : ChangeSpec := { name := "fnExactShortWay", fn := fun _ => fun
  | [d] => { results := [.lit (.bool true)], args := [d] }
  | _ => none }
def fnExactShortWayRow : OpenClaim := { program := "ytckcoeimboehbaa", sum := "c9eaf7f0c86e394340f086fdbbfac96590ac7d26f088ebebb25432382ee3ed8f", func := "loop.example/g00939/laws.FnExactShortWay", spec := "fnExactShortWay", apart := false }
def FnExactShortWaySaid : Prop := fnExactShortWayRow.holds Try.pinned (OpenSpec.ofChange fnExactShortWaySpec)

/-- ITS FALSE NEIGHBOUR: 'it returns false'. Refute it at one input. -/
def fnExactShortWayWrong : ChangeSpec := { name := "fnExactShortWay", fn := fun _ => fun
  | [d] => { results := [.lit (.bool false)], args := [d] }
  | _ => none }
def FnExactShortWayWrongFalsely : Prop := fnExactShortWayRow.holds Try.pinned (OpenSpec.ofChange fnExactShortWayWrong)

/-- 'laws.FnExactSpotAlong': WHATEVER THE INPUT: true; the input reads as it did. -/
def fnExactSpotAlongSpec : ChangeSpec := { name := "fnExactSpotAlong", fn := fun _ => fun
  | [d1, d2] => { results := [.lit (.bool true)], args := [d1, d2] }
  | _ => none }
def fnExactSpotAlongRow : OpenClaim := { program := "ytckcoeimboehbaa", sum := "c9eaf7f0c86e394340f086fdbbfac96590ac7d26f088ebebb25432382ee3ed8f", func := "loop.example/g00939/laws.FnExactSpotAlong", spec := "fnExactSpotAlong", apart := false }
def FnExactSpotAlongSaid : Prop := fnExactSpotAlongRow.holds Try.pinned (OpenSpec.ofChange fnExactSpotAlongSpec)

/-- ITS FALSE NEIGHBOUR: 'it returns false'. Refute it at one input. -/
def fnExactSpotAlongWrong : ChangeSpec := { name := "fnExactSpotAlong", fn := fun _ => fun
  | [d1, d2] => { results := [.lit (.bool false)], args := [d1, d2] }
  | _ => none }
def FnExactSpotAlongWrongFalsely : Prop := fnExactSpotAlongRow.holds Try.pinned (OpenSpec.ofChange fnExactSpotAlongWrong)

/-- 'laws.FnExactLeaderAt': WHATEVER THE INPUT: true; the input reads as it did. -/
def fnExactLeaderAtSpec : ChangeSpec := { name := "fnExactLeaderAt", fn := fun _ => fun
  | [d1, d2, d3] => { results := [.lit (.bool true)], args := [d1, d2, d3] }
  | _ => none }
def fnExactLeaderAtRow : OpenClaim := { program := "ytckcoeimboehbaa", sum := "c9eaf7f0c86e394340f086fdbbfac96590ac7d26f088ebebb25432382ee3ed8f", func := "loop.example/g00939/laws.FnExactLeaderAt", spec := "fnExactLeaderAt", apart := false }
def FnExactLeaderAtSaid : Prop := fnExactLeaderAtRow.holds Try.pinned (OpenSpec.ofChange fnExactLeaderAtSpec)

/-- ITS FALSE NEIGHBOUR: 'it returns false'. Refute it at one input. -/
def fnExactLeaderAtWrong : ChangeSpec := { name := "fnExactLeaderAt", fn := fun _ => fun
  | [d1, d2, d3] => { results := [.lit (.bool false)], args := [d1, d2, d3] }
  | _ => none }
def FnExactLeaderAtWrongFalsely : Prop := fnExactLeaderAtRow.holds Try.pinned (OpenSpec.ofChange fnExactLeaderAtWrong)

/-- 'laws.FnExactFileAt': WHATEVER THE INPUT: true; the input reads as it did. -/
def fnExactFileAtSpec : ChangeSpec := { name := "fnExactFileAt", fn := fun _ => fun
  | [d1, d2, d3, d4] => { results := [.lit (.bool true)], args := [d1, d2, d3, d4] }
  | _ => none }
def fnExactFileAtRow : OpenClaim := { program := "ytckcoeimboehbaa", sum := "c9eaf7f0c86e394340f086fdbbfac96590ac7d26f088ebebb25432382ee3ed8f", func := "loop.example/g00939/laws.FnExactFileAt", spec := "fnExactFileAt", apart := false }
def FnExactFileAtSaid : Prop := fnExactFileAtRow.holds Try.pinned (OpenSpec.ofChange fnExactFileAtSpec)

/-- ITS FALSE NEIGHBOUR: 'it returns false'. Refute it at one input. -/
def fnExactFileAtWrong : ChangeSpec := { name := "fnExactFileAt", fn := fun _ => fun
  | [d1, d2, d3, d4] => { results := [.lit (.bool false)], args := [d1, d2, d3, d4] }
  | _ => none }
def FnExactFileAtWrongFalsely : Prop := fnExactFileAtRow.holds Try.pinned (OpenSpec.ofChange fnExactFileAtWrong)

/-- 'laws.FnExactLeastInFile': WHATEVER THE INPUT: true; the input reads as it did. -/
def fnExactLeastInFileSpec : ChangeSpec := { name := "fnExactLeastInFile", fn := fun _ => fun
  | [d1, d2, d3, d4] => { results := [.lit (.bool true)], args := [d1, d2, d3, d4] }
  | _ => none }
def fnExactLeastInFileRow : OpenClaim := { program := "ytckcoeimboehbaa", sum := "c9eaf7f0c86e394340f086fdbbfac96590ac7d26f088ebebb25432382ee3ed8f", func := "loop.example/g00939/laws.FnExactLeastInFile", spec := "fnExactLeastInFile", apart := false }
def FnExactLeastInFileSaid : Prop := fnExactLeastInFileRow.holds Try.pinned (OpenSpec.ofChange fnExactLeastInFileSpec)

/-- ITS FALSE NEIGHBOUR: 'it returns false'. Refute it at one input. -/
def fnExactLeastInFileWrong : ChangeSpec := { name := "fnExactLeastInFile", fn := fun _ => fun
  | [d1, d2, d3, d4] => { results := [.lit (.bool false)], args := [d1, d2, d3, d4] }
  | _ => none }
def FnExactLeastInFileWrongFalsely : Prop := fnExactLeastInFileRow.holds Try.pinned (OpenSpec.ofChange fnExactLeastInFileWrong)

/-- 'laws.FnLeaders': WHATEVER THE INPUT: true; the input reads as it did. -/
def fnLeadersSpec : ChangeSpec := { name := "fnLeaders", fn := fun _ => fun
  | [d1, d2] => { results := [.lit (.bool true)], args := [d1, d2] }
  | _ => none }
def fnLeadersRow : OpenClaim := { program := "ytckcoeimboehbaa", sum := "c9eaf7f0c86e394340f086fdbbfac96590ac7d26f088ebebb25432382ee3ed8f", func := "loop.example/g00939/laws.FnLeaders", spec := "fnLeaders", apart := false }
def FnLeadersSaid : Prop := fnLeadersRow.holds Try.pinned (OpenSpec.ofChange fnLeadersSpec)

/-- ITS FALSE NEIGHBOUR: 'it returns false'. Refute it at one input. -/
def fnLeadersWrong : ChangeSpec := { name := "fnLeaders", fn := fun _ => fun
  | [d1, d2] => { results := [.lit (.bool false)], args := [d1, d2] }
  | _ => none }
def FnLeadersWrongFalsely : Prop := fnLeadersRow.holds Try.pinned (OpenSpec.ofChange fnLeadersWrong)

/-- 'laws.FnFiles': WHATEVER THE INPUT: true; the input reads as it did. -/
def fnFilesSpec : ChangeSpec := { name := "fnFiles", fn := fun _ => fun
  | [d1, d2] => { results := [.lit (.bool true)], args := [d1, d2] }
  | _ => none }
def fnFilesRow : OpenClaim := { program := "ytckcoeimboehbaa", sum := "c9eaf7f0c86e394340f086fdbbfac96590ac7d26f088ebebb25432382ee3ed8f", func := "loop.example/g00939/laws.FnFiles", spec := "fnFiles", apart := false }
def FnFilesSaid : Prop := fnFilesRow.holds Try.pinned (OpenSpec.ofChange fnFilesSpec)

/-- ITS FALSE NEIGHBOUR: 'it returns false'. Refute it at one input. -/
def fnFilesWrong : ChangeSpec := { name := "fnFiles", fn := fun _ => fun
  | [d1, d2] => { results := [.lit (.bool false)], args := [d1, d2] }
  | _ => none }
def FnFilesWrongFalsely : Prop := fnFilesRow.holds Try.pinned (OpenSpec.ofChange fnFilesWrong)

/- THE SECOND FORM. 'bulk': how many values and letters a reading holds, each counted each time it is reached (what is shared counts as often as it is met; a slice's spare places count too). A statement '..UptoSaid' is the law's where the arguments, and the package variables that the reading takes, are together of bulk at most 1048576: NARROWER than '..Said'. Prove '..Said' where nothing that the law and all that it calls make is longer than what came in: it says more and counts as full. Else prove '..UptoSaid'. A law counts once. -/
mutual
def uptoBulk {H : Type} : DataW H → Nat
  | .lit (.string bytes) => bytes.length + 1
  | .lit _ => 1
  | .nil => 1
  | .ptr d => uptoBulk d + 1
  | .slice elems spare => uptoBulkAll elems + uptoBulkAll spare + 1
  | .agg parts => uptoBulkAll parts + 1
  | .iface _ d => uptoBulk d + 1
  | .map entries => uptoBulkEntries entries + 1
  | .held _ => 1
def uptoBulkAll {H : Type} : List (DataW H) → Nat
  | [] => 0
  | d :: r => uptoBulk d + uptoBulkAll r
def uptoBulkEntries {H : Type} : List (Lit × DataW H) → Nat
  | [] => 0
  | x :: r => uptoBulkEntry x + uptoBulkEntries r
def uptoBulkEntry {H : Type} : Lit × DataW H → Nat
  | (.string bytes, d) => bytes.length + uptoBulk d + 1
  | (_, d) => uptoBulk d + 1
 end
def uptoSmall : (H : Type) → List (DataW H) → Bool := fun _ ds => decide (uptoBulkAll ds ≤ 1048576)
def OpenSpec.upto (s : _root_.Go.ChangeSpec) : _root_.Go.OpenSpec := { _root_.Go.OpenSpec.ofChange s with cond := some uptoSmall }

/-- 'laws.FnExactIsWay', WHERE WHAT IT READS IS OF BULK AT MOST 1048576: true; the input reads as it did. -/
def fnExactIsWayUptoRow : OpenClaim := { program := "ytckcoeimboehbaa", sum := "c9eaf7f0c86e394340f086fdbbfac96590ac7d26f088ebebb25432382ee3ed8f", func := "loop.example/g00939/laws.FnExactIsWay", spec := "fnExactIsWay", apart := false, narrowed := true }
def FnExactIsWayUptoSaid : Prop := fnExactIsWayUptoRow.holds Try.pinned (OpenSpec.upto fnExactIsWaySpec)

/-- 'laws.FnExactWayLength', WHERE WHAT IT READS IS OF BULK AT MOST 1048576: true; the input reads as it did. -/
def fnExactWayLengthUptoRow : OpenClaim := { program := "ytckcoeimboehbaa", sum := "c9eaf7f0c86e394340f086fdbbfac96590ac7d26f088ebebb25432382ee3ed8f", func := "loop.example/g00939/laws.FnExactWayLength", spec := "fnExactWayLength", apart := false, narrowed := true }
def FnExactWayLengthUptoSaid : Prop := fnExactWayLengthUptoRow.holds Try.pinned (OpenSpec.upto fnExactWayLengthSpec)

/-- 'laws.FnExactCountsToWalk', WHERE WHAT IT READS IS OF BULK AT MOST 1048576: true; the input reads as it did. -/
def fnExactCountsToWalkUptoRow : OpenClaim := { program := "ytckcoeimboehbaa", sum := "c9eaf7f0c86e394340f086fdbbfac96590ac7d26f088ebebb25432382ee3ed8f", func := "loop.example/g00939/laws.FnExactCountsToWalk", spec := "fnExactCountsToWalk", apart := false, narrowed := true }
def FnExactCountsToWalkUptoSaid : Prop := fnExactCountsToWalkUptoRow.holds Try.pinned (OpenSpec.upto fnExactCountsToWalkSpec)

/-- 'laws.FnExactReverseWay', WHERE WHAT IT READS IS OF BULK AT MOST 1048576: true; the input reads as it did. -/
def fnExactReverseWayUptoRow : OpenClaim := { program := "ytckcoeimboehbaa", sum := "c9eaf7f0c86e394340f086fdbbfac96590ac7d26f088ebebb25432382ee3ed8f", func := "loop.example/g00939/laws.FnExactReverseWay", spec := "fnExactReverseWay", apart := false, narrowed := true }
def FnExactReverseWayUptoSaid : Prop := fnExactReverseWayUptoRow.holds Try.pinned (OpenSpec.upto fnExactReverseWaySpec)

/-- 'laws.FnExactCornersPassed', WHERE WHAT IT READS IS OF BULK AT MOST 1048576: true; the input reads as it did. -/
def fnExactCornersPassedUptoRow : OpenClaim := { program := "ytckcoeimboehbaa", sum := "c9eaf7f0c86e394340f086fdbbfac96590ac7d26f088ebebb25432382ee3ed8f", func := "loop.example/g00939/laws.FnExactCornersPassed", spec := "fnExactCornersPassed", apart := false, narrowed := true }
def FnExactCornersPassedUptoSaid : Prop := fnExactCornersPassedUptoRow.holds Try.pinned (OpenSpec.upto fnExactCornersPassedSpec)

/-- 'laws.FnExactFoldsBack', WHERE WHAT IT READS IS OF BULK AT MOST 1048576: true; the input reads as it did. -/
def fnExactFoldsBackUptoRow : OpenClaim := { program := "ytckcoeimboehbaa", sum := "c9eaf7f0c86e394340f086fdbbfac96590ac7d26f088ebebb25432382ee3ed8f", func := "loop.example/g00939/laws.FnExactFoldsBack", spec := "fnExactFoldsBack", apart := false, narrowed := true }
def FnExactFoldsBackUptoSaid : Prop := fnExactFoldsBackUptoRow.holds Try.pinned (OpenSpec.upto fnExactFoldsBackSpec)

/-- 'laws.FnExactShortWay', WHERE WHAT IT READS IS OF BULK AT MOST 1048576: true; the input reads as it did. -/
def fnExactShortWayUptoRow : OpenClaim := { program := "ytckcoeimboehbaa", sum := "c9eaf7f0c86e394340f086fdbbfac96590ac7d26f088ebebb25432382ee3ed8f", func := "loop.example/g00939/laws.FnExactShortWay", spec := "fnExactShortWay", apart := false, narrowed := true }
def FnExactShortWayUptoSaid : Prop := fnExactShortWayUptoRow.holds Try.pinned (OpenSpec.upto fnExactShortWaySpec)

/-- 'laws.FnExactSpotAlong', WHERE WHAT IT READS IS OF BULK AT MOST 1048576: true; the input reads as it did. -/
def fnExactSpotAlongUptoRow : OpenClaim := { program := "ytckcoeimboehbaa", sum := "c9eaf7f0c86e394340f086fdbbfac96590ac7d26f088ebebb25432382ee3ed8f", func := "loop.example/g00939/laws.FnExactSpotAlong", spec := "fnExactSpotAlong", apart := false, narrowed := true }
def FnExactSpotAlongUptoSaid : Prop := fnExactSpotAlongUptoRow.holds Try.pinned (OpenSpec.upto fnExactSpotAlongSpec)

/-- 'laws.FnExactLeaderAt', WHERE WHAT IT READS IS OF BULK AT MOST 1048576: true; the input reads as it did. -/
def fnExactLeaderAtUptoRow : OpenClaim := { program := "ytckcoeimboehbaa", sum := "c9eaf7f0c86e394340f086fdbbfac96590ac7d26f088ebebb25432382ee3ed8f", func := "loop.example/g00939/laws.FnExactLeaderAt", spec := "fnExactLeaderAt", apart := false, narrowed := true }
def FnExactLeaderAtUptoSaid : Prop := fnExactLeaderAtUptoRow.holds Try.pinned (OpenSpec.upto fnExactLeaderAtSpec)

/-- 'laws.FnExactFileAt', WHERE WHAT IT READS IS OF BULK AT MOST 1048576: true; the input reads as it did. -/
def fnExactFileAtUptoRow : OpenClaim := { program := "ytckcoeimboehbaa", sum := "c9eaf7f0c86e394340f086fdbbfac96590ac7d26f088ebebb25432382ee3ed8f", func := "loop.example/g00939/laws.FnExactFileAt", spec := "fnExactFileAt", apart := false, narrowed := true }
def FnExactFileAtUptoSaid : Prop := fnExactFileAtUptoRow.holds Try.pinned (OpenSpec.upto fnExactFileAtSpec)

/-- 'laws.FnExactLeastInFile', WHERE WHAT IT READS IS OF BULK AT MOST 1048576: true; the input reads as it did. -/
def fnExactLeastInFileUptoRow : OpenClaim := { program := "ytckcoeimboehbaa", sum := "c9eaf7f0c86e394340f086fdbbfac96590ac7d26f088ebebb25432382ee3ed8f", func := "loop.example/g00939/laws.FnExactLeastInFile", spec := "fnExactLeastInFile", apart := false, narrowed := true }
def FnExactLeastInFileUptoSaid : Prop := fnExactLeastInFileUptoRow.holds Try.pinned (OpenSpec.upto fnExactLeastInFileSpec)

/-- 'laws.FnLeaders', WHERE WHAT IT READS IS OF BULK AT MOST 1048576: true; the input reads as it did. -/
def fnLeadersUptoRow : OpenClaim := { program := "ytckcoeimboehbaa", sum := "c9eaf7f0c86e394340f086fdbbfac96590ac7d26f088ebebb25432382ee3ed8f", func := "loop.example/g00939/laws.FnLeaders", spec := "fnLeaders", apart := false, narrowed := true }
def FnLeadersUptoSaid : Prop := fnLeadersUptoRow.holds Try.pinned (OpenSpec.upto fnLeadersSpec)

/-- 'laws.FnFiles', WHERE WHAT IT READS IS OF BULK AT MOST 1048576: true; the input reads as it did. -/
def fnFilesUptoRow : OpenClaim := { program := "ytckcoeimboehbaa", sum := "c9eaf7f0c86e394340f086fdbbfac96590ac7d26f088ebebb25432382ee3ed8f", func := "loop.example/g00939/laws.FnFiles", spec := "fnFiles", apart := false, narrowed := true }
def FnFilesUptoSaid : Prop := fnFilesUptoRow.holds Try.pinned (OpenSpec.upto fnFilesSpec)

end Rows
end Go.Proofs.Ytckcoeimboehbaa
