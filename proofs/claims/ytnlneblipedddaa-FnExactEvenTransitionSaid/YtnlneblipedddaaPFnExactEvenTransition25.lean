/- The contract of bits.OnesCount for numbers below 4096. -/
import Derived.Test.YtnlneblipedddaaPFnExactEvenTransition03
import Derived.Test.YtnlneblipedddaaPFnExactEvenTransition21
namespace Go.Proofs.Ytnlneblipedddaa
open Go.RowKit

set_option maxRecDepth 100000 in
set_option maxHeartbeats 4000000 in
theorem OnesCount64_any (u : Nat) (hu : u < 4096) (w : World) :
    Calls Try.prog 93 #[.int .u64 (u : Int)] w fun e w' => e = .returned (.int .i64 ((popc u 12 : Nat) : Int)) ∧ w = w' := by
  go_enter Try.func93, Try.ntmps93
  go_wp2_with fail
  go_ret
  refine ⟨?_, rfl⟩
  show Ending.returned (Value.int IntKind.i64 _) = Ending.returned (Value.int IntKind.i64 _)
  congr 2
  revert u
  decide +kernel
end Go.Proofs.Ytnlneblipedddaa
