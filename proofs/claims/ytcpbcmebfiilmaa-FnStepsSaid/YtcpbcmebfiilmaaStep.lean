/- The contract of the reference's test on a step. Without conditions. -/
import Derived.Test.YtcpbcmebfiilmaaIn
namespace Go.Proofs.Ytcpbcmebfiilmaa
open Go.RowKit
theorem mvStep_any (s : Int) (w : World) : Calls Try.prog 38 #[.int .i64 s] w fun e w' => e = .returned (.bool (inB s 1 24)) ∧ w = w' := by
  go_enter Try.func38, Try.ntmps38
  go_wp2_with fail
  refine (l1In_any _ _ _ _).mono ?_
  rintro e w' ⟨rfl, rfl⟩
  go_wp2_with fail
  go_ret
  exact ⟨rfl, rfl⟩
end Go.Proofs.Ytcpbcmebfiilmaa
