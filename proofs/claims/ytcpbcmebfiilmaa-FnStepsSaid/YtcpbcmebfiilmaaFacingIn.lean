/- Contracts of the tests on facings and on turns. Without conditions. -/
import Derived.Test.YtcpbcmebfiilmaaIn
namespace Go.Proofs.Ytcpbcmebfiilmaa
open Go.RowKit

theorem isFacing_any (f : Int) (w : World) : Calls Try.prog 26 #[.int .i64 f] w fun e w' => e = .returned (.bool (inB f 0 7)) ∧ w = w' := by
  go_enter Try.func26, Try.ntmps26
  go_wp2_with (go_at_call 36; refine (within_any _ _ _ _).mono ?_; rintro e w' ⟨rfl, rfl⟩)
  go_ret
  exact ⟨rfl, rfl⟩

theorem tuGood_any (f : Int) (w : World) : Calls Try.prog 30 #[.int .i64 f] w fun e w' => e = .returned (.bool (inB f 0 7)) ∧ w = w' := by
  go_enter Try.func30, Try.ntmps30
  go_wp2_with (go_at_call 47; refine (l1In_any _ _ _ _).mono ?_; rintro e w' ⟨rfl, rfl⟩)
  go_ret
  exact ⟨rfl, rfl⟩

end Go.Proofs.Ytcpbcmebfiilmaa
