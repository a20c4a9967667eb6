/- Contracts of the tests on facings and on turns. Without conditions. -/
import Derived.Test.YtcmcpiajbamoaaaDoorIn
namespace Go.Proofs.YtcmcpiajbamoaaaDoor
open Go.RowKit

theorem isFacing_any (f : Int) (w : World) : Calls Tryd.prog 31 #[.int .i64 f] w fun e w' => e = .returned (.bool (inB f 0 7)) ∧ w = w' := by
  go_enter Tryd.func31, Tryd.ntmps31
  go_wp2_with (go_at_call 35; refine (within_any _ _ _ _).mono ?_; rintro e w' ⟨rfl, rfl⟩)
  go_ret
  exact ⟨rfl, rfl⟩

theorem tuGood_any (f : Int) (w : World) : Calls Tryd.prog 30 #[.int .i64 f] w fun e w' => e = .returned (.bool (inB f 0 7)) ∧ w = w' := by
  go_enter Tryd.func30, Tryd.ntmps30
  go_wp2_with (go_at_call 37; refine (l1In_any _ _ _ _).mono ?_; rintro e w' ⟨rfl, rfl⟩)
  go_ret
  exact ⟨rfl, rfl⟩

theorem tuEighths_any (f : Int) (w : World) : Calls Tryd.prog 43 #[.int .i64 f] w fun e w' => e = .returned (.bool (inB f (-8) 8)) ∧ w = w' := by
  go_enter Tryd.func43, Tryd.ntmps43
  go_wp2_with (go_at_call 37; refine (l1In_any _ _ _ _).mono ?_; rintro e w' ⟨rfl, rfl⟩)
  go_ret
  exact ⟨rfl, rfl⟩
end Go.Proofs.YtcmcpiajbamoaaaDoor
