/- Contracts of the tests on facings and on turns. Without conditions. -/
import Derived.Test.YtcmcpiajbamoaaaIn
namespace Go.Proofs.Ytcmcpiajbamoaaa
open Go.RowKit

theorem isFacing_any (f : Int) (w : World) : Calls Try.prog 44 #[.int .i64 f] w fun e w' => e = .returned (.bool (inB f 0 7)) ∧ w = w' := by
  go_enter Try.func44, Try.ntmps44
  go_wp2_with (go_at_call 47; refine (within_any _ _ _ _).mono ?_; rintro e w' ⟨rfl, rfl⟩)
  go_ret
  exact ⟨rfl, rfl⟩

theorem tuGood_any (f : Int) (w : World) : Calls Try.prog 43 #[.int .i64 f] w fun e w' => e = .returned (.bool (inB f 0 7)) ∧ w = w' := by
  go_enter Try.func43, Try.ntmps43
  go_wp2_with (go_at_call 50; refine (l1In_any _ _ _ _).mono ?_; rintro e w' ⟨rfl, rfl⟩)
  go_ret
  exact ⟨rfl, rfl⟩

theorem tuEighths_any (f : Int) (w : World) : Calls Try.prog 45 #[.int .i64 f] w fun e w' => e = .returned (.bool (inB f (-8) 8)) ∧ w = w' := by
  go_enter Try.func45, Try.ntmps45
  go_wp2_with (go_at_call 50; refine (l1In_any _ _ _ _).mono ?_; rintro e w' ⟨rfl, rfl⟩)
  go_ret
  exact ⟨rfl, rfl⟩
end Go.Proofs.Ytcmcpiajbamoaaa
