/- Contracts of the tests on facings and on turns. Without conditions. -/
import Derived.Test.YtcpbcmebfiilmaaDoorIn
namespace Go.Proofs.YtcpbcmebfiilmaaDoor
open Go.RowKit

theorem isFacing_any (f : Int) (w : World) : Calls Tryd.prog 28 #[.int .i64 f] w fun e w' => e = .returned (.bool (inB f 0 7)) ∧ w = w' := by
  go_enter Tryd.func28, Tryd.ntmps28
  go_wp2_with (go_at_call 32; refine (within_any _ _ _ _).mono ?_; rintro e w' ⟨rfl, rfl⟩)
  go_ret
  exact ⟨rfl, rfl⟩

theorem tuGood_any (f : Int) (w : World) : Calls Tryd.prog 30 #[.int .i64 f] w fun e w' => e = .returned (.bool (inB f 0 7)) ∧ w = w' := by
  go_enter Tryd.func30, Tryd.ntmps30
  go_wp2_with (go_at_call 34; refine (l1In_any _ _ _ _).mono ?_; rintro e w' ⟨rfl, rfl⟩)
  go_ret
  exact ⟨rfl, rfl⟩

theorem tuEighths_any (f : Int) (w : World) : Calls Tryd.prog 40 #[.int .i64 f] w fun e w' => e = .returned (.bool (inB f (-8) 8)) ∧ w = w' := by
  go_enter Tryd.func40, Tryd.ntmps40
  go_wp2_with (go_at_call 34; refine (l1In_any _ _ _ _).mono ?_; rintro e w' ⟨rfl, rfl⟩)
  go_ret
  exact ⟨rfl, rfl⟩
end Go.Proofs.YtcpbcmebfiilmaaDoor
