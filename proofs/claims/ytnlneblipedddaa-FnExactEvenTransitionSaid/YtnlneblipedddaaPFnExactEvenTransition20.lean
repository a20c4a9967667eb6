/- Contracts of how near two moves come to each other, in the program and in the reference. Condition: moves on the field. Contracts of the least square of two moves, and of the test whether they stay apart, in the program and in the reference. Condition: moves on the field. -/
import Derived.Test.YtnlneblipedddaaPFnExactEvenTransition01
import Derived.Test.YtnlneblipedddaaPFnExactEvenTransition19
import Derived.Test.YtnlneblipedddaaPFnExactEvenTransition09
import Derived.StillTailTactics
import Derived.Deep.RegionHeld3
import Derived.BigQuiet
import Derived.Deep.QuietTactic
namespace Go.Proofs.Ytnlneblipedddaa
open Go.RowKit

/-- A move on the field. -/
def okM (x y z u : Int) : Prop := (0 ≤ x ∧ x ≤ 1280) ∧ (0 ≤ y ∧ y ≤ 1280) ∧ (0 ≤ z ∧ z ≤ 1280) ∧ 0 ≤ u ∧ u ≤ 1280
end Go.Proofs.Ytnlneblipedddaa

namespace Go.Proofs.Ytnlneblipedddaa
open Go.RowKit

def sqL (x y z u : Int) : Int := (x - z) * (x - z) + (y - u) * (y - u)
set_option maxHeartbeats 1000000 in
theorem squareOf_any (x y z u : Int) (w : World) (hx : 0 ≤ x ∧ x ≤ 1280) (hy : 0 ≤ y ∧ y ≤ 1280) (hz : 0 ≤ z ∧ z ≤ 1280) (hu : 0 ≤ u ∧ u ≤ 1280) :
    Calls Try.prog 53 #[(Value.agg #[Value.int .i64 x, Value.int .i64 y]), (Value.agg #[Value.int .i64 z, Value.int .i64 u])] w fun e w' => e = .returned (.int .i64 (sqL x y z u)) ∧ Below w.heap.size w w' := by
  obtain ⟨h1, h2⟩ := mul_wide (x := x - z) (y := x - z) (a := 1280) (b := 1280) (by omega) (by omega) (by omega) (by omega)
  obtain ⟨h3, h4⟩ := mul_wide (x := y - u) (y := y - u) (a := 1280) (b := 1280) (by omega) (by omega) (by omega) (by omega)
  have HR := Lib.hid (show sqL x y z u = (x - z) * (x - z) + (y - u) * (y - u) from rfl)
  go_enter Try.func53, Try.ntmps53
  go_wp2_with fail
  go_ret
  exact ⟨by rw [HR.out]; rfl, ((Below.refl _ _).alloc (Nat.le_refl _) _).alloc (by simp) _⟩
set_option maxHeartbeats 1000000 in
theorem stSquare_any (x y z u : Int) (w : World) (hx : 0 ≤ x ∧ x ≤ 1280) (hy : 0 ≤ y ∧ y ≤ 1280) (hz : 0 ≤ z ∧ z ≤ 1280) (hu : 0 ≤ u ∧ u ≤ 1280) :
    Calls Try.prog 70 #[(Value.agg #[Value.int .i64 x, Value.int .i64 y]), (Value.agg #[Value.int .i64 z, Value.int .i64 u])] w fun e w' => e = .returned (.int .i64 (sqL x y z u)) ∧ Below w.heap.size w w' := by
  obtain ⟨h1, h2⟩ := mul_wide (x := x - z) (y := x - z) (a := 1280) (b := 1280) (by omega) (by omega) (by omega) (by omega)
  obtain ⟨h3, h4⟩ := mul_wide (x := y - u) (y := y - u) (a := 1280) (b := 1280) (by omega) (by omega) (by omega) (by omega)
  have HR := Lib.hid (show sqL x y z u = (x - z) * (x - z) + (y - u) * (y - u) from rfl)
  go_enter Try.func70, Try.ntmps70
  go_wp2_with fail
  go_ret
  exact ⟨by rw [HR.out]; rfl, ((Below.refl _ _).alloc (Nat.le_refl _) _).alloc (by simp) _⟩
theorem l1Least_any (a b : Int) (w : World) : Calls Try.prog 89 #[.int .i64 a, .int .i64 b] w fun e w' => e = .returned (.int .i64 (min a b)) ∧ w = w' := by
  by_cases h : a < b
  · have hf := Lib.hid (show min a b = a by omega)
    go_enter Try.func89, Try.ntmps89
    go_wp2_with fail
    go_ret
    exact ⟨by rw [hf.out]; rfl, rfl⟩
  · have hf := Lib.hid (show min a b = b by omega)
    go_enter Try.func89, Try.ntmps89
    go_wp2_with fail
    go_ret
    exact ⟨by rw [hf.out]; rfl, rfl⟩

end Go.Proofs.Ytnlneblipedddaa
