/- Contracts of the direction of a move, in the program and in the reference. Condition: the spots lie on the field. -/
import Derived.Test.YtcpbcmebfiilmaaMove
import Derived.Test.YtcpbcmebfiilmaaAbs
import Derived.BigQuiet
import Derived.Deep.QuietTactic
import Derived.WalkLawsBesides
namespace Go.Proofs.Ytcpbcmebfiilmaa
open Go.RowKit

/-- The direction of a move by dx, dy. -/
def dirL (dx dy : Int) : Int :=
  if 5 * ab dx ≤ 2 * ab dy then (if 0 < dy then 0 else 4) else if 5 * ab dy ≤ 2 * ab dx then (if 0 < dx then 2 else 6) else if 0 < dx then (if 0 < dy then 1 else 3) else if dy < 0 then 5 else 7

set_option maxHeartbeats 400000 in
theorem directionOf_any (x y z u c : Int) (w : World) (hx : -1280 ≤ z - x) (hx' : z - x ≤ 1280) (hy : -672 ≤ u - y) (hy' : u - y ≤ 672) :
    Calls Try.prog 23 #[(Value.agg #[Value.int .i64 x, Value.int .i64 y, Value.int .i64 z, Value.int .i64 u, Value.int .i64 c])] w fun e w' => e = .returned (.int .i64 (dirL (z - x) (u - y))) ∧ Below w.heap.size w w' := by
  have HX := Lib.hid (ab_cases (z - x))
  have HY := Lib.hid (ab_cases (u - y))
  go_enter Try.func23, Try.ntmps23
  go_wp2_with fail
  go_quiet (fail)
  go_wp2_with fail
  all_goals go_ret
  all_goals
    refine ⟨ret_int ?_, below_drewN ((Below.refl _ _).alloc (Nat.le_refl _) _) _⟩
    have hX := HX.out
    have hY := HY.out
    unfold dirL
    rcases hX with ⟨a1, a2⟩ | ⟨a1, a2⟩ <;> rcases hY with ⟨b1, b2⟩ | ⟨b1, b2⟩ <;> rw [a2, b2] <;> (repeat' split) <;> omega

set_option maxHeartbeats 1000000 in
theorem tuDirection_exact (x y z u c : Int) (w : World) (hx : -1280 ≤ z - x) (hx' : z - x ≤ 1280) (hy : -672 ≤ u - y) (hy' : u - y ≤ 672) :
    Calls Try.prog 25 #[(Value.agg #[Value.int .i64 x, Value.int .i64 y, Value.int .i64 z, Value.int .i64 u, Value.int .i64 c])] w fun e w' => e = .returned (.int .i64 (dirL (z - x) (u - y))) ∧ ∃ n, w' = (w.alloc (.cells #[.int .i64 x, .int .i64 y, .int .i64 z, .int .i64 u, .int .i64 c] 27)).drewN n := by
  obtain ⟨a1, a2⟩ := ab_le hx hx'
  obtain ⟨b1, b2⟩ := ab_le (x := u - y) (m := 672) hy hy'
  go_enter Try.func25, Try.ntmps25
  go_wp2_with fail
  go_quiet (fail)
  go_wp2_with (go_at_call 45; refine (l1Abs_any _ _ (by omega) (by omega)).mono ?_; rintro e w' ⟨rfl, rfl⟩)
  all_goals go_ret
  all_goals
    refine ⟨ret_int ?_, _, rfl⟩
    unfold dirL
    (repeat' split) <;> omega
theorem tuDirection_any (x y z u c : Int) (w : World) (hx : -1280 ≤ z - x) (hx' : z - x ≤ 1280) (hy : -672 ≤ u - y) (hy' : u - y ≤ 672) :
    Calls Try.prog 25 #[(Value.agg #[Value.int .i64 x, Value.int .i64 y, Value.int .i64 z, Value.int .i64 u, Value.int .i64 c])] w fun e w' => e = .returned (.int .i64 (dirL (z - x) (u - y))) ∧ Below w.heap.size w w' :=
  (tuDirection_exact x y z u c w hx hx' hy hy').mono fun _ _ ⟨h1, n, h2⟩ => ⟨h1, by rw [h2]; exact below_drewN ((Below.refl _ _).alloc (Nat.le_refl _) _) _⟩
end Go.Proofs.Ytcpbcmebfiilmaa
