/- Contracts of the direction of a move, in the program and in the reference. Condition: the spots lie on the field. -/
import Derived.Test.YtcmcpiajbamoaaaMove
import Derived.BigQuiet
import Derived.Deep.QuietTactic
import Derived.WalkLawsBesides
namespace Go.Proofs.Ytcmcpiajbamoaaa
open Go.RowKit

def ab (x : Int) : Int := if 0 ≤ x then x else -x
theorem ab_pos {x : Int} (h : 0 ≤ x) : ab x = x := by simp [ab, h]
theorem ab_neg {x : Int} (h : x < 0) : ab x = -x := by simp [ab]; omega
theorem ab_le {x m : Int} (h1 : -m ≤ x) (h2 : x ≤ m) : 0 ≤ ab x ∧ ab x ≤ m := by unfold ab; split <;> omega

theorem l1Abs_any (x : Int) (w : World) (h1 : -1000000000000 ≤ x) (h2 : x ≤ 1000000000000) : Calls Try.prog 51 #[.int .i64 x] w fun e w' => e = .returned (.int .i64 (ab x)) ∧ w = w' := by
  by_cases h : 0 < x
  · have hf := Lib.hid (ab_pos (Int.le_of_lt h))
    have hd : -x < x := by omega
    go_enter Try.func51, Try.ntmps51
    go_wp2
    go_ret
    exact ⟨by rw [hf.out]; rfl, rfl⟩
  · have hf := Lib.hid (show ab x = -x by unfold ab; split <;> omega)
    have hd : ¬ -x < x := by omega
    go_enter Try.func51, Try.ntmps51
    go_wp2
    go_ret
    exact ⟨by rw [hf.out]; rfl, rfl⟩

/-- The direction of a move by dx, dy. -/
def dirL (dx dy : Int) : Int :=
  if 5 * ab dx ≤ 2 * ab dy then (if 0 < dy then 0 else 4) else if 5 * ab dy ≤ 2 * ab dx then (if 0 < dx then 2 else 6) else if 0 < dx then (if 0 < dy then 1 else 3) else if dy < 0 then 5 else 7

theorem ret_int {k : IntKind} {a b : Int} (h : a = b) : Ending.returned (.int k a) = .returned (.int k b) := by rw [h]
theorem ab_cases (x : Int) : 0 ≤ x ∧ ab x = x ∨ x < 0 ∧ ab x = -x := by
  by_cases h : 0 ≤ x
  · exact .inl ⟨h, ab_pos h⟩
  · exact .inr ⟨by omega, ab_neg (by omega)⟩

set_option maxHeartbeats 400000 in
theorem directionOf_any (x y z u c : Int) (w : World) (hx : -1280 ≤ z - x) (hx' : z - x ≤ 1280) (hy : -672 ≤ u - y) (hy' : u - y ≤ 672) :
    Calls Try.prog 57 #[(Value.agg #[Value.int .i64 x, Value.int .i64 y, Value.int .i64 z, Value.int .i64 u, Value.int .i64 c])] w fun e w' => e = .returned (.int .i64 (dirL (z - x) (u - y))) ∧ Below w.heap.size w w' := by
  have HX := Lib.hid (ab_cases (z - x))
  have HY := Lib.hid (ab_cases (u - y))
  go_enter Try.func57, Try.ntmps57
  go_wp2_with fail
  go_quiet (fail)
  go_wp2_with fail
  all_goals go_ret
  all_goals
    refine ⟨ret_int ?_, below_drewN ((Below.refl _ _).alloc (Nat.le_refl _) _) _⟩
    have hX := HX.out
    have hY := HY.out
    unfold dirL
    rcases hX with ⟨a1, a2⟩ | ⟨a1, a2⟩ <;> rcases hY with ⟨b1, b2⟩ | ⟨b1, b2⟩ <;> rw [a2, b2] <;> (repeat' split) <;> omega

set_option maxHeartbeats 1000000 in
theorem tuDirection_exact (x y z u c : Int) (w : World) (hx : -1280 ≤ z - x) (hx' : z - x ≤ 1280) (hy : -672 ≤ u - y) (hy' : u - y ≤ 672) :
    Calls Try.prog 54 #[(Value.agg #[Value.int .i64 x, Value.int .i64 y, Value.int .i64 z, Value.int .i64 u, Value.int .i64 c])] w fun e w' => e = .returned (.int .i64 (dirL (z - x) (u - y))) ∧ ∃ n, w' = (w.alloc (.cells #[.int .i64 x, .int .i64 y, .int .i64 z, .int .i64 u, .int .i64 c] 43)).drewN n := by
  obtain ⟨a1, a2⟩ := ab_le hx hx'
  obtain ⟨b1, b2⟩ := ab_le (x := u - y) (m := 672) hy hy'
  go_enter Try.func54, Try.ntmps54
  go_wp2_with fail
  go_quiet (fail)
  go_wp2_with (go_at_call 51; refine (l1Abs_any _ _ (by omega) (by omega)).mono ?_; rintro e w' ⟨rfl, rfl⟩)
  all_goals go_ret
  all_goals
    refine ⟨ret_int ?_, _, rfl⟩
    unfold dirL
    (repeat' split) <;> omega
theorem tuDirection_any (x y z u c : Int) (w : World) (hx : -1280 ≤ z - x) (hx' : z - x ≤ 1280) (hy : -672 ≤ u - y) (hy' : u - y ≤ 672) :
    Calls Try.prog 54 #[(Value.agg #[Value.int .i64 x, Value.int .i64 y, Value.int .i64 z, Value.int .i64 u, Value.int .i64 c])] w fun e w' => e = .returned (.int .i64 (dirL (z - x) (u - y))) ∧ Below w.heap.size w w' :=
  (tuDirection_exact x y z u c w hx hx' hy hy').mono fun _ _ ⟨h1, n, h2⟩ => ⟨h1, by rw [h2]; exact below_drewN ((Below.refl _ _).alloc (Nat.le_refl _) _) _⟩
end Go.Proofs.Ytcmcpiajbamoaaa
