/- Contracts of how near two moves come to each other, in the program and in the reference. Condition: moves on the field. Contracts of the least square of two moves, and of the test whether they stay apart, in the program and in the reference. Condition: moves on the field. Contracts of the test whether two moves stay apart, and of the reference's least square of two moves. Condition: moves on the field. Contracts of whether two moves go together, and of the two ClosestTime. Condition: both moves are good, with the same counts. -/
import Derived.Test.YtnlneblipedddaaPFnTransitions01
import Derived.Test.YtnlneblipedddaaPFnTransitions10
import Derived.Test.YtnlneblipedddaaPFnTransitions11
import Derived.StillTailTactics
import Derived.Deep.RegionHeld3
import Derived.BigQuiet
import Derived.Deep.QuietTactic
import Derived.Test.YtnlneblipedddaaPFnTransitions02
namespace Go.Proofs.Ytnlneblipedddaa
open Go.RowKit

/-- A move on the field. -/
def okM (x y z u : Int) : Prop := (0 ≤ x ∧ x ≤ 1280) ∧ (0 ≤ y ∧ y ≤ 1280) ∧ (0 ≤ z ∧ z ≤ 1280) ∧ 0 ≤ u ∧ u ≤ 1280
end Go.Proofs.Ytnlneblipedddaa

namespace Go.Proofs.Ytnlneblipedddaa
open Go.RowKit

def sqL (x y z u : Int) : Int := (x - z) * (x - z) + (y - u) * (y - u)
set_option maxHeartbeats 1000000 in
theorem squareOf_any (x y z u : Int) (w : World) (hx : 0 ≤ x ∧ x ≤ 1280) (hy : 0 ≤ y ∧ y ≤ 1280) (hz : 0 ≤ z ∧ z ≤ 1280) (hu : 0 ≤ u ∧ u ≤ 1280) :
    Calls Try.prog 53 #[(Value.agg #[Value.int .i64 x, Value.int .i64 y]), (Value.agg #[Value.int .i64 z, Value.int .i64 u])] w fun e w' => e = .returned (.int .i64 (sqL x y z u)) ∧ Below w.heap.size w w' := by
  obtain ⟨h1, h2⟩ := mul_wide (x := x - z) (y := x - z) (a := 1280) (b := 1280) (by omega) (by omega) (by omega) (by omega)
  obtain ⟨h3, h4⟩ := mul_wide (x := y - u) (y := y - u) (a := 1280) (b := 1280) (by omega) (by omega) (by omega) (by omega)
  have HR := Lib.hid (show sqL x y z u = (x - z) * (x - z) + (y - u) * (y - u) from rfl)
  go_enter Try.func53, Try.ntmps53
  go_wp2_with fail
  go_ret
  exact ⟨by rw [HR.out]; rfl, ((Below.refl _ _).alloc (Nat.le_refl _) _).alloc (by simp) _⟩
set_option maxHeartbeats 1000000 in
theorem stSquare_any (x y z u : Int) (w : World) (hx : 0 ≤ x ∧ x ≤ 1280) (hy : 0 ≤ y ∧ y ≤ 1280) (hz : 0 ≤ z ∧ z ≤ 1280) (hu : 0 ≤ u ∧ u ≤ 1280) :
    Calls Try.prog 70 #[(Value.agg #[Value.int .i64 x, Value.int .i64 y]), (Value.agg #[Value.int .i64 z, Value.int .i64 u])] w fun e w' => e = .returned (.int .i64 (sqL x y z u)) ∧ Below w.heap.size w w' := by
  obtain ⟨h1, h2⟩ := mul_wide (x := x - z) (y := x - z) (a := 1280) (b := 1280) (by omega) (by omega) (by omega) (by omega)
  obtain ⟨h3, h4⟩ := mul_wide (x := y - u) (y := y - u) (a := 1280) (b := 1280) (by omega) (by omega) (by omega) (by omega)
  have HR := Lib.hid (show sqL x y z u = (x - z) * (x - z) + (y - u) * (y - u) from rfl)
  go_enter Try.func70, Try.ntmps70
  go_wp2_with fail
  go_ret
  exact ⟨by rw [HR.out]; rfl, ((Below.refl _ _).alloc (Nat.le_refl _) _).alloc (by simp) _⟩
theorem l1Least_any (a b : Int) (w : World) : Calls Try.prog 89 #[.int .i64 a, .int .i64 b] w fun e w' => e = .returned (.int .i64 (min a b)) ∧ w = w' := by
  by_cases h : a < b
  · have hf := Lib.hid (show min a b = a by omega)
    go_enter Try.func89, Try.ntmps89
    go_wp2_with fail
    go_ret
    exact ⟨by rw [hf.out]; rfl, rfl⟩
  · have hf := Lib.hid (show min a b = b by omega)
    go_enter Try.func89, Try.ntmps89
    go_wp2_with fail
    go_ret
    exact ⟨by rw [hf.out]; rfl, rfl⟩

end Go.Proofs.Ytnlneblipedddaa

namespace Go.Proofs.Ytnlneblipedddaa
open Go.RowKit

theorem lp_bounds {a1 a2 a3 a4 b1 b2 b3 b4 : Int} (ha : okM a1 a2 a3 a4) (hb : okM b1 b2 b3 b4) :
    0 ≤ lpT (a1 - b1) (a2 - b2) (a3 - b3) (a4 - b4) ∧ lpT (a1 - b1) (a2 - b2) (a3 - b3) (a4 - b4) ≤ 42949672960000 ∧ 1 ≤ lpB (a1 - b1) (a2 - b2) (a3 - b3) (a4 - b4) ∧ lpB (a1 - b1) (a2 - b2) (a3 - b3) (a4 - b4) ≤ 13107200 := by
  obtain ⟨⟨h1, h2⟩, ⟨h3, h4⟩, ⟨h5, h6⟩, h7, h8⟩ := ha
  obtain ⟨⟨k1, k2⟩, ⟨k3, k4⟩, ⟨k5, k6⟩, k7, k8⟩ := hb
  have hw1 : wide 1280 (a1 - b1) (a2 - b2) := ⟨by omega, by omega, by omega, by omega⟩
  have hw2 : wide 1280 (a3 - b3) (a4 - b4) := ⟨by omega, by omega, by omega, by omega⟩
  obtain ⟨d1, d2, d3, d4, d5⟩ := dt_in hw1 hw2
  have d6 := sz0 (a1 - b1) (a2 - b2) (a3 - b3) (a4 - b4)
  have hcr := mul_wide (x := crOf (a1 - b1) (a2 - b2) (a3 - b3) (a4 - b4)) (y := crOf (a1 - b1) (a2 - b2) (a3 - b3) (a4 - b4)) (a := 6553600) (b := 6553600) (by omega) (by omega) (by omega) (by omega)
  have hcr0 := sq0 (crOf (a1 - b1) (a2 - b2) (a3 - b3) (a4 - b4))
  have hsq1 := mul_wide (x := a1 - b1) (y := a1 - b1) (a := 1280) (b := 1280) (by omega) (by omega) (by omega) (by omega)
  have hsq2 := mul_wide (x := a2 - b2) (y := a2 - b2) (a := 1280) (b := 1280) (by omega) (by omega) (by omega) (by omega)
  have g1 := sq0 (a1 - b1)
  have g2 := sq0 (a2 - b2)
  have g3 := sq0 (a3 - b3)
  have g4 := sq0 (a4 - b4)
  unfold lpT lpB
  split
  · rename_i hm
    have := mid_yes hm
    have := tm_bounds (a := crOf (a1 - b1) (a2 - b2) (a3 - b3) (a4 - b4) * crOf (a1 - b1) (a2 - b2) (a3 - b3) (a4 - b4)) (b := szOf (a1 - b1) (a2 - b2) (a3 - b3) (a4 - b4)) hcr0 (by omega)
    omega
  · omega
def saB (a1 a2 a3 a4 b1 b2 b3 b4 L : Int) : Bool := decide (L * L * lpB (a1 - b1) (a2 - b2) (a3 - b3) (a4 - b4) ≤ lpT (a1 - b1) (a2 - b2) (a3 - b3) (a4 - b4))
/-- The part of the time at which two moves are closest, if that is between their ends; else 0 and 0. -/
def inT (px py qx qy : Int) : Int := if inMid px py qx qy = true then -dtOf px py qx qy else 0
def inU (px py qx qy : Int) : Int := if inMid px py qx qy = true then szOf px py qx qy else 0
end Go.Proofs.Ytnlneblipedddaa

namespace Go.Proofs.Ytnlneblipedddaa
open Go.RowKit

theorem ok_of {x y z u c : Int} (h : mvB x y z u c = true) : okM x y z u ∧ 1 ≤ c ∧ c ≤ 64 := by
  have := mvB_yes h
  exact ⟨⟨⟨by omega, by omega⟩, ⟨by omega, by omega⟩, ⟨by omega, by omega⟩, by omega, by omega⟩, by omega, by omega⟩
end Go.Proofs.Ytnlneblipedddaa
