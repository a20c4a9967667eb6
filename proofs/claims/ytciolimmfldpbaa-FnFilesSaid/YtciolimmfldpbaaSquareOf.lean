/- Contracts of the square of two spots, in the program and in the reference. Condition: coordinates of at most 40000. -/
import Derived.Test.YtciolimmfldpbaaCornerFn
namespace Go.Proofs.Ytciolimmfldpbaa
open Go.RowKit

def sqL (x y z u : Int) : Int := (x - z) * (x - z) + (y - u) * (y - u)
def near (x y : Int) : Prop := (-40000 ≤ x ∧ x ≤ 40000) ∧ -40000 ≤ y ∧ y ≤ 40000
theorem sq_nonneg (a : Int) : 0 ≤ a * a := by
  rcases Int.le_total 0 a with h | h
  · exact Int.mul_nonneg h h
  · have := Int.mul_nonneg (show 0 ≤ -a by omega) (show 0 ≤ -a by omega)
    rwa [Int.neg_mul_neg] at this
theorem sqL_in {x y z u : Int} (h : near x y) (k : near z u) : 0 ≤ sqL x y z u ∧ sqL x y z u ≤ 12800000000 := by
  obtain ⟨⟨a, b⟩, c, d⟩ := h
  obtain ⟨⟨a', b'⟩, c', d'⟩ := k
  have h1 := mul_in (x := x - z) (y := x - z) (a := 80000) (b := 80000) (by omega) (by omega) (by omega) (by omega)
  have h2 := mul_in (x := y - u) (y := y - u) (a := 80000) (b := 80000) (by omega) (by omega) (by omega) (by omega)
  have := sq_nonneg (x - z)
  have := sq_nonneg (y - u)
  unfold sqL
  omega
theorem sqL_comm (x y z u : Int) : sqL x y z u = sqL z u x y := by
  have e1 : x - z = -(z - x) := by omega
  have e2 : y - u = -(u - y) := by omega
  unfold sqL
  rw [e1, e2, Int.neg_mul_neg, Int.neg_mul_neg]
set_option maxHeartbeats 1000000 in
theorem squareOf_any (x y z u : Int) (w : World) (h : near x y) (k : near z u) : Calls Try.prog 57 #[(Value.agg #[Value.int .i64 x, Value.int .i64 y]), (Value.agg #[Value.int .i64 z, Value.int .i64 u])] w fun e w' => e = .returned (.int .i64 (sqL x y z u)) ∧ Below w.heap.size w w' := by
  obtain ⟨⟨a, b⟩, c, d⟩ := h
  obtain ⟨⟨a', b'⟩, c', d'⟩ := k
  have HR := Lib.hid (show sqL x y z u = (x - z) * (x - z) + (y - u) * (y - u) from rfl)
  obtain ⟨h1, h2⟩ := mul_in (x := x - z) (y := x - z) (a := 80000) (b := 80000) (by omega) (by omega) (by omega) (by omega)
  obtain ⟨h3, h4⟩ := mul_in (x := y - u) (y := y - u) (a := 80000) (b := 80000) (by omega) (by omega) (by omega) (by omega)
  go_enter Try.func57, Try.ntmps57
  go_wp2_with fail
  go_ret
  exact ⟨by rw [HR.out]; rfl, ((Below.refl _ _).alloc (Nat.le_refl _) _).alloc (by simp) _⟩
set_option maxHeartbeats 1000000 in
theorem stSquare_any (x y z u : Int) (w : World) (h : near x y) (k : near z u) : Calls Try.prog 58 #[(Value.agg #[Value.int .i64 x, Value.int .i64 y]), (Value.agg #[Value.int .i64 z, Value.int .i64 u])] w fun e w' => e = .returned (.int .i64 (sqL x y z u)) ∧ Below w.heap.size w w' := by
  obtain ⟨⟨a, b⟩, c, d⟩ := h
  obtain ⟨⟨a', b'⟩, c', d'⟩ := k
  have HR := Lib.hid (show sqL x y z u = (x - z) * (x - z) + (y - u) * (y - u) from rfl)
  obtain ⟨h1, h2⟩ := mul_in (x := x - z) (y := x - z) (a := 80000) (b := 80000) (by omega) (by omega) (by omega) (by omega)
  obtain ⟨h3, h4⟩ := mul_in (x := y - u) (y := y - u) (a := 80000) (b := 80000) (by omega) (by omega) (by omega) (by omega)
  go_enter Try.func58, Try.ntmps58
  go_wp2_with fail
  go_ret
  exact ⟨by rw [HR.out]; rfl, ((Below.refl _ _).alloc (Nat.le_refl _) _).alloc (by simp) _⟩
end Go.Proofs.Ytciolimmfldpbaa
