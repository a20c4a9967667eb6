/- How near two moves come to each other: plain laws on the way from one to the other at the begin and at the end. Without conditions. -/
import Derived.Test.YtpikhkdgohapeaaTermsFn
namespace Go.Proofs.Ytpikhkdgohapeaa
/-- The way from the second move to the first one is (px, py) at the begin and (qx, qy) at the end: how it and its change lie to each other, and the square of its change. -/
def dtOf (px py qx qy : Int) : Int := px * (qx - px) + py * (qy - py)
def szOf (px py qx qy : Int) : Int := (qx - px) * (qx - px) + (qy - py) * (qy - py)
def crOf (px py qx qy : Int) : Int := px * (qy - py) - py * (qx - px)
def inMid (px py qx qy : Int) : Bool := decide (dtOf px py qx qy < 0 ∧ -dtOf px py qx qy < szOf px py qx qy)
/-- The least square, as a fraction that need not be in lowest terms. -/
def rwT (px py qx qy : Int) : Int := if inMid px py qx qy = true then crOf px py qx qy * crOf px py qx qy else min (px * px + py * py) (qx * qx + qy * qy)
def rwB (px py qx qy : Int) : Int := if inMid px py qx qy = true then szOf px py qx qy else 1
def lpT (px py qx qy : Int) : Int := if inMid px py qx qy = true then tmA (crOf px py qx qy * crOf px py qx qy) (szOf px py qx qy) else min (px * px + py * py) (qx * qx + qy * qy)
def lpB (px py qx qy : Int) : Int := if inMid px py qx qy = true then tmB (crOf px py qx qy * crOf px py qx qy) (szOf px py qx qy) else 1
theorem sq0 (a : Int) : 0 ≤ a * a := by
  rcases Int.le_total 0 a with h | h
  · exact Int.mul_nonneg h h
  · have := Int.mul_nonneg (show 0 ≤ -a by omega) (show 0 ≤ -a by omega)
    rwa [Int.neg_mul_neg] at this
theorem sz0 (px py qx qy : Int) : 0 ≤ szOf px py qx qy := by
  have := sq0 (qx - px)
  have := sq0 (qy - py)
  unfold szOf; omega
/-- The square at the end, by that at the begin. -/
theorem end_sq (px py qx qy : Int) : qx * qx + qy * qy = px * px + py * py + 2 * dtOf px py qx qy + szOf px py qx qy := by
  unfold dtOf szOf
  obtain ⟨u, hu⟩ : ∃ u, qx - px = u := ⟨_, rfl⟩
  obtain ⟨v, hv⟩ : ∃ v, qy - py = v := ⟨_, rfl⟩
  have e1 : qx = px + u := by omega
  have e2 : qy = py + v := by omega
  rw [hu, hv, e1, e2]
  simp only [Int.add_mul, Int.mul_add]
  rw [Int.mul_comm u px, Int.mul_comm v py]
  omega
theorem lp_begin {px py qx qy : Int} (h : 0 ≤ dtOf px py qx qy) : inMid px py qx qy = false ∧ min (px * px + py * py) (qx * qx + qy * qy) = px * px + py * py := by
  have e := end_sq px py qx qy
  have z := sz0 px py qx qy
  exact ⟨by simp [inMid]; omega, by omega⟩
theorem lp_end {px py qx qy : Int} (h : dtOf px py qx qy < 0) (h2 : szOf px py qx qy ≤ -dtOf px py qx qy) : inMid px py qx qy = false ∧ min (px * px + py * py) (qx * qx + qy * qy) = qx * qx + qy * qy := by
  have e := end_sq px py qx qy
  have z := sz0 px py qx qy
  exact ⟨by simp [inMid]; omega, by omega⟩
theorem lp_mid {px py qx qy : Int} (h : dtOf px py qx qy < 0) (h2 : -dtOf px py qx qy < szOf px py qx qy) : inMid px py qx qy = true := by simp [inMid, h, h2]
theorem mid_yes {px py qx qy : Int} (h : inMid px py qx qy = true) : dtOf px py qx qy < 0 ∧ -dtOf px py qx qy < szOf px py qx qy := by simpa [inMid] using h
/-- The reference's cross product. -/
theorem cr_eq (px py qx qy : Int) : px * qy - py * qx = crOf px py qx qy := by
  unfold crOf
  rw [Int.mul_sub, Int.mul_sub, Int.mul_comm py px]
  omega
theorem mul_wide {x y a b : Int} (h1 : -a ≤ x) (h2 : x ≤ a) (h3 : -b ≤ y) (h4 : y ≤ b) : -(a * b) ≤ x * y ∧ x * y ≤ a * b := by
  have k1 := Int.mul_nonneg (show 0 ≤ a - x by omega) (show 0 ≤ b + y by omega)
  have k2 := Int.mul_nonneg (show 0 ≤ a + x by omega) (show 0 ≤ b - y by omega)
  have k3 := Int.mul_nonneg (show 0 ≤ a - x by omega) (show 0 ≤ b - y by omega)
  have k4 := Int.mul_nonneg (show 0 ≤ a + x by omega) (show 0 ≤ b + y by omega)
  simp only [Int.sub_mul, Int.add_mul, Int.mul_sub, Int.mul_add] at k1 k2 k3 k4
  omega
def wide (m px py : Int) : Prop := -m ≤ px ∧ px ≤ m ∧ -m ≤ py ∧ py ≤ m
theorem dt_in {px py qx qy m : Int} (h : wide m px py) (k : wide m qx qy) : -(4 * (m * m)) ≤ dtOf px py qx qy ∧ dtOf px py qx qy ≤ 4 * (m * m) ∧ szOf px py qx qy ≤ 8 * (m * m) ∧ -(4 * (m * m)) ≤ crOf px py qx qy ∧ crOf px py qx qy ≤ 4 * (m * m) := by
  obtain ⟨h1, h2, h3, h4⟩ := h
  obtain ⟨k1, k2, k3, k4⟩ := k
  have a1 := mul_wide (x := px) (y := qx - px) (a := m) (b := 2 * m) (by omega) (by omega) (by omega) (by omega)
  have a2 := mul_wide (x := py) (y := qy - py) (a := m) (b := 2 * m) (by omega) (by omega) (by omega) (by omega)
  have a3 := mul_wide (x := px) (y := qy - py) (a := m) (b := 2 * m) (by omega) (by omega) (by omega) (by omega)
  have a4 := mul_wide (x := py) (y := qx - px) (a := m) (b := 2 * m) (by omega) (by omega) (by omega) (by omega)
  have a5 := mul_wide (x := qx - px) (y := qx - px) (a := 2 * m) (b := 2 * m) (by omega) (by omega) (by omega) (by omega)
  have a6 := mul_wide (x := qy - py) (y := qy - py) (a := 2 * m) (b := 2 * m) (by omega) (by omega) (by omega) (by omega)
  have e1 : m * (2 * m) = 2 * (m * m) := by rw [← Int.mul_assoc, Int.mul_comm m 2, Int.mul_assoc]
  have e2 : 2 * m * (2 * m) = 4 * (m * m) := by rw [Int.mul_assoc, e1]; omega
  rw [e1] at a1 a2 a3 a4
  rw [e2] at a5 a6
  unfold dtOf szOf crOf
  omega
end Go.Proofs.Ytpikhkdgohapeaa
