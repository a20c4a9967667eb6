/- One fraction is less than another one: plain laws. Without conditions. -/
import Derived.Test.YtpikhkdgohapeaaMem
namespace Go.Proofs.Ytpikhkdgohapeaa
theorem frac_parts {a b c d q r q' r' : Int} (ha : a = b * q + r) (hc : c = d * q' + r') (hr0 : 0 ≤ r) (hr : r < b) (hr0' : 0 ≤ r') (hr' : r' < d) (hb : 0 < b) (hd : 0 < d) :
    (q < q' → a * d < c * b) ∧ (q' < q → ¬ a * d < c * b) ∧ (q = q' → (a * d < c * b ↔ r * d < r' * b)) := by
  have hbd : 0 < b * d := Int.mul_pos hb hd
  have e1 : a * d = b * d * q + r * d := by rw [ha, Int.add_mul, Int.mul_right_comm]
  have e2 : c * b = b * d * q' + r' * b := by rw [hc, Int.add_mul, Int.mul_right_comm, Int.mul_comm d b]
  have k1 : r * d < b * d := Int.mul_lt_mul_of_pos_right hr hd
  have k2 : r' * b < b * d := by rw [Int.mul_comm b d]; exact Int.mul_lt_mul_of_pos_right hr' hb
  have k3 : 0 ≤ r * d := Int.mul_nonneg hr0 (by omega)
  have k4 : 0 ≤ r' * b := Int.mul_nonneg hr0' (by omega)
  refine ⟨fun h => ?_, fun h => ?_, fun h => ?_⟩
  · have : b * d * (q + 1) ≤ b * d * q' := Int.mul_le_mul_of_nonneg_left (by omega) (by omega)
    rw [Int.mul_add, Int.mul_one] at this
    omega
  · have : b * d * (q' + 1) ≤ b * d * q := Int.mul_le_mul_of_nonneg_left (by omega) (by omega)
    rw [Int.mul_add, Int.mul_one] at this
    omega
  · subst h; omega
/-- One fraction is less than another one, said with quotients and rests. -/
theorem frac_less {a b c d : Int} (ha : 0 ≤ a) (hb : 0 < b) (hc : 0 ≤ c) (hd : 0 < d) :
    (a.tdiv b < c.tdiv d → a * d < c * b) ∧ (c.tdiv d < a.tdiv b → ¬ a * d < c * b) ∧ (a.tdiv b = c.tdiv d → (a * d < c * b ↔ a.tmod b * d < c.tmod d * b)) := by
  have r1 := Int.tmod_nonneg b ha
  have r2 := Int.tmod_lt_of_pos a hb
  have r3 := Int.tmod_nonneg d hc
  have r4 := Int.tmod_lt_of_pos c hd
  exact frac_parts (Int.mul_tdiv_add_tmod a b).symm (Int.mul_tdiv_add_tmod c d).symm r1 r2 r3 r4 hb hd
end Go.Proofs.Ytpikhkdgohapeaa
