/- How far spots along a way are, where it ends, and how long a drawn one is: plain laws. Without conditions. -/
import Derived.Test.YtciolimmfldpbaaAlongFn
import Derived.Test.YtciolimmfldpbaaWayDraw
namespace Go.Proofs.Ytciolimmfldpbaa
open Go.RowKit

theorem farAt_pos {xs : List Int} {n k : Nat} (h : ∀ j, j < n → okAt xs j = true) (hk : k + 1 < n) : 0 < farAt xs k := (far_straight (straight_of h hk)).1
theorem lenTo_lt {xs : List Int} {n : Nat} (h : ∀ j, j < n → okAt xs j = true) : ∀ k j, k < n → j < k → lenTo xs j < lenTo xs k
  | 0, j, _, hj => absurd hj (by omega)
  | k + 1, j, hk, hj => by
    have f := farAt_pos h hk
    have e : lenTo xs (k + 1) = lenTo xs k + farAt xs k := rfl
    rcases Nat.lt_or_ge j k with g | g
    · have := lenTo_lt h k j (by omega) g; omega
    · obtain rfl : j = k := by omega
      omega
theorem fp_char {xs : List Int} {L : Int} : ∀ (m k : Nat), (∀ j, k ≤ j → j < fp xs L m k → lenTo xs (j + 1) < L) ∧ (fp xs L m k < k + m → L ≤ lenTo xs (fp xs L m k + 1)) ∧ k ≤ fp xs L m k
  | 0, k => ⟨fun j h1 h2 => by simp [fp] at h2; omega, fun h => by simp [fp] at h, by simp [fp]⟩
  | m + 1, k => by
    unfold fp
    split
    · rename_i h
      exact ⟨fun j h1 h2 => by omega, fun _ => h, Nat.le_refl _⟩
    · rename_i h
      obtain ⟨a, b, c⟩ := fp_char m (k + 1) (xs := xs) (L := L)
      refine ⟨fun j h1 h2 => ?_, fun h' => b (by omega), by omega⟩
      rcases Nat.lt_or_ge k j with g | g
      · exact a j g h2
      · obtain rfl : j = k := by omega
        omega
/-- The part on which a length ends. -/
theorem alK_at {xs : List Int} {n k : Nat} {L : Int} (h : ∀ j, j < n → okAt xs j = true) (hk : k + 1 < n) (h1 : k = 0 ∨ lenTo xs k < L) (h2 : L ≤ lenTo xs (k + 1)) : alK n xs L = k := by
  obtain ⟨a, b, _⟩ := fp_char (xs := xs) (L := L) (n - 2) 0
  have hle := fp_lt (xs := xs) (L := L) (n - 2) 0
  unfold alK
  obtain ⟨q, hq⟩ : ∃ q, fp xs L (n - 2) 0 = q := ⟨_, rfl⟩
  rw [hq] at a b hle ⊢
  rcases Nat.lt_trichotomy q k with g | g | g
  · have h3 := b (by omega)
    have h4 : lenTo xs (q + 1) ≤ lenTo xs k := by
      rcases Nat.lt_or_ge (q + 1) k with g2 | g2
      · exact Int.le_of_lt (lenTo_lt h k (q + 1) (by omega) g2)
      · obtain rfl : k = q + 1 := by omega
        exact Int.le_refl _
    omega
  · exact g
  · have := a k (Nat.zero_le _) g; omega
theorem sg_ab (d : Int) : sg d * ab d = d := by
  rcases sg_cases d with ⟨h, e⟩ | ⟨h, e⟩ | ⟨h, e⟩
  · rw [e, ab_pos (by omega)]; omega
  · rw [e, ab_neg h]; omega
  · rw [e, h]; rfl
theorem sg_far {d p : Int} (h : d = 0 ∨ p = ab d) : sg d * p = d := by
  rcases h with rfl | rfl
  · simp [sg_zero]
  · exact sg_ab d
/-- The spot at the end of a part. -/
theorem al_corner {xs : List Int} {n k : Nat} (h : ∀ j, j < n → okAt xs j = true) (hk : k + 1 < n) : alX n xs (lenTo xs (k + 1)) = X xs (k + 1) ∧ alY n xs (lenTo xs (k + 1)) = Y xs (k + 1) := by
  have hs := far_straight (straight_of h hk)
  have hp := farAt_pos h hk
  have e : lenTo xs (k + 1) - lenTo xs k = farAt xs k := by show lenTo xs k + farAt xs k - lenTo xs k = _; omega
  have hk' := alK_at h hk (L := lenTo xs (k + 1)) (.inr (by show lenTo xs k < lenTo xs k + farAt xs k; omega)) (Int.le_refl _)
  obtain ⟨a, b⟩ := al_at hk'
  rw [a, b, e]
  have hx : sg (X xs (k + 1) - X xs k) * farAt xs k = X xs (k + 1) - X xs k := sg_far hs.2.1
  have hy : sg (Y xs (k + 1) - Y xs k) * farAt xs k = Y xs (k + 1) - Y xs k := sg_far hs.2.2
  rw [hx, hy]; omega
theorem al_end {xs : List Int} {n : Nat} (h : wayB n xs = true) : alX n xs (lenTo xs (n - 1)) = X xs (n - 1) ∧ alY n xs (lenTo xs (n - 1)) = Y xs (n - 1) := by
  obtain ⟨⟨h2, _⟩, _, hok⟩ := wayB_yes h
  have := al_corner (k := n - 2) hok (by omega)
  rwa [show n - 2 + 1 = n - 1 by omega] at this
theorem ab_sg {d r : Int} (hr : 0 ≤ r) : ab (sg d * r) = if d = 0 then 0 else r := by
  rcases sg_cases d with ⟨h, e⟩ | ⟨h, e⟩ | ⟨h, e⟩
  · rw [e, if_neg (by omega), Int.one_mul, ab_pos hr]
  · rw [e, if_neg (by omega)]
    rcases Int.lt_or_le 0 r with g | g
    · rw [ab_neg (by omega)]; omega
    · obtain rfl : r = 0 := by omega
      rfl
  · rw [e, if_pos h]; simp [ab]
/-- How far the spot at a length is from the corner before it. -/
theorem al_far {xs : List Int} {n k : Nat} {L : Int} (h : ∀ j, j < n → okAt xs j = true) (hk : k + 1 < n) (h1 : lenTo xs k ≤ L) (h2 : L < lenTo xs (k + 1)) : ab (alX n xs L - X xs k) + ab (alY n xs L - Y xs k) = L - lenTo xs k := by
  by_cases hc : k = 0 ∨ lenTo xs k < L
  · obtain ⟨a, b⟩ := al_at (alK_at h hk hc (Int.le_of_lt h2))
    have hs := straight_of h hk
    rw [a, b, show X xs k + sg (X xs (k + 1) - X xs k) * (L - lenTo xs k) - X xs k = sg (X xs (k + 1) - X xs k) * (L - lenTo xs k) by omega, show Y xs k + sg (Y xs (k + 1) - Y xs k) * (L - lenTo xs k) - Y xs k = sg (Y xs (k + 1) - Y xs k) * (L - lenTo xs k) by omega,
      ab_sg (by omega), ab_sg (by omega)]
    rcases hs with ⟨e1, e2⟩ | ⟨e1, e2⟩
    · rw [if_pos (by omega), if_neg (by omega)]; omega
    · rw [if_neg (by omega), if_pos (by omega)]; omega
  · obtain ⟨j, rfl⟩ : ∃ j, k = j + 1 := ⟨k - 1, by omega⟩
    obtain rfl : L = lenTo xs (j + 1) := by omega
    obtain ⟨a, b⟩ := al_corner h (show j + 1 < n by omega)
    rw [a, b]
    simp [ab]
/-- How many corners are passed. -/
theorem cp_char {xs : List Int} {n : Nat} {L : Int} (h : ∀ j, j < n → okAt xs j = true) (h0 : 0 ≤ L) : ∀ m, m < n → ∃ k : Nat, k ≤ m ∧ cpTo xs L m = (k : Int) ∧ lenTo xs k ≤ L ∧ (k < m → L < lenTo xs (k + 1))
  | 0, _ => ⟨0, Nat.le_refl _, rfl, h0, fun h => absurd h (by omega)⟩
  | m + 1, hm => by
    obtain ⟨k, hk, e, h1, h2⟩ := cp_char h h0 m (by omega)
    by_cases hc : lenTo xs (m + 1) ≤ L
    · have hkm : k = m := by
        rcases Nat.lt_or_ge k m with g | g
        · have := h2 g
          have : lenTo xs (k + 1) < lenTo xs (m + 1) := lenTo_lt h (m + 1) (k + 1) hm (by omega)
          omega
        · omega
      subst hkm
      exact ⟨k + 1, Nat.le_refl _, by rw [cpTo_yes hc, e]; omega, hc, fun h => absurd h (by omega)⟩
    · refine ⟨k, by omega, by rw [cpTo_no (Int.not_le.1 hc), e], h1, fun g => ?_⟩
      rcases Nat.lt_or_ge k m with g2 | g2
      · exact h2 g2
      · obtain rfl : k = m := by omega
        omega
/-- A drawn way is not long. -/
theorem len_drawn {xs : List Int} {n : Nat} (h : wayB n xs = true) (hs : shortBut xs n) : lenTo xs (n - 1) ≤ 5000 := by
  obtain ⟨⟨_, h12⟩, hon, _⟩ := wayB_yes h
  obtain ⟨i, hi⟩ := hs
  have key : ∀ k, k < n → lenTo xs k ≤ 60 * (k : Int) + (if i < k then 1952 else 0) + (if 0 < i ∧ i ≤ k then 1952 else 0) := by
    intro k
    induction k with
    | zero => intro _; simp only [lenTo]; (repeat' split) <;> omega
    | succ k ih =>
      intro hk
      have ih := ih (by omega)
      have f := (farL_in (hon k (by omega)) (hon (k + 1) hk)).2
      have f' : farAt xs k ≤ 1952 := f
      have e : lenTo xs (k + 1) = lenTo xs k + farAt xs k := rfl
      by_cases c : k ≠ i ∧ k + 1 ≠ i
      · have := hi k hk c.1 c.2
        rw [e]
        split at ih <;> split at ih <;> split <;> split <;> omega
      · rw [e]
        split at ih <;> split at ih <;> split <;> split <;> omega
  have := key (n - 1) (by omega)
  split at this <;> split at this <;> omega
end Go.Proofs.Ytciolimmfldpbaa
