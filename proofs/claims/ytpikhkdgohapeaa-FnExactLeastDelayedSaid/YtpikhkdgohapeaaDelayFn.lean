/- The least square of two moves that go evenly from count to count, found part by part: the program's way and the reference's give the same lowest terms. Plain laws, without conditions. -/
import Derived.Test.YtpikhkdgohapeaaApartFn
namespace Go.Proofs.Ytpikhkdgohapeaa
theorem fle_trans {a b c d e f : Int} (hd : 0 < d) (hb : 0 < b) (hf : 0 < f) (h1 : a * d ≤ c * b) (h2 : c * f ≤ e * d) : a * f ≤ e * b := by
  have k1 : a * d * f ≤ c * b * f := Int.mul_le_mul_of_nonneg_right h1 (by omega)
  have k2 : c * f * b ≤ e * d * b := Int.mul_le_mul_of_nonneg_right h2 (by omega)
  have e1 : a * d * f = a * f * d := Int.mul_right_comm _ _ _
  have e2 : c * b * f = c * f * b := Int.mul_right_comm _ _ _
  have e3 : e * d * b = e * b * d := Int.mul_right_comm _ _ _
  exact Int.le_of_mul_le_mul_right (by omega) hd
theorem flt_le {a b c d e f : Int} (hd : 0 < d) (hb : 0 < b) (hf : 0 < f) (h1 : a * d < c * b) (h2 : c * f ≤ e * d) : a * f < e * b := by
  rcases Int.lt_or_le (a * f) (e * b) with h | h
  · exact h
  · have := fle_trans hf hd hb h2 h
    omega
theorem fle_lt {a b c d e f : Int} (hd : 0 < d) (hb : 0 < b) (hf : 0 < f) (h1 : a * d ≤ c * b) (h2 : c * f < e * d) : a * f < e * b := by
  rcases Int.lt_or_le (a * f) (e * b) with h | h
  · exact h
  · have := fle_trans hb hf hd h h1
    omega
/-- The square of the cross product is at most the squares' product. -/
theorem cr_begin (px py qx qy : Int) : crOf px py qx qy * crOf px py qx qy ≤ (px * px + py * py) * szOf px py qx qy := by
  have h := sq0 (dtOf px py qx qy)
  have e : crOf px py qx qy * crOf px py qx qy + dtOf px py qx qy * dtOf px py qx qy = (px * px + py * py) * szOf px py qx qy := by
    unfold crOf dtOf szOf
    obtain ⟨u, hu⟩ : ∃ u, qx - px = u := ⟨_, rfl⟩
    obtain ⟨v, hv⟩ : ∃ v, qy - py = v := ⟨_, rfl⟩
    rw [hu, hv]
    simp only [Int.add_mul, Int.mul_add, Int.sub_mul, Int.mul_sub]
    have a1 : px * v * (px * v) = px * px * (v * v) := by simp only [Int.mul_assoc, Int.mul_left_comm]
    have a2 : py * u * (py * u) = py * py * (u * u) := by simp only [Int.mul_assoc, Int.mul_left_comm]
    have a3 : px * u * (px * u) = px * px * (u * u) := by simp only [Int.mul_assoc, Int.mul_left_comm]
    have a4 : py * v * (py * v) = py * py * (v * v) := by simp only [Int.mul_assoc, Int.mul_left_comm]
    have a5 : px * v * (py * u) = px * u * (py * v) := by simp only [Int.mul_assoc, Int.mul_left_comm, Int.mul_comm]
    have a6 : py * u * (px * v) = px * u * (py * v) := by simp only [Int.mul_assoc, Int.mul_left_comm, Int.mul_comm]
    have a7 : py * v * (px * u) = px * u * (py * v) := by simp only [Int.mul_assoc, Int.mul_left_comm, Int.mul_comm]
    omega
  omega
theorem cr_swap (px py qx qy : Int) : crOf px py qx qy * crOf px py qx qy = crOf qx qy px py * crOf qx qy px py := by
  have : crOf qx qy px py = -crOf px py qx qy := by
    rw [← cr_eq, ← cr_eq, Int.mul_comm qx, Int.mul_comm qy]; omega
  rw [this, Int.neg_mul_neg]
theorem sz_swap (px py qx qy : Int) : szOf px py qx qy = szOf qx qy px py := by
  unfold szOf
  rw [show qx - px = -(px - qx) by omega, show qy - py = -(py - qy) by omega, Int.neg_mul_neg, Int.neg_mul_neg]
theorem cr_end (px py qx qy : Int) : crOf px py qx qy * crOf px py qx qy ≤ (qx * qx + qy * qy) * szOf px py qx qy := by
  rw [cr_swap, sz_swap]; exact cr_begin qx qy px py
theorem mid_sz {px py qx qy : Int} (h : inMid px py qx qy = true) : 0 < szOf px py qx qy := by
  have := mid_yes h; omega

/-- The square at a part's end, or the one in its midst. -/
def owT (px py qx qy : Int) : Int := if inMid px py qx qy = true then crOf px py qx qy * crOf px py qx qy else qx * qx + qy * qy
def fmin (o u : Int) (s : Int × Int) : Int × Int := if o * s.2 < s.1 * u then (o, u) else s
def ldI (px py : Nat → Int) : Nat → Int × Int
  | 0 => (px 0 * px 0 + py 0 * py 0, 1)
  | j + 1 => fmin (owT (px j) (py j) (px (j + 1)) (py (j + 1))) (rwB (px j) (py j) (px (j + 1)) (py (j + 1))) (ldI px py j)
def ldS (px py : Nat → Int) : Nat → Int × Int
  | 0 => (-1, 1)
  | j + 1 => if (ldS px py j).1 < 0 then (rwT (px j) (py j) (px (j + 1)) (py (j + 1)), rwB (px j) (py j) (px (j + 1)) (py (j + 1)))
    else fmin (rwT (px j) (py j) (px (j + 1)) (py (j + 1))) (rwB (px j) (py j) (px (j + 1)) (py (j + 1))) (ldS px py j)
theorem rwB_pos (px py qx qy : Int) : 0 < rwB px py qx qy := by
  unfold rwB; split
  · rename_i h; exact mid_sz h
  · decide
theorem sum0 (a b : Int) : 0 ≤ a * a + b * b := by have := sq0 a; have := sq0 b; omega
theorem owT0 (px py qx qy : Int) : 0 ≤ owT px py qx qy := by unfold owT; split; exact sq0 _; exact sum0 _ _
theorem rwT0 (px py qx qy : Int) : 0 ≤ rwT px py qx qy := by
  have := sum0 px py
  have := sum0 qx qy
  unfold rwT; split
  · exact sq0 _
  · omega
theorem owT_end (px py qx qy : Int) : owT px py qx qy ≤ (qx * qx + qy * qy) * rwB px py qx qy := by
  unfold owT rwB; split
  · exact cr_end _ _ _ _
  · omega
structure LdOk (px py : Nat → Int) (j : Nat) : Prop where
  i0 : 0 ≤ (ldI px py j).1
  i1 : 0 < (ldI px py j).2
  s0 : 0 ≤ (ldS px py j).1
  s1 : 0 < (ldS px py j).2
  same : (ldI px py j).1 * (ldS px py j).2 = (ldS px py j).1 * (ldI px py j).2
  endd : (ldI px py j).1 ≤ (px j * px j + py j * py j) * (ldI px py j).2
theorem ldI_pos (px py : Nat → Int) : ∀ j, 0 ≤ (ldI px py j).1 ∧ 0 < (ldI px py j).2
  | 0 => ⟨sum0 _ _, Int.one_pos⟩
  | j + 1 => by
    rw [ldI, fmin]
    split
    · exact ⟨owT0 _ _ _ _, rwB_pos _ _ _ _⟩
    · exact ldI_pos px py j
/-- Behind a step, the program's least is at most the square at its end. -/
theorem ldI_end (px py : Nat → Int) (j : Nat) : (ldI px py (j + 1)).1 ≤ (px (j + 1) * px (j + 1) + py (j + 1) * py (j + 1)) * (ldI px py (j + 1)).2 := by
  have ho := owT_end (px j) (py j) (px (j + 1)) (py (j + 1))
  have hi := ldI_pos px py j
  have hu := rwB_pos (px j) (py j) (px (j + 1)) (py (j + 1))
  rw [ldI, fmin]
  split
  · exact ho
  · rename_i h
    have := fle_trans (a := (ldI px py j).1) (b := (ldI px py j).2) (e := px (j + 1) * px (j + 1) + py (j + 1) * py (j + 1)) (f := 1) hu hi.2 Int.one_pos (Int.not_lt.1 h) (by omega)
    omega
theorem ld_ok (px py : Nat → Int) : ∀ j, LdOk px py (j + 1)
  | 0 => by
    have he := ldI_end px py 0
    have hi := ldI_pos px py 1
    have hs : ldS px py 1 = (rwT (px 0) (py 0) (px 1) (py 1), rwB (px 0) (py 0) (px 1) (py 1)) := by rw [ldS, if_pos (by show (-1 : Int) < 0; decide)]
    refine ⟨hi.1, hi.2, by rw [hs]; exact rwT0 _ _ _ _, by rw [hs]; exact rwB_pos _ _ _ _, ?_, he⟩
    rw [hs]
    rw [ldI, fmin, ldI]
    cases hm : inMid (px 0) (py 0) (px 1) (py 1) with
    | true =>
      have hb := cr_begin (px 0) (py 0) (px 1) (py 1)
      simp only [owT, rwT, rwB, hm, if_true]
      simp only [Nat.zero_add, hm, if_true] at *
      split
      · rfl
      · rename_i h; simp only [Int.mul_one] at h ⊢; omega
    | false =>
      simp only [owT, rwT, rwB, hm, Bool.false_eq_true, if_false]
      simp only [Nat.zero_add, hm, Bool.false_eq_true, if_false, Int.mul_one] at *
      split
      · rename_i h; simp only [Int.mul_one] at h ⊢; omega
      · rename_i h; simp only [Int.mul_one] at h ⊢; omega
  | j + 1 => by
    have ih := ld_ok px py j
    have he := ldI_end px py (j + 1)
    have hi := ldI_pos px py (j + 1 + 1)
    have hu := rwB_pos (px (j + 1)) (py (j + 1)) (px (j + 1 + 1)) (py (j + 1 + 1))
    have hs : ldS px py (j + 1 + 1) = fmin (rwT (px (j + 1)) (py (j + 1)) (px (j + 1 + 1)) (py (j + 1 + 1))) (rwB (px (j + 1)) (py (j + 1)) (px (j + 1 + 1)) (py (j + 1 + 1))) (ldS px py (j + 1)) := by
      rw [ldS, if_neg (by have := ih.s0; omega)]
    have hii : ldI px py (j + 1 + 1) = fmin (owT (px (j + 1)) (py (j + 1)) (px (j + 1 + 1)) (py (j + 1 + 1))) (rwB (px (j + 1)) (py (j + 1)) (px (j + 1 + 1)) (py (j + 1 + 1))) (ldI px py (j + 1)) := rfl
    obtain ⟨i0, i1, s0, s1, sm, en⟩ := ih
    have hrT := rwT0 (px (j + 1)) (py (j + 1)) (px (j + 1 + 1)) (py (j + 1 + 1))
    obtain ⟨T, hT⟩ : ∃ x, (ldI px py (j + 1)).1 = x := ⟨_, rfl⟩
    obtain ⟨B, hB⟩ : ∃ x, (ldI px py (j + 1)).2 = x := ⟨_, rfl⟩
    obtain ⟨t, ht⟩ : ∃ x, (ldS px py (j + 1)).1 = x := ⟨_, rfl⟩
    obtain ⟨b, hb⟩ : ∃ x, (ldS px py (j + 1)).2 = x := ⟨_, rfl⟩
    rw [hT, hB, ht, hb] at sm
    rw [hT, hB] at en
    rw [hT] at i0
    rw [hB] at i1
    rw [ht] at s0
    rw [hb] at s1
    refine ⟨hi.1, hi.2, ?_, ?_, ?_, he⟩
    · rw [hs, fmin]; split
      · exact hrT
      · rw [ht]; exact s0
    · rw [hs, fmin]; split
      · exact hu
      · rw [hb]; exact s1
    · rw [hs, hii]
      simp only [fmin, hT, hB, ht, hb]
      cases hm : inMid (px (j + 1)) (py (j + 1)) (px (j + 1 + 1)) (py (j + 1 + 1)) with
      | true =>
        have hz := mid_sz hm
        simp only [owT, rwT, rwB, hm, if_true]
        obtain ⟨o, ho⟩ : ∃ x, crOf (px (j + 1)) (py (j + 1)) (px (j + 1 + 1)) (py (j + 1 + 1)) * crOf (px (j + 1)) (py (j + 1)) (px (j + 1 + 1)) (py (j + 1 + 1)) = x := ⟨_, rfl⟩
        obtain ⟨z, hz'⟩ : ∃ x, szOf (px (j + 1)) (py (j + 1)) (px (j + 1 + 1)) (py (j + 1 + 1)) = x := ⟨_, rfl⟩
        rw [ho, hz']
        rw [hz'] at hz
        by_cases h1 : o * B < T * z
        · have h2 : o * b < t * z := flt_le i1 hz s1 h1 (by omega)
          rw [if_pos h1, if_pos h2]
        · have h2 : ¬ o * b < t * z := fun h => h1 (flt_le s1 hz i1 h (by omega))
          rw [if_neg h1, if_neg h2, hT, hB, ht, hb]
          exact sm
      | false =>
        simp only [owT, rwT, rwB, hm, Bool.false_eq_true, if_false]
        obtain ⟨E, hE⟩ : ∃ x, px (j + 1) * px (j + 1) + py (j + 1) * py (j + 1) = x := ⟨_, rfl⟩
        obtain ⟨Q, hQ⟩ : ∃ x, px (j + 1 + 1) * px (j + 1 + 1) + py (j + 1 + 1) * py (j + 1 + 1) = x := ⟨_, rfl⟩
        rw [hE, hQ]
        rw [hE] at en
        by_cases h1 : Q * B < T * 1
        · have hQE : Q < E := by
            rcases Int.lt_or_le Q E with h | h
            · exact h
            · have : E * B ≤ Q * B := Int.mul_le_mul_of_nonneg_right h (by omega)
              omega
          have hmin : min E Q = Q := by omega
          have h2 : Q * b < t * 1 := flt_le i1 Int.one_pos s1 h1 (by omega)
          rw [hmin, if_pos h1, if_pos h2]
        · have h3 : T * 1 ≤ min E Q * B := by
            rcases Int.le_total E Q with h | h
            · rw [Int.min_eq_left h]; omega
            · rw [Int.min_eq_right h]; omega
          have h2 : ¬ min E Q * b < t * 1 := by
            have := fle_trans (a := t) (b := b) (c := T) (d := B) (e := min E Q) (f := 1) i1 s1 Int.one_pos (by omega) h3
            omega
          rw [if_neg h1, if_neg h2, hT, hB, ht, hb]
          exact sm
/-- Both lowest terms are the same. -/
theorem ld_terms (px py : Nat → Int) (j : Nat) (c : Int) (hc : 1 ≤ c) (T B : Int) (hT : (ldI px py (j + 1)).1 = T) (hB : (ldI px py (j + 1)).2 = B) (t b : Int) (ht : (ldS px py (j + 1)).1 = t) (hb : (ldS px py (j + 1)).2 = b) :
    tmA (tmA T B) (tmB T B * c * c) = tmA t (b * c * c) ∧ tmB (tmA T B) (tmB T B * c * c) = tmB t (b * c * c) := by
  obtain ⟨i0, i1, s0, s1, sm, _⟩ := ld_ok px py j
  rw [hT] at i0
  rw [hB] at i1
  rw [ht] at s0
  rw [hb] at s1
  rw [hT, hB, ht, hb] at sm
  obtain ⟨b0, b1, b2, b3⟩ := tm_bounds i0 i1
  have hs := tm_same i0 i1
  have hcc : 0 < c * c := Int.mul_pos (by omega) (by omega)
  refine tm_eq b0 (by rw [Int.mul_assoc]; exact Int.mul_pos (by omega) hcc) s0 (by rw [Int.mul_assoc]; exact Int.mul_pos s1 hcc) ?_
  have key : tmA T B * b = t * tmB T B := by
    have h1 : tmA T B * b * B = t * tmB T B * B := by
      rw [Int.mul_right_comm, hs, Int.mul_right_comm T, sm, Int.mul_right_comm t]
    exact Int.eq_of_mul_eq_mul_right (by omega) h1
  rw [Int.mul_assoc b, Int.mul_assoc (tmB T B), ← Int.mul_assoc, key, Int.mul_assoc]
end Go.Proofs.Ytpikhkdgohapeaa
