/- A way told by the spots along it: what it is that the short way, and the way turned round, have in common with it. Without conditions. A way folds back just where two of its lengths have one spot: so ways with the same spots fold back alike. Without conditions. -/
import Derived.Test.YtciolimmfldpbaaLeadersFn
import Derived.Test.YtciolimmfldpbaaCornerFn
import Derived.Test.YtciolimmfldpbaaReverse
namespace Go.Proofs.Ytciolimmfldpbaa
open Go.RowKit

/-- The spot (x, y) lies at length L, on whichever part that length is. -/
def onPath (n : Nat) (xs : List Int) (L x y : Int) : Prop := ∃ k, k + 1 < n ∧ lenTo xs k ≤ L ∧ L ≤ lenTo xs (k + 1) ∧ x = X xs k + sg (X xs (k + 1) - X xs k) * (L - lenTo xs k) ∧ y = Y xs k + sg (Y xs (k + 1) - Y xs k) * (L - lenTo xs k)
def okAll (n : Nat) (xs : List Int) : Prop := ∀ j, j < n → okAt xs j = true
theorem al_any {xs : List Int} {n k : Nat} {L : Int} (h : okAll n xs) (hk : k + 1 < n) (h1 : lenTo xs k ≤ L) (h2 : L ≤ lenTo xs (k + 1)) :
    alX n xs L = X xs k + sg (X xs (k + 1) - X xs k) * (L - lenTo xs k) ∧ alY n xs L = Y xs k + sg (Y xs (k + 1) - Y xs k) * (L - lenTo xs k) := by
  by_cases hc : k = 0 ∨ lenTo xs k < L
  · exact al_at (alK_at h hk hc h2)
  · obtain ⟨j, rfl⟩ : ∃ j, k = j + 1 := ⟨k - 1, by omega⟩
    obtain rfl : L = lenTo xs (j + 1) := by omega
    obtain ⟨a, b⟩ := al_corner h (show j + 1 < n by omega)
    rw [a, b, Int.sub_self, Int.mul_zero, Int.mul_zero]; omega
theorem al_path {xs : List Int} {n : Nat} {L x y : Int} (h : okAll n xs) (hp : onPath n xs L x y) : alX n xs L = x ∧ alY n xs L = y := by
  obtain ⟨k, hk, h1, h2, rfl, rfl⟩ := hp
  exact al_any h hk h1 h2
/-- The part on which a length lies: once with its end, once with its beginning. -/
theorem part_to {xs : List Int} {L : Int} (h0 : 0 < L) : ∀ m, L ≤ lenTo xs m → ∃ k, k < m ∧ lenTo xs k < L ∧ L ≤ lenTo xs (k + 1)
  | 0, h => by simp only [lenTo] at h; omega
  | m + 1, h => by
    rcases Int.lt_or_le (lenTo xs m) L with g | g
    · exact ⟨m, by omega, g, h⟩
    · obtain ⟨k, a, b, c⟩ := part_to h0 m g
      exact ⟨k, by omega, b, c⟩
theorem part_from {xs : List Int} {L : Int} (h0 : 0 ≤ L) : ∀ m, L < lenTo xs m → ∃ k, k < m ∧ lenTo xs k ≤ L ∧ L < lenTo xs (k + 1)
  | 0, h => by simp only [lenTo] at h; omega
  | m + 1, h => by
    rcases Int.lt_or_le L (lenTo xs m) with g | g
    · obtain ⟨k, a, b, c⟩ := part_from h0 m g
      exact ⟨k, by omega, b, c⟩
    · exact ⟨m, by omega, g, h⟩
theorem lenTo_le {xs : List Int} {n : Nat} (h : okAll n xs) {j k : Nat} (hk : k < n) (hj : j ≤ k) : lenTo xs j ≤ lenTo xs k := by
  rcases Nat.lt_or_ge j k with g | g
  · exact Int.le_of_lt (lenTo_lt h k j hk g)
  · obtain rfl : j = k := by omega
    exact Int.le_refl _
theorem part_of {xs : List Int} {n : Nat} {L : Int} (h2 : 2 ≤ n) (h0 : 0 ≤ L) (h1 : L ≤ lenTo xs (n - 1)) : ∃ k, k + 1 < n ∧ lenTo xs k ≤ L ∧ L ≤ lenTo xs (k + 1) := by
  rcases Int.lt_or_le 0 L with g | g
  · obtain ⟨k, a, b, c⟩ := part_to g (n - 1) h1
    exact ⟨k, by omega, by omega, c⟩
  · obtain rfl : L = 0 := by omega
    by_cases e : 0 ≤ lenTo xs 1
    · exact ⟨0, by omega, by simp [lenTo], e⟩
    · exfalso
      have : lenTo xs 1 = 0 + farAt xs 0 := rfl
      have f : 0 ≤ farAt xs 0 := by
        have a := ab_cases (X xs (0 + 1) - X xs 0)
        have b := ab_cases (Y xs (0 + 1) - Y xs 0)
        unfold farAt farL; omega
      omega

/-- Spots along a way lie on the field. -/
theorem box {a b r p : Int} (hp : b - a = 0 ∨ p = ab (b - a)) (h0 : 0 ≤ r) (h1 : r ≤ p) : min a b ≤ a + sg (b - a) * r ∧ a + sg (b - a) * r ≤ max a b := by
  have c := ab_cases (b - a)
  rcases sg_cases (b - a) with ⟨h, e⟩ | ⟨h, e⟩ | ⟨h, e⟩ <;> rw [e] <;> omega
theorem al_box {xs : List Int} {n k : Nat} {L : Int} (h : okAll n xs) (hk : k + 1 < n) (h1 : lenTo xs k ≤ L) (h2 : L ≤ lenTo xs (k + 1)) :
    (min (X xs k) (X xs (k + 1)) ≤ alX n xs L ∧ alX n xs L ≤ max (X xs k) (X xs (k + 1))) ∧ min (Y xs k) (Y xs (k + 1)) ≤ alY n xs L ∧ alY n xs L ≤ max (Y xs k) (Y xs (k + 1)) := by
  have hs := far_straight (straight_of h hk)
  have e : lenTo xs (k + 1) = lenTo xs k + farAt xs k := rfl
  have hf : farAt xs k = farL (X xs k) (Y xs k) (X xs (k + 1)) (Y xs (k + 1)) := rfl
  rw [← hf] at hs
  obtain ⟨a, b⟩ := al_any h hk h1 h2
  rw [a, b]
  exact ⟨box hs.2.1 (by omega) (by omega), box hs.2.2 (by omega) (by omega)⟩
theorem al_field {xs : List Int} {n : Nat} {L : Int} (h : wayB n xs = true) (h0 : 0 ≤ L) (h1 : L ≤ lenTo xs (n - 1)) : spotB (alX n xs L) (alY n xs L) = true := by
  obtain ⟨⟨h2, _⟩, hon, hok⟩ := wayB_yes h
  obtain ⟨k, hk, a, b⟩ := part_of h2 h0 h1
  have := al_box hok hk a b
  have s1 := spotB_yes (hon k (by omega))
  have s2 := spotB_yes (hon (k + 1) hk)
  simp only [spotB, Bool.and_eq_true]
  exact ⟨inB_mk (by omega) (by omega), inB_mk (by omega) (by omega)⟩

/-- Two spots along a way are no farther apart than their lengths. -/
theorem al_step {xs : List Int} {n : Nat} {L : Int} (h : okAll n xs) (h2 : 2 ≤ n) (h0 : 0 ≤ L) (h1 : L < lenTo xs (n - 1)) : ab (alX n xs (L + 1) - alX n xs L) + ab (alY n xs (L + 1) - alY n xs L) = 1 := by
  obtain ⟨k, hk, a, b⟩ := part_from h0 (n - 1) h1
  have hk' : k + 1 < n := by omega
  obtain ⟨e1, e2⟩ := al_any h hk' a (Int.le_of_lt b)
  obtain ⟨f1, f2⟩ := al_any (L := L + 1) h hk' (by omega) (by omega)
  rw [e1, e2, f1, f2]
  have c1 := sg_cases (X xs (k + 1) - X xs k)
  have c2 := sg_cases (Y xs (k + 1) - Y xs k)
  rcases straight_of h hk' with ⟨s1, s2⟩ | ⟨s1, s2⟩
  · have : sg (X xs (k + 1) - X xs k) = 0 := by omega
    rw [this]
    rcases c2 with ⟨_, e⟩ | ⟨_, e⟩ | ⟨_, e⟩
    · rw [e, show X xs k + 0 * (L + 1 - lenTo xs k) - (X xs k + 0 * (L - lenTo xs k)) = 0 by omega, show Y xs k + 1 * (L + 1 - lenTo xs k) - (Y xs k + 1 * (L - lenTo xs k)) = 1 by omega]; rfl
    · rw [e, show X xs k + 0 * (L + 1 - lenTo xs k) - (X xs k + 0 * (L - lenTo xs k)) = 0 by omega, show Y xs k + -1 * (L + 1 - lenTo xs k) - (Y xs k + -1 * (L - lenTo xs k)) = -1 by omega]; rfl
    · omega
  · have : sg (Y xs (k + 1) - Y xs k) = 0 := by omega
    rw [this]
    rcases c1 with ⟨_, e⟩ | ⟨_, e⟩ | ⟨_, e⟩
    · rw [e, show Y xs k + 0 * (L + 1 - lenTo xs k) - (Y xs k + 0 * (L - lenTo xs k)) = 0 by omega, show X xs k + 1 * (L + 1 - lenTo xs k) - (X xs k + 1 * (L - lenTo xs k)) = 1 by omega]; rfl
    · rw [e, show Y xs k + 0 * (L + 1 - lenTo xs k) - (Y xs k + 0 * (L - lenTo xs k)) = 0 by omega, show X xs k + -1 * (L + 1 - lenTo xs k) - (X xs k + -1 * (L - lenTo xs k)) = -1 by omega]; rfl
    · omega
theorem al_gap {xs : List Int} {n : Nat} {L : Int} (h : okAll n xs) (h2 : 2 ≤ n) (h0 : 0 ≤ L) : ∀ d : Nat, L + (d : Int) ≤ lenTo xs (n - 1) → ab (alX n xs (L + (d : Int)) - alX n xs L) + ab (alY n xs (L + (d : Int)) - alY n xs L) ≤ (d : Int)
  | 0, _ => by simp [ab]
  | d + 1, h1 => by
    have ih := al_gap h h2 h0 d (by omega)
    have s := al_step (L := L + (d : Int)) h h2 (by omega) (by omega)
    rw [show L + ((d + 1 : Nat) : Int) = L + (d : Int) + 1 by omega]
    have a1 := ab_cases (alX n xs (L + (d : Int) + 1) - alX n xs (L + (d : Int)))
    have a2 := ab_cases (alY n xs (L + (d : Int) + 1) - alY n xs (L + (d : Int)))
    have a3 := ab_cases (alX n xs (L + (d : Int) + 1) - alX n xs L)
    have a4 := ab_cases (alY n xs (L + (d : Int) + 1) - alY n xs L)
    have a5 := ab_cases (alX n xs (L + (d : Int)) - alX n xs L)
    have a6 := ab_cases (alY n xs (L + (d : Int)) - alY n xs L)
    omega

/-- Lists of spots. -/
theorem XY_left {S T : List Int} {m j : Nat} (hl : S.length = m * 2) (hj : j < m) : X (S ++ T) j = X S j ∧ Y (S ++ T) j = Y S j := by
  simp only [X, Y, List.getD]
  rw [List.getElem?_append_left (by omega), List.getElem?_append_left (by omega)]
  exact ⟨rfl, rfl⟩
theorem XY_last {S : List Int} {m : Nat} {x y : Int} (hl : S.length = m * 2) : X (S ++ [x, y]) m = x ∧ Y (S ++ [x, y]) m = y := by
  simp only [X, Y, List.getD]
  rw [List.getElem?_append_right (by omega), List.getElem?_append_right (by omega), hl]
  simp
theorem lenTo_left {S T : List Int} {m : Nat} (hl : S.length = m * 2) : ∀ j, j < m → lenTo (S ++ T) j = lenTo S j
  | 0, _ => rfl
  | j + 1, hj => by
    have ih := lenTo_left (T := T) hl j (by omega)
    obtain ⟨a, b⟩ := XY_left (T := T) hl (show j < m by omega)
    obtain ⟨c, d⟩ := XY_left (T := T) hl hj
    simp only [lenTo, farAt, ih, a, b, c, d]

/-- The part from corner p to corner k, where every corner between goes straight on. -/
theorem run_dir {n p : Nat} {xs : List Int} (_h : okAll n xs) : ∀ k, p ≤ k → k + 1 < n → (∀ j, p < j → j ≤ k → keepB n xs j = false) → sg (X xs (k + 1) - X xs k) = sg (X xs (p + 1) - X xs p) ∧ sg (Y xs (k + 1) - Y xs k) = sg (Y xs (p + 1) - Y xs p)
  | 0, hp, _, _ => by obtain rfl : p = 0 := by omega
                      exact ⟨rfl, rfl⟩
  | k + 1, hp, hk, hno => by
    rcases Nat.lt_or_ge p (k + 1) with g | g
    · have ih := run_dir _h k (by omega) (by omega) (fun j h1 h2 => hno j h1 (by omega))
      have := hno (k + 1) g (Nat.le_refl _)
      rw [keep_mid (by omega) hk, Bool.not_eq_false', sameL, Bool.and_eq_true, beq_iff_eq, beq_iff_eq] at this
      exact ⟨this.1.trans ih.1, this.2.trans ih.2⟩
    · obtain rfl : p = k + 1 := by omega
      exact ⟨rfl, rfl⟩
theorem run_to {n p : Nat} {xs : List Int} (h : okAll n xs) : ∀ k, p ≤ k → k < n → (∀ j, p < j → j < k → keepB n xs j = false) →
    X xs k = X xs p + sg (X xs (p + 1) - X xs p) * (lenTo xs k - lenTo xs p) ∧ Y xs k = Y xs p + sg (Y xs (p + 1) - Y xs p) * (lenTo xs k - lenTo xs p)
  | 0, hp, _, _ => by obtain rfl : p = 0 := by omega
                      simp
  | k + 1, hp, hk, hno => by
    rcases Nat.lt_or_ge p (k + 1) with g | g
    · have ih := run_to h k (by omega) (by omega) (fun j h1 h2 => hno j h1 (by omega))
      have d := run_dir h k (by omega) hk (fun j h1 h2 => hno j h1 (by omega))
      have hs := far_straight (straight_of h hk)
      have hx : sg (X xs (k + 1) - X xs k) * farAt xs k = X xs (k + 1) - X xs k := sg_far hs.2.1
      have hy : sg (Y xs (k + 1) - Y xs k) * farAt xs k = Y xs (k + 1) - Y xs k := sg_far hs.2.2
      rw [d.1] at hx
      rw [d.2] at hy
      have e : lenTo xs (k + 1) - lenTo xs p = (lenTo xs k - lenTo xs p) + farAt xs k := by show lenTo xs k + farAt xs k - lenTo xs p = _; omega
      rw [e, Int.mul_add, Int.mul_add, hx, hy]
      omega
    · obtain rfl : p = k + 1 := by omega
      simp

/-- What the first k spots have given: the short way's last corner is corner p, and the way up to there has the same spots. -/
def Sh (n : Nat) (xs : List Int) (k m p : Nat) (S : List Int) : Prop :=
  S.length = (m + 1) * 2 ∧ p < k ∧ (∀ j, p < j → j < k → keepB n xs j = false) ∧ X S m = X xs p ∧ Y S m = Y xs p ∧ lenTo S m = lenTo xs p ∧ (∀ j, j ≤ m → spotB (X S j) (Y S j) = true) ∧
  (∀ j, j + 1 ≤ m → straight (X S j) (Y S j) (X S (j + 1)) (Y S (j + 1))) ∧
  ∀ i, i < p → ∀ L, lenTo xs i ≤ L → L ≤ lenTo xs (i + 1) → onPath (m + 1) S L (X xs i + sg (X xs (i + 1) - X xs i) * (L - lenTo xs i)) (Y xs i + sg (Y xs (i + 1) - Y xs i) * (L - lenTo xs i))
theorem sh_step {n k m p : Nat} {xs S : List Int} (h : okAll n xs) (hon : onField xs n) (hk : k < n) (hs : Sh n xs k m p S) (hy : keepB n xs k = true) : Sh n xs (k + 1) (m + 1) k (S ++ [X xs k, Y xs k]) := by
  obtain ⟨hl, hp, hno, hX, hY, hL, hsp, hst, hpath⟩ := hs
  have l1 := @XY_left S [X xs k, Y xs k] (m + 1)
  have l2 := XY_last (x := X xs k) (y := Y xs k) hl
  have l3 := lenTo_left (T := [X xs k, Y xs k]) hl
  obtain ⟨rx, ry⟩ := run_to h k (by omega) hk hno
  have hlt := lenTo_lt h k p hk hp
  have spk := straight_of h (show p + 1 < n by omega)
  have c1 := sg_cases (X xs (p + 1) - X xs p)
  have c2 := sg_cases (Y xs (p + 1) - Y xs p)
  obtain ⟨q, hq⟩ : ∃ q, lenTo xs k - lenTo xs p = q := ⟨_, rfl⟩
  rw [hq] at rx ry
  -- the part from p to k
  have far : farL (X xs p) (Y xs p) (X xs k) (Y xs k) = q := by
    unfold farL
    have a1 := ab_cases (X xs k - X xs p)
    have a2 := ab_cases (Y xs k - Y xs p)
    rcases spk with ⟨s1, s2⟩ | ⟨s1, s2⟩ <;> rcases c1 with ⟨g1, e1⟩ | ⟨g1, e1⟩ | ⟨g1, e1⟩ <;> rcases c2 with ⟨g2, e2⟩ | ⟨g2, e2⟩ | ⟨g2, e2⟩ <;> rw [e1] at rx <;> rw [e2] at ry <;> omega
  have sx : sg (X xs k - X xs p) = sg (X xs (p + 1) - X xs p) := by
    rcases c1 with ⟨g1, e1⟩ | ⟨g1, e1⟩ | ⟨g1, e1⟩ <;> rw [e1] at rx ⊢
    · exact sg_pos (by omega)
    · exact sg_neg (by omega)
    · rw [show X xs k - X xs p = 0 by omega]; rfl
  have sy : sg (Y xs k - Y xs p) = sg (Y xs (p + 1) - Y xs p) := by
    rcases c2 with ⟨g1, e1⟩ | ⟨g1, e1⟩ | ⟨g1, e1⟩ <;> rw [e1] at ry ⊢
    · exact sg_pos (by omega)
    · exact sg_neg (by omega)
    · rw [show Y xs k - Y xs p = 0 by omega]; rfl
  have stk : straight (X xs p) (Y xs p) (X xs k) (Y xs k) := by
    unfold straight
    rcases spk with ⟨s1, s2⟩ | ⟨s1, s2⟩ <;> rcases c1 with ⟨g1, e1⟩ | ⟨g1, e1⟩ | ⟨g1, e1⟩ <;> rcases c2 with ⟨g2, e2⟩ | ⟨g2, e2⟩ | ⟨g2, e2⟩ <;> rw [e1] at rx <;> rw [e2] at ry <;> omega
  have XM := l1 hl (show m < m + 1 by omega)
  have len : lenTo (S ++ [X xs k, Y xs k]) (m + 1) = lenTo xs k := by
    have : lenTo (S ++ [X xs k, Y xs k]) (m + 1) = lenTo (S ++ [X xs k, Y xs k]) m + farAt (S ++ [X xs k, Y xs k]) m := rfl
    rw [this, l3 m (by omega), hL]
    unfold farAt
    rw [XM.1, XM.2, l2.1, l2.2, hX, hY, far]; omega
  refine ⟨by simp [hl]; omega, by omega, fun j h1 h2 => absurd h1 (by omega), l2.1, l2.2, len, fun j hj => ?_, fun j hj => ?_, fun i hi L h1 h2 => ?_⟩
  · rcases Nat.lt_or_ge j (m + 1) with g | g
    · rw [(l1 hl g).1, (l1 hl g).2]; exact hsp j (by omega)
    · obtain rfl : j = m + 1 := by omega
      rw [l2.1, l2.2]; exact hon k hk
  · rcases Nat.lt_or_ge j m with g | g
    · rw [(l1 hl (show j < m + 1 by omega)).1, (l1 hl (show j < m + 1 by omega)).2, (l1 hl (show j + 1 < m + 1 by omega)).1, (l1 hl (show j + 1 < m + 1 by omega)).2]
      exact hst j (by omega)
    · obtain rfl : j = m := by omega
      rw [XM.1, XM.2, l2.1, l2.2, hX, hY]
      exact stk
  · rcases Nat.lt_or_ge i p with g | g
    · obtain ⟨r, hr, a, b, c, d⟩ := hpath i g L h1 h2
      refine ⟨r, by omega, ?_, ?_, ?_, ?_⟩
      · rw [l3 r (by omega)]; exact a
      · rw [l3 (r + 1) (by omega)]; exact b
      · rw [l3 r (by omega), (l1 hl (show r < m + 1 by omega)).1, (l1 hl (show r + 1 < m + 1 by omega)).1]; exact c
      · rw [l3 r (by omega), (l1 hl (show r < m + 1 by omega)).2, (l1 hl (show r + 1 < m + 1 by omega)).2]; exact d
    · obtain ⟨ix, iy⟩ := run_to h i g (by omega) (fun j h1 h2 => hno j h1 (by omega))
      obtain ⟨dx, dy⟩ := run_dir h i g (by omega) (fun j h1 h2 => hno j h1 (by omega))
      have o1 := lenTo_le h (show i < n by omega) g
      have o2 := lenTo_le h hk (show i + 1 ≤ k by omega)
      refine ⟨m, by omega, ?_, ?_, ?_, ?_⟩
      · rw [l3 m (by omega), hL]; omega
      · rw [len]; omega
      · rw [l3 m (by omega), hL, XM.1, l2.1, hX, sx, dx, ix, Int.add_assoc, ← Int.mul_add]; congr 2; omega
      · rw [l3 m (by omega), hL, XM.2, l2.2, hY, sy, dy, iy, Int.add_assoc, ← Int.mul_add]; congr 2; omega
theorem sh_inv {n : Nat} {xs : List Int} (h : okAll n xs) (hon : onField xs n) : ∀ k, k < n → ∃ m p, shN n xs (k + 1) = m + 1 ∧ Sh n xs (k + 1) m p (shTo n xs (k + 1)) ∧ (keepB n xs k = true → p = k)
  | 0, h0 => by
    have e := sh_yes (keep_first n xs)
    refine ⟨0, 0, by rw [e.2]; rfl, ?_, fun _ => rfl⟩
    rw [e.1]
    refine ⟨rfl, by omega, fun j h1 h2 => absurd h1 (by omega), rfl, rfl, rfl, fun j hj => ?_, fun j hj => absurd hj (by omega), fun i hi => absurd hi (by omega)⟩
    obtain rfl : j = 0 := by omega
    exact hon 0 h0
  | k + 1, hk => by
    obtain ⟨m, p, e, hs, _⟩ := sh_inv h hon k (by omega)
    cases hy : keepB n xs (k + 1) with
    | true =>
      have e2 := sh_yes hy
      refine ⟨m + 1, k + 1, by rw [e2.2, e], ?_, fun _ => rfl⟩
      rw [e2.1]
      exact sh_step h hon hk hs hy
    | false =>
      have e2 := sh_no hy
      refine ⟨m, p, by rw [e2.2, e], ?_, fun h => by cases h⟩
      rw [e2.1]
      obtain ⟨a, b, c, r⟩ := hs
      refine ⟨a, by omega, fun j h1 h2 => ?_, r⟩
      rcases Nat.lt_succ_iff_lt_or_eq.1 h2 with g | rfl
      · exact c j h1 g
      · exact hy
theorem okAt_of {S : List Int} {m : Nat} (hsp : ∀ j, j ≤ m → spotB (X S j) (Y S j) = true) (hst : ∀ j, j + 1 ≤ m → straight (X S j) (Y S j) (X S (j + 1)) (Y S (j + 1))) : okAll (m + 1) S := by
  intro j hj
  simp only [okAt, Bool.and_eq_true, Bool.or_eq_true]
  refine ⟨hsp j (by omega), ?_⟩
  cases j with
  | zero => exact .inl rfl
  | succ j =>
    refine .inr ?_
    rw [Nat.add_sub_cancel]
    rcases hst j (by omega) with ⟨a, b⟩ | ⟨a, b⟩
    · have a1 : (X S (j + 1) != X S j) = false := by simp [a]
      have a2 : (Y S (j + 1) != Y S j) = true := by simp; exact fun e => b e.symm
      rw [a1, a2]; rfl
    · have a1 : (X S (j + 1) != X S j) = true := by simp; exact fun e => a e.symm
      have a2 : (Y S (j + 1) != Y S j) = false := by simp [b]
      rw [a1, a2]; rfl
/-- The short way is a way, as long as the other, and has the same spots. -/
theorem short_law {n : Nat} {xs : List Int} (h : wayB n xs = true) : wayB (shN n xs n) (shTo n xs n) = true ∧ lenTo (shTo n xs n) (shN n xs n - 1) = lenTo xs (n - 1) ∧ (shTo n xs n).length = shN n xs n * 2 ∧
    ∀ L, 0 ≤ L → L ≤ lenTo xs (n - 1) → alX (shN n xs n) (shTo n xs n) L = alX n xs L ∧ alY (shN n xs n) (shTo n xs n) L = alY n xs L := by
  obtain ⟨⟨h2, h12⟩, hon, hok⟩ := wayB_yes h
  obtain ⟨m, p, e, hs, hp⟩ := sh_inv hok hon (n - 1) (by omega)
  have hp' : p = n - 1 := hp (keep_last (by omega))
  subst hp'
  have hle := shN_le n xs n
  rw [show n - 1 + 1 = n by omega] at e hs
  obtain ⟨S, hS⟩ : ∃ S, shTo n xs n = S := ⟨_, rfl⟩
  rw [hS] at hs ⊢
  rw [e] at hle ⊢
  obtain ⟨hl, _, _, _, _, hL, hsp, hst, hpath⟩ := hs
  have ok := okAt_of hsp hst
  have path : ∀ L, 0 ≤ L → L ≤ lenTo xs (n - 1) → ∃ x y, onPath (m + 1) S L x y ∧ alX n xs L = x ∧ alY n xs L = y := by
    intro L h0 h1
    obtain ⟨k, hk, a, b⟩ := part_of h2 h0 h1
    have c := al_any hok hk a b
    exact ⟨_, _, hpath k (by omega) L a b, c.1, c.2⟩
  have hm : 1 ≤ m := by
    obtain ⟨x, y, ⟨k, hk, _⟩, _⟩ := path 0 (Int.le_refl _) (lenTo_le hok (by omega) (Nat.zero_le _))
    omega
  refine ⟨?_, hL, hl, fun L h0 h1 => ?_⟩
  · simp only [wayB, Bool.and_eq_true]
    exact ⟨inB_mk (by omega) (by omega), all_yes ok⟩
  · obtain ⟨x, y, q, rfl, rfl⟩ := path L h0 h1
    exact al_path ok q

/-- The way turned round. -/
theorem rev_XY (n : Nat) (xs : List Int) : ∀ k j, j < k → X (revTo n xs k) j = X xs (n - 1 - j) ∧ Y (revTo n xs k) j = Y xs (n - 1 - j)
  | 0, j, h => absurd h (by omega)
  | k + 1, j, h => by
    have hl := revTo_length n xs k
    unfold revTo
    rcases Nat.lt_succ_iff_lt_or_eq.1 h with g | rfl
    · rw [(XY_left hl g).1, (XY_left hl g).2]; exact rev_XY n xs k j g
    · exact XY_last hl
theorem ab_flip (a b : Int) : ab (a - b) = ab (b - a) := by
  have := ab_cases (a - b); have := ab_cases (b - a); omega
theorem sg_flip (a b : Int) : sg (a - b) = -sg (b - a) := by
  rcases sg_cases (a - b) with ⟨h, e⟩ | ⟨h, e⟩ | ⟨h, e⟩ <;> rcases sg_cases (b - a) with ⟨g, f⟩ | ⟨g, f⟩ | ⟨g, f⟩ <;> omega
theorem rev_far {n : Nat} {xs : List Int} {j : Nat} (hj : j + 1 < n) : farAt (revTo n xs n) j = farAt xs (n - 2 - j) := by
  obtain ⟨a, b⟩ := rev_XY n xs n j (by omega)
  obtain ⟨c, d⟩ := rev_XY n xs n (j + 1) hj
  unfold farAt farL
  rw [a, b, c, d, show n - 1 - (j + 1) = n - 2 - j by omega, show n - 1 - j = n - 2 - j + 1 by omega, ab_flip, ab_flip (Y xs (n - 2 - j))]
theorem rev_len {n : Nat} {xs : List Int} : ∀ j, j < n → lenTo (revTo n xs n) j = lenTo xs (n - 1) - lenTo xs (n - 1 - j)
  | 0, _ => by simp [lenTo]
  | j + 1, hj => by
    have ih := rev_len (n := n) (xs := xs) j (by omega)
    have : lenTo (revTo n xs n) (j + 1) = lenTo (revTo n xs n) j + farAt (revTo n xs n) j := rfl
    have e : lenTo xs (n - 2 - j + 1) = lenTo xs (n - 2 - j) + farAt xs (n - 2 - j) := rfl
    rw [this, ih, rev_far hj, show n - 1 - (j + 1) = n - 2 - j by omega]
    rw [show n - 2 - j + 1 = n - 1 - j by omega] at e
    omega
theorem rev_ok {n : Nat} {xs : List Int} (h : okAll n xs) (hon : onField xs n) : okAll n (revTo n xs n) := by
  rcases Nat.eq_zero_or_pos n with rfl | hn
  · exact fun j hj => absurd hj (by omega)
  obtain ⟨m, rfl⟩ : ∃ m, n = m + 1 := ⟨n - 1, by omega⟩
  refine okAt_of (fun j hj => ?_) (fun j hj => ?_)
  · obtain ⟨a, b⟩ := rev_XY (m + 1) xs (m + 1) j (by omega)
    rw [a, b]; exact hon _ (by omega)
  · obtain ⟨a, b⟩ := rev_XY (m + 1) xs (m + 1) j (by omega)
    obtain ⟨c, d⟩ := rev_XY (m + 1) xs (m + 1) (j + 1) (by omega)
    rw [a, b, c, d]
    have s := straight_of h (k := m - (j + 1)) (by omega)
    rw [show m - (j + 1) + 1 = m - j by omega] at s
    rw [show m + 1 - 1 - (j + 1) = m - (j + 1) by omega, show m + 1 - 1 - j = m - j by omega]
    unfold straight at s ⊢
    omega
theorem rev_law {n : Nat} {xs : List Int} (h : wayB n xs = true) : wayB n (revTo n xs n) = true ∧ lenTo (revTo n xs n) (n - 1) = lenTo xs (n - 1) ∧
    ∀ L, 0 ≤ L → L ≤ lenTo xs (n - 1) → alX n (revTo n xs n) (lenTo xs (n - 1) - L) = alX n xs L ∧ alY n (revTo n xs n) (lenTo xs (n - 1) - L) = alY n xs L := by
  obtain ⟨⟨h2, h12⟩, hon, hok⟩ := wayB_yes h
  have ok := rev_ok hok hon
  refine ⟨?_, ?_, fun L h0 h1 => ?_⟩
  · simp only [wayB, Bool.and_eq_true]
    exact ⟨inB_mk (by omega) (by omega), all_yes ok⟩
  · rw [rev_len (n - 1) (by omega), show n - 1 - (n - 1) = 0 by omega]; simp [lenTo]
  · obtain ⟨k, hk, a, b⟩ := part_of h2 h0 h1
    have c := al_any hok hk a b
    rw [c.1, c.2]
    have l1 := rev_len (xs := xs) (n - 2 - k) (show n - 2 - k < n by omega)
    have l2 := rev_len (xs := xs) (n - 2 - k + 1) (show n - 2 - k + 1 < n by omega)
    rw [show n - 1 - (n - 2 - k) = k + 1 by omega] at l1
    rw [show n - 1 - (n - 2 - k + 1) = k by omega] at l2
    obtain ⟨p1, p2⟩ := rev_XY n xs n (n - 2 - k) (by omega)
    obtain ⟨q1, q2⟩ := rev_XY n xs n (n - 2 - k + 1) (by omega)
    rw [show n - 1 - (n - 2 - k) = k + 1 by omega] at p1 p2
    rw [show n - 1 - (n - 2 - k + 1) = k by omega] at q1 q2
    have e : lenTo xs (k + 1) = lenTo xs k + farAt xs k := rfl
    have hs := far_straight (straight_of hok hk)
    have hx : sg (X xs (k + 1) - X xs k) * farAt xs k = X xs (k + 1) - X xs k := sg_far hs.2.1
    have hy : sg (Y xs (k + 1) - Y xs k) * farAt xs k = Y xs (k + 1) - Y xs k := sg_far hs.2.2
    refine al_path ok ⟨n - 2 - k, by omega, by rw [l1]; omega, by rw [l2]; omega, ?_, ?_⟩
    · rw [p1, q1, l1, sg_flip (X xs k) (X xs (k + 1)), show lenTo xs (n - 1) - L - (lenTo xs (n - 1) - lenTo xs (k + 1)) = farAt xs k - (L - lenTo xs k) by omega, Int.neg_mul, Int.mul_sub _ (farAt xs k), hx]; omega
    · rw [p2, q2, l1, sg_flip (Y xs k) (Y xs (k + 1)), show lenTo xs (n - 1) - L - (lenTo xs (n - 1) - lenTo xs (k + 1)) = farAt xs k - (L - lenTo xs k) by omega, Int.neg_mul, Int.mul_sub _ (farAt xs k), hy]; omega
/-- Turned round twice it is the same list. -/
theorem rev_twice {n : Nat} {xs : List Int} (hl : xs.length = n * 2) : revTo n (revTo n xs n) n = xs := by
  refine List.ext_getElem? fun i => ?_
  have l2 := revTo_length n (revTo n xs n) n
  rcases Nat.lt_or_ge i (n * 2) with g | g
  · have hd : ∀ (ys : List Int), ys.length = n * 2 → ys[i]? = some (if i % 2 = 0 then X ys (i / 2) else Y ys (i / 2)) := by
      intro ys hy
      have e : ys[i]? = some (ys.getD i 0) := by simp [List.getD, List.getElem?_eq_getElem (show i < ys.length by omega)]
      rw [e]
      split
      · unfold X; rw [show i / 2 * 2 = i by omega]
      · unfold Y; rw [show i / 2 * 2 + 1 = i by omega]
    rw [hd _ l2, hd _ hl]
    obtain ⟨a, b⟩ := rev_XY n (revTo n xs n) n (i / 2) (by omega)
    obtain ⟨c, d⟩ := rev_XY n xs n (n - 1 - i / 2) (by omega)
    rw [a, b, c, d, show n - 1 - (n - 1 - i / 2) = i / 2 by omega]
  · rw [List.getElem?_eq_none (by omega), List.getElem?_eq_none (by omega)]
end Go.Proofs.Ytciolimmfldpbaa
namespace Go.Proofs.Ytciolimmfldpbaa
open Go.RowKit

/-- Two lengths have one spot. -/
def Twice (n : Nat) (xs : List Int) : Prop := ∃ s t : Int, 0 ≤ s ∧ s < t ∧ t ≤ lenTo xs (n - 1) ∧ alX n xs s = alX n xs t ∧ alY n xs s = alY n xs t
theorem part_spot {a a' b b' p q : Int} (h : straight a a' b b') (h1 : min a b ≤ p ∧ p ≤ max a b) (h2 : min a' b' ≤ q ∧ q ≤ max a' b') : ∃ r, 0 ≤ r ∧ r ≤ farL a a' b b' ∧ p = a + sg (b - a) * r ∧ q = a' + sg (b' - a') * r := by
  have c1 := sg_cases (b - a)
  have c2 := sg_cases (b' - a')
  have d1 := ab_cases (b - a)
  have d2 := ab_cases (b' - a')
  rcases h with ⟨e, f⟩ | ⟨e, f⟩
  · have z : sg (b - a) = 0 := by omega
    refine ⟨ab (q - a'), ?_⟩
    have d3 := ab_cases (q - a')
    unfold farL
    rw [z]
    rcases c2 with ⟨g, k⟩ | ⟨g, k⟩ | ⟨g, k⟩ <;> rw [k] <;> omega
  · have z : sg (b' - a') = 0 := by omega
    refine ⟨ab (p - a), ?_⟩
    have d3 := ab_cases (p - a)
    unfold farL
    rw [z]
    rcases c1 with ⟨g, k⟩ | ⟨g, k⟩ | ⟨g, k⟩ <;> rw [k] <;> omega
theorem meet_of {a b c d : Int} (h : max (min a b) (min c d) ≤ min (max a b) (max c d)) : ∃ x, (min a b ≤ x ∧ x ≤ max a b) ∧ min c d ≤ x ∧ x ≤ max c d :=
  ⟨max (min a b) (min c d), ⟨Int.le_max_left _ _, Int.le_trans h (Int.min_le_left _ _)⟩, Int.le_max_right _ _, Int.le_trans h (Int.min_le_right _ _)⟩
theorem meet_mk {a b c d x y : Int} (h1 : min a b ≤ x ∧ x ≤ max a b) (h2 : min c d ≤ y ∧ y ≤ max c d) (e : x = y) : max (min a b) (min c d) ≤ min (max a b) (max c d) := by
  subst e
  exact Int.max_le.2 ⟨Int.le_min.2 ⟨Int.le_trans h1.1 h1.2, Int.le_trans h1.1 h2.2⟩, Int.le_min.2 ⟨Int.le_trans h2.1 h1.2, Int.le_trans h2.1 h2.2⟩⟩
theorem back_one {a b c d e f p q r s : Int} (si : straight a d b e) (g1 : b - a = sg (b - a) * p ∧ e - d = sg (e - d) * p) (h1 : a + sg (b - a) * q = b + sg (c - b) * r) (h2 : d + sg (e - d) * q = e + sg (f - e) * r) (hq : q < p) (hr : 0 < r) (hp : p = s) :
    sg (c - b) = -sg (b - a) ∧ sg (f - e) = -sg (e - d) := by
  have c1 := sg_cases (b - a)
  have c2 := sg_cases (e - d)
  have d1 := sg_cases (c - b)
  have d2 := sg_cases (f - e)
  obtain ⟨g1, g2⟩ := g1
  constructor
  · clear d2 h2 g2
    rcases c1 with ⟨_, e1⟩ | ⟨_, e1⟩ | ⟨_, e1⟩ <;> rcases d1 with ⟨_, e2⟩ | ⟨_, e2⟩ | ⟨_, e2⟩ <;> rw [e1, e2] at h1 <;> rw [e1] at g1 ⊢ <;> rw [e2] <;> omega
  · clear d1 h1 g1
    rcases c2 with ⟨_, e1⟩ | ⟨_, e1⟩ | ⟨_, e1⟩ <;> rcases d2 with ⟨_, e2⟩ | ⟨_, e2⟩ | ⟨_, e2⟩ <;> rw [e1, e2] at h2 <;> rw [e1] at g2 ⊢ <;> rw [e2] <;> omega
set_option maxHeartbeats 2000000 in
theorem fold_twice {n : Nat} {xs : List Int} (h : wayB n xs = true) : fbAny n xs = true ↔ Twice n xs := by
  obtain ⟨⟨h2, h12⟩, hon, hok⟩ := wayB_yes h
  have ok : okAll n xs := hok
  constructor
  · intro hf
    simp only [fbAny, List.any_eq_true, List.mem_range, Bool.and_eq_true, decide_eq_true_eq] at hf
    obtain ⟨i, hi, k, hk, hik, hf⟩ := hf
    have ei : lenTo xs (i + 1) = lenTo xs i + farAt xs i := rfl
    have ek : lenTo xs (k + 1) = lenTo xs k + farAt xs k := rfl
    have pi := farAt_pos hok (show i + 1 < n by omega)
    have pk := farAt_pos hok (show k + 1 < n by omega)
    have z := lenTo_le ok (show i < n by omega) (Nat.zero_le i)
    have e := lenTo_le ok (show n - 1 < n by omega) (show k + 1 ≤ n - 1 by omega)
    have z0 : lenTo xs 0 = 0 := rfl
    rcases Nat.lt_or_ge (i + 1) k with g | g
    · rw [fold_meet g] at hf
      simp only [meetL, Bool.and_eq_true, decide_eq_true_eq] at hf
      have lt := lenTo_lt hok k (i + 1) (by omega) g
      obtain ⟨x, x1, x2⟩ := meet_of hf.1
      obtain ⟨y, y1, y2⟩ := meet_of hf.2
      obtain ⟨r, r0, r1, rx, ry⟩ := part_spot (p := x) (q := y) (straight_of hok (show i + 1 < n by omega)) x1 y1
      obtain ⟨u, u0, u1, ux, uy⟩ := part_spot (p := x) (q := y) (straight_of hok (show k + 1 < n by omega)) x2 y2
      clear x1 x2 y1 y2 hf
      have fi : farAt xs i = farL (X xs i) (Y xs i) (X xs (i + 1)) (Y xs (i + 1)) := rfl
      have fk : farAt xs k = farL (X xs k) (Y xs k) (X xs (k + 1)) (Y xs (k + 1)) := rfl
      obtain ⟨a1, a2⟩ := al_any (L := lenTo xs i + r) ok (show i + 1 < n by omega) (by omega) (by omega)
      obtain ⟨b1, b2⟩ := al_any (L := lenTo xs k + u) ok (show k + 1 < n by omega) (by omega) (by omega)
      rw [show lenTo xs i + r - lenTo xs i = r by omega] at a1 a2
      rw [show lenTo xs k + u - lenTo xs k = u by omega] at b1 b2
      exact ⟨lenTo xs i + r, lenTo xs k + u, by omega, by omega, by omega, by rw [a1, b1, ← rx, ← ux], by rw [a2, b2, ← ry, ← uy]⟩
    · obtain rfl : k = i + 1 := by omega
      rw [fold_back hok (by omega)] at hf
      simp only [backL, Bool.and_eq_true, beq_iff_eq] at hf
      obtain ⟨a1, a2⟩ := al_any (L := lenTo xs (i + 1) - 1) ok (show i + 1 < n by omega) (by omega) (by omega)
      obtain ⟨b1, b2⟩ := al_any (L := lenTo xs (i + 1) + 1) ok (show i + 1 + 1 < n by omega) (by omega) (by omega)
      rw [show lenTo xs (i + 1) - 1 - lenTo xs i = farAt xs i - 1 by omega, Int.mul_sub, Int.mul_one] at a1 a2
      rw [show lenTo xs (i + 1) + 1 - lenTo xs (i + 1) = 1 by omega, Int.mul_one] at b1 b2
      have hs := far_straight (straight_of hok (show i + 1 < n by omega))
      have hx : sg (X xs (i + 1) - X xs i) * farAt xs i = X xs (i + 1) - X xs i := sg_far hs.2.1
      have hy : sg (Y xs (i + 1) - Y xs i) * farAt xs i = Y xs (i + 1) - Y xs i := sg_far hs.2.2
      rw [hx] at a1
      rw [hy] at a2
      refine ⟨lenTo xs (i + 1) - 1, lenTo xs (i + 1) + 1, by omega, by omega, by omega, ?_, ?_⟩
      · rw [a1, b1, hf.1]; omega
      · rw [a2, b2, hf.2]; omega
  · intro ⟨s, t, s0, st, t1, hx, hy⟩
    obtain ⟨i, hi, i1, i2⟩ := part_from s0 (n - 1) (show s < lenTo xs (n - 1) by omega)
    obtain ⟨k, hk, k1, k2⟩ := part_to (show 0 < t by omega) (n - 1) t1
    have hik : i ≤ k := by
      rcases Nat.lt_or_ge k i with g | g
      · have := lenTo_le ok (show i < n by omega) (show k + 1 ≤ i by omega); omega
      · exact g
    obtain ⟨a1, a2⟩ := al_any (L := s) ok (show i + 1 < n by omega) i1 (Int.le_of_lt i2)
    obtain ⟨b1, b2⟩ := al_any (L := t) ok (show k + 1 < n by omega) (Int.le_of_lt k1) k2
    have ei : lenTo xs (i + 1) = lenTo xs i + farAt xs i := rfl
    have c1 := sg_cases (X xs (i + 1) - X xs i)
    have c2 := sg_cases (Y xs (i + 1) - Y xs i)
    have si := straight_of hok (show i + 1 < n by omega)
    rcases Nat.lt_or_ge (i + 1) k with g | g
    · refine fb_yes (show i < k by omega) (show k + 1 < n by omega) ?_
      rw [fold_meet g]
      have A := al_box ok (show i + 1 < n by omega) i1 (Int.le_of_lt i2)
      have B := al_box ok (show k + 1 < n by omega) (Int.le_of_lt k1) k2
      simp only [meetL, Bool.and_eq_true, decide_eq_true_eq]
      exact ⟨meet_mk A.1 B.1 hx, meet_mk A.2 B.2 hy⟩
    · rcases Nat.lt_or_ge i k with g2 | g2
      · obtain rfl : k = i + 1 := by omega
        refine fb_yes (show i < i + 1 by omega) (show i + 1 + 1 < n by omega) ?_
        rw [fold_back hok (by omega)]
        simp only [backL, Bool.and_eq_true, beq_iff_eq]
        have hs := far_straight si
        have fx : sg (X xs (i + 1) - X xs i) * farAt xs i = X xs (i + 1) - X xs i := sg_far hs.2.1
        have fy : sg (Y xs (i + 1) - Y xs i) * farAt xs i = Y xs (i + 1) - Y xs i := sg_far hs.2.2
        rw [a1, b1] at hx
        rw [a2, b2] at hy
        exact back_one si ⟨fx.symm, fy.symm⟩ hx hy (by omega) (by omega) rfl
      · obtain rfl : k = i := by omega
        exfalso
        rw [a1, b1] at hx
        rw [a2, b2] at hy
        rcases c1 with ⟨g1, e1⟩ | ⟨g1, e1⟩ | ⟨g1, e1⟩ <;> rcases c2 with ⟨g2, e2⟩ | ⟨g2, e2⟩ | ⟨g2, e2⟩ <;> rw [e1] at hx <;> rw [e2] at hy <;> rcases si with ⟨u1, u2⟩ | ⟨u1, u2⟩ <;> omega
theorem twice_fold {n m : Nat} {xs ys : List Int} (h : wayB n xs = true) (k : wayB m ys = true) (ht : Twice n xs ↔ Twice m ys) : fbAny m ys = fbAny n xs := by
  rw [Bool.eq_iff_iff, fold_twice k, fold_twice h]; exact ht.symm
theorem short_fold {n : Nat} {xs : List Int} (h : wayB n xs = true) : fbAny (shN n xs n) (shTo n xs n) = fbAny n xs := by
  obtain ⟨a, b, _, c⟩ := short_law h
  refine twice_fold h a ⟨fun ⟨s, t, s0, st, t1, hx, hy⟩ => ?_, fun ⟨s, t, s0, st, t1, hx, hy⟩ => ?_⟩
  · have u := c s s0 (by omega)
    have v := c t (by omega) t1
    exact ⟨s, t, s0, st, by omega, by rw [u.1, v.1, hx], by rw [u.2, v.2, hy]⟩
  · rw [b] at t1
    have u := c s s0 (by omega)
    have v := c t (by omega) t1
    exact ⟨s, t, s0, st, t1, by rw [← u.1, ← v.1, hx], by rw [← u.2, ← v.2, hy]⟩
theorem rev_fold {n : Nat} {xs : List Int} (h : wayB n xs = true) : fbAny n (revTo n xs n) = fbAny n xs := by
  obtain ⟨a, b, c⟩ := rev_law h
  refine twice_fold h a ⟨fun ⟨s, t, s0, st, t1, hx, hy⟩ => ?_, fun ⟨s, t, s0, st, t1, hx, hy⟩ => ?_⟩
  · have u := c s s0 (by omega)
    have v := c t (by omega) t1
    exact ⟨lenTo xs (n - 1) - t, lenTo xs (n - 1) - s, by omega, by omega, by omega, by rw [u.1, v.1, hx], by rw [u.2, v.2, hy]⟩
  · rw [b] at t1
    have u := c (lenTo xs (n - 1) - s) (by omega) (by omega)
    have v := c (lenTo xs (n - 1) - t) (by omega) (by omega)
    rw [show lenTo xs (n - 1) - (lenTo xs (n - 1) - s) = s by omega] at u
    rw [show lenTo xs (n - 1) - (lenTo xs (n - 1) - t) = t by omega] at v
    exact ⟨lenTo xs (n - 1) - t, lenTo xs (n - 1) - s, by omega, by omega, by omega, by rw [← u.1, ← v.1, hx], by rw [← u.2, ← v.2, hy]⟩
end Go.Proofs.Ytciolimmfldpbaa
