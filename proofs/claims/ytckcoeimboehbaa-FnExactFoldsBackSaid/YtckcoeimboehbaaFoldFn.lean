/- When a way folds back: plain laws. Without conditions. -/
import Derived.Test.YtckcoeimboehbaaAlongFn
namespace Go.Proofs.Ytckcoeimboehbaa
open Go.RowKit

def roomX (a b c d : Int) : Int := min (max a b) (max c d) - max (min a b) (min c d)
def roomL (a a' b b' c c' d d' : Int) : Int := if roomX a b c d < 0 ∨ roomX a' b' c' d' < 0 then -1 else roomX a b c d + roomX a' b' c' d'
def meetL (a a' b b' c c' d d' : Int) : Bool := decide (max (min a b) (min c d) ≤ min (max a b) (max c d)) && decide (max (min a' b') (min c' d') ≤ min (max a' b') (max c' d'))
def backL (a a' b b' c c' : Int) : Bool := (sg (c - b) == -sg (b - a)) && (sg (c' - b') == -sg (b' - a'))
theorem room_meet (a a' b b' c c' d d' : Int) : decide (0 ≤ roomL a a' b b' c c' d d') = meetL a a' b b' c c' d d' := by
  rw [Bool.eq_iff_iff]
  simp only [meetL, decide_eq_true_eq, Bool.and_eq_true]
  unfold roomL roomX
  split <;> omega
theorem room_back (a a' b b' c c' : Int) (h : straight a a' b b') (k : straight b b' c c') : decide (0 < roomL a a' b b' b b' c c') = backL a a' b b' c c' := by
  rw [Bool.eq_iff_iff]
  simp only [backL, decide_eq_true_eq, Bool.and_eq_true, beq_iff_eq]
  have s1 := sg_cases (c - b)
  have s2 := sg_cases (b - a)
  have s3 := sg_cases (c' - b')
  have s4 := sg_cases (b' - a')
  unfold roomL roomX
  rcases h with ⟨h1, h2⟩ | ⟨h1, h2⟩ <;> rcases k with ⟨k1, k2⟩ | ⟨k1, k2⟩ <;> subst_vars <;> split <;> omega

/-- Part k meets part i, where k comes behind i: more than in their common corner, if they are neighbours. -/
def foldAt (xs : List Int) (i k : Nat) : Bool :=
  if k = i + 1 then decide (0 < roomL (X xs i) (Y xs i) (X xs (i + 1)) (Y xs (i + 1)) (X xs k) (Y xs k) (X xs (k + 1)) (Y xs (k + 1)))
  else decide (0 ≤ roomL (X xs i) (Y xs i) (X xs (i + 1)) (Y xs (i + 1)) (X xs k) (Y xs k) (X xs (k + 1)) (Y xs (k + 1)))
def fbAny (n : Nat) (xs : List Int) : Bool := (List.range (n - 1)).any fun i => (List.range (n - 1)).any fun k => decide (i < k) && foldAt xs i k
def fbV (n : Nat) (xs : List Int) : Bool := wayB n xs && fbAny n xs
theorem fb_yes {n : Nat} {xs : List Int} {i k : Nat} (h1 : i < k) (h2 : k + 1 < n) (h : foldAt xs i k = true) : fbAny n xs = true := by
  simp only [fbAny, List.any_eq_true, List.mem_range, Bool.and_eq_true, decide_eq_true_eq]
  exact ⟨i, by omega, k, by omega, h1, h⟩
theorem fb_no {n : Nat} {xs : List Int} (h : ∀ i k, i < k → k + 1 < n → foldAt xs i k = false) : fbAny n xs = false := by
  cases hh : fbAny n xs with
  | false => rfl
  | true =>
    simp only [fbAny, List.any_eq_true, List.mem_range, Bool.and_eq_true, decide_eq_true_eq] at hh
    obtain ⟨i, _, k, h2, h3, h4⟩ := hh
    rw [h i k h3 (by omega)] at h4
    cases h4
theorem fold_far {xs : List Int} {i k : Nat} (h : i + 1 < k) : foldAt xs i k = decide (0 ≤ roomL (X xs i) (Y xs i) (X xs (i + 1)) (Y xs (i + 1)) (X xs k) (Y xs k) (X xs (k + 1)) (Y xs (k + 1))) := by
  unfold foldAt
  rw [if_neg (by omega)]
theorem fold_meet {xs : List Int} {i k : Nat} (h : i + 1 < k) : foldAt xs i k = meetL (X xs i) (Y xs i) (X xs (i + 1)) (Y xs (i + 1)) (X xs k) (Y xs k) (X xs (k + 1)) (Y xs (k + 1)) := by
  rw [fold_far h, room_meet]
theorem fold_next (xs : List Int) (i : Nat) : foldAt xs i (i + 1) = decide (0 < roomL (X xs i) (Y xs i) (X xs (i + 1)) (Y xs (i + 1)) (X xs (i + 1)) (Y xs (i + 1)) (X xs (i + 1 + 1)) (Y xs (i + 1 + 1))) := by
  unfold foldAt
  rw [if_pos rfl]
theorem fold_back {xs : List Int} {n i : Nat} (h : ∀ j, j < n → okAt xs j = true) (hi : i + 2 < n) : foldAt xs i (i + 1) = backL (X xs i) (Y xs i) (X xs (i + 1)) (Y xs (i + 1)) (X xs (i + 1 + 1)) (Y xs (i + 1 + 1)) := by
  rw [fold_next, room_back _ _ _ _ _ _ (straight_of h (by omega)) (straight_of h (by omega))]
end Go.Proofs.Ytckcoeimboehbaa
