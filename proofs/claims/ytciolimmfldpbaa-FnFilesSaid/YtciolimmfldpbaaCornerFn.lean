/- Which corners a short way keeps: plain laws. Without conditions. When a way folds back: plain laws. Without conditions. -/
import Derived.Test.YtciolimmfldpbaaAlongFn
namespace Go.Proofs.Ytciolimmfldpbaa
open Go.RowKit

theorem mul_in {x y a b : Int} (h1 : -a ≤ x) (h2 : x ≤ a) (h3 : -b ≤ y) (h4 : y ≤ b) : -(a * b) ≤ x * y ∧ x * y ≤ a * b := by
  have A : 0 ≤ a := by omega
  have B : 0 ≤ b := by omega
  have e1 : 0 ≤ (a - x) * (b + y) := Int.mul_nonneg (by omega) (by omega)
  have e2 : 0 ≤ (a + x) * (b - y) := Int.mul_nonneg (by omega) (by omega)
  have e3 : 0 ≤ (a - x) * (b - y) := Int.mul_nonneg (by omega) (by omega)
  have e4 : 0 ≤ (a + x) * (b + y) := Int.mul_nonneg (by omega) (by omega)
  have f1 : (a - x) * (b + y) = a * b + a * y - x * b - x * y := by rw [Int.sub_mul, Int.mul_add, Int.mul_add]; omega
  have f2 : (a + x) * (b - y) = a * b - a * y + x * b - x * y := by rw [Int.add_mul, Int.mul_sub, Int.mul_sub]; omega
  have f3 : (a - x) * (b - y) = a * b - a * y - x * b + x * y := by rw [Int.sub_mul, Int.mul_sub, Int.mul_sub]; omega
  have f4 : (a + x) * (b + y) = a * b + a * y + x * b + x * y := by rw [Int.add_mul, Int.mul_add, Int.mul_add]; omega
  omega
/-- cross product of the ways from a to b and from a to c -/
def crossL (x y z u r s : Int) : Int := (z - x) * (s - y) - (u - y) * (r - x)
def onB (x y z u r s : Int) : Bool := (crossL x y z u r s == 0) && inB r (min x z) (max x z) && inB s (min y u) (max y u)
def sameL (p q x y r s : Int) : Bool := (sg (r - x) == sg (x - p)) && (sg (s - y) == sg (y - q))
theorem short_same (p q x y r s : Int) (h : straight p q x y) (k : straight x y r s) : ((crossL p q x y r s == 0) && onB p q r s x y) = sameL p q x y r s := by
  rw [Bool.eq_iff_iff]
  simp only [sameL, onB, inB, decide_eq_true_eq, Bool.and_eq_true, beq_iff_eq, crossL]
  have s1 := sg_cases (r - x)
  have s2 := sg_cases (x - p)
  have s3 := sg_cases (s - y)
  have s4 := sg_cases (y - q)
  rcases h with ⟨h1, h2⟩ | ⟨h1, h2⟩ <;> rcases k with ⟨k1, k2⟩ | ⟨k1, k2⟩
  · obtain rfl := h1; obtain rfl := k1; simp; omega
  · obtain rfl := h1; obtain rfl := k2
    have hne : (y - q) * (r - p) ≠ 0 := Int.mul_ne_zero (by omega) (by omega)
    simp only [Int.sub_self, Int.zero_mul] at s1 s2 s3 s4 ⊢
    constructor
    · intro h; omega
    · intro h; omega
  · obtain rfl := h2; obtain rfl := k1
    have hne : (x - p) * (s - q) ≠ 0 := Int.mul_ne_zero (by omega) (by omega)
    simp only [Int.sub_self, Int.zero_mul] at s1 s2 s3 s4 ⊢
    constructor
    · intro h; omega
    · intro h; omega
  · obtain rfl := h2; obtain rfl := k2; simp; omega

/-- The spots that are kept among the first k. -/
def keepB (n : Nat) (xs : List Int) (k : Nat) : Bool := k == 0 || k + 1 == n || !sameL (X xs (k - 1)) (Y xs (k - 1)) (X xs k) (Y xs k) (X xs (k + 1)) (Y xs (k + 1))
def shTo (n : Nat) (xs : List Int) : Nat → List Int
  | 0 => []
  | k + 1 => if keepB n xs k = true then shTo n xs k ++ [X xs k, Y xs k] else shTo n xs k
def shN (n : Nat) (xs : List Int) : Nat → Nat
  | 0 => 0
  | k + 1 => if keepB n xs k = true then shN n xs k + 1 else shN n xs k
theorem shN_le (n : Nat) (xs : List Int) : ∀ k, shN n xs k ≤ k
  | 0 => Nat.le_refl _
  | k + 1 => by have := shN_le n xs k; unfold shN; split <;> omega
theorem sh_yes {n k : Nat} {xs : List Int} (h : keepB n xs k = true) : shTo n xs (k + 1) = shTo n xs k ++ [X xs k, Y xs k] ∧ shN n xs (k + 1) = shN n xs k + 1 := by simp [shTo, shN, h]
theorem sh_no {n k : Nat} {xs : List Int} (h : keepB n xs k = false) : shTo n xs (k + 1) = shTo n xs k ∧ shN n xs (k + 1) = shN n xs k := by simp [shTo, shN, h]
theorem keep_first (n : Nat) (xs : List Int) : keepB n xs 0 = true := by simp [keepB]
theorem keep_last {n k : Nat} {xs : List Int} (h : k + 1 = n) : keepB n xs k = true := by simp [keepB, h]
theorem keep_mid {n k : Nat} {xs : List Int} (h0 : 0 < k) (h1 : k + 1 < n) : keepB n xs k = !sameL (X xs (k - 1)) (Y xs (k - 1)) (X xs k) (Y xs k) (X xs (k + 1)) (Y xs (k + 1)) := by
  have a : (k == 0) = false := by simp; omega
  have b : (k + 1 == n) = false := by simp; omega
  simp only [keepB, a, b, Bool.false_or]
theorem sh_same {n k : Nat} {xs : List Int} (h : ∀ j, j < n → okAt xs j = true) (h0 : 0 < k) (h1 : k + 1 < n) :
    ((crossL (X xs (k - 1)) (Y xs (k - 1)) (X xs k) (Y xs k) (X xs (k + 1)) (Y xs (k + 1)) == 0) && onB (X xs (k - 1)) (Y xs (k - 1)) (X xs (k + 1)) (Y xs (k + 1)) (X xs k) (Y xs k)) = !keepB n xs k := by
  have s := straight_of (k := k - 1) h (by omega)
  rw [show k - 1 + 1 = k by omega] at s
  rw [short_same _ _ _ _ _ _ s (straight_of h h1), keep_mid h0 h1, Bool.not_not]
def swL (n : Nat) (xs : List Int) : List Int := if wayB n xs = true then shTo n xs n else []
def swN (n : Nat) (xs : List Int) : Nat := if wayB n xs = true then shN n xs n else 0
end Go.Proofs.Ytciolimmfldpbaa
namespace Go.Proofs.Ytciolimmfldpbaa
open Go.RowKit

def roomX (a b c d : Int) : Int := min (max a b) (max c d) - max (min a b) (min c d)
def roomL (a a' b b' c c' d d' : Int) : Int := if roomX a b c d < 0 ∨ roomX a' b' c' d' < 0 then -1 else roomX a b c d + roomX a' b' c' d'
def meetL (a a' b b' c c' d d' : Int) : Bool := decide (max (min a b) (min c d) ≤ min (max a b) (max c d)) && decide (max (min a' b') (min c' d') ≤ min (max a' b') (max c' d'))
def backL (a a' b b' c c' : Int) : Bool := (sg (c - b) == -sg (b - a)) && (sg (c' - b') == -sg (b' - a'))
theorem room_meet (a a' b b' c c' d d' : Int) : decide (0 ≤ roomL a a' b b' c c' d d') = meetL a a' b b' c c' d d' := by
  rw [Bool.eq_iff_iff]
  simp only [meetL, decide_eq_true_eq, Bool.and_eq_true]
  unfold roomL roomX
  split <;> omega
theorem room_back (a a' b b' c c' : Int) (h : straight a a' b b') (k : straight b b' c c') : decide (0 < roomL a a' b b' b b' c c') = backL a a' b b' c c' := by
  rw [Bool.eq_iff_iff]
  simp only [backL, decide_eq_true_eq, Bool.and_eq_true, beq_iff_eq]
  have s1 := sg_cases (c - b)
  have s2 := sg_cases (b - a)
  have s3 := sg_cases (c' - b')
  have s4 := sg_cases (b' - a')
  unfold roomL roomX
  rcases h with ⟨h1, h2⟩ | ⟨h1, h2⟩ <;> rcases k with ⟨k1, k2⟩ | ⟨k1, k2⟩ <;> subst_vars <;> split <;> omega

/-- Part k meets part i, where k comes behind i: more than in their common corner, if they are neighbours. -/
def foldAt (xs : List Int) (i k : Nat) : Bool :=
  if k = i + 1 then decide (0 < roomL (X xs i) (Y xs i) (X xs (i + 1)) (Y xs (i + 1)) (X xs k) (Y xs k) (X xs (k + 1)) (Y xs (k + 1)))
  else decide (0 ≤ roomL (X xs i) (Y xs i) (X xs (i + 1)) (Y xs (i + 1)) (X xs k) (Y xs k) (X xs (k + 1)) (Y xs (k + 1)))
def fbAny (n : Nat) (xs : List Int) : Bool := (List.range (n - 1)).any fun i => (List.range (n - 1)).any fun k => decide (i < k) && foldAt xs i k
def fbV (n : Nat) (xs : List Int) : Bool := wayB n xs && fbAny n xs
theorem fb_yes {n : Nat} {xs : List Int} {i k : Nat} (h1 : i < k) (h2 : k + 1 < n) (h : foldAt xs i k = true) : fbAny n xs = true := by
  simp only [fbAny, List.any_eq_true, List.mem_range, Bool.and_eq_true, decide_eq_true_eq]
  exact ⟨i, by omega, k, by omega, h1, h⟩
theorem fb_no {n : Nat} {xs : List Int} (h : ∀ i k, i < k → k + 1 < n → foldAt xs i k = false) : fbAny n xs = false := by
  cases hh : fbAny n xs with
  | false => rfl
  | true =>
    simp only [fbAny, List.any_eq_true, List.mem_range, Bool.and_eq_true, decide_eq_true_eq] at hh
    obtain ⟨i, _, k, h2, h3, h4⟩ := hh
    rw [h i k h3 (by omega)] at h4
    cases h4
theorem fold_far {xs : List Int} {i k : Nat} (h : i + 1 < k) : foldAt xs i k = decide (0 ≤ roomL (X xs i) (Y xs i) (X xs (i + 1)) (Y xs (i + 1)) (X xs k) (Y xs k) (X xs (k + 1)) (Y xs (k + 1))) := by
  unfold foldAt
  rw [if_neg (by omega)]
theorem fold_meet {xs : List Int} {i k : Nat} (h : i + 1 < k) : foldAt xs i k = meetL (X xs i) (Y xs i) (X xs (i + 1)) (Y xs (i + 1)) (X xs k) (Y xs k) (X xs (k + 1)) (Y xs (k + 1)) := by
  rw [fold_far h, room_meet]
theorem fold_next (xs : List Int) (i : Nat) : foldAt xs i (i + 1) = decide (0 < roomL (X xs i) (Y xs i) (X xs (i + 1)) (Y xs (i + 1)) (X xs (i + 1)) (Y xs (i + 1)) (X xs (i + 1 + 1)) (Y xs (i + 1 + 1))) := by
  unfold foldAt
  rw [if_pos rfl]
theorem fold_back {xs : List Int} {n i : Nat} (h : ∀ j, j < n → okAt xs j = true) (hi : i + 2 < n) : foldAt xs i (i + 1) = backL (X xs i) (Y xs i) (X xs (i + 1)) (Y xs (i + 1)) (X xs (i + 1 + 1)) (Y xs (i + 1 + 1)) := by
  rw [fold_next, room_back _ _ _ _ _ _ (straight_of h (by omega)) (straight_of h (by omega))]
end Go.Proofs.Ytciolimmfldpbaa
