/- Carries put into order one by one, each behind those that do not come after it: plain laws. Without conditions. -/
import Derived.Test.YtamehlafmfmgmaaCarryFn
namespace Go.Proofs.Ytamehlafmfmgmaa
open Go.RowKit

/-- Where a carry goes among the first k, looked for from their end. -/
def posOf (xs : List Int) (l f : Int) : Nat → Nat
  | 0 => 0
  | k + 1 => if befB l f (cL xs k) (cF xs k) = true then posOf xs l f k else k + 1
theorem posOf_le (xs : List Int) (l f : Int) : ∀ k, posOf xs l f k ≤ k
  | 0 => Nat.le_refl _
  | k + 1 => by
    have := posOf_le xs l f k
    rw [posOf]
    split <;> omega
theorem posOf_no {xs : List Int} {l f : Int} {k : Nat} (hk : 0 < k) (h : befB l f (cL xs (k - 1)) (cF xs (k - 1)) = false) : posOf xs l f k = k := by
  obtain ⟨m, rfl⟩ : ∃ m, k = m + 1 := ⟨k - 1, by omega⟩
  rw [Nat.add_sub_cancel] at h
  rw [posOf, h]; rfl
theorem posOf_yes {xs : List Int} {l f : Int} {k : Nat} (hk : 0 < k) (h : befB l f (cL xs (k - 1)) (cF xs (k - 1)) = true) : posOf xs l f k = posOf xs l f (k - 1) := by
  obtain ⟨m, rfl⟩ : ∃ m, k = m + 1 := ⟨k - 1, by omega⟩
  rw [Nat.add_sub_cancel] at h ⊢
  rw [posOf, h]; rfl
def insAt (xs : List Int) (k : Nat) (c : List Int) : List Int := xs.take (k * 4) ++ c ++ xs.drop (k * 4)
theorem insAt_length {xs c : List Int} {k n : Nat} (hl : xs.length = n * 4) (hk : k ≤ n) (hc : c.length = 4) : (insAt xs k c).length = (n + 1) * 4 := by
  simp only [insAt, List.length_append, List.length_take, List.length_drop, hl, hc]; omega
/-- The first k carries of a list, put into order. -/
def csTo (src : List Int) : Nat → List Int
  | 0 => []
  | k + 1 => insAt (csTo src k) (posOf (csTo src k) (cL src k) (cF src k) k) [cP src k, cL src k, cF src k, cT src k]
theorem csTo_length (src : List Int) : ∀ k, (csTo src k).length = k * 4
  | 0 => rfl
  | k + 1 => insAt_length (csTo_length src k) (posOf_le _ _ _ _) rfl
theorem csTo_next {src ys : List Int} {k j : Nat} {p l f t : Int} (hy : csTo src k = ys) (hp : cP src k = p) (hl : cL src k = l) (hf : cF src k = f) (ht : cT src k = t) (hj : posOf ys l f k = j) :
    csTo src (k + 1) = ys.take (j * 4) ++ [p, l, f, t] ++ ys.drop (j * 4) := by
  rw [csTo, hy, hp, hl, hf, ht, hj]; rfl
def csB (n : Nat) (xs : List Int) : Bool := gcB n (csTo xs n)
def csL (n : Nat) (xs : List Int) : List Int := if csB n xs = true then csTo xs n else []
def csN (n : Nat) (xs : List Int) : Nat := if csB n xs = true then n else 0
theorem cs_yes {n : Nat} {xs : List Int} (h : gcB n (csTo xs n) = true) : csB n xs = true ∧ csL n xs = csTo xs n ∧ csN n xs = n := by
  have h' : csB n xs = true := h
  exact ⟨h', by rw [csL, if_pos h'], by rw [csN, if_pos h']⟩
theorem cs_no {n : Nat} {xs : List Int} (h : gcB n (csTo xs n) = false) : csB n xs = false ∧ csL n xs = [] ∧ csN n xs = 0 := by
  have h' : csB n xs = false := h
  have h2 : ¬ csB n xs = true := by rw [h']; simp
  exact ⟨h', by rw [csL, if_neg h2], by rw [csN, if_neg h2]⟩
end Go.Proofs.Ytamehlafmfmgmaa
