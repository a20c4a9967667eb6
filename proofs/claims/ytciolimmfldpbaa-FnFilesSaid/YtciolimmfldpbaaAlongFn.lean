/- The spot at a length of a way, and the corners passed: plain laws. Without conditions. -/
import Derived.Test.YtciolimmfldpbaaLength
namespace Go.Proofs.Ytciolimmfldpbaa
open Go.RowKit

def sg (x : Int) : Int := if 0 < x then 1 else if x < 0 then -1 else 0
theorem sg_pos {x : Int} (h : 0 < x) : sg x = 1 := by simp [sg, h]
theorem sg_neg {x : Int} (h : x < 0) : sg x = -1 := by
  have : ¬ 0 < x := by omega
  simp [sg, h, this]
theorem sg_zero : sg 0 = 0 := rfl
theorem sg_cases (x : Int) : 0 < x ∧ sg x = 1 ∨ x < 0 ∧ sg x = -1 ∨ x = 0 ∧ sg x = 0 := by
  rcases Int.lt_trichotomy x 0 with h | h | h
  · exact .inr (.inl ⟨h, sg_neg h⟩)
  · subst h; exact .inr (.inr ⟨rfl, rfl⟩)
  · exact .inl ⟨h, sg_pos h⟩
theorem sg_in (x : Int) : -1 ≤ sg x ∧ sg x ≤ 1 := by rcases sg_cases x with ⟨_, h⟩ | ⟨_, h⟩ | ⟨_, h⟩ <;> rw [h] <;> omega
theorem sg_mul_in {d r m : Int} (h0 : 0 ≤ r) (h1 : r ≤ m) : -m ≤ sg d * r ∧ sg d * r ≤ m := by
  rcases sg_cases d with ⟨_, h⟩ | ⟨_, h⟩ | ⟨_, h⟩ <;> rw [h] <;> omega
/-- A share of a straight part: r * d / p, where p is the length of d. -/
theorem share {d r p : Int} (hp : d = 0 ∨ p = ab d) (h0 : 0 < p) : (r * d).tdiv p = sg d * r := by
  rcases hp with rfl | rfl
  · simp [sg_zero]
  · rcases sg_cases d with ⟨hd, h⟩ | ⟨hd, h⟩ | ⟨hd, h⟩
    · rw [h, ab_pos (by omega), Int.mul_tdiv_cancel _ (by omega), Int.one_mul]
    · rw [h, ab_neg hd, Int.tdiv_neg, Int.mul_tdiv_cancel _ (by omega)]; omega
    · subst hd; simp [ab] at h0

/-- Two spots that differ in one coordinate alone. -/
def straight (x y z u : Int) : Prop := (x = z ∧ y ≠ u) ∨ (x ≠ z ∧ y = u)
theorem straight_of {xs : List Int} {n k : Nat} (h : ∀ j, j < n → okAt xs j = true) (hk : k + 1 < n) : straight (X xs k) (Y xs k) (X xs (k + 1)) (Y xs (k + 1)) := by
  have := h (k + 1) hk
  simp only [okAt, Bool.and_eq_true, Nat.add_sub_cancel] at this
  have h2 := this.2
  unfold straight
  by_cases e1 : X xs (k + 1) = X xs k <;> by_cases e2 : Y xs (k + 1) = Y xs k
  · simp [e1, e2] at h2
  · exact .inl ⟨e1.symm, fun e => e2 e.symm⟩
  · exact .inr ⟨fun e => e1 e.symm, e2.symm⟩
  · exfalso
    have a1 : (X xs (k + 1) != X xs k) = true := by simp [e1]
    have a2 : (Y xs (k + 1) != Y xs k) = true := by simp [e2]
    rw [a1, a2] at h2
    simp at h2
theorem far_straight {x y z u : Int} (h : straight x y z u) : 0 < farL x y z u ∧ (z - x = 0 ∨ farL x y z u = ab (z - x)) ∧ (u - y = 0 ∨ farL x y z u = ab (u - y)) := by
  unfold farL
  have a := ab_cases (z - x)
  have b := ab_cases (u - y)
  rcases h with ⟨h1, h2⟩ | ⟨h1, h2⟩
  · subst h1; simp only [Int.sub_self] at a ⊢
    have : ab (0 : Int) = 0 := rfl
    rw [this]; refine ⟨?_, .inl trivial, .inr (by omega)⟩; omega
  · subst h2; simp only [Int.sub_self] at b ⊢
    have : ab (0 : Int) = 0 := rfl
    rw [this]; refine ⟨?_, .inr (by omega), .inl trivial⟩; omega

/-- The first part on which a length ends, from part k on, of at most m parts more. -/
def fp (xs : List Int) (L : Int) : Nat → Nat → Nat
  | 0, k => k
  | m + 1, k => if L ≤ lenTo xs (k + 1) then k else fp xs L m (k + 1)
theorem fp_here {xs : List Int} {L : Int} {m k : Nat} (h : L ≤ lenTo xs (k + 1)) : fp xs L m k = k := by
  cases m with
  | zero => rfl
  | succ m => simp [fp, h]
theorem fp_next {xs : List Int} {L : Int} {m k : Nat} (hm : 0 < m) (h : ¬ L ≤ lenTo xs (k + 1)) : fp xs L m k = fp xs L (m - 1) (k + 1) := by
  obtain ⟨m, rfl⟩ : ∃ q, m = q + 1 := ⟨m - 1, by omega⟩
  simp [fp, h]
/-- The spot at a length. -/
def alK (n : Nat) (xs : List Int) (L : Int) : Nat := fp xs L (n - 2) 0
def alX (n : Nat) (xs : List Int) (L : Int) : Int := X xs (alK n xs L) + sg (X xs (alK n xs L + 1) - X xs (alK n xs L)) * (L - lenTo xs (alK n xs L))
def alY (n : Nat) (xs : List Int) (L : Int) : Int := Y xs (alK n xs L) + sg (Y xs (alK n xs L + 1) - Y xs (alK n xs L)) * (L - lenTo xs (alK n xs L))
theorem al_at {n k : Nat} {xs : List Int} {L : Int} (h : alK n xs L = k) : alX n xs L = X xs k + sg (X xs (k + 1) - X xs k) * (L - lenTo xs k) ∧ alY n xs L = Y xs k + sg (Y xs (k + 1) - Y xs k) * (L - lenTo xs k) := by
  subst h; exact ⟨rfl, rfl⟩
theorem fp_lt {xs : List Int} {L : Int} : ∀ m k, fp xs L m k ≤ k + m
  | 0, k => by simp [fp]
  | m + 1, k => by
    unfold fp
    split
    · omega
    · have := fp_lt m (k + 1) (xs := xs) (L := L); omega

/-- How many of the first k parts end at most at a length. -/
def cpTo (xs : List Int) (L : Int) : Nat → Int | 0 => 0 | k + 1 => cpTo xs L k + (if lenTo xs (k + 1) ≤ L then 1 else 0)
theorem cpTo_in (xs : List Int) (L : Int) : ∀ k, 0 ≤ cpTo xs L k ∧ cpTo xs L k ≤ (k : Int)
  | 0 => by simp [cpTo]
  | k + 1 => by have := cpTo_in xs L k; unfold cpTo; split <;> omega
theorem cpTo_yes {xs : List Int} {L : Int} {k : Nat} (h : lenTo xs (k + 1) ≤ L) : cpTo xs L (k + 1) = cpTo xs L k + 1 := by simp [cpTo, h]
theorem cpTo_no {xs : List Int} {L : Int} {k : Nat} (h : L < lenTo xs (k + 1)) : cpTo xs L (k + 1) = cpTo xs L k := by
  have : ¬ lenTo xs (k + 1) ≤ L := by omega
  simp [cpTo, this]

/-- A way, and a length of it. -/
def slB (n : Nat) (xs : List Int) (L : Int) : Bool := wayB n xs && inB L 0 (lenTo xs (n - 1))
end Go.Proofs.Ytciolimmfldpbaa
