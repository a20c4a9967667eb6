/- The carry of a load or of a performer at a count; the longest carry; the effort: plain laws. Without conditions. -/
import Derived.Test.YtamehlafmfmgmaaDoorCarryFn
namespace Go.Proofs.YtamehlafmfmgmaaDoor
open Go.RowKit

/-- The first place from k on, among m, where p holds; k + m if there is none. -/
def fa (p : Nat → Bool) : Nat → Nat → Nat
  | 0, k => k
  | m + 1, k => if p k = true then k else fa p m (k + 1)
theorem fa_here {p : Nat → Bool} {m k : Nat} (hm : 0 < m) (h : p k = true) : fa p m k = k := by
  obtain ⟨m, rfl⟩ : ∃ q, m = q + 1 := ⟨m - 1, by omega⟩
  simp [fa, h]
theorem fa_next {p : Nat → Bool} {m k : Nat} (hm : 0 < m) (h : p k = false) : fa p m k = fa p (m - 1) (k + 1) := by
  obtain ⟨m, rfl⟩ : ∃ q, m = q + 1 := ⟨m - 1, by omega⟩
  simp [fa, h]
theorem fa_spec {p : Nat → Bool} : ∀ (m k : Nat), (fa p m k < k + m → p (fa p m k) = true) ∧ k ≤ fa p m k ∧ fa p m k ≤ k + m ∧ ∀ j, k ≤ j → j < fa p m k → p j = false
  | 0, k => ⟨fun h => absurd h (by simp [fa]), by simp [fa], by simp [fa], fun j h1 h2 => by simp [fa] at h2; omega⟩
  | m + 1, k => by
    unfold fa
    split
    · rename_i h
      exact ⟨fun _ => h, Nat.le_refl _, by omega, fun j h1 h2 => by omega⟩
    · rename_i h
      obtain ⟨a, b, c, d⟩ := fa_spec (p := p) m (k + 1)
      refine ⟨fun h' => a (by omega), by omega, by omega, fun j h1 h2 => ?_⟩
      rcases Nat.lt_or_ge k j with h3 | h3
      · exact d j h3 h2
      · obtain rfl : j = k := by omega
        simpa using h
theorem fa_congr {p q : Nat → Bool} : ∀ (m k : Nat), (∀ j, k ≤ j → j < k + m → p j = q j) → fa p m k = fa q m k
  | 0, _, _ => rfl
  | m + 1, k, h => by
    unfold fa
    rw [h k (Nat.le_refl _) (by omega), fa_congr m (k + 1) (fun j h1 h2 => h j (by omega) (by omega))]

/-- Carry k is the one of a load, or of a performer, at a count; 0 stands for any. -/
def isAt (xs : List Int) (load who count : Int) (k : Nat) : Bool := (load == 0 || cL xs k == load) && (who == 0 || cP xs k == who) && inB count (cF xs k) (cT xs k - 1)
def idxAt (n : Nat) (xs : List Int) (load who count : Int) : Nat := fa (isAt xs load who count) n 0
/-- What the reference's caAt returns. -/
def idxV (n : Nat) (xs : List Int) (load who count : Int) : Int := if idxAt n xs load who count < n then (idxAt n xs load who count : Int) else -1

/-! The longest carry -/
structure Lg where
  f : Int
  t : Int
  b : Int
  e : Int
def lgStep (who p f t : Int) (s : Lg) : Lg :=
  if p = who then (if t - (if f = s.e then s.b else f) > s.t - s.f then ⟨if f = s.e then s.b else f, t, if f = s.e then s.b else f, t⟩ else ⟨s.f, s.t, if f = s.e then s.b else f, t⟩) else s
def lgTo (xs : List Int) (who : Int) : Nat → Lg
  | 0 => ⟨0, 0, 0, -1⟩
  | k + 1 => lgStep who (cP xs k) (cF xs k) (cT xs k) (lgTo xs who k)
/-- All four lie in a range. -/
def Lg.ok (s : Lg) : Prop := (0 ≤ s.f ∧ s.f ≤ 1000) ∧ (0 ≤ s.t ∧ s.t ≤ 1000) ∧ (0 ≤ s.b ∧ s.b ≤ 1000) ∧ (-1 ≤ s.e ∧ s.e ≤ 1000)
theorem lgStep_ok {who p f t : Int} {s : Lg} (h : s.ok) (h1 : 0 ≤ f) (h2 : f < t) (h3 : t ≤ 1000) : (lgStep who p f t s).ok := by
  obtain ⟨⟨a, b⟩, ⟨c, d⟩, ⟨e, g⟩, i, j⟩ := h
  have hq : 0 ≤ (if f = s.e then s.b else f) ∧ (if f = s.e then s.b else f) ≤ 1000 := by split <;> omega
  unfold lgStep
  by_cases hp : p = who
  · rw [if_pos hp]
    by_cases hm : t - (if f = s.e then s.b else f) > s.t - s.f
    · rw [if_pos hm]
      exact ⟨hq, ⟨(by omega : 0 ≤ t), h3⟩, hq, (by omega : -1 ≤ t), h3⟩
    · rw [if_neg hm]
      exact ⟨⟨a, b⟩, ⟨c, d⟩, hq, (by omega : -1 ≤ t), h3⟩
  · rw [if_neg hp]
    exact ⟨⟨a, b⟩, ⟨c, d⟩, ⟨e, g⟩, i, j⟩
theorem lgTo_ok {n : Nat} {xs : List Int} (h : GoodC n xs) (who : Int) : ∀ k, k ≤ n → (lgTo xs who k).ok
  | 0, _ => by simp [lgTo, Lg.ok]
  | k + 1, hk => by
    have ih := lgTo_ok h who k (by omega)
    obtain ⟨_, _, h1, h2, h3⟩ := caB_yes (h.each k hk)
    exact lgStep_ok ih h1 h2 h3
theorem lg_other {who p f t : Int} (s : Lg) (h : ¬ p = who) : lgStep who p f t s = s := by simp [lgStep, h]
theorem lg_more {who f t : Int} {a b c e : Int} (h : t - (if f = e then c else f) > b - a) : lgStep who who f t ⟨a, b, c, e⟩ = ⟨if f = e then c else f, t, if f = e then c else f, t⟩ := by simp only [lgStep, if_true]; rw [if_pos h]
theorem lg_less {who f t : Int} {a b c e : Int} (h : t - (if f = e then c else f) ≤ b - a) : lgStep who who f t ⟨a, b, c, e⟩ = ⟨a, b, if f = e then c else f, t⟩ := by simp only [lgStep, if_true]; rw [if_neg (by omega)]
end Go.Proofs.YtamehlafmfmgmaaDoor
