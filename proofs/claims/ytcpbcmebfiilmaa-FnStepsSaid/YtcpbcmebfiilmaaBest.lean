/- Contracts of the two BestFacing. Without conditions. -/
import Derived.Test.YtcpbcmebfiilmaaKind
import Derived.Deep.RegionHeld3
namespace Go.Proofs.Ytcpbcmebfiilmaa
open Go.RowKit

/-- The turns in the order in which they are tried. -/
def offs : Nat → Int | 0 => 0 | 1 => 1 | 2 => -1 | 3 => 2 | 4 => -2 | 5 => 3 | 6 => -3 | 7 => 4 | _ => 0
theorem offs_in (k : Nat) : -3 ≤ offs k ∧ offs k ≤ 4 := by
  unfold offs; split <;> omega
/-- The k-th facing that is tried fits the direction d. -/
def fitsB (f d : Int) (k : Nat) : Bool := kindL ((f + offs k) % 8) d == 0
/-- The first that fits. -/
def bestK (f d : Int) : Option Nat := (List.range 8).find? (fitsB f d)
theorem bestK_at {f d : Int} {k : Nat} (hk : k < 8) (h : fitsB f d k = true) (hn : ∀ j, j < k → fitsB f d j = false) : bestK f d = some k := by
  unfold bestK
  rw [List.find?_range_eq_some]
  exact ⟨h, by simpa using hk, fun j hj => by simp [hn j hj]⟩
theorem bestK_none {f d : Int} (hn : ∀ j, j < 8 → fitsB f d j = false) : bestK f d = none := by
  unfold bestK
  rw [List.find?_range_eq_none]
  exact fun j hj => by simp [hn j hj]
/-- What both return. -/
def bfB (x y z u c f : Int) : Bool := mvB x y z u c && inB f 0 7 && (decide (x = z ∧ y = u) || (bestK f (dirL (z - x) (u - y))).isSome)
def bfV (x y z u c f : Int) : Int :=
  if mvB x y z u c = true ∧ inB f 0 7 = true then (if x = z ∧ y = u then f else match bestK f (dirL (z - x) (u - y)) with | some k => (f + offs k) % 8 | none => 0) else 0
theorem bf_no {x y z u c f : Int} (h : ¬ (mvB x y z u c = true ∧ inB f 0 7 = true)) : bfB x y z u c f = false ∧ bfV x y z u c f = 0 := by
  constructor
  · have : (mvB x y z u c && inB f 0 7) = false := by
      cases h1 : mvB x y z u c <;> cases h2 : inB f 0 7 <;> simp_all
    simp [bfB, this]
  · simp [bfV, h]
theorem bf_same {x y c f : Int} (h1 : mvB x y x y c = true) (h2 : inB f 0 7 = true) : bfB x y x y c f = true ∧ bfV x y x y c f = f := by simp [bfB, bfV, h1, h2]
theorem bf_some {x y z u c f : Int} {k : Nat} (h1 : mvB x y z u c = true) (h2 : inB f 0 7 = true) (hd : ¬ (x = z ∧ y = u)) (hk : bestK f (dirL (z - x) (u - y)) = some k) : bfB x y z u c f = true ∧ bfV x y z u c f = (f + offs k) % 8 := by
  have : decide (x = z ∧ y = u) = false := by simpa using hd
  simp only [bfB, bfV, h1, h2, hk, this, hd, if_false, and_self, if_true]; simp
theorem bf_none {x y z u c f : Int} (hd : ¬ (x = z ∧ y = u)) (hk : bestK f (dirL (z - x) (u - y)) = none) : bfB x y z u c f = false ∧ bfV x y z u c f = 0 := by
  have : decide (x = z ∧ y = u) = false := by simpa using hd
  simp only [bfB, bfV, hk, this, hd, if_false]; simp
end Go.Proofs.Ytcpbcmebfiilmaa
