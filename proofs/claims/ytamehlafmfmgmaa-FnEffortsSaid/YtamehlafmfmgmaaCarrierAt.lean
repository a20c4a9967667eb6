/- Contracts of the reference's caAt, and of the program's and the reference's CarrierAt and LoadAt. Condition: the slice can be read, and its length is at most its capacity. -/
import Derived.Test.YtamehlafmfmgmaaAreSpec
import Derived.Test.YtamehlafmfmgmaaCarryAtFn
namespace Go.Proofs.Ytamehlafmfmgmaa
open Go.RowKit

theorem idx_yes {n : Nat} {xs : List Int} {a b c : Int} {k : Nat} (h : idxAt n xs a b c = k) (hk : k < n) : idxV n xs a b c = (k : Int) := by simp [idxV, h, hk]
theorem idx_no {n : Nat} {xs : List Int} {a b c : Int} (h : idxAt n xs a b c = n) : idxV n xs a b c = -1 := by simp [idxV, h]
/-! A search: $1 the fact on p k, $2 what goes on -/
end Go.Proofs.Ytamehlafmfmgmaa
