/- Contracts of the two ConflictPairs. Conditions: the transition's slices can be read, and are short. -/
import Derived.Test.YtmnngoioahnlnaaPairsSpec
namespace Go.Proofs.Ytmnngoioahnlnaa
open Go.RowKit

theorem cp_in {t : TrN} {L : Int} (h : cpB t L = true) : trB t = true ∧ 0 ≤ L ∧ L ≤ 80 := by
  simp only [cpB, Bool.and_eq_true] at h
  have := inB_yes h.2
  exact ⟨h.1, this.1, this.2⟩
end Go.Proofs.Ytmnngoioahnlnaa
