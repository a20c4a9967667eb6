/- Contracts of the two ConflictCounts. Conditions: the transition's slices can be read, and are short. -/
import Derived.Test.YtpikhkdgohapeaaConf
namespace Go.Proofs.Ytpikhkdgohapeaa
open Go.RowKit

theorem only_cell (w : World) (c i : Nat) (u : Value) : Only c (c + 1) w (w.setCell ⟨c, i, none⟩ u) :=
  ⟨rfl, rfl, rfl, by simp, fun k _ ho => Below.heap_setCell w _ u k (by show k ≠ c; omega)⟩
theorem pairs_at {p : Nat → Nat → Bool} {n j : Nat} (h : j < (prTo p n n).length) : ∃ i k : Nat, i < k ∧ k < n ∧ (prTo p n n).getD j [] = [(i : Int), (k : Int)] := by
  obtain ⟨i, k, _, h2, h3, _, h5⟩ := prTo_mem (List.getElem_mem h)
  refine ⟨i, k, h2, h3, ?_⟩
  rw [List.getD_eq_getElem?_getD, List.getElem?_eq_getElem h]
  exact h5
end Go.Proofs.Ytpikhkdgohapeaa
