/- Contracts of the two ConflictTimes. Conditions: the transition's slices can be read, and are short. -/
import Derived.Test.YtpikhkdgohapeaaConf
import Derived.Test.YtpikhkdgohapeaaClosest
import Derived.Test.YtpikhkdgohapeaaRowStep
namespace Go.Proofs.Ytpikhkdgohapeaa
open Go.RowKit

theorem pairs_at' {p : Nat → Nat → Bool} {n j : Nat} (h : j < (prTo p n n).length) : ∃ i k : Nat, i < k ∧ k < n ∧ (prTo p n n).getD j [] = [(i : Int), (k : Int)] := by
  obtain ⟨i, k, _, h2, h3, _, h5⟩ := prTo_mem (List.getElem_mem h)
  refine ⟨i, k, h2, h3, ?_⟩
  rw [List.getD_eq_getElem?_getD, List.getElem?_eq_getElem h]
  exact h5
theorem mvB_of {t : TrN} (h : TrOk t) {i : Nat} (hi : i < t.n) : mvB (X t.xs i) (Y t.xs i) (X t.ys (plc t i)) (Y t.ys (plc t i)) t.c = true := by
  rw [mvB, h.from_ i hi, h.to_ _ (h.place i hi).2, inB_mk h.c0 h.c1]; rfl
theorem grown_of' {a b : World} {r : Option Nat} (h : a.drew.grownBy b r) : a.grownBy b r := ⟨h.os, h.tape, h.output, h.size, h.block⟩
end Go.Proofs.Ytpikhkdgohapeaa
