/- Contracts of the lists of pairs in conflict, in the program and in the reference. Conditions: the transition is good, its slices can be read, and the least distance lies within its bounds. -/
import Derived.Test.YtmnngoioahnlnaaMoves
import Derived.Test.YtmnngoioahnlnaaNearSpec
import Derived.Test.YtmnngoioahnlnaaRowsS
import Derived.Test.YtmnngoioahnlnaaConfFn
import Derived.Deep.DeepCutAuto
namespace Go.Proofs.Ytmnngoioahnlnaa
open Go.RowKit

theorem Rd.moves {w : World} {B n : Nat} {A : Option Addr} {c : Nat} {t : TrN} (h : Rd w B 5 (.slice A n c) n (mvTo t n)) (hn : 0 < n) : ∃ b off, A = some ⟨b, off, none⟩ ∧ b < B ∧
    ∀ (W : World) (j : Nat), Below B w W → j < n → W.cell? ⟨b, off + j * 5, none⟩ = some (.int .i64 (X t.xs j)) ∧ W.cell? ⟨b, off + j * 5 + 1, none⟩ = some (.int .i64 (Y t.xs j)) ∧
      W.cell? ⟨b, off + j * 5 + 2, none⟩ = some (.int .i64 (X t.ys (plc t j))) ∧ W.cell? ⟨b, off + j * 5 + 3, none⟩ = some (.int .i64 (Y t.ys (plc t j))) ∧ W.cell? ⟨b, off + j * 5 + 4, none⟩ = some (.int .i64 t.c) := by
  obtain ⟨_, A', c', e, h⟩ := h
  simp only [Value.slice.injEq, true_and] at e
  obtain ⟨rfl, rfl⟩ := e
  obtain ⟨b, off, rfl, hb, hc⟩ := h hn
  refine ⟨b, off, rfl, hb, fun W j hW hj => ?_⟩
  obtain ⟨g0, g1, g2, g3, g4⟩ := mvTo_get t n j hj
  have k0 := hc (j * 5) (by omega)
  have k1 := hc (j * 5 + 1) (by omega)
  have k2 := hc (j * 5 + 2) (by omega)
  have k3 := hc (j * 5 + 3) (by omega)
  have k4 := hc (j * 5 + 4) (by omega)
  rw [g0] at k0
  rw [g1, ← Nat.add_assoc] at k1
  rw [g2, ← Nat.add_assoc] at k2
  rw [g3, ← Nat.add_assoc] at k3
  rw [g4, ← Nat.add_assoc] at k4
  exact ⟨(hW.cell (p := ⟨b, off + j * 5, none⟩) hb).trans k0, (hW.cell (p := ⟨b, off + j * 5 + 1, none⟩) hb).trans k1, (hW.cell (p := ⟨b, off + j * 5 + 2, none⟩) hb).trans k2, (hW.cell (p := ⟨b, off + j * 5 + 3, none⟩) hb).trans k3, (hW.cell (p := ⟨b, off + j * 5 + 4, none⟩) hb).trans k4⟩
theorem okMs {t : TrN} (h : TrOk t) {i k : Nat} (hi : i < t.n) (hk : k < t.n) : okM (X t.xs i) (Y t.xs i) (X t.ys (plc t i)) (Y t.ys (plc t i)) ∧ okM (X t.xs k) (Y t.xs k) (X t.ys (plc t k)) (Y t.ys (plc t k)) := by
  have one : ∀ {i : Nat}, i < t.n → okM (X t.xs i) (Y t.xs i) (X t.ys (plc t i)) (Y t.ys (plc t i)) := by
    intro i hi
    have h1 := spotB_yes (h.from_ i hi)
    have h2 := spotB_yes (h.to_ _ (h.place i hi).2)
    exact ⟨⟨by omega, by omega⟩, ⟨by omega, by omega⟩, ⟨by omega, by omega⟩, by omega, by omega⟩
  exact ⟨one hi, one hk⟩
theorem sa_cf (t : TrN) (L : Int) (i k : Nat) : saB (X t.xs i) (Y t.xs i) (X t.ys (plc t i)) (Y t.ys (plc t i)) (X t.xs k) (Y t.xs k) (X t.ys (plc t k)) (Y t.ys (plc t k)) L = !cfAt t L i k := by
  show decide (L * L * apB t i k ≤ apT t i k) = !decide (apT t i k < L * L * apB t i k)
  rw [← decide_not]
  apply decide_eq_decide.2
  omega
theorem pr_len {p : Nat → Nat → Bool} {n a d : Nat} (hn : n ≤ 12) (ha : a ≤ n) (hd : d ≤ n) : (prTo p n a ++ prIn p a d).length ≤ 1000 := by
  have h1 := prTo_len p n a
  have h2 := prIn_len p a d
  have h3 : a * n ≤ 12 * 12 := Nat.mul_le_mul (by omega) hn
  rw [List.length_append]
  omega
end Go.Proofs.Ytmnngoioahnlnaa
