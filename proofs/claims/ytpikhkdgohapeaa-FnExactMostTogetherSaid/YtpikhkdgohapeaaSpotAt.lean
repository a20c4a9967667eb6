/- The spots of a slice that can be read, by their index. Without conditions. -/
import Derived.Test.YtpikhkdgohapeaaMem
namespace Go.Proofs.Ytpikhkdgohapeaa
open Go.RowKit

/-- The k-th spot of a flat list. -/
def X (xs : List Int) (k : Nat) : Int := xs.getD (k * 2) 0
def Y (xs : List Int) (k : Nat) : Int := xs.getD (k * 2 + 1) 0
theorem Rd.form {w : World} {B sz : Nat} {v : Value} {n : Nat} {xs : List Int} (h : Rd w B sz v n xs) : ∃ A c, v = .slice A n c := by obtain ⟨_, A, c, e, _⟩ := h; exact ⟨A, c, e⟩
theorem Rd.spot {w : World} {B : Nat} {A : Option Addr} {c n : Nat} {xs : List Int} (h : Rd w B 2 (.slice A n c) n xs) (hn : 0 < n) :
    ∃ b off, A = some ⟨b, off, none⟩ ∧ b < B ∧ ∀ j, j < n → w.cell? ⟨b, off + j * 2, none⟩ = some (.int .i64 (X xs j)) ∧ w.cell? ⟨b, off + j * 2 + 1, none⟩ = some (.int .i64 (Y xs j)) := by
  obtain ⟨_, A', c', e, h⟩ := h
  simp only [Value.slice.injEq, true_and] at e
  obtain ⟨rfl, rfl⟩ := e
  obtain ⟨b, off, rfl, hb, hc⟩ := h hn
  exact ⟨b, off, rfl, hb, fun j hj => ⟨hc (j * 2) (by omega), by rw [Nat.add_assoc]; exact hc (j * 2 + 1) (by omega)⟩⟩
theorem all_yes {n : Nat} {p : Nat → Bool} (h : ∀ j, j < n → p j = true) : (List.range n).all p = true := by simpa using h
theorem all_no {n k : Nat} {p : Nat → Bool} (hk : k < n) (h : p k = false) : (List.range n).all p = false := by
  cases hh : (List.range n).all p with
  | false => rfl
  | true => simp only [List.all_eq_true, List.mem_range] at hh; have := hh k hk; simp [h] at this
end Go.Proofs.Ytpikhkdgohapeaa
