/- Carries: when they are valid, read off a flat list of numbers: plain laws. Without conditions. -/
import Derived.Test.YtamehlafmfmgmaaDoorIn
namespace Go.Proofs.YtamehlafmfmgmaaDoor
open Go.RowKit

def cP (xs : List Int) (k : Nat) : Int := xs.getD (k * 4) 0
def cL (xs : List Int) (k : Nat) : Int := xs.getD (k * 4 + 1) 0
def cF (xs : List Int) (k : Nat) : Int := xs.getD (k * 4 + 2) 0
def cT (xs : List Int) (k : Nat) : Int := xs.getD (k * 4 + 3) 0
theorem Rd.form4 {w : World} {B sz : Nat} {v : Value} {n : Nat} {xs : List Int} (h : Rd w B sz v n xs) : ∃ A c, v = .slice A n c := by obtain ⟨_, A, c, e, _⟩ := h; exact ⟨A, c, e⟩
theorem Rd.carry {w : World} {B : Nat} {A : Option Addr} {c n : Nat} {xs : List Int} (h : Rd w B 4 (.slice A n c) n xs) (hn : 0 < n) :
    ∃ b off, A = some ⟨b, off, none⟩ ∧ b < B ∧ ∀ j, j < n → w.cell? ⟨b, off + j * 4, none⟩ = some (.int .i64 (cP xs j)) ∧ w.cell? ⟨b, off + j * 4 + 1, none⟩ = some (.int .i64 (cL xs j)) ∧
      w.cell? ⟨b, off + j * 4 + 2, none⟩ = some (.int .i64 (cF xs j)) ∧ w.cell? ⟨b, off + j * 4 + 3, none⟩ = some (.int .i64 (cT xs j)) := by
  obtain ⟨_, A', c', e, h⟩ := h
  simp only [Value.slice.injEq, true_and] at e
  obtain ⟨rfl, rfl⟩ := e
  obtain ⟨b, off, rfl, hb, hc⟩ := h hn
  exact ⟨b, off, rfl, hb, fun j hj => ⟨hc (j * 4) (by omega), by rw [Nat.add_assoc]; exact hc (j * 4 + 1) (by omega), by rw [Nat.add_assoc]; exact hc (j * 4 + 2) (by omega), by rw [Nat.add_assoc]; exact hc (j * 4 + 3) (by omega)⟩⟩

/-- One carry is valid by itself. -/
def caB (p l f t : Int) : Bool := inB p 1 12 && inB l 1 9 && decide (0 ≤ f) && decide (f < t) && decide (t ≤ 1000)
def caAt (xs : List Int) (k : Nat) : Bool := caB (cP xs k) (cL xs k) (cF xs k) (cT xs k)
def befB (l f l' f' : Int) : Bool := decide (f < f') || (f == f' && decide (l < l'))
/-- Carry k comes behind the one before it. -/
def ordAt (xs : List Int) (k : Nat) : Bool := k == 0 || befB (cL xs (k - 1)) (cF xs (k - 1)) (cL xs k) (cF xs k)
/-- Carry k begins before an earlier one, j, of the same load or performer ends. -/
def clashAt (xs : List Int) (k j : Nat) : Bool := (cL xs j == cL xs k || cP xs j == cP xs k) && decide (cF xs k < cT xs j)
def freeAt (xs : List Int) (k : Nat) : Bool := (List.range k).all fun j => !clashAt xs k j
def gcB (n : Nat) (xs : List Int) : Bool := decide (n ≤ 40) && (List.range n).all fun k => caAt xs k && ordAt xs k && freeAt xs k
theorem caB_yes {p l f t : Int} (h : caB p l f t = true) : (1 ≤ p ∧ p ≤ 12) ∧ (1 ≤ l ∧ l ≤ 9) ∧ 0 ≤ f ∧ f < t ∧ t ≤ 1000 := by
  simp only [caB, Bool.and_eq_true, decide_eq_true_eq] at h
  exact ⟨inB_yes h.1.1.1.1, inB_yes h.1.1.1.2, h.1.1.2, h.1.2, h.2⟩
/-- What valid carries are. -/
structure GoodC (n : Nat) (xs : List Int) : Prop where
  len : n ≤ 40
  each : ∀ k, k < n → caAt xs k = true
  ord : ∀ k, k < n → ordAt xs k = true
  free : ∀ k j, k < n → j < k → clashAt xs k j = false
theorem gc_yes {n : Nat} {xs : List Int} (h : gcB n xs = true) : GoodC n xs := by
  simp only [gcB, Bool.and_eq_true, decide_eq_true_eq, List.all_eq_true, List.mem_range] at h
  refine ⟨h.1, fun k hk => (h.2 k hk).1.1, fun k hk => (h.2 k hk).1.2, fun k j hk hj => ?_⟩
  have := (h.2 k hk).2
  simp only [freeAt, List.all_eq_true, List.mem_range] at this
  simpa using this j hj
theorem gc_mk {n : Nat} {xs : List Int} (h : GoodC n xs) : gcB n xs = true := by
  simp only [gcB, Bool.and_eq_true, decide_eq_true_eq, List.all_eq_true, List.mem_range]
  refine ⟨h.len, fun k hk => ⟨⟨h.each k hk, h.ord k hk⟩, ?_⟩⟩
  simp only [freeAt, List.all_eq_true, List.mem_range]
  intro j hj
  rw [h.free k j hk hj]; rfl
theorem gc_no {n : Nat} {xs : List Int} (h : GoodC n xs → False) : gcB n xs = false := by
  cases hh : gcB n xs with
  | false => rfl
  | true => exact (h (gc_yes hh)).elim
theorem gc_long {n : Nat} {xs : List Int} (h : 40 < n) : gcB n xs = false := gc_no fun g => by have := g.len; omega
theorem gc_bad {n k : Nat} {xs : List Int} (hk : k < n) (h : caAt xs k = false) : gcB n xs = false := gc_no fun g => by rw [g.each k hk] at h; cases h
theorem gc_ord {n k : Nat} {xs : List Int} (hk : k < n) (h : ordAt xs k = false) : gcB n xs = false := gc_no fun g => by rw [g.ord k hk] at h; cases h
theorem gc_clash {n k j : Nat} {xs : List Int} (hk : k < n) (hj : j < k) (h : clashAt xs k j = true) : gcB n xs = false := gc_no fun g => by rw [g.free k j hk hj] at h; cases h
/-- Carries in order begin one behind the other. -/
theorem ord_from {n : Nat} {xs : List Int} (h : ∀ k, k < n → ordAt xs k = true) : ∀ k j, k < n → j ≤ k → cF xs j ≤ cF xs k
  | 0, j, _, hj => by obtain rfl : j = 0 := by omega
                      exact Int.le_refl _
  | k + 1, j, hk, hj => by
    rcases Nat.lt_or_ge j (k + 1) with h1 | h1
    · have ih := ord_from h k j (by omega) (by omega)
      have := h (k + 1) hk
      have hz : (k + 1 == 0) = false := by simp
      simp only [ordAt, hz, Bool.false_or, Nat.add_sub_cancel, befB, Bool.or_eq_true, Bool.and_eq_true, decide_eq_true_eq, beq_iff_eq] at this
      omega
    · obtain rfl : j = k + 1 := by omega
      exact Int.le_refl _
theorem ord_zero (xs : List Int) : ordAt xs 0 = true := by simp [ordAt]
theorem ord_pos {xs : List Int} {k : Nat} (h : 0 < k) : ordAt xs k = befB (cL xs (k - 1)) (cF xs (k - 1)) (cL xs k) (cF xs k) := by
  have hz : (k == 0) = false := by simp; omega
  simp only [ordAt, hz, Bool.false_or]
end Go.Proofs.YtamehlafmfmgmaaDoor
