/- Contracts of the tests on a spot and on a move, of toSpot and toMove, and of the absolute value. Without conditions. -/
import Derived.Test.YtpikhkdgohapeaaIn
namespace Go.Proofs.Ytpikhkdgohapeaa
open Go.RowKit

def spotB (x y : Int) : Bool := inB x 0 1280 && inB y 0 672
theorem spotB_yes {x y : Int} (h : spotB x y = true) : 0 ≤ x ∧ x ≤ 1280 ∧ 0 ≤ y ∧ y ≤ 672 := by
  simp only [spotB, Bool.and_eq_true] at h
  have := inB_yes h.1; have := inB_yes h.2; omega

theorem IsSpot_any (x y : Int) (w : World) : Calls Try.prog 91 #[(Value.agg #[Value.int .i64 x, Value.int .i64 y])] w fun e w' => e = .returned (.bool (spotB x y)) ∧ Below w.heap.size w w' := by
  cases h1 : inB x 0 1280 with
  | true =>
    have hf := Lib.hid (show spotB x y = inB y 0 672 by simp [spotB, h1])
    go_enter Try.func91, Try.ntmps91
    go_wp2_with (go_at_call 36; refine (within_any _ _ _ _).mono ?_; rintro e w' ⟨rfl, rfl⟩)
    go_ret
    exact ⟨by rw [hf.out]; rfl, (Below.refl _ _).alloc (Nat.le_refl _) _⟩
  | false =>
    have hf := Lib.hid (show spotB x y = false by simp [spotB, h1])
    go_enter Try.func91, Try.ntmps91
    go_wp2_with (go_at_call 36; refine (within_any _ _ _ _).mono ?_; rintro e w' ⟨rfl, rfl⟩)
    go_ret
    exact ⟨by rw [hf.out]; rfl, (Below.refl _ _).alloc (Nat.le_refl _) _⟩
theorem stGood_any (x y : Int) (w : World) : Calls Try.prog 90 #[(Value.agg #[Value.int .i64 x, Value.int .i64 y])] w fun e w' => e = .returned (.bool (spotB x y)) ∧ Below w.heap.size w w' := by
  cases h1 : inB x 0 1280 with
  | true =>
    have hf := Lib.hid (show spotB x y = inB y 0 672 by simp [spotB, h1])
    go_enter Try.func90, Try.ntmps90
    go_wp2_with (go_at_call 31; refine (l1In_any _ _ _ _).mono ?_; rintro e w' ⟨rfl, rfl⟩)
    go_ret
    exact ⟨by rw [hf.out]; rfl, (Below.refl _ _).alloc (Nat.le_refl _) _⟩
  | false =>
    have hf := Lib.hid (show spotB x y = false by simp [spotB, h1])
    go_enter Try.func90, Try.ntmps90
    go_wp2_with (go_at_call 31; refine (l1In_any _ _ _ _).mono ?_; rintro e w' ⟨rfl, rfl⟩)
    go_ret
    exact ⟨by rw [hf.out]; rfl, (Below.refl _ _).alloc (Nat.le_refl _) _⟩
end Go.Proofs.Ytpikhkdgohapeaa
