/- Contracts of the square of two spots, and of the tests on a move's step. Conditions: spots on the field, steps and counts within their bounds. -/
import Derived.Test.YtcpbcmebfiilmaaMove
import Derived.BigQuiet
import Derived.Deep.QuietTactic
import Derived.Deep.RegionHeld3
namespace Go.Proofs.Ytcpbcmebfiilmaa
open Go.RowKit

theorem sq_le {a m : Int} (h1 : -m ≤ a) (h2 : a ≤ m) : 0 ≤ a * a ∧ a * a ≤ m * m := by
  constructor
  · rcases Int.le_total 0 a with h | h
    · exact Int.mul_nonneg h h
    · rw [← Int.neg_mul_neg]; exact Int.mul_nonneg (by omega) (by omega)
  · have h : 0 ≤ (m - a) * (m + a) := Int.mul_nonneg (by omega) (by omega)
    have e : (m - a) * (m + a) = m * m - a * a := by rw [Int.sub_mul, Int.mul_add, Int.mul_add, Int.mul_comm a m]; omega
    omega
theorem prod_le {p q P Q : Int} (h1 : 0 ≤ p) (h2 : p ≤ P) (h3 : 0 ≤ q) (h4 : q ≤ Q) : 0 ≤ p * q ∧ p * q ≤ P * Q :=
  ⟨Int.mul_nonneg h1 h3, Int.mul_le_mul h2 h4 h3 (by omega)⟩

/-- The square of two spots. -/
def sqL (x y z u : Int) : Int := (x - z) * (x - z) + (y - u) * (y - u)
theorem sqL_in {x y z u : Int} (h1 : -1280 ≤ x - z) (h2 : x - z ≤ 1280) (h3 : -672 ≤ y - u) (h4 : y - u ≤ 672) : 0 ≤ sqL x y z u ∧ sqL x y z u ≤ 2089984 := by
  have a := sq_le h1 h2
  have b := sq_le (m := 672) h3 h4
  unfold sqL; omega

theorem squareOf_any (x y z u : Int) (w : World) (h1 : -1280 ≤ x - z) (h2 : x - z ≤ 1280) (h3 : -672 ≤ y - u) (h4 : y - u ≤ 672) :
    Calls Try.prog 48 #[(Value.agg #[Value.int .i64 x, Value.int .i64 y]), (Value.agg #[Value.int .i64 z, Value.int .i64 u])] w fun e w' => e = .returned (.int .i64 (sqL x y z u)) ∧ Below w.heap.size w w' := by
  have a := sq_le h1 h2
  have b := sq_le (m := 672) h3 h4
  obtain ⟨a1, a2⟩ := a
  obtain ⟨b1, b2⟩ := b
  go_enter Try.func48, Try.ntmps48
  go_wp2
  go_ret
  exact ⟨rfl, ((Below.refl _ _).alloc (Nat.le_refl _) _).alloc (by simp) _⟩
theorem stSquare_any (x y z u : Int) (w : World) (h1 : -1280 ≤ x - z) (h2 : x - z ≤ 1280) (h3 : -672 ≤ y - u) (h4 : y - u ≤ 672) :
    Calls Try.prog 49 #[(Value.agg #[Value.int .i64 x, Value.int .i64 y]), (Value.agg #[Value.int .i64 z, Value.int .i64 u])] w fun e w' => e = .returned (.int .i64 (sqL x y z u)) ∧ Below w.heap.size w w' := by
  have a := sq_le h1 h2
  have b := sq_le (m := 672) h3 h4
  obtain ⟨a1, a2⟩ := a
  obtain ⟨b1, b2⟩ := b
  go_enter Try.func49, Try.ntmps49
  go_wp2
  go_ret
  exact ⟨rfl, ((Below.refl _ _).alloc (Nat.le_refl _) _).alloc (by simp) _⟩

/-- Is the step of a move narrow enough? -/
def wsB (x y z u c s : Int) : Bool := decide (sqL x y z u ≤ s * s * c * c)

set_option maxHeartbeats 1000000 in
theorem withinStep_any (x y z u c s : Int) (w : World) (hm : mvB x y z u c = true) (hs : 1 ≤ s) (hs' : s ≤ 24) :
    Calls Try.prog 37 #[(Value.agg #[Value.int .i64 x, Value.int .i64 y, Value.int .i64 z, Value.int .i64 u, Value.int .i64 c]), .int .i64 s] w fun e w' => e = .returned (.bool (wsB x y z u c s)) ∧ Below w.heap.size w w' := by
  have hm' := mvB_yes hm
  clear hm
  obtain ⟨p1, p2⟩ := prod_le (P := 24) (Q := 24) (p := s) (q := s) (by omega) hs' (by omega) hs'
  obtain ⟨q1, q2⟩ := prod_le (P := 24 * 24) (Q := 64) (p := s * s) (q := c) p1 p2 (by omega) (by omega)
  obtain ⟨r1, r2⟩ := prod_le (P := 24 * 24 * 64) (Q := 64) (p := s * s * c) (q := c) q1 q2 (by omega) (by omega)
  have hsq := fun W => squareOf_any x y z u W (by omega) (by omega) (by omega) (by omega)
  have HS := Lib.hid hsq
  have e1 := IntWalk.i64_in (s * s) (by omega)
  have e2 := IntWalk.i64_in (s * s * c) (by omega)
  have e3 := IntWalk.i64_in (s * s * c * c) (by omega)
  have k1 := Blk.new w 27 #[.int .i64 x, .int .i64 y, .int .i64 z, .int .i64 u, .int .i64 c]
  obtain ⟨c0, c1, c2, c3, c4⟩ := k1.c5
  have hb0 : Below w.heap.size w (w.alloc (.cells #[.int .i64 x, .int .i64 y, .int .i64 z, .int .i64 u, .int .i64 c] 27)) := (Below.refl _ _).alloc (Nat.le_refl _) _
  clear k1 hm' hsq p1 p2 q1 q2 r1 r2 hs hs'
  go_enter Try.func37, Try.ntmps37
  go_wp2_with fail
  go_region_held3 (fun W => W.cell? ⟨w.heap.size, 0, none⟩ = some (.int .i64 x) ∧ W.cell? ⟨w.heap.size, 1, none⟩ = some (.int .i64 y) ∧ W.cell? ⟨w.heap.size, 2, none⟩ = some (.int .i64 z) ∧ W.cell? ⟨w.heap.size, 3, none⟩ = some (.int .i64 u) ∧ W.cell? ⟨w.heap.size, 4, none⟩ = some (.int .i64 c) ∧ Below w.heap.size w W)
    (first | exact ⟨c0, c1, c2, c3, c4, hb0.drew⟩ | (go_split_ands; exact ⟨cell_on hb2 (by assumption), cell_on hb2 (by assumption), cell_on hb2 (by assumption), cell_on hb2 (by assumption), cell_on hb2 (by assumption), below_on (by assumption) hb2⟩) | go_keep)
    (first | (go_at_call 48; refine (HS.out _).mono ?_; rintro e w2 ⟨rfl, hb2⟩))
  go_split_ands
  clear c0 c1 c2 c3 c4 e1 e2 e3
  go_wp2
  go_ret
  exact ⟨rfl, by assumption⟩
set_option maxHeartbeats 1000000 in
theorem mvWithin_any (x y z u c s : Int) (w : World) (hm : mvB x y z u c = true) (hs : 1 ≤ s) (hs' : s ≤ 24) :
    Calls Try.prog 39 #[(Value.agg #[Value.int .i64 x, Value.int .i64 y, Value.int .i64 z, Value.int .i64 u, Value.int .i64 c]), .int .i64 s] w fun e w' => e = .returned (.bool (wsB x y z u c s)) ∧ Below w.heap.size w w' := by
  have hm' := mvB_yes hm
  clear hm
  obtain ⟨p1, p2⟩ := prod_le (P := 24) (Q := 24) (p := s) (q := s) (by omega) hs' (by omega) hs'
  obtain ⟨q1, q2⟩ := prod_le (P := 24 * 24) (Q := 64) (p := s * s) (q := c) p1 p2 (by omega) (by omega)
  obtain ⟨r1, r2⟩ := prod_le (P := 24 * 24 * 64) (Q := 64) (p := s * s * c) (q := c) q1 q2 (by omega) (by omega)
  have hsq := fun W => stSquare_any x y z u W (by omega) (by omega) (by omega) (by omega)
  have HS := Lib.hid hsq
  have e1 := IntWalk.i64_in (s * s) (by omega)
  have e2 := IntWalk.i64_in (s * s * c) (by omega)
  have e3 := IntWalk.i64_in (s * s * c * c) (by omega)
  have k1 := Blk.new w 27 #[.int .i64 x, .int .i64 y, .int .i64 z, .int .i64 u, .int .i64 c]
  obtain ⟨c0, c1, c2, c3, c4⟩ := k1.c5
  have hb0 : Below w.heap.size w (w.alloc (.cells #[.int .i64 x, .int .i64 y, .int .i64 z, .int .i64 u, .int .i64 c] 27)) := (Below.refl _ _).alloc (Nat.le_refl _) _
  clear k1 hm' hsq p1 p2 q1 q2 r1 r2 hs hs'
  go_enter Try.func39, Try.ntmps39
  go_wp2_with fail
  go_region_held3 (fun W => W.cell? ⟨w.heap.size, 0, none⟩ = some (.int .i64 x) ∧ W.cell? ⟨w.heap.size, 1, none⟩ = some (.int .i64 y) ∧ W.cell? ⟨w.heap.size, 2, none⟩ = some (.int .i64 z) ∧ W.cell? ⟨w.heap.size, 3, none⟩ = some (.int .i64 u) ∧ W.cell? ⟨w.heap.size, 4, none⟩ = some (.int .i64 c) ∧ Below w.heap.size w W)
    (first | exact ⟨c0, c1, c2, c3, c4, hb0.drew⟩ | (go_split_ands; exact ⟨cell_on hb2 (by assumption), cell_on hb2 (by assumption), cell_on hb2 (by assumption), cell_on hb2 (by assumption), cell_on hb2 (by assumption), below_on (by assumption) hb2⟩) | go_keep)
    (first | (go_at_call 49; refine (HS.out _).mono ?_; rintro e w2 ⟨rfl, hb2⟩))
  go_split_ands
  clear c0 c1 c2 c3 c4 e1 e2 e3
  go_wp2
  go_ret
  exact ⟨rfl, by assumption⟩
end Go.Proofs.Ytcpbcmebfiilmaa
