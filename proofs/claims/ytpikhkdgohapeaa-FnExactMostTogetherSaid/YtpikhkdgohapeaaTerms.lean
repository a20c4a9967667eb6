/- Contracts of the greatest common divisor and of fractions in lowest terms, in the program and in the reference. Condition: numbers from 0 to 2^60, the lower one above 0. -/
import Derived.Test.YtpikhkdgohapeaaTermsFn
import Derived.Test.YtpikhkdgohapeaaProg
import Derived.KernelRfl
import Derived.IntWalk
import Derived.WalkLawsBesides
import Derived.Lib.MinMax
import Derived.BigQuiet
import Derived.Deep.QuietTactic
namespace Go.Proofs.Ytpikhkdgohapeaa
open Go.RowKit

theorem mod_bounds (x : Int) {y : Int} (hy : 0 < y) : 0 ≤ x % y ∧ x % y < y := ⟨Int.emod_nonneg _ (by omega), Int.emod_lt_of_pos _ hy⟩
theorem gd_emod {x y : Int} (hx : 0 ≤ x) (hy : 0 < y) : gd y (x % y) = gd x y := by rw [← Int.tmod_eq_emod_of_nonneg hx]; exact gd_step hx hy
set_option maxHeartbeats 1000000 in
theorem gcdOf_any (a b : Int) (w : World) (ha : 0 ≤ a) (ha2 : a ≤ 1152921504606846976) (hb : 0 ≤ b) (hb2 : b ≤ 1152921504606846976) :
    Calls Try.prog 94 #[.int .i64 a, .int .i64 b] w fun e w' => e = .returned (.int .i64 (gd a b)) ∧ Below w.heap.size w w' := by
  have m1 : max a (-a) = a := by omega
  have m2 : max b (-b) = b := by omega
  go_enter Try.func94, Try.ntmps94
  go_wp2_with fail
  go_loopw [0, 1] (fun s u wr => ∃ x y : Int, s = .int .i64 x ∧ u = .int .i64 y ∧ 0 ≤ x ∧ x ≤ 1152921504606846976 ∧ 0 ≤ y ∧ y ≤ 1152921504606846976 ∧ gd x y = gd a b ∧ Below w.heap.size w wr) (fun _ u _ => (intOf u).toNat)
  case atStart => exact ⟨a, b, by simp [m1], by simp [m2], ha, ha2, hb, hb2, rfl, Below.refl _ _⟩
  case round =>
    obtain ⟨x, y, rfl, rfl, hx, hx2, hy, hy2, hg, hb9⟩ := hrel
    have HG := Lib.hid hg
    have HB := Lib.hid hb9
    clear hg hb9
    by_cases h0 : y = 0
    · subst h0
      have HE := Lib.hid (show gd a b = x by rw [← HG.out]; exact gd_zero hx)
      go_wp2_with fail
      go_ret
      exact ⟨by rw [HE.out]; rfl, HB.out⟩
    · have hr := mod_bounds x (show 0 < y by omega)
      have hs := Lib.hid ((gd_emod hx (show 0 < y by omega)).trans HG.out)
      obtain ⟨r1, r2⟩ := hr
      have hn : (y != 0) = true := by simp [h0]
      go_wp2_with fail
      go_quiet (fail)
      go_wp2_with fail
      go_roundw
      case rel => exact ⟨y, x % y, rfl, rfl, hy, hy2, r1, by omega, hs.out, below_drewN HB.out _⟩
      case measure => simp [intOf]; omega
set_option maxHeartbeats 1000000 in
theorem lowestTerms_any (a b : Int) (w : World) (ha : 0 ≤ a) (ha2 : a ≤ 1152921504606846976) (hb : 0 < b) (hb2 : b ≤ 1152921504606846976) :
    Calls Try.prog 73 #[.int .i64 a, .int .i64 b] w fun e w' => e = .returned (.tuple #[.int .i64 (tmA a b), .int .i64 (tmB a b)]) ∧ Below w.heap.size w w' := by
  have hP := fun W => gcdOf_any a b W ha ha2 (by omega) hb2
  have hg := gd_pos (a := a) hb
  have hT := Lib.hid (show tmA a b = a.tdiv (gd a b) ∧ tmB a b = b.tdiv (gd a b) from ⟨rfl, rfl⟩)
  have hB := tm_bounds ha hb
  rw [hT.out.1, hT.out.2] at hB
  obtain ⟨g, eg⟩ : ∃ g, gd a b = g := ⟨_, rfl⟩
  rw [eg] at hP hg hT hB
  have HP := Lib.hid hP
  obtain ⟨b0, b1, b2, b3⟩ := hB
  clear hP eg
  have hn : (g == 0) = false := by simp; omega
  have hn2 : g ≠ 0 := by omega
  go_enter Try.func73, Try.ntmps73
  go_wp2_with fail
  refine (HP.out _).mono ?_
  rintro e w1 ⟨rfl, hb1⟩
  go_wp2_with fail
  go_quiet (fail)
  go_wp2_with fail
  go_ret2
  exact ⟨by rw [hT.out.1, hT.out.2]; rfl, below_drewN hb1 _⟩
set_option maxHeartbeats 1000000 in
theorem mvPart_any (a b : Int) (w : World) (ha : 0 ≤ a) (ha2 : a ≤ 1152921504606846976) (hb : 0 < b) (hb2 : b ≤ 1152921504606846976) :
    Calls Try.prog 71 #[.int .i64 a, .int .i64 b] w fun e w' => e = .returned (.tuple #[.int .i64 (tmA a b), .int .i64 (tmB a b)]) ∧ Below w.heap.size w w' := by
  have hP : ∀ W, Calls Try.prog 92 #[.int .i64 a] W fun e w' => e = .returned (.int .i64 a) ∧ W = w' := by
    intro W
    by_cases h : 0 < a
    · have hd : -a < a := by omega
      go_enter Try.func92, Try.ntmps92
      go_wp2
      go_ret
      exact ⟨rfl, rfl⟩
    · obtain rfl : a = 0 := by omega
      go_enter Try.func92, Try.ntmps92
      go_wp2
      go_ret
      exact ⟨rfl, rfl⟩
  have HP := Lib.hid hP
  clear hP
  go_enter Try.func71, Try.ntmps71
  go_wp2_with fail
  refine (HP.out _).mono ?_
  rintro e w' ⟨rfl, rfl⟩
  go_wp2_with fail
  go_loopw [6, 7] (fun s u wr => ∃ x y : Int, s = .int .i64 x ∧ u = .int .i64 y ∧ 0 ≤ x ∧ x ≤ 1152921504606846976 ∧ 0 ≤ y ∧ y ≤ 1152921504606846976 ∧ gd x y = gd a b ∧ Below w.heap.size w wr) (fun _ u _ => (intOf u).toNat)
  case atStart => exact ⟨a, b, rfl, rfl, ha, ha2, by omega, hb2, rfl, Below.refl _ _⟩
  case round =>
    obtain ⟨x, y, rfl, rfl, hx, hx2, hy, hy2, hg, hb9⟩ := hrel
    have HG := Lib.hid hg
    have HB := Lib.hid hb9
    clear hg hb9
    by_cases h0 : 0 < y
    · have hr := mod_bounds x h0
      have hs := Lib.hid ((gd_emod hx h0).trans HG.out)
      obtain ⟨r1, r2⟩ := hr
      have hn2 : y ≠ 0 := by omega
      go_wp2_with fail
      go_roundw
      case rel => exact ⟨y, x % y, rfl, rfl, hy, hy2, r1, by omega, hs.out, HB.out⟩
      case measure => simp [intOf]; omega
    · obtain rfl : y = 0 := by omega
      have hE : x = gd a b := by rw [← HG.out]; exact (gd_zero hx).symm
      have hgp := gd_pos (a := a) hb
      have hT := Lib.hid (show tmA a b = a.tdiv x ∧ tmB a b = b.tdiv x by rw [hE]; exact ⟨rfl, rfl⟩)
      have hB := tm_bounds ha hb
      rw [hT.out.1, hT.out.2] at hB
      obtain ⟨b0, b1, b2, b3⟩ := hB
      have hn2 : x ≠ 0 := by omega
      clear HG hE hgp
      go_wp2_with fail
      go_quiet (fail)
      go_wp2_with fail
      go_ret2
      exact ⟨by rw [hT.out.1, hT.out.2]; rfl, below_drewN HB.out _⟩
end Go.Proofs.Ytpikhkdgohapeaa
