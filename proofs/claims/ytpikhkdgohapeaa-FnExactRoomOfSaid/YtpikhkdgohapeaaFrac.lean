/- Contracts of the test whether one fraction is less than another one, in the program (by a product of 128 bits) and in the reference. Conditions: numbers from 0 on, the lower ones above 0; for the reference's: the lower numbers' product below 2^62. -/
import Derived.Test.YtpikhkdgohapeaaFracFn
import Derived.Test.YtpikhkdgohapeaaProg
import Derived.Shelf.Bits.Mul64
import Derived.KernelRfl
import Derived.IntWalk
import Derived.WalkLawsBesides
import Derived.BigQuiet
import Derived.Deep.QuietTactic
namespace Go.Proofs.Ytpikhkdgohapeaa
open Go.RowKit Go.Shelf

def mul64Ren : Go.Shelf.Ren := ⟨fun | 264 => 93 | n => n, fun | 53 => 101 | 46 => 98 | n => n, fun | n => n⟩
theorem mul64Lays : Go.Proofs.Lays.n264 Try.prog mul64Ren := {
  mixed := by kernel_rfl
  f264 := Try.func93.trans (congrArg some (by kernel_rfl))
  t46 := Try.underlying98
  a46 := Try.isAgg98
  z46 := Try.sizeOf98
  v46 := Try.zeroValue98
  t53 := Try.underlying101
  a53 := Try.isAgg101
  z53 := Try.sizeOf101
  v53 := Try.zeroValue101 }
theorem mul64_any (x y : Int) (w : World) (hx : 0 ≤ x) (hx2 : x < 9223372036854775808) (hy : 0 ≤ y) (hy2 : y < 9223372036854775808) :
    Calls Try.prog 93 #[.int .u64 x, .int .u64 y] w fun e w' => e = .returned (.tuple #[.int .u64 (x * y / 18446744073709551616), .int .u64 (x * y % 18446744073709551616)]) ∧ w' = w := by
  obtain ⟨a, rfl⟩ := Int.eq_ofNat_of_zero_le hx
  obtain ⟨b, rfl⟩ := Int.eq_ofNat_of_zero_le hy
  have h := Any.bits_Mul64 mul64Lays a b (by omega) (by omega) w
  refine Calls.mono h ?_
  rintro e w' ⟨rfl, rfl⟩
  refine ⟨?_, rfl⟩
  simp
/-- One product is less than another one, said with their halves. -/
theorem halves (p q : Int) : (decide (p / 18446744073709551616 < q / 18446744073709551616) || (p / 18446744073709551616 == q / 18446744073709551616 && decide (p % 18446744073709551616 < q % 18446744073709551616))) = decide (p < q) := by
  rw [Bool.eq_iff_iff]
  simp only [Bool.or_eq_true, Bool.and_eq_true, decide_eq_true_eq, beq_iff_eq]
  omega
set_option maxHeartbeats 1000000 in
theorem lessFraction_any (a b c d : Int) (w : World) (ha : 0 ≤ a) (ha2 : a < 9223372036854775808) (hb : 0 ≤ b) (hb2 : b < 9223372036854775808) (hc : 0 ≤ c) (hc2 : c < 9223372036854775808) (hd : 0 ≤ d) (hd2 : d < 9223372036854775808) :
    Calls Try.prog 72 #[.int .i64 a, .int .i64 b, .int .i64 c, .int .i64 d] w fun e w' => e = .returned (.bool (decide (a * d < c * b))) ∧ w = w' := by
  have P := fun W => mul64_any a d W ha ha2 hd hd2
  have Q := fun W => mul64_any c b W hc hc2 hb hb2
  have H := halves (a * d) (c * b)
  have r1 : 0 ≤ a * d / 18446744073709551616 ∧ a * d / 18446744073709551616 < 18446744073709551616 := by
    have h0 := Int.mul_nonneg ha hd
    have h1 : a * d ≤ 9223372036854775808 * 9223372036854775808 := Int.mul_le_mul (by omega) (by omega) hd (by omega)
    omega
  have r2 : 0 ≤ c * b / 18446744073709551616 ∧ c * b / 18446744073709551616 < 18446744073709551616 := by
    have h0 := Int.mul_nonneg hc hb
    have h1 : c * b ≤ 9223372036854775808 * 9223372036854775808 := Int.mul_le_mul (by omega) (by omega) hb (by omega)
    omega
  obtain ⟨x, ex⟩ : ∃ x, a * d / 18446744073709551616 = x := ⟨_, rfl⟩
  obtain ⟨y, ey⟩ : ∃ x, c * b / 18446744073709551616 = x := ⟨_, rfl⟩
  obtain ⟨u, eu⟩ : ∃ x, a * d % 18446744073709551616 = x := ⟨_, rfl⟩
  obtain ⟨v, ev⟩ : ∃ x, c * b % 18446744073709551616 = x := ⟨_, rfl⟩
  rw [ex, eu] at P
  rw [ey, ev] at Q
  rw [ex, ey, eu, ev] at H
  have HP := Lib.hid P
  have HQ := Lib.hid Q
  have HH := Lib.hid H
  clear P Q H ex ey eu ev r1 r2
  by_cases h1 : x < y
  · have hf := Lib.hid (show decide (a * d < c * b) = true by rw [← HH.out]; simp [h1])
    have hd1 : decide (x < y) = true := decide_eq_true h1
    go_enter Try.func72, Try.ntmps72
    go_wp2_with fail
    refine (HP.out _).mono ?_
    rintro e w1 ⟨rfl, rfl⟩
    go_wp2_with fail
    refine (HQ.out _).mono ?_
    rintro e w1 ⟨rfl, rfl⟩
    go_wp2_with fail
    go_ret
    exact ⟨by rw [hf.out]; rfl, rfl⟩
  · by_cases h2 : x = y
    · subst h2
      by_cases h3 : u < v
      · have hf := Lib.hid (show decide (a * d < c * b) = true by rw [← HH.out]; simp [h3])
        have hd1 : decide (u < v) = true := decide_eq_true h3
        have hd0 : decide (x < x) = false := decide_eq_false h1
        go_enter Try.func72, Try.ntmps72
        go_wp2_with fail
        refine (HP.out _).mono ?_
        rintro e w1 ⟨rfl, rfl⟩
        go_wp2_with fail
        refine (HQ.out _).mono ?_
        rintro e w1 ⟨rfl, rfl⟩
        go_wp2_with fail
        go_ret
        exact ⟨by rw [hf.out]; rfl, rfl⟩
      · have hf := Lib.hid (show decide (a * d < c * b) = false by rw [← HH.out]; simp [h3])
        have hd1 : decide (u < v) = false := decide_eq_false h3
        have hd0 : decide (x < x) = false := decide_eq_false h1
        go_enter Try.func72, Try.ntmps72
        go_wp2_with fail
        refine (HP.out _).mono ?_
        rintro e w1 ⟨rfl, rfl⟩
        go_wp2_with fail
        refine (HQ.out _).mono ?_
        rintro e w1 ⟨rfl, rfl⟩
        go_wp2_with fail
        go_ret
        exact ⟨by rw [hf.out]; rfl, rfl⟩
    · have hf := Lib.hid (show decide (a * d < c * b) = false by rw [← HH.out]; simp [h1, h2])
      have hd1 : decide (x < y) = false := decide_eq_false h1
      have hd2' : (x == y) = false := by simp [h2]
      go_enter Try.func72, Try.ntmps72
      go_wp2_with fail
      refine (HP.out _).mono ?_
      rintro e w1 ⟨rfl, rfl⟩
      go_wp2_with fail
      refine (HQ.out _).mono ?_
      rintro e w1 ⟨rfl, rfl⟩
      go_wp2_with fail
      go_ret
      exact ⟨by rw [hf.out]; rfl, rfl⟩
set_option maxHeartbeats 1000000 in
theorem apLess_any (a b c d : Int) (w : World) (ha : 0 ≤ a) (ha2 : a < 9223372036854775808) (hb : 0 < b) (hb2 : b ≤ 1073741824) (hc : 0 ≤ c) (hc2 : c < 9223372036854775808) (hd : 0 < d) (hd2 : d ≤ 1073741824) :
    Calls Try.prog 70 #[.int .i64 a, .int .i64 b, .int .i64 c, .int .i64 d] w fun e w' => e = .returned (.bool (decide (a * d < c * b))) ∧ Below w.heap.size w w' := by
  obtain ⟨l1, l2, l3⟩ := frac_less ha hb hc hd
  rw [Int.tdiv_eq_ediv_of_nonneg ha, Int.tdiv_eq_ediv_of_nonneg hc, Int.tmod_eq_emod_of_nonneg ha, Int.tmod_eq_emod_of_nonneg hc] at l3
  rw [Int.tdiv_eq_ediv_of_nonneg ha, Int.tdiv_eq_ediv_of_nonneg hc] at l1 l2
  have s1 := Int.emod_nonneg a (b := b) (by omega)
  have s2 := Int.emod_lt_of_pos a hb
  have s3 := Int.emod_nonneg c (b := d) (by omega)
  have s4 := Int.emod_lt_of_pos c hd
  have m1 : 0 ≤ a % b * d := Int.mul_nonneg s1 (by omega)
  have m2 : a % b * d ≤ 1073741824 * 1073741824 := Int.mul_le_mul (by omega) (by omega) (by omega) (by omega)
  have m3 : 0 ≤ c % d * b := Int.mul_nonneg s3 (by omega)
  have m4 : c % d * b ≤ 1073741824 * 1073741824 := Int.mul_le_mul (by omega) (by omega) (by omega) (by omega)
  have hb0 : (b == 0) = false := by simp; omega
  have hd0 : (d == 0) = false := by simp; omega
  have hb1 : b ≠ 0 := by omega
  have hd1 : d ≠ 0 := by omega
  by_cases h1 : a / b < c / d
  · have hf := Lib.hid (show decide (a * d < c * b) = true from decide_eq_true (l1 h1))
    have hd2 : decide (a / b < c / d) = true := decide_eq_true h1
    have hne : (a / b != c / d) = true := by simp; omega
    clear l1 l2 l3
    go_enter Try.func70, Try.ntmps70
    go_wp2_with fail
    go_quiet (fail)
    go_wp2_with fail
    go_quiet (fail)
    go_wp2_with fail
    go_ret
    exact ⟨by rw [hf.out]; rfl, below_drewN (below_drewN (Below.refl _ _) _) _⟩
  · by_cases h2 : a / b = c / d
    · by_cases h3 : a % b * d < c % d * b
      · have hf := Lib.hid (show decide (a * d < c * b) = true from decide_eq_true ((l3 h2).2 h3))
        have hne : (a / b != c / d) = false := by simp [h2]
        have hd2 : decide (a % b * d < c % d * b) = true := decide_eq_true h3
        clear l1 l2 l3
        go_enter Try.func70, Try.ntmps70
        go_wp2_with fail
        go_quiet (fail)
        go_wp2_with fail
        go_quiet (fail)
        go_wp2_with fail
        go_ret
        exact ⟨by rw [hf.out]; rfl, below_drewN (below_drewN (Below.refl _ _) _) _⟩
      · have hf := Lib.hid (show decide (a * d < c * b) = false from decide_eq_false (fun h => h3 ((l3 h2).1 h)))
        have hne : (a / b != c / d) = false := by simp [h2]
        have hd2 : decide (a % b * d < c % d * b) = false := decide_eq_false h3
        clear l1 l2 l3
        go_enter Try.func70, Try.ntmps70
        go_wp2_with fail
        go_quiet (fail)
        go_wp2_with fail
        go_quiet (fail)
        go_wp2_with fail
        go_ret
        exact ⟨by rw [hf.out]; rfl, below_drewN (below_drewN (Below.refl _ _) _) _⟩
    · have hf := Lib.hid (show decide (a * d < c * b) = false from decide_eq_false (l2 (by omega)))
      have hd2 : decide (a / b < c / d) = false := decide_eq_false h1
      have hne : (a / b != c / d) = true := by simp; omega
      clear l1 l2 l3
      go_enter Try.func70, Try.ntmps70
      go_wp2_with fail
      go_quiet (fail)
      go_wp2_with fail
      go_quiet (fail)
      go_wp2_with fail
      go_ret
      exact ⟨by rw [hf.out]; rfl, below_drewN (below_drewN (Below.refl _ _) _) _⟩
end Go.Proofs.Ytpikhkdgohapeaa
