/- Contracts of the tests 'within' and 'l1In': they say whether a number lies in a range, and change nothing. Without conditions. -/
import Derived.Test.YtpikhkdgohapeaaMem
import Derived.Test.YtpikhkdgohapeaaProg
import Derived.KernelRfl
namespace Go.Proofs.Ytpikhkdgohapeaa
open Go.RowKit

def inB (n lo hi : Int) : Bool := decide (lo ≤ n ∧ n ≤ hi)
theorem inB_yes {n lo hi : Int} (h : inB n lo hi = true) : lo ≤ n ∧ n ≤ hi := by simpa [inB] using h
theorem inB_mk {n lo hi : Int} (h1 : lo ≤ n) (h2 : n ≤ hi) : inB n lo hi = true := by simp [inB, h1, h2]
theorem inB_no {n lo hi : Int} (h : inB n lo hi = false) : n < lo ∨ hi < n := by
  simp only [inB, decide_eq_false_iff_not] at h; omega
theorem inB_lo {n lo hi : Int} (h : n < lo) : inB n lo hi = false := by
  simp only [inB, decide_eq_false_iff_not]; omega
theorem inB_hi {n lo hi : Int} (h : hi < n) : inB n lo hi = false := by
  simp only [inB, decide_eq_false_iff_not]; omega

theorem within_any (n lo hi : Int) (w : World) : Calls Try.prog 36 #[.int .i64 n, .int .i64 lo, .int .i64 hi] w fun e w' => e = .returned (.bool (inB n lo hi)) ∧ w = w' := by
  by_cases h1 : lo ≤ n
  · by_cases h2 : n ≤ hi
    · have hf := Lib.hid (inB_mk h1 h2)
      go_enter Try.func36, Try.ntmps36
      go_wp2
      go_ret
      exact ⟨by rw [hf.out]; rfl, rfl⟩
    · have hf := Lib.hid (inB_hi (lo := lo) (Int.not_le.1 h2))
      go_enter Try.func36, Try.ntmps36
      go_wp2
      go_ret
      exact ⟨by rw [hf.out]; rfl, rfl⟩
  · have hf := Lib.hid (inB_lo (hi := hi) (Int.not_le.1 h1))
    go_enter Try.func36, Try.ntmps36
    go_wp2
    go_ret
    exact ⟨by rw [hf.out]; rfl, rfl⟩

theorem l1In_any (n lo hi : Int) (w : World) : Calls Try.prog 31 #[.int .i64 n, .int .i64 lo, .int .i64 hi] w fun e w' => e = .returned (.bool (inB n lo hi)) ∧ w = w' := by
  by_cases h1 : lo ≤ n
  · by_cases h2 : n ≤ hi
    · have hf := Lib.hid (inB_mk h1 h2)
      go_enter Try.func31, Try.ntmps31
      go_wp2
      go_ret
      exact ⟨by rw [hf.out]; rfl, rfl⟩
    · have hf := Lib.hid (inB_hi (lo := lo) (Int.not_le.1 h2))
      go_enter Try.func31, Try.ntmps31
      go_wp2
      go_ret
      exact ⟨by rw [hf.out]; rfl, rfl⟩
  · have hf := Lib.hid (inB_lo (hi := hi) (Int.not_le.1 h1))
    go_enter Try.func31, Try.ntmps31
    go_wp2
    go_ret
    exact ⟨by rw [hf.out]; rfl, rfl⟩
end Go.Proofs.Ytpikhkdgohapeaa
