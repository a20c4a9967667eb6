/- The absolute value, and the reference's l1Abs. Condition: numbers of at most 10^12. -/
import Derived.Test.YtcpbcmebfiilmaaMem
import Derived.Test.YtcpbcmebfiilmaaProg
import Derived.KernelRfl
import Derived.WalkLawsBesides
namespace Go.Proofs.Ytcpbcmebfiilmaa
open Go.RowKit

def ab (x : Int) : Int := if 0 ≤ x then x else -x
theorem ab_pos {x : Int} (h : 0 ≤ x) : ab x = x := by simp [ab, h]
theorem ab_neg {x : Int} (h : x < 0) : ab x = -x := by simp [ab]; omega
theorem ab_le {x m : Int} (h1 : -m ≤ x) (h2 : x ≤ m) : 0 ≤ ab x ∧ ab x ≤ m := by unfold ab; split <;> omega

theorem l1Abs_any (x : Int) (w : World) (h1 : -1000000000000 ≤ x) (h2 : x ≤ 1000000000000) : Calls Try.prog 45 #[.int .i64 x] w fun e w' => e = .returned (.int .i64 (ab x)) ∧ w = w' := by
  by_cases h : 0 < x
  · have hf := Lib.hid (ab_pos (Int.le_of_lt h))
    have hd : -x < x := by omega
    go_enter Try.func45, Try.ntmps45
    go_wp2
    go_ret
    exact ⟨by rw [hf.out]; rfl, rfl⟩
  · have hf := Lib.hid (show ab x = -x by unfold ab; split <;> omega)
    have hd : ¬ -x < x := by omega
    go_enter Try.func45, Try.ntmps45
    go_wp2
    go_ret
    exact ⟨by rw [hf.out]; rfl, rfl⟩

theorem ret_int {k : IntKind} {a b : Int} (h : a = b) : Ending.returned (.int k a) = .returned (.int k b) := by rw [h]
theorem ab_cases (x : Int) : 0 ≤ x ∧ ab x = x ∨ x < 0 ∧ ab x = -x := by
  by_cases h : 0 ≤ x
  · exact .inl ⟨h, ab_pos h⟩
  · exact .inr ⟨by omega, ab_neg (by omega)⟩

end Go.Proofs.Ytcpbcmebfiilmaa
