/- Contracts of the tests whether two parts meet. Condition: the spots lie on the field. -/
import Derived.Test.YtciolimmfldpbaaCornerFn
import Derived.Lib.MinMax
import Derived.Test.YtciolimmfldpbaaMinMax
import Derived.Test.YtciolimmfldpbaaWayLaw
namespace Go.Proofs.Ytciolimmfldpbaa
open Go.RowKit

set_option maxHeartbeats 1000000 in
theorem commonRoom_any (a a' b b' c c' d d' : Int) (w : World) (h1 : spotB a a' = true) (h2 : spotB b b' = true) (h3 : spotB c c' = true) (h4 : spotB d d' = true) :
    Calls Try.prog 63 #[(Value.agg #[Value.int .i64 a, Value.int .i64 a']), (Value.agg #[Value.int .i64 b, Value.int .i64 b']), (Value.agg #[Value.int .i64 c, Value.int .i64 c']), (Value.agg #[Value.int .i64 d, Value.int .i64 d'])] w fun e w' => e = .returned (.int .i64 (roomL a a' b b' c c' d d')) ∧ Below w.heap.size w w' := by
  obtain ⟨p1, p2, p3, p4⟩ := spotB_yes h1
  obtain ⟨q1, q2, q3, q4⟩ := spotB_yes h2
  obtain ⟨r1, r2, r3, r4⟩ := spotB_yes h3
  obtain ⟨s1, s2, s3, s4⟩ := spotB_yes h4
  have HR := Lib.hid (show roomL a a' b b' c c' d d' = if roomX a b c d < 0 ∨ roomX a' b' c' d' < 0 then -1 else roomX a b c d + roomX a' b' c' d' from rfl)
  have hx : min (max a b) (max c d) - max (min a b) (min c d) = roomX a b c d := rfl
  have hy : min (max a' b') (max c' d') - max (min a' b') (min c' d') = roomX a' b' c' d' := rfl
  have hx1 : -1280 ≤ roomX a b c d ∧ roomX a b c d ≤ 1280 := by unfold roomX; omega
  have hy1 : -1280 ≤ roomX a' b' c' d' ∧ roomX a' b' c' d' ≤ 1280 := by unfold roomX; omega
  obtain ⟨x, ex⟩ : ∃ x, roomX a b c d = x := ⟨_, rfl⟩
  obtain ⟨y, ey⟩ : ∃ y, roomX a' b' c' d' = y := ⟨_, rfl⟩
  rw [ex] at hx hx1 HR
  rw [ey] at hy hy1 HR
  obtain ⟨x1, x2⟩ := hx1
  obtain ⟨y1, y2⟩ := hy1
  have e1 : IntKind.i64.wrap (min (max a b) (max c d) - max (min a b) (min c d)) = x := by rw [hx]; exact IntWalk.i64_in _ (by omega)
  have e2 : IntKind.i64.wrap (min (max a' b') (max c' d') - max (min a' b') (min c' d')) = y := by rw [hy]; exact IntWalk.i64_in _ (by omega)
  clear ex ey h1 h2 h3 h4 p1 p2 p3 p4 q1 q2 q3 q4 r1 r2 r3 r4 s1 s2 s3 s4
  by_cases hA : x < 0
  · have HF := Lib.hid (HR.out.trans (if_pos (.inl hA)))
    go_enter Try.func63, Try.ntmps63
    go_wp2_with fail
    go_ret
    exact ⟨by rw [HF.out]; rfl, ((((Below.refl _ _).alloc (Nat.le_refl _) _).alloc (by simp) _).alloc (by simp; omega) _).alloc (by simp; omega) _⟩
  · by_cases hB : y < 0
    · have HF := Lib.hid (HR.out.trans (if_pos (.inr hB)))
      go_enter Try.func63, Try.ntmps63
      go_wp2_with fail
      go_ret
      exact ⟨by rw [HF.out]; rfl, ((((Below.refl _ _).alloc (Nat.le_refl _) _).alloc (by simp) _).alloc (by simp; omega) _).alloc (by simp; omega) _⟩
    · have HF := Lib.hid (HR.out.trans (if_neg (by omega)))
      go_enter Try.func63, Try.ntmps63
      go_wp2_with fail
      go_ret
      exact ⟨by rw [HF.out]; rfl, ((((Below.refl _ _).alloc (Nat.le_refl _) _).alloc (by simp) _).alloc (by simp; omega) _).alloc (by simp; omega) _⟩

set_option maxHeartbeats 1000000 in
theorem foMeet_any (a a' b b' c c' d d' : Int) (w : World) :
    Calls Try.prog 64 #[(Value.agg #[Value.int .i64 a, Value.int .i64 a']), (Value.agg #[Value.int .i64 b, Value.int .i64 b']), (Value.agg #[Value.int .i64 c, Value.int .i64 c']), (Value.agg #[Value.int .i64 d, Value.int .i64 d'])] w fun e w' => e = .returned (.bool (meetL a a' b b' c c' d d')) ∧ Below w.heap.size w w' := by
  cases hA : decide (max (min a b) (min c d) ≤ min (max a b) (max c d)) with
  | false =>
    have HF := Lib.hid (show meetL a a' b b' c c' d d' = false by simp only [meetL, hA, Bool.false_and])
    go_enter Try.func64, Try.ntmps64
    go_wp2_with fail
    go_quiet ((first | (go_at_call 50; exact Calls.quiet_of_same (flip_same (l1Least_any _ _ _))) | (go_at_call 71; exact Calls.quiet_of_same (flip_same (l1Most_any _ _ _)))))
    go_wp2_with fail
    go_ret
    exact ⟨by rw [HF.out]; rfl, below_drewN (((((Below.refl _ _).alloc (Nat.le_refl _) _).alloc (by simp) _).alloc (by simp; omega) _).alloc (by simp; omega) _) _⟩
  | true =>
    cases hB : decide (max (min a' b') (min c' d') ≤ min (max a' b') (max c' d')) with
    | false =>
      have HF := Lib.hid (show meetL a a' b b' c c' d d' = false by simp only [meetL, hA, hB, Bool.true_and])
      go_enter Try.func64, Try.ntmps64
      go_wp2_with fail
      go_quiet ((first | (go_at_call 50; exact Calls.quiet_of_same (flip_same (l1Least_any _ _ _))) | (go_at_call 71; exact Calls.quiet_of_same (flip_same (l1Most_any _ _ _)))))
      go_wp2_with fail
      go_ret
      exact ⟨by rw [HF.out]; rfl, below_drewN (((((Below.refl _ _).alloc (Nat.le_refl _) _).alloc (by simp) _).alloc (by simp; omega) _).alloc (by simp; omega) _) _⟩
    | true =>
      have HF := Lib.hid (show meetL a a' b b' c c' d d' = true by simp only [meetL, hA, hB, Bool.true_and])
      go_enter Try.func64, Try.ntmps64
      go_wp2_with fail
      go_quiet ((first | (go_at_call 50; exact Calls.quiet_of_same (flip_same (l1Least_any _ _ _))) | (go_at_call 71; exact Calls.quiet_of_same (flip_same (l1Most_any _ _ _)))))
      go_wp2_with fail
      go_ret
      exact ⟨by rw [HF.out]; rfl, below_drewN (((((Below.refl _ _).alloc (Nat.le_refl _) _).alloc (by simp) _).alloc (by simp; omega) _).alloc (by simp; omega) _) _⟩

end Go.Proofs.Ytciolimmfldpbaa
