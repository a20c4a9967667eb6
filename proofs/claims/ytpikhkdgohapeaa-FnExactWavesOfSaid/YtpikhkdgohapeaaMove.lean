/- Contracts of the tests on a move and of toMove. Without conditions. -/
import Derived.Test.YtpikhkdgohapeaaSpot
import Derived.Test.YtpikhkdgohapeaaToSpot
namespace Go.Proofs.Ytpikhkdgohapeaa
open Go.RowKit
def mvB (x y z u c : Int) : Bool := spotB x y && spotB z u && inB c 1 64
theorem mvB_yes {x y z u c : Int} (h : mvB x y z u c = true) : (0 ≤ x ∧ x ≤ 1280 ∧ 0 ≤ y ∧ y ≤ 672) ∧ (0 ≤ z ∧ z ≤ 1280 ∧ 0 ≤ u ∧ u ≤ 672) ∧ 1 ≤ c ∧ c ≤ 64 := by
  simp only [mvB, Bool.and_eq_true] at h
  exact ⟨spotB_yes h.1.1, spotB_yes h.1.2, inB_yes h.2⟩

set_option maxHeartbeats 400000 in
theorem toMove_any (x y z u c : Int) (w : World) : Calls Try.prog 10 #[(Value.agg #[Value.int .i64 x, Value.int .i64 y, Value.int .i64 z, Value.int .i64 u, Value.int .i64 c])] w fun e w' => e = .returned (Value.agg #[Value.int .i64 x, Value.int .i64 y, Value.int .i64 z, Value.int .i64 u, Value.int .i64 c]) ∧ Below w.heap.size w w' := by
  go_enter Try.func10, Try.ntmps10
  go_wp2_with (go_at_call 33; refine (toSpot_exact _ _ _).mono ?_; rintro e w1 ⟨rfl, rfl⟩)
  refine bodyPost_ret (v := (Value.agg #[Value.int .i64 x, Value.int .i64 y, Value.int .i64 z, Value.int .i64 u, Value.int .i64 c])) (by simp [results, Try.results10, go_sem]) rfl ⟨rfl, ?_⟩
  repeat (first | exact Below.refl _ _ | (refine Below.alloc ?_ (by simp <;> omega) _) | (refine Below.setCell ?_ (by simp <;> omega) _))

theorem IsMove_any (x y z u c : Int) (w : World) : Calls Try.prog 67 #[(Value.agg #[Value.int .i64 x, Value.int .i64 y, Value.int .i64 z, Value.int .i64 u, Value.int .i64 c])] w fun e w' => e = .returned (.bool (mvB x y z u c)) ∧ Below w.heap.size w w' := by
  cases h1 : spotB x y with
  | true =>
    cases h2 : spotB z u with
    | true =>
      have hf := Lib.hid (show mvB x y z u c = inB c 1 64 by simp [mvB, h1, h2])
      go_enter Try.func67, Try.ntmps67
      go_wp2_with fail
      refine (IsSpot_any _ _ _).mono ?_
      rintro e w1 ⟨rfl, hb1⟩
      have k1 := (Blk.new w 30 #[.int .i64 x, .int .i64 y, .int .i64 z, .int .i64 u, .int .i64 c]).on hb1
      obtain ⟨c0, c1, c2, c3, c4⟩ := k1.c5
      have hb1 := Lib.hid (below_box hb1)
      go_wp2_with fail
      refine (IsSpot_any _ _ _).mono ?_
      rintro e w2 ⟨rfl, hb2⟩
      have k2 := k1.on hb2
      obtain ⟨d0, d1, d2, d3, d4⟩ := k2.c5
      have hb2 := Lib.hid (below_on hb1.out hb2)
      go_wp2_with (go_at_call 36; refine (within_any _ _ _ _).mono ?_; rintro e w' ⟨rfl, rfl⟩)
      go_ret
      exact ⟨by rw [hf.out]; rfl, hb2.out⟩
    | false =>
      have hf := Lib.hid (show mvB x y z u c = false by simp [mvB, h1, h2])
      go_enter Try.func67, Try.ntmps67
      go_wp2_with fail
      refine (IsSpot_any _ _ _).mono ?_
      rintro e w1 ⟨rfl, hb1⟩
      have k1 := (Blk.new w 30 #[.int .i64 x, .int .i64 y, .int .i64 z, .int .i64 u, .int .i64 c]).on hb1
      obtain ⟨c0, c1, c2, c3, c4⟩ := k1.c5
      have hb1 := Lib.hid (below_box hb1)
      go_wp2_with fail
      refine (IsSpot_any _ _ _).mono ?_
      rintro e w2 ⟨rfl, hb2⟩
      have k2 := k1.on hb2
      obtain ⟨d0, d1, d2, d3, d4⟩ := k2.c5
      have hb2 := Lib.hid (below_on hb1.out hb2)
      go_wp2_with fail
      go_ret
      exact ⟨by rw [hf.out]; rfl, hb2.out⟩
  | false =>
    have hf := Lib.hid (show mvB x y z u c = false by simp [mvB, h1])
    go_enter Try.func67, Try.ntmps67
    go_wp2_with fail
    refine (IsSpot_any _ _ _).mono ?_
    rintro e w1 ⟨rfl, hb1⟩
    have k1 := (Blk.new w 30 #[.int .i64 x, .int .i64 y, .int .i64 z, .int .i64 u, .int .i64 c]).on hb1
    obtain ⟨c0, c1, c2, c3, c4⟩ := k1.c5
    have hb1 := Lib.hid (below_box hb1)
    go_wp2_with fail
    go_ret
    exact ⟨by rw [hf.out]; rfl, hb1.out⟩

theorem mvGood_any (x y z u c : Int) (w : World) : Calls Try.prog 64 #[(Value.agg #[Value.int .i64 x, Value.int .i64 y, Value.int .i64 z, Value.int .i64 u, Value.int .i64 c])] w fun e w' => e = .returned (.bool (mvB x y z u c)) ∧ Below w.heap.size w w' := by
  cases h1 : spotB x y with
  | true =>
    cases h2 : spotB z u with
    | true =>
      have hf := Lib.hid (show mvB x y z u c = inB c 1 64 by simp [mvB, h1, h2])
      go_enter Try.func64, Try.ntmps64
      go_wp2_with fail
      refine (stGood_any _ _ _).mono ?_
      rintro e w1 ⟨rfl, hb1⟩
      have k1 := (Blk.new w 30 #[.int .i64 x, .int .i64 y, .int .i64 z, .int .i64 u, .int .i64 c]).on hb1
      obtain ⟨c0, c1, c2, c3, c4⟩ := k1.c5
      have hb1 := Lib.hid (below_box hb1)
      go_wp2_with fail
      refine (stGood_any _ _ _).mono ?_
      rintro e w2 ⟨rfl, hb2⟩
      have k2 := k1.on hb2
      obtain ⟨d0, d1, d2, d3, d4⟩ := k2.c5
      have hb2 := Lib.hid (below_on hb1.out hb2)
      go_wp2_with (go_at_call 31; refine (l1In_any _ _ _ _).mono ?_; rintro e w' ⟨rfl, rfl⟩)
      go_ret
      exact ⟨by rw [hf.out]; rfl, hb2.out⟩
    | false =>
      have hf := Lib.hid (show mvB x y z u c = false by simp [mvB, h1, h2])
      go_enter Try.func64, Try.ntmps64
      go_wp2_with fail
      refine (stGood_any _ _ _).mono ?_
      rintro e w1 ⟨rfl, hb1⟩
      have k1 := (Blk.new w 30 #[.int .i64 x, .int .i64 y, .int .i64 z, .int .i64 u, .int .i64 c]).on hb1
      obtain ⟨c0, c1, c2, c3, c4⟩ := k1.c5
      have hb1 := Lib.hid (below_box hb1)
      go_wp2_with fail
      refine (stGood_any _ _ _).mono ?_
      rintro e w2 ⟨rfl, hb2⟩
      have k2 := k1.on hb2
      obtain ⟨d0, d1, d2, d3, d4⟩ := k2.c5
      have hb2 := Lib.hid (below_on hb1.out hb2)
      go_wp2_with fail
      go_ret
      exact ⟨by rw [hf.out]; rfl, hb2.out⟩
  | false =>
    have hf := Lib.hid (show mvB x y z u c = false by simp [mvB, h1])
    go_enter Try.func64, Try.ntmps64
    go_wp2_with fail
    refine (stGood_any _ _ _).mono ?_
    rintro e w1 ⟨rfl, hb1⟩
    have k1 := (Blk.new w 30 #[.int .i64 x, .int .i64 y, .int .i64 z, .int .i64 u, .int .i64 c]).on hb1
    obtain ⟨c0, c1, c2, c3, c4⟩ := k1.c5
    have hb1 := Lib.hid (below_box hb1)
    go_wp2_with fail
    go_ret
    exact ⟨by rw [hf.out]; rfl, hb1.out⟩

end Go.Proofs.Ytpikhkdgohapeaa
