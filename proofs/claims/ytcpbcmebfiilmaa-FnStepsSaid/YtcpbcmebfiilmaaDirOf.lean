/- Contracts of the two DirectionOf. Without conditions. -/
import Derived.Test.YtcpbcmebfiilmaaDir
namespace Go.Proofs.Ytcpbcmebfiilmaa
open Go.RowKit

/-- Is the move one, and does it go anywhere? -/
def dirB (x y z u c : Int) : Bool := mvB x y z u c && !(x == z && y == u)
def dirV (x y z u c : Int) : Int := if dirB x y z u c = true then dirL (z - x) (u - y) else 0
theorem dirB_no {x y z u c : Int} (h : mvB x y z u c = false) : dirB x y z u c = false ∧ dirV x y z u c = 0 := by simp [dirV, dirB, h]
theorem dirB_same (x y c : Int) : dirB x y x y c = false ∧ dirV x y x y c = 0 := by simp [dirV, dirB]
theorem dirB_yes {x y z u c : Int} (h : mvB x y z u c = true) (hd : x ≠ z ∨ y ≠ u) : dirB x y z u c = true ∧ dirV x y z u c = dirL (z - x) (u - y) := by
  have : dirB x y z u c = true := by
    simp only [dirB, h, Bool.true_and, Bool.not_eq_true', Bool.and_eq_false_iff, beq_eq_false_iff_ne]
    exact hd
  exact ⟨this, by simp [dirV, this]⟩

set_option maxHeartbeats 400000 in
theorem DirectionOf_any (x y z u c : Int) (w : World) : Calls Try.prog 6 #[(Value.agg #[Value.int .i64 x, Value.int .i64 y, Value.int .i64 z, Value.int .i64 u, Value.int .i64 c])] w fun e w' => e = .returned (.tuple #[.int .i64 (dirV x y z u c), .bool (dirB x y z u c)]) ∧ Below w.heap.size w w' := by
  cases h1 : mvB x y z u c with
  | true =>
    have hm := mvB_yes h1
    by_cases hx : x = z
    · subst hx
      by_cases hy : y = u
      · subst hy
        have hf := Lib.hid (dirB_same x y c)
        go_enter Try.func6, Try.ntmps6
        go_wp2_with fail
        refine (IsMove_any _ _ _ _ _ _).mono ?_
        rintro e w1 ⟨rfl, hb1⟩
        have k1 := (Blk.new w 27 #[.int .i64 x, .int .i64 y, .int .i64 x, .int .i64 y, .int .i64 c]).on hb1
        obtain ⟨c0, c1, c2, c3, c4⟩ := k1.c5
        replace hb1 := Lib.hid (below_box hb1)
        go_wp2_with fail
        go_ret2
        exact ⟨by rw [hf.out.1, hf.out.2]; rfl, hb1.out⟩
      · have hf0 := dirB_yes h1 (.inr hy)
        rw [Int.sub_self] at hf0
        have hf := Lib.hid hf0
        clear hf0
        go_enter Try.func6, Try.ntmps6
        go_wp2_with fail
        refine (IsMove_any _ _ _ _ _ _).mono ?_
        rintro e w1 ⟨rfl, hb1⟩
        have k1 := (Blk.new w 27 #[.int .i64 x, .int .i64 y, .int .i64 x, .int .i64 u, .int .i64 c]).on hb1
        obtain ⟨c0, c1, c2, c3, c4⟩ := k1.c5
        replace hb1 := Lib.hid (below_box hb1)
        go_wp2_with fail
        refine (directionOf_any x y x u c _ (by omega) (by omega) (by omega) (by omega)).mono ?_
        rintro e w2 ⟨rfl, hb2⟩
        replace hb2 := Lib.hid (below_on hb1.out hb2)
        go_wp2_with fail
        go_ret2
        exact ⟨by rw [hf.out.1, hf.out.2]; rfl, hb2.out⟩
    · have hf := Lib.hid (dirB_yes h1 (.inl hx))
      go_enter Try.func6, Try.ntmps6
      go_wp2_with fail
      refine (IsMove_any _ _ _ _ _ _).mono ?_
      rintro e w1 ⟨rfl, hb1⟩
      have k1 := (Blk.new w 27 #[.int .i64 x, .int .i64 y, .int .i64 z, .int .i64 u, .int .i64 c]).on hb1
      obtain ⟨c0, c1, c2, c3, c4⟩ := k1.c5
      replace hb1 := Lib.hid (below_box hb1)
      go_wp2_with fail
      refine (directionOf_any x y z u c _ (by omega) (by omega) (by omega) (by omega)).mono ?_
      rintro e w2 ⟨rfl, hb2⟩
      replace hb2 := Lib.hid (below_on hb1.out hb2)
      go_wp2_with fail
      go_ret2
      exact ⟨by rw [hf.out.1, hf.out.2]; rfl, hb2.out⟩
  | false =>
    have hf := Lib.hid (dirB_no h1)
    go_enter Try.func6, Try.ntmps6
    go_wp2_with fail
    refine (IsMove_any _ _ _ _ _ _).mono ?_
    rintro e w1 ⟨rfl, hb1⟩
    have k1 := (Blk.new w 27 #[.int .i64 x, .int .i64 y, .int .i64 z, .int .i64 u, .int .i64 c]).on hb1
    obtain ⟨c0, c1, c2, c3, c4⟩ := k1.c5
    replace hb1 := Lib.hid (below_box hb1)
    go_wp2_with fail
    go_ret2
    exact ⟨by rw [hf.out.1, hf.out.2]; rfl, hb1.out⟩

set_option maxHeartbeats 400000 in
theorem tuMoves_any (x y z u c : Int) (w : World) : Calls Try.prog 24 #[(Value.agg #[Value.int .i64 x, Value.int .i64 y, Value.int .i64 z, Value.int .i64 u, Value.int .i64 c])] w fun e w' => e = .returned (.bool (dirB x y z u c)) ∧ Below w.heap.size w w' := by
  cases h1 : mvB x y z u c with
  | true =>
    by_cases hx : x = z
    · subst hx
      by_cases hy : y = u
      · subst hy
        have hf := Lib.hid (dirB_same x y c).1
        go_enter Try.func24, Try.ntmps24
        go_wp2_with fail
        refine (mvGood_any _ _ _ _ _ _).mono ?_
        rintro e w1 ⟨rfl, hb1⟩
        have k1 := (Blk.new w 27 #[.int .i64 x, .int .i64 y, .int .i64 x, .int .i64 y, .int .i64 c]).on hb1
        obtain ⟨c0, c1, c2, c3, c4⟩ := k1.c5
        replace hb1 := Lib.hid (below_box hb1)
        go_wp2_with fail
        go_ret
        exact ⟨by rw [hf.out]; rfl, hb1.out⟩
      · have hf := Lib.hid (dirB_yes h1 (.inr hy)).1
        go_enter Try.func24, Try.ntmps24
        go_wp2_with fail
        refine (mvGood_any _ _ _ _ _ _).mono ?_
        rintro e w1 ⟨rfl, hb1⟩
        have k1 := (Blk.new w 27 #[.int .i64 x, .int .i64 y, .int .i64 x, .int .i64 u, .int .i64 c]).on hb1
        obtain ⟨c0, c1, c2, c3, c4⟩ := k1.c5
        replace hb1 := Lib.hid (below_box hb1)
        go_wp2_with fail
        go_ret
        exact ⟨by rw [hf.out]; rfl, hb1.out⟩
    · have hf := Lib.hid (dirB_yes h1 (.inl hx)).1
      go_enter Try.func24, Try.ntmps24
      go_wp2_with fail
      refine (mvGood_any _ _ _ _ _ _).mono ?_
      rintro e w1 ⟨rfl, hb1⟩
      have k1 := (Blk.new w 27 #[.int .i64 x, .int .i64 y, .int .i64 z, .int .i64 u, .int .i64 c]).on hb1
      obtain ⟨c0, c1, c2, c3, c4⟩ := k1.c5
      replace hb1 := Lib.hid (below_box hb1)
      go_wp2_with fail
      go_ret
      exact ⟨by rw [hf.out]; rfl, hb1.out⟩
  | false =>
    have hf := Lib.hid (dirB_no h1).1
    go_enter Try.func24, Try.ntmps24
    go_wp2_with fail
    refine (mvGood_any _ _ _ _ _ _).mono ?_
    rintro e w1 ⟨rfl, hb1⟩
    have k1 := (Blk.new w 27 #[.int .i64 x, .int .i64 y, .int .i64 z, .int .i64 u, .int .i64 c]).on hb1
    obtain ⟨c0, c1, c2, c3, c4⟩ := k1.c5
    replace hb1 := Lib.hid (below_box hb1)
    go_wp2_with fail
    go_ret
    exact ⟨by rw [hf.out]; rfl, hb1.out⟩

theorem dirB_mv {x y z u c : Int} (h : dirB x y z u c = true) : mvB x y z u c = true := by
  simp only [dirB, Bool.and_eq_true] at h; exact h.1
theorem specDirectionOf_any (x y z u c : Int) (w : World) : Calls Try.prog 7 #[(Value.agg #[Value.int .i64 x, Value.int .i64 y, Value.int .i64 z, Value.int .i64 u, Value.int .i64 c])] w fun e w' => e = .returned (.tuple #[.int .i64 (dirV x y z u c), .bool (dirB x y z u c)]) ∧ Below w.heap.size w w' := by
  cases h1 : dirB x y z u c with
  | true =>
    have hm := mvB_yes (dirB_mv h1)
    have hf := Lib.hid (show dirV x y z u c = dirL (z - x) (u - y) by simp [dirV, h1])
    go_enter Try.func7, Try.ntmps7
    go_wp2_with fail
    refine (tuMoves_any _ _ _ _ _ _).mono ?_
    rintro e w1 ⟨rfl, hb1⟩
    have k1 := (Blk.new w 27 #[.int .i64 x, .int .i64 y, .int .i64 z, .int .i64 u, .int .i64 c]).on hb1
    obtain ⟨c0, c1, c2, c3, c4⟩ := k1.c5
    replace hb1 := Lib.hid (below_box hb1)
    go_wp2_with fail
    refine (tuDirection_any x y z u c _ (by omega) (by omega) (by omega) (by omega)).mono ?_
    rintro e w2 ⟨rfl, hb2⟩
    replace hb2 := Lib.hid (below_on hb1.out hb2)
    go_wp2_with fail
    go_ret2
    exact ⟨by rw [hf.out]; rfl, hb2.out⟩
  | false =>
    have hf := Lib.hid (show dirV x y z u c = 0 by simp [dirV, h1])
    go_enter Try.func7, Try.ntmps7
    go_wp2_with fail
    refine (tuMoves_any _ _ _ _ _ _).mono ?_
    rintro e w1 ⟨rfl, hb1⟩
    have k1 := (Blk.new w 27 #[.int .i64 x, .int .i64 y, .int .i64 z, .int .i64 u, .int .i64 c]).on hb1
    obtain ⟨c0, c1, c2, c3, c4⟩ := k1.c5
    replace hb1 := Lib.hid (below_box hb1)
    go_wp2_with fail
    go_ret2
    exact ⟨by rw [hf.out]; rfl, hb1.out⟩
end Go.Proofs.Ytcpbcmebfiilmaa
