/- Contracts of the program's cross product and of its test whether a spot lies on a straight line. Condition: the spots lie on the field. -/
import Derived.Test.YtciolimmfldpbaaCornerFn
import Derived.Test.YtciolimmfldpbaaSpot
import Derived.Test.YtciolimmfldpbaaSet
import Derived.Lib.MinMax
namespace Go.Proofs.Ytciolimmfldpbaa
open Go.RowKit

set_option maxHeartbeats 1000000 in
theorem crossOf_any (x y z u r s : Int) (w : World) (h1 : spotB x y = true) (h2 : spotB z u = true) (h3 : spotB r s = true) :
    Calls Try.prog 60 #[(Value.agg #[Value.int .i64 x, Value.int .i64 y]), (Value.agg #[Value.int .i64 z, Value.int .i64 u]), (Value.agg #[Value.int .i64 r, Value.int .i64 s])] w fun e w' => e = .returned (.int .i64 (crossL x y z u r s)) ∧ Below w.heap.size w w' := by
  obtain ⟨p1, p2, p3, p4⟩ := spotB_yes h1
  obtain ⟨q1, q2, q3, q4⟩ := spotB_yes h2
  obtain ⟨r1, r2, r3, r4⟩ := spotB_yes h3
  have HR := Lib.hid (show crossL x y z u r s = (z - x) * (s - y) - (u - y) * (r - x) from rfl)
  obtain ⟨m1, m2⟩ := mul_in (x := z - x) (y := s - y) (a := 1280) (b := 672) (by omega) (by omega) (by omega) (by omega)
  obtain ⟨m3, m4⟩ := mul_in (x := u - y) (y := r - x) (a := 672) (b := 1280) (by omega) (by omega) (by omega) (by omega)
  clear h1 h2 h3
  go_enter Try.func60, Try.ntmps60
  go_wp2_with fail
  go_ret
  exact ⟨by rw [HR.out]; rfl, (((Below.refl _ _).alloc (Nat.le_refl _) _).alloc (by simp) _).alloc (by simp; omega) _⟩

set_option maxHeartbeats 1000000 in
theorem onWay_any (x y z u r s : Int) (w : World) (h1 : spotB x y = true) (h2 : spotB z u = true) (h3 : spotB r s = true) :
    Calls Try.prog 61 #[(Value.agg #[Value.int .i64 x, Value.int .i64 y]), (Value.agg #[Value.int .i64 z, Value.int .i64 u]), (Value.agg #[Value.int .i64 r, Value.int .i64 s])] w fun e w' => e = .returned (.bool (onB x y z u r s)) ∧ Below w.heap.size w w' := by
  have HD := Lib.hid (show onB x y z u r s = ((crossL x y z u r s == 0) && inB r (min x z) (max x z) && inB s (min y u) (max y u)) from rfl)
  have hc := fun W => crossOf_any x y z u r s W h1 h2 h3
  obtain ⟨q, hq⟩ : ∃ q, crossL x y z u r s = q := ⟨_, rfl⟩
  rw [hq] at hc HD
  have HC := Lib.hid hc
  clear hc hq h1 h2 h3
  cases hz : (q == 0) with
  | false =>
    have HF := Lib.hid (show onB x y z u r s = false by rw [HD.out, hz]; rfl)
    go_enter Try.func61, Try.ntmps61
    go_wp2_with fail
    refine (HC.out _).mono ?_
    rintro e w1 ⟨rfl, hb1⟩
    have k1 := ((((Blk.new w 29 #[.int .i64 x, .int .i64 y]).alloc (.cells #[.int .i64 z, .int .i64 u] 29)).alloc (.cells #[.int .i64 r, .int .i64 s] 29)).on hb1).c2
    have k2 := (((Blk.new2 w (.cells #[.int .i64 x, .int .i64 y] 29) 29 #[.int .i64 z, .int .i64 u]).alloc (.cells #[.int .i64 r, .int .i64 s] 29)).on hb1).c2
    have k3 := ((show Blk (((w.alloc (.cells #[.int .i64 x, .int .i64 y] 29)).alloc (.cells #[.int .i64 z, .int .i64 u] 29)).alloc (.cells #[.int .i64 r, .int .i64 s] 29)) (w.heap.size + 1 + 1) 29 #[.int .i64 r, .int .i64 s] by simpa using Blk.new ((w.alloc (.cells #[.int .i64 x, .int .i64 y] 29)).alloc (.cells #[.int .i64 z, .int .i64 u] 29)) 29 #[.int .i64 r, .int .i64 s]).on hb1).c2
    obtain ⟨c0, c1⟩ := k1
    obtain ⟨d0, d1⟩ := k2
    obtain ⟨e0, e1⟩ := k3
    have HB := Lib.hid (below_box (below_box (below_box hb1)))
    clear hb1
    go_wp2_with fail
    go_ret
    exact ⟨by rw [HF.out]; rfl, HB.out⟩
  | true =>
    cases ha : inB r (min x z) (max x z) with
    | false =>
      have HF := Lib.hid (show onB x y z u r s = false by rw [HD.out, hz, ha]; rfl)
      go_enter Try.func61, Try.ntmps61
      go_wp2_with fail
      refine (HC.out _).mono ?_
      rintro e w1 ⟨rfl, hb1⟩
      have k1 := ((((Blk.new w 29 #[.int .i64 x, .int .i64 y]).alloc (.cells #[.int .i64 z, .int .i64 u] 29)).alloc (.cells #[.int .i64 r, .int .i64 s] 29)).on hb1).c2
      have k2 := (((Blk.new2 w (.cells #[.int .i64 x, .int .i64 y] 29) 29 #[.int .i64 z, .int .i64 u]).alloc (.cells #[.int .i64 r, .int .i64 s] 29)).on hb1).c2
      have k3 := ((show Blk (((w.alloc (.cells #[.int .i64 x, .int .i64 y] 29)).alloc (.cells #[.int .i64 z, .int .i64 u] 29)).alloc (.cells #[.int .i64 r, .int .i64 s] 29)) (w.heap.size + 1 + 1) 29 #[.int .i64 r, .int .i64 s] by simpa using Blk.new ((w.alloc (.cells #[.int .i64 x, .int .i64 y] 29)).alloc (.cells #[.int .i64 z, .int .i64 u] 29)) 29 #[.int .i64 r, .int .i64 s]).on hb1).c2
      obtain ⟨c0, c1⟩ := k1
      obtain ⟨d0, d1⟩ := k2
      obtain ⟨e0, e1⟩ := k3
      have HB := Lib.hid (below_box (below_box (below_box hb1)))
      clear hb1
      go_wp2_with fail
      refine (within_any _ _ _ _).mono ?_
      rintro e w' ⟨rfl, rfl⟩
      go_wp2_with fail
      go_ret
      exact ⟨by rw [HF.out]; rfl, HB.out⟩
    | true =>
      have HF := Lib.hid (show onB x y z u r s = inB s (min y u) (max y u) by rw [HD.out, hz, ha]; rfl)
      go_enter Try.func61, Try.ntmps61
      go_wp2_with fail
      refine (HC.out _).mono ?_
      rintro e w1 ⟨rfl, hb1⟩
      have k1 := ((((Blk.new w 29 #[.int .i64 x, .int .i64 y]).alloc (.cells #[.int .i64 z, .int .i64 u] 29)).alloc (.cells #[.int .i64 r, .int .i64 s] 29)).on hb1).c2
      have k2 := (((Blk.new2 w (.cells #[.int .i64 x, .int .i64 y] 29) 29 #[.int .i64 z, .int .i64 u]).alloc (.cells #[.int .i64 r, .int .i64 s] 29)).on hb1).c2
      have k3 := ((show Blk (((w.alloc (.cells #[.int .i64 x, .int .i64 y] 29)).alloc (.cells #[.int .i64 z, .int .i64 u] 29)).alloc (.cells #[.int .i64 r, .int .i64 s] 29)) (w.heap.size + 1 + 1) 29 #[.int .i64 r, .int .i64 s] by simpa using Blk.new ((w.alloc (.cells #[.int .i64 x, .int .i64 y] 29)).alloc (.cells #[.int .i64 z, .int .i64 u] 29)) 29 #[.int .i64 r, .int .i64 s]).on hb1).c2
      obtain ⟨c0, c1⟩ := k1
      obtain ⟨d0, d1⟩ := k2
      obtain ⟨e0, e1⟩ := k3
      have HB := Lib.hid (below_box (below_box (below_box hb1)))
      clear hb1
      go_wp2_with fail
      refine (within_any _ _ _ _).mono ?_
      rintro e w' ⟨rfl, rfl⟩
      go_wp2_with fail
      refine (within_any _ _ _ _).mono ?_
      rintro e w' ⟨rfl, rfl⟩
      go_wp2_with fail
      go_ret
      exact ⟨by rw [HF.out]; rfl, HB.out⟩
end Go.Proofs.Ytciolimmfldpbaa
