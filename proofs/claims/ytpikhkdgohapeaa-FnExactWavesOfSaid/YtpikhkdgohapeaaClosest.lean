/- Contracts of whether two moves go together, and of the two ClosestTime. Condition: both moves are good, with the same counts. -/
import Derived.Test.YtpikhkdgohapeaaNearSpec
import Derived.Test.YtpikhkdgohapeaaMove
import Derived.Test.YtpikhkdgohapeaaConfFn
namespace Go.Proofs.Ytpikhkdgohapeaa
open Go.RowKit

theorem ok_of {x y z u c : Int} (h : mvB x y z u c = true) : okM x y z u ∧ 1 ≤ c ∧ c ≤ 64 := by
  have := mvB_yes h
  exact ⟨⟨⟨by omega, by omega⟩, ⟨by omega, by omega⟩, ⟨by omega, by omega⟩, by omega, by omega⟩, by omega, by omega⟩
set_option maxHeartbeats 1000000 in
theorem apGood_any (a1 a2 a3 a4 b1 b2 b3 b4 c : Int) (w : World) (ha : mvB a1 a2 a3 a4 c = true) (hb : mvB b1 b2 b3 b4 c = true) :
    Calls Try.prog 38 #[(Value.agg #[Value.int .i64 a1, Value.int .i64 a2, Value.int .i64 a3, Value.int .i64 a4, Value.int .i64 c]), (Value.agg #[Value.int .i64 b1, Value.int .i64 b2, Value.int .i64 b3, Value.int .i64 b4, Value.int .i64 c])] w fun e w' => e = .returned (.bool true) ∧ Below w.heap.size w w' := by
  have P := fun W => mvGood_any a1 a2 a3 a4 c W
  have Q := fun W => mvGood_any b1 b2 b3 b4 c W
  rw [ha] at P
  rw [hb] at Q
  have HP := Lib.hid P
  have HQ := Lib.hid Q
  have hcc : (c == c) = true := by simp
  clear P Q ha hb
  have K0 := (Blk.new w 30 #[.int .i64 a1, .int .i64 a2, .int .i64 a3, .int .i64 a4, .int .i64 c]).alloc (.cells #[.int .i64 b1, .int .i64 b2, .int .i64 b3, .int .i64 b4, .int .i64 c] 30)
  have K1 := Blk.new2 w (.cells #[.int .i64 a1, .int .i64 a2, .int .i64 a3, .int .i64 a4, .int .i64 c] 30) 30 #[.int .i64 b1, .int .i64 b2, .int .i64 b3, .int .i64 b4, .int .i64 c]
  have HB0 := Lib.hid (below_new (below_new (Below.refl w.heap.size w) (.cells #[.int .i64 a1, .int .i64 a2, .int .i64 a3, .int .i64 a4, .int .i64 c] 30)) (.cells #[.int .i64 b1, .int .i64 b2, .int .i64 b3, .int .i64 b4, .int .i64 c] 30))
  replace K0 := Lib.hid K0
  replace K1 := Lib.hid K1
  obtain ⟨p0, p1, p2, p3, p4⟩ := K0.out.c5
  obtain ⟨q0, q1, q2, q3, q4⟩ := K1.out.c5
  go_enter Try.func38, Try.ntmps38
  go_wp2_with fail
  refine (HP.out _).mono ?_
  rintro e w1 ⟨rfl, r1⟩
  clear p0 p1 p2 p3 p4 q0 q1 q2 q3 q4
  have HB1 := Lib.hid (HB0.out.trans (r1.mono HB0.out.size))
  replace K0 := Lib.hid (K0.out.on r1)
  replace K1 := Lib.hid (K1.out.on r1)
  clear HB0 r1
  have HB0 := HB1
  clear HB1
  obtain ⟨p0, p1, p2, p3, p4⟩ := K0.out.c5
  obtain ⟨q0, q1, q2, q3, q4⟩ := K1.out.c5
  go_wp2_with fail
  refine (HQ.out _).mono ?_
  rintro e w2 ⟨rfl, r1⟩
  clear p0 p1 p2 p3 p4 q0 q1 q2 q3 q4
  have HB1 := Lib.hid (HB0.out.trans (r1.mono HB0.out.size))
  replace K0 := Lib.hid (K0.out.on r1)
  replace K1 := Lib.hid (K1.out.on r1)
  clear HB0 r1
  have HB0 := HB1
  clear HB1
  obtain ⟨p0, p1, p2, p3, p4⟩ := K0.out.c5
  obtain ⟨q0, q1, q2, q3, q4⟩ := K1.out.c5
  go_wp2_with fail
  go_ret
  exact ⟨rfl, HB0.out⟩
end Go.Proofs.Ytpikhkdgohapeaa
