/- The program's PlaceDelayed returns what the reference's returns, for all arguments. Without conditions. The walk of the law. -/
import Derived.Test.YtpikhkdgohapeaaFrameMove
import Derived.Test.YtpikhkdgohapeaaDelayed
namespace Go.Proofs.Ytpikhkdgohapeaa.fnExactPlaceDelayed
open Go.RowKit

set_option maxHeartbeats 1000000 in
theorem walk (w : World) (x y z u c : Int) (p0 : Int) (_ : (Lit.int .i64 p0).wf = true) (p1 : Int) (_ : (Lit.int .i64 p1).wf = true) :
    Calls Try.prog 3 #[(Value.agg #[Value.int .i64 x, Value.int .i64 y, Value.int .i64 z, Value.int .i64 u, Value.int .i64 c]), .int .i64 p0, .int .i64 p1] w fun e w' => e = .returned (.bool true) ∧ Below w.heap.size w w' := by
  obtain ⟨r0, e0⟩ : ∃ r, pdX x y z u c p0 p1 = r := ⟨_, rfl⟩
  obtain ⟨r1, e1⟩ : ∃ r, pdY x y z u c p0 p1 = r := ⟨_, rfl⟩
  obtain ⟨r2, e2⟩ : ∃ r, pdB x y z u c p0 p1 = r := ⟨_, rfl⟩
  have hI := fun W => PlaceDelayed_any x y z u c p0 p1 W
  have hS := fun W => specPlaceDelayed_any x y z u c p0 p1 W
  rw [e0, e1, e2] at hI hS
  have HI := Lib.hid hI
  have HS := Lib.hid hS
  clear hI hS e0 e1 e2
  have hb50 : (r0 != r0) = false := by simp
  have hb51 : (r1 != r1) = false := by simp
  have hb52 : (r2 != r2) = false := by simp
  go_enter Try.func3, Try.ntmps3
  go_wp2_with fail
  refine (toMove_any _ _ _ _ _ _).mono ?_
  rintro e w1 ⟨rfl, hb1⟩
  have k1 := (Blk.new w 25 #[.int .i64 x, .int .i64 y, .int .i64 z, .int .i64 u, .int .i64 c]).on hb1
  replace hb1 := Lib.hid (below_box hb1)
  go_wp2_with fail
  refine (HS.out _).mono ?_
  rintro e w2 ⟨rfl, hb2⟩
  replace k1 := k1.on hb2
  obtain ⟨c0, c1, c2, c3, c4⟩ := k1.c5
  replace hb2 := Lib.hid (below_on hb1.out hb2)
  go_wp2_with fail
  refine (toMove_any _ _ _ _ _ _).mono ?_
  rintro e w3 ⟨rfl, hb3⟩
  replace hb3 := Lib.hid (below_on hb2.out hb3)
  go_wp2_with fail
  refine (HI.out _).mono ?_
  rintro e w4 ⟨rfl, hb4⟩
  replace hb4 := Lib.hid (below_on hb3.out hb4)
  go_wp2_with fail
  go_ret
  exact ⟨rfl, hb4.out⟩
end Go.Proofs.Ytpikhkdgohapeaa.fnExactPlaceDelayed
