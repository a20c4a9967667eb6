/- For all drawn moves the direction of the way back is the opposite one, the best facing is forward with the least turn, and allowed steps are narrow enough: the walk. Without conditions. -/
import Derived.Test.YtcpbcmebfiilmaaStepsG
import Derived.Test.YtcpbcmebfiilmaaSameInts
namespace Go.Proofs.Ytcpbcmebfiilmaa
open Go.RowKit

set_option maxRecDepth 100000 in
set_option maxHeartbeats 4000000 in
theorem steps_walk (w : World) (A0 : Option Addr) (n0 c0 : Nat) (hr0 : RdB w w.heap.size A0 n0) (hm0 : n0 ≤ maxLen) (A1 : Option Addr) (n1 c1 : Nat) (hr1 : RdB w w.heap.size A1 n1) (hm1 : n1 ≤ maxLen) :
    Calls Try.prog 3 #[.slice A0 n0 c0, .slice A1 n1 c1] w fun e w' => e = .returned (.bool true) ∧ Below w.heap.size w w' := by
  unfold maxLen at hm0 hm1
  have H0 := Lib.hid hr0
  have H1 := Lib.hid hr1
  have B0 := Lib.hid (Below.refl w.heap.size w)
  clear hr0 hr1
  go_enter Try.func3, Try.ntmps3
  go_wp2_with fail
  refine (big_any A0 n0 c0 A1 n1 c1 _).mono ?_
  rintro e w' ⟨bb, rfl, rfl⟩
  cases bb with
  | true =>
    go_wp2_with fail
    go_ret
    exact ⟨rfl, B0.out⟩
  | false =>
  go_wp2_with fail
  refine (DrawDirectionOf_any A0 n0 c0 _ H0.out hm0).mono ?_
  rintro e w1 ⟨x, y, z, u, c, rfl, hb⟩
  replace B0 := Lib.hid (below_on B0.out hb)
  clear hb
  have Sv := Lib.hid (Blk.new w1 27 #[.int .i64 x, .int .i64 y, .int .i64 z, .int .i64 u, .int .i64 c])
  replace B0 := Lib.hid (below_new B0.out (.cells #[.int .i64 x, .int .i64 y, .int .i64 z, .int .i64 u, .int .i64 c] 27))
  obtain ⟨dv, gdv⟩ : ∃ q9, dirV x y z u c = q9 := ⟨_, rfl⟩
  obtain ⟨db, gdb⟩ : ∃ q9, dirB x y z u c = q9 := ⟨_, rfl⟩
  have P1 := fun W => DirectionOf_any x y z u c W
  rw [gdv, gdb] at P1
  replace P1 := Lib.hid P1
  have P2 := fun W => specDirectionOf_any x y z u c W
  rw [gdv, gdb] at P2
  replace P2 := Lib.hid P2
  obtain ⟨v0, v1, v2, v3, v4⟩ := Sv.out.c5
  go_wp2_with fail
  refine (P1.out _).mono ?_
  rintro e w2 ⟨rfl, hb⟩
  replace B0 := Lib.hid (below_on B0.out hb)
  replace Sv := Lib.hid (Sv.out.on hb)
  clear hb
  clear v0 v1 v2 v3 v4
  obtain ⟨v0, v1, v2, v3, v4⟩ := Sv.out.c5
  go_wp2_with fail
  refine (P2.out _).mono ?_
  rintro e w3 ⟨rfl, hb⟩
  replace B0 := Lib.hid (below_on B0.out hb)
  replace Sv := Lib.hid (Sv.out.on hb)
  clear hb
  clear v0 v1 v2 v3 v4
  have qdv : (dv != dv) = false := by simp
  have qdb : (db != db) = false := by simp
  cases db with
  | false =>
    clear gdb gdv
    have HC := Lib.hid (steps_g w w3 B0.out A1 n1 c1 (H1.out.kept B0.out) hm1)
    go_upto_if 81 with (fail)
    go_step
    go_step
    go_step
    go_step
    exact wp_of_fn (by kernel_rfl) HC.out
  | true =>
    obtain ⟨hm, l1, l2, l3, l4, l5, l6, l7, l8⟩ := back_law gdb
    rw [gdv] at l2 l3 l4 l5 l6 l7 l8
    have P3 := fun W => ReverseMove_yes x y z u c W hm
    have P4 := fun W => DirectionOf_any z u x y c W
    rw [l1, l2] at P4
    have P5 := fun W => StepKind_any dv x y z u c W
    rw [l3, l4] at P5
    have P6 := fun W => StepKind_any ((dv + 4) % 8) x y z u c W
    rw [l5, l6] at P6
    replace P3 := Lib.hid P3
    replace P4 := Lib.hid P4
    replace P5 := Lib.hid P5
    replace P6 := Lib.hid P6
    have nd : ((dv + 4) % 8 != (dv + 4) % 8) = false := by simp
    clear hm l1 l2 l3 l4 l5 l6 gdb gdv
    obtain ⟨v0, v1, v2, v3, v4⟩ := Sv.out.c5
    go_wp2_with fail
    refine (P3.out _).mono ?_
    rintro e w4 ⟨rfl, hb⟩
    replace B0 := Lib.hid (below_on B0.out hb)
    replace Sv := Lib.hid (Sv.out.on hb)
    clear hb
    clear v0 v1 v2 v3 v4
    have Sb := Lib.hid (Blk.new w4 27 #[.int .i64 z, .int .i64 u, .int .i64 x, .int .i64 y, .int .i64 c])
    replace B0 := Lib.hid (below_new B0.out (.cells #[.int .i64 z, .int .i64 u, .int .i64 x, .int .i64 y, .int .i64 c] 27))
    replace Sv := Lib.hid (Sv.out.alloc (.cells #[.int .i64 z, .int .i64 u, .int .i64 x, .int .i64 y, .int .i64 c] 27))
    obtain ⟨b0, b1, b2, b3, b4⟩ := Sb.out.c5
    go_wp2_with fail
    refine (P4.out _).mono ?_
    rintro e w5 ⟨rfl, hb⟩
    replace B0 := Lib.hid (below_on B0.out hb)
    replace Sv := Lib.hid (Sv.out.on hb)
    replace Sb := Lib.hid (Sb.out.on hb)
    clear hb
    clear b0 b1 b2 b3 b4
    obtain ⟨v0, v1, v2, v3, v4⟩ := Sv.out.c5
    go_wp2_with fail
    refine (P5.out _).mono ?_
    rintro e w6 ⟨rfl, hb⟩
    replace B0 := Lib.hid (below_on B0.out hb)
    replace Sv := Lib.hid (Sv.out.on hb)
    replace Sb := Lib.hid (Sb.out.on hb)
    clear hb
    clear v0 v1 v2 v3 v4
    obtain ⟨v0, v1, v2, v3, v4⟩ := Sv.out.c5
    go_wp2_with fail
    refine (P6.out _).mono ?_
    rintro e w7 ⟨rfl, hb⟩
    replace B0 := Lib.hid (below_on B0.out hb)
    replace Sv := Lib.hid (Sv.out.on hb)
    replace Sb := Lib.hid (Sb.out.on hb)
    clear hb
    clear v0 v1 v2 v3 v4
    have HC := Lib.hid (steps_g w w7 B0.out A1 n1 c1 (H1.out.kept B0.out) hm1)
    go_upto_if 132 with (fail)
    go_step
    go_step
    go_step
    go_step
    
    exact wp_of_fn (by kernel_rfl) HC.out
end Go.Proofs.Ytcpbcmebfiilmaa
