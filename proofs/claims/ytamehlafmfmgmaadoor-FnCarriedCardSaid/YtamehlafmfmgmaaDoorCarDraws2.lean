/- What is drawn for the laws on split carries, efforts, fewest carriers and dropped ranges. Condition: the code's bytes can be read. -/
import Derived.Test.YtamehlafmfmgmaaDoorCarDraws
import Derived.Test.YtamehlafmfmgmaaDoorCutFn2
import Derived.Test.YtamehlafmfmgmaaDoorTake
namespace Go.Proofs.YtamehlafmfmgmaaDoor
open Go.RowKit

set_option maxHeartbeats 1000000 in
set_option maxRecDepth 100000 in
theorem DrawDroppedRanges_any (A : Option Addr) (n c : Nat) (w : World) (h : RdB w w.heap.size A n) (hn : n ≤ 9223372036854775807) :
    Calls Tryd.prog 10 #[.slice A n c] w fun e w' => ∃ u k xs p q r, e = .returned (.tuple #[u, .int .i64 p, .int .i64 q, .int .i64 r]) ∧ DrawnC w u k xs w' := by
  have C0 := Lib.hid (Cur.new w A n c h hn)
  have hlt : w.heap.size < (w.alloc (.cells #[.slice A n c, .int .i64 0, .int .u64 0] 67)).heap.size := by simp
  clear h hn
  have G0 := Lib.hid (World.grownBy.refl (w.alloc (.cells #[.slice A n c, .int .i64 0, .int .u64 0] 67)) (some w.heap.size))
  go_enter Tryd.func10, Tryd.ntmps10
  go_wp2_with fail
  refine (carryCount_any w.heap.size w.heap.size 0 _ C0.out (by omega)).mono ?_
  rintro e w0 ⟨d, ⟨d0, d1⟩, rfl, hc, hg⟩
  replace C0 := Lib.hid hc
  replace G0 := Lib.hid (grow_trans G0.out hg)
  clear hc hg hlt
  have hlt := C0.out.lt
  have hsz := Lib.hid G0.out.size
  go_wp2_with fail
  refine (anyCarries_any w.heap.size w.heap.size (8) _ C0.out (by omega)).mono ?_
  rintro e w1 ⟨u, k, xs, rfl, hk, hbd, hl⟩
  have HB := Lib.hid hbd
  have L0 := Lib.hid hl
  clear hbd hl C0
  go_wp2_with fail
  refine (loadOf_any w.heap.size w.heap.size (10108) _ L0.out.cur (by omega)).mono ?_
  rintro e w2 ⟨p, ⟨p0, p1⟩, rfl, hc, hg⟩
  replace L0 := Lib.hid (L0.out.ask hlt hc hg)
  clear hc hg
  have A5 := Lib.hid (Blk.new w2 3 (ints [0, 10, 60, 1000 - d, 1001 - d, -1]).toArray)
  have hg5 := L0.out.cur.lt
  replace L0 := Lib.hid (L0.out.alloc (.cells (ints [0, 10, 60, 1000 - d, 1001 - d, -1]).toArray 3))
  go_wp2_with fail
  refine (among_blk w.heap.size w.heap.size (10112) w2.heap.size _ [0, 10, 60, 1000 - d, 1001 - d, -1] (-1000000) 1001001 _ L0.out.cur (by omega) hg5 A5.out (by simp) (by simp) (by simp; try omega)).mono ?_
  rintro e w3 ⟨q, q0, q1, rfl, hc, hg⟩
  replace L0 := Lib.hid (L0.out.ask hlt hc hg)
  clear hc hg hg5 A5
  go_wp2_with fail
  refine bodyPost_ret (results_tmp4 rfl _ _ _) rfl ?_
  exact ⟨u, k, xs, p, d, d + q, rfl, hk, HB.out, own_base L0.out.own (by have := hsz.out; simp at this; omega), below_cur _ (grow_trans G0.out L0.out.only)⟩
end Go.Proofs.YtamehlafmfmgmaaDoor
