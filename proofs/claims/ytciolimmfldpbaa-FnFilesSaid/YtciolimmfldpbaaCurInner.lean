/- A spot that is drawn in the middle. Condition: the source's bytes can be read. -/
import Derived.Test.YtciolimmfldpbaaCurSpot
namespace Go.Proofs.Ytciolimmfldpbaa
open Go.RowKit

set_option maxHeartbeats 1000000 in
theorem inner_any (B g N : Nat) (w : World) (h : Cur w B g N) (hN : N ≤ 100000000000) : Calls Try.prog 68 #[.pointer (some ⟨g, 0, none⟩)] w (HandsSpot B g (N + 4) w) := by
  have hlt := h.lt
  have H := Lib.hid (h.alloc (.cells #[.int .i64 0, .int .i64 0] 29))
  have K := Lib.hid (Blk.new w 29 #[.int .i64 0, .int .i64 0])
  have G := Lib.hid (only_alloc (World.grownBy.refl w (some g)) (.cells #[.int .i64 0, .int .i64 0] 29))
  clear h
  go_enter Try.func68, Try.ntmps68
  go_wp2_with fail
  refine (pick_any B g N 400 _ H.out (by omega) (by omega)).mono ?_
  rintro e w1 ⟨x, x0, x1, rfl, hc1, hg1⟩
  have C1 := Lib.hid hc1
  have K1 := Lib.hid (K.out.grown' hg1 (by omega))
  have G1 := Lib.hid (grow_trans G.out hg1)
  simp [pickHi] at x1
  clear hc1 hg1
  go_wp2_with fail
  refine (pick_any B g (N + 2) 100 _ C1.out (by omega) (by omega)).mono ?_
  rintro e w2 ⟨y, y0, y1, rfl, hc2, hg2⟩
  have C2 := Lib.hid hc2
  have K2 := Lib.hid (K1.out.grown' hg2 (by omega))
  have G2 := Lib.hid (grow_trans G1.out hg2)
  simp [pickHi] at y1
  clear hc2 hg2
  obtain ⟨n0, n1⟩ := K2.out.c2
  have n2 := K2.out.frozen 0
  have n3 := K2.out.frozen 1
  go_wp2_with fail
  obtain ⟨m0, m1⟩ := (K2.out.set2 (.int .i64 (400 + x)) (.int .i64 (250 + y))).c2
  exact bodyPost_ret (v := (Value.agg #[Value.int .i64 (400 + x), Value.int .i64 (250 + y)])) (by simp [results, Try.results68, go_sem, m0, m1]) rfl
    ⟨_, _, by omega, rfl, (C2.out.setCell (p := ⟨w.heap.size, 0, none⟩) hlt _).setCell (p := ⟨w.heap.size, 1, none⟩) hlt _, only_set (p := ⟨w.heap.size, 1, none⟩) (only_set (p := ⟨w.heap.size, 0, none⟩) G2.out (Nat.le_refl _) _) (Nat.le_refl _) _⟩
end Go.Proofs.Ytciolimmfldpbaa
