/- What the laws on steps draw. Condition: the source's bytes can be read. -/
import Derived.Test.YtcpbcmebfiilmaaStepsSaid
import Derived.Test.YtcpbcmebfiilmaaStride
import Derived.Test.YtcpbcmebfiilmaaCutFn2
namespace Go.Proofs.Ytcpbcmebfiilmaa
open Go.RowKit

abbrev ZM : Obj := .cells #[.int .i64 0, .int .i64 0, .int .i64 0, .int .i64 0, .int .i64 0] 27
section
variable (A : Option Addr) (n c : Nat) (w : World) (h : RdB w w.heap.size A n) (hn : n ≤ 9223372036854775807)
set_option maxHeartbeats 1000000 in
include h hn in
theorem DrawDirectionOf_any : Calls Try.prog 5 #[.slice A n c] w (DrawnM w) := by
  have e1 : (w.alloc (.cells #[.int .i64 0, .int .i64 0, .int .i64 0, .int .i64 0, .int .i64 0] 27)).heap.size = w.heap.size + 1 := by simp
  have C := Lib.hid (show Cur ((w.alloc (.cells #[.int .i64 0, .int .i64 0, .int .i64 0, .int .i64 0, .int .i64 0] 27)).alloc (.cells #[.slice A n c, .int .i64 0, .int .u64 0] 49)) (w.heap.size + 1) (w.heap.size + 1) 0 by
    have := Cur.new (w.alloc (.cells #[.int .i64 0, .int .i64 0, .int .i64 0, .int .i64 0, .int .i64 0] 27)) A n c (h.kept (below_new (Below.refl _ _) _)) hn
    rw [e1] at this; exact this)
  have K := Lib.hid ((Blk.new w 27 #[.int .i64 0, .int .i64 0, .int .i64 0, .int .i64 0, .int .i64 0]).alloc (.cells #[.slice A n c, .int .i64 0, .int .u64 0] 49))
  have G := Lib.hid (World.grownBy.refl ((w.alloc (.cells #[.int .i64 0, .int .i64 0, .int .i64 0, .int .i64 0, .int .i64 0] 27)).alloc (.cells #[.slice A n c, .int .i64 0, .int .u64 0] 49)) (some (w.heap.size + 1)))
  have hne : w.heap.size ≠ w.heap.size + 1 := by omega
  clear h e1
  go_enter Try.func5, Try.ntmps5
  go_wp2_with fail
  refine (stride_any _ _ (0 + 0) _ C.out (by omega)).mono ?_
  rintro e w1 ⟨x, y, z, u, cc, rfl, hc, hg⟩
  replace C := Lib.hid hc
  replace G := Lib.hid (grow_trans G.out hg)
  replace K := Lib.hid (K.out.grown' hg hne)
  clear hc hg
  obtain ⟨a0, a1, a2, a3, a4⟩ := K.out.c5
  have z0 := K.out.frozen 0
  have z1 := K.out.frozen 1
  have z2 := K.out.frozen 2
  have z3 := K.out.frozen 3
  have z4 := K.out.frozen 4
  go_wp2_with fail
  obtain ⟨m0, m1, m2, m3, m4⟩ := (K.out.sd5 (.int .i64 x) (.int .i64 y) (.int .i64 z) (.int .i64 u) (.int .i64 cc)).c5
  exact bodyPost_ret (v := (Value.agg #[Value.int .i64 x, Value.int .i64 y, Value.int .i64 z, Value.int .i64 u, Value.int .i64 cc])) (by simp [results, Try.results5, go_sem, m0, m1, m2, m3, m4]) rfl
    ⟨x, y, z, u, cc, rfl, ((((((((Below.refl w.heap.size w).alloc (Nat.le_refl _) _).alloc (by simp) _).grown G.out (by simp; omega) (fun k hk => by injection hk with hk; omega)).setCell (p := ⟨w.heap.size, 0, none⟩) (Nat.le_refl _) _).setCell (p := ⟨w.heap.size, 1, none⟩) (Nat.le_refl _) _).setCell (p := ⟨w.heap.size, 2, none⟩) (Nat.le_refl _) _).setCell (p := ⟨w.heap.size, 3, none⟩) (Nat.le_refl _) _).setCell (p := ⟨w.heap.size, 4, none⟩) (Nat.le_refl _) _⟩
set_option maxHeartbeats 1000000 in
include h hn in
theorem DrawBestFacing_any : Calls Try.prog 10 #[.slice A n c] w (DrawnMI w) := by
  have e1 : (w.alloc (.cells #[.int .i64 0, .int .i64 0, .int .i64 0, .int .i64 0, .int .i64 0] 27)).heap.size = w.heap.size + 1 := by simp
  have C := Lib.hid (show Cur ((w.alloc (.cells #[.int .i64 0, .int .i64 0, .int .i64 0, .int .i64 0, .int .i64 0] 27)).alloc (.cells #[.slice A n c, .int .i64 0, .int .u64 0] 49)) (w.heap.size + 1) (w.heap.size + 1) 0 by
    have := Cur.new (w.alloc (.cells #[.int .i64 0, .int .i64 0, .int .i64 0, .int .i64 0, .int .i64 0] 27)) A n c (h.kept (below_new (Below.refl _ _) _)) hn
    rw [e1] at this; exact this)
  have K := Lib.hid ((Blk.new w 27 #[.int .i64 0, .int .i64 0, .int .i64 0, .int .i64 0, .int .i64 0]).alloc (.cells #[.slice A n c, .int .i64 0, .int .u64 0] 49))
  have G := Lib.hid (World.grownBy.refl ((w.alloc (.cells #[.int .i64 0, .int .i64 0, .int .i64 0, .int .i64 0, .int .i64 0] 27)).alloc (.cells #[.slice A n c, .int .i64 0, .int .u64 0] 49)) (some (w.heap.size + 1)))
  have hne : w.heap.size ≠ w.heap.size + 1 := by omega
  clear h e1
  go_enter Try.func10, Try.ntmps10
  go_wp2_with fail
  refine (stride_any _ _ (0 + 0) _ C.out (by omega)).mono ?_
  rintro e w1 ⟨x, y, z, u, cc, rfl, hc, hg⟩
  replace C := Lib.hid hc
  replace G := Lib.hid (grow_trans G.out hg)
  replace K := Lib.hid (K.out.grown' hg hne)
  clear hc hg
  go_wp2_with fail
  refine (facing_any _ _ (0 + 80) _ C.out (by omega)).mono ?_
  rintro e w2 ⟨f, -, -, rfl, hc, hg⟩
  replace C := Lib.hid hc
  replace G := Lib.hid (grow_trans G.out hg)
  replace K := Lib.hid (K.out.grown' hg hne)
  clear hc hg
  obtain ⟨a0, a1, a2, a3, a4⟩ := K.out.c5
  have z0 := K.out.frozen 0
  have z1 := K.out.frozen 1
  have z2 := K.out.frozen 2
  have z3 := K.out.frozen 3
  have z4 := K.out.frozen 4
  go_wp2_with fail
  obtain ⟨m0, m1, m2, m3, m4⟩ := (K.out.sd5 (.int .i64 x) (.int .i64 y) (.int .i64 z) (.int .i64 u) (.int .i64 cc)).c5
  exact bodyPost_ret (v := .tuple #[(Value.agg #[Value.int .i64 x, Value.int .i64 y, Value.int .i64 z, Value.int .i64 u, Value.int .i64 cc]), .int .i64 f]) (by simp [results, Try.results10, go_sem, m0, m1, m2, m3, m4]) rfl
    ⟨x, y, z, u, cc, f, rfl, ((((((((Below.refl w.heap.size w).alloc (Nat.le_refl _) _).alloc (by simp) _).grown G.out (by simp; omega) (fun k hk => by injection hk with hk; omega)).setCell (p := ⟨w.heap.size, 0, none⟩) (Nat.le_refl _) _).setCell (p := ⟨w.heap.size, 1, none⟩) (Nat.le_refl _) _).setCell (p := ⟨w.heap.size, 2, none⟩) (Nat.le_refl _) _).setCell (p := ⟨w.heap.size, 3, none⟩) (Nat.le_refl _) _).setCell (p := ⟨w.heap.size, 4, none⟩) (Nat.le_refl _) _⟩
set_option maxHeartbeats 1000000 in
include h hn in
theorem DrawStepKind_any : Calls Try.prog 20 #[.slice A n c] w (DrawnIM w) := by
  have e1 : (w.alloc (.cells #[.int .i64 0, .int .i64 0, .int .i64 0, .int .i64 0, .int .i64 0] 27)).heap.size = w.heap.size + 1 := by simp
  have C := Lib.hid (show Cur ((w.alloc (.cells #[.int .i64 0, .int .i64 0, .int .i64 0, .int .i64 0, .int .i64 0] 27)).alloc (.cells #[.slice A n c, .int .i64 0, .int .u64 0] 49)) (w.heap.size + 1) (w.heap.size + 1) 0 by
    have := Cur.new (w.alloc (.cells #[.int .i64 0, .int .i64 0, .int .i64 0, .int .i64 0, .int .i64 0] 27)) A n c (h.kept (below_new (Below.refl _ _) _)) hn
    rw [e1] at this; exact this)
  have K := Lib.hid ((Blk.new w 27 #[.int .i64 0, .int .i64 0, .int .i64 0, .int .i64 0, .int .i64 0]).alloc (.cells #[.slice A n c, .int .i64 0, .int .u64 0] 49))
  have G := Lib.hid (World.grownBy.refl ((w.alloc (.cells #[.int .i64 0, .int .i64 0, .int .i64 0, .int .i64 0, .int .i64 0] 27)).alloc (.cells #[.slice A n c, .int .i64 0, .int .u64 0] 49)) (some (w.heap.size + 1)))
  have hne : w.heap.size ≠ w.heap.size + 1 := by omega
  clear h e1
  go_enter Try.func20, Try.ntmps20
  go_wp2_with fail
  refine (facing_any _ _ (0 + 0) _ C.out (by omega)).mono ?_
  rintro e w1 ⟨f, -, -, rfl, hc, hg⟩
  replace C := Lib.hid hc
  replace G := Lib.hid (grow_trans G.out hg)
  replace K := Lib.hid (K.out.grown' hg hne)
  clear hc hg
  go_wp2_with fail
  refine (stride_any _ _ (0 + 6) _ C.out (by omega)).mono ?_
  rintro e w2 ⟨x, y, z, u, cc, rfl, hc, hg⟩
  replace C := Lib.hid hc
  replace G := Lib.hid (grow_trans G.out hg)
  replace K := Lib.hid (K.out.grown' hg hne)
  clear hc hg
  obtain ⟨a0, a1, a2, a3, a4⟩ := K.out.c5
  have z0 := K.out.frozen 0
  have z1 := K.out.frozen 1
  have z2 := K.out.frozen 2
  have z3 := K.out.frozen 3
  have z4 := K.out.frozen 4
  go_wp2_with fail
  obtain ⟨m0, m1, m2, m3, m4⟩ := (K.out.sd5 (.int .i64 x) (.int .i64 y) (.int .i64 z) (.int .i64 u) (.int .i64 cc)).c5
  exact bodyPost_ret (v := .tuple #[.int .i64 f, (Value.agg #[Value.int .i64 x, Value.int .i64 y, Value.int .i64 z, Value.int .i64 u, Value.int .i64 cc])]) (by simp [results, Try.results20, go_sem, m0, m1, m2, m3, m4]) rfl
    ⟨f, x, y, z, u, cc, rfl, ((((((((Below.refl w.heap.size w).alloc (Nat.le_refl _) _).alloc (by simp) _).grown G.out (by simp; omega) (fun k hk => by injection hk with hk; omega)).setCell (p := ⟨w.heap.size, 0, none⟩) (Nat.le_refl _) _).setCell (p := ⟨w.heap.size, 1, none⟩) (Nat.le_refl _) _).setCell (p := ⟨w.heap.size, 2, none⟩) (Nat.le_refl _) _).setCell (p := ⟨w.heap.size, 3, none⟩) (Nat.le_refl _) _).setCell (p := ⟨w.heap.size, 4, none⟩) (Nat.le_refl _) _⟩
set_option maxHeartbeats 1000000 in
include h hn in
theorem DrawStepAllowed_any : Calls Try.prog 15 #[.slice A n c] w (DrawnIMIII w) := by
  have e1 : (w.alloc (.cells #[.int .i64 0, .int .i64 0, .int .i64 0, .int .i64 0, .int .i64 0] 27)).heap.size = w.heap.size + 1 := by simp
  have C := Lib.hid (show Cur ((w.alloc (.cells #[.int .i64 0, .int .i64 0, .int .i64 0, .int .i64 0, .int .i64 0] 27)).alloc (.cells #[.slice A n c, .int .i64 0, .int .u64 0] 49)) (w.heap.size + 1) (w.heap.size + 1) 0 by
    have := Cur.new (w.alloc (.cells #[.int .i64 0, .int .i64 0, .int .i64 0, .int .i64 0, .int .i64 0] 27)) A n c (h.kept (below_new (Below.refl _ _) _)) hn
    rw [e1] at this; exact this)
  have K := Lib.hid ((Blk.new w 27 #[.int .i64 0, .int .i64 0, .int .i64 0, .int .i64 0, .int .i64 0]).alloc (.cells #[.slice A n c, .int .i64 0, .int .u64 0] 49))
  have G := Lib.hid (World.grownBy.refl ((w.alloc (.cells #[.int .i64 0, .int .i64 0, .int .i64 0, .int .i64 0, .int .i64 0] 27)).alloc (.cells #[.slice A n c, .int .i64 0, .int .u64 0] 49)) (some (w.heap.size + 1)))
  have hne : w.heap.size ≠ w.heap.size + 1 := by omega
  clear h e1
  go_enter Try.func15, Try.ntmps15
  go_wp2_with fail
  refine (facing_any _ _ (0 + 0) _ C.out (by omega)).mono ?_
  rintro e w1 ⟨f, -, -, rfl, hc, hg⟩
  replace C := Lib.hid hc
  replace G := Lib.hid (grow_trans G.out hg)
  replace K := Lib.hid (K.out.grown' hg hne)
  clear hc hg
  go_wp2_with fail
  refine (stride_any _ _ (0 + 6) _ C.out (by omega)).mono ?_
  rintro e w2 ⟨x, y, z, u, cc, rfl, hc, hg⟩
  replace C := Lib.hid hc
  replace G := Lib.hid (grow_trans G.out hg)
  replace K := Lib.hid (K.out.grown' hg hne)
  clear hc hg
  go_wp2_with fail
  refine (stepOf_any _ _ (0 + 86) _ C.out (by omega)).mono ?_
  rintro e w3 ⟨p, -, rfl, hc, hg⟩
  replace C := Lib.hid hc
  replace G := Lib.hid (grow_trans G.out hg)
  replace K := Lib.hid (K.out.grown' hg hne)
  clear hc hg
  go_wp2_with fail
  refine (stepOf_any _ _ (0 + 90) _ C.out (by omega)).mono ?_
  rintro e w4 ⟨q, -, rfl, hc, hg⟩
  replace C := Lib.hid hc
  replace G := Lib.hid (grow_trans G.out hg)
  replace K := Lib.hid (K.out.grown' hg hne)
  clear hc hg
  go_wp2_with fail
  refine (stepOf_any _ _ (0 + 94) _ C.out (by omega)).mono ?_
  rintro e w5 ⟨r, -, rfl, hc, hg⟩
  replace C := Lib.hid hc
  replace G := Lib.hid (grow_trans G.out hg)
  replace K := Lib.hid (K.out.grown' hg hne)
  clear hc hg
  obtain ⟨a0, a1, a2, a3, a4⟩ := K.out.c5
  have z0 := K.out.frozen 0
  have z1 := K.out.frozen 1
  have z2 := K.out.frozen 2
  have z3 := K.out.frozen 3
  have z4 := K.out.frozen 4
  go_wp2_with fail
  obtain ⟨m0, m1, m2, m3, m4⟩ := (K.out.sd5 (.int .i64 x) (.int .i64 y) (.int .i64 z) (.int .i64 u) (.int .i64 cc)).c5
  exact bodyPost_ret (v := .tuple #[.int .i64 f, (Value.agg #[Value.int .i64 x, Value.int .i64 y, Value.int .i64 z, Value.int .i64 u, Value.int .i64 cc]), .int .i64 p, .int .i64 q, .int .i64 r]) (by simp [results, Try.results15, go_sem, m0, m1, m2, m3, m4]) rfl
    ⟨f, x, y, z, u, cc, p, q, r, rfl, ((((((((Below.refl w.heap.size w).alloc (Nat.le_refl _) _).alloc (by simp) _).grown G.out (by simp; omega) (fun k hk => by injection hk with hk; omega)).setCell (p := ⟨w.heap.size, 0, none⟩) (Nat.le_refl _) _).setCell (p := ⟨w.heap.size, 1, none⟩) (Nat.le_refl _) _).setCell (p := ⟨w.heap.size, 2, none⟩) (Nat.le_refl _) _).setCell (p := ⟨w.heap.size, 3, none⟩) (Nat.le_refl _) _).setCell (p := ⟨w.heap.size, 4, none⟩) (Nat.le_refl _) _⟩
end
end Go.Proofs.Ytcpbcmebfiilmaa
