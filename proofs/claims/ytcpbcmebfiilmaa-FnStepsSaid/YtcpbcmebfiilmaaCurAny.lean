/- Numbers that are drawn, and a new source of choices. Condition: the source's bytes can be read. -/
import Derived.Test.YtcpbcmebfiilmaaCurWay
namespace Go.Proofs.Ytcpbcmebfiilmaa
open Go.RowKit

/-- A number is handed out, and nothing but block g has changed. -/
def HandsAny (B g N : Nat) (w : World) (e : Ending) (w' : World) : Prop := ∃ r : Int, (-1000000 ≤ r ∧ r ≤ 1000000) ∧ e = .returned (.int .i64 r) ∧ Cur w' B g N ∧ w.grownBy w' (some g)
theorem only_below {w w' : World} {g : Nat} (h : Below w.heap.size w w') : w.grownBy w' (some g) := ⟨h.os, h.tape, h.output, h.size, fun i hi _ => h.block i hi⟩
set_option maxRecDepth 100000 in
set_option maxHeartbeats 1000000 in
theorem stepOf_any (B g N : Nat) (w : World) (h : Cur w B g N) (hN : N ≤ 1000000000) : Calls Try.prog 35 #[.pointer (some ⟨g, 0, none⟩)] w (HandsAny B g (N + 4) w) := by
  have C0 := Lib.hid h
  have G0 := Lib.hid (World.grownBy.refl w (some g))
  clear h
  go_enter Try.func35, Try.ntmps35
  have A1 := Lib.hid (Blk.new w 3 (ints [0, 25]).toArray)
  have C19 := Lib.hid (C0.out.alloc (.cells (ints [0, 25]).toArray 3))
  have G19 := Lib.hid (only_alloc G0.out (.cells (ints [0, 25]).toArray 3))
  go_wp2_with fail
  refine (among_blk B g (N + 0) w.heap.size _ [0, 25] 0 25 _ C19.out (by omega) C0.out.lt A1.out (by simp) (by simp) (by simp; try omega)).mono ?_
  rintro e w1 ⟨y1, y10, y11, rfl, hc, hg⟩
  have C1 := Lib.hid hc
  have G1 := Lib.hid (grow_trans G19.out hg)
  clear hc hg C19 G19 A1
  have A2 := Lib.hid (Blk.new w1 3 (ints [1, 4, 8, 12, 16, 24, y1]).toArray)
  have C29 := Lib.hid (C1.out.alloc (.cells (ints [1, 4, 8, 12, 16, 24, y1]).toArray 3))
  have G29 := Lib.hid (only_alloc G1.out (.cells (ints [1, 4, 8, 12, 16, 24, y1]).toArray 3))
  go_wp2_with fail
  refine (among_blk B g (N + 2) w1.heap.size _ [1, 4, 8, 12, 16, 24, y1] 0 25 _ C29.out (by omega) C1.out.lt A2.out (by simp) (by simp) (by simp; try omega)).mono ?_
  rintro e w2 ⟨y2, y20, y21, rfl, hc, hg⟩
  have C2 := Lib.hid hc
  have G2 := Lib.hid (grow_trans G29.out hg)
  clear hc hg C29 G29 A2
  go_wp2_with fail
  go_ret
  exact ⟨y2, by omega, rfl, C2.out, G2.out⟩
/-- A new source. -/
theorem Cur.new (w : World) (A : Option Addr) (n c : Nat) (h : RdB w w.heap.size A n) (hn : n ≤ 9223372036854775807) : Cur (w.alloc (.cells #[.slice A n c, .int .i64 0, .int .u64 0] 49)) w.heap.size w.heap.size 0 :=
  ⟨Nat.le_refl _, A, n, c, 0, 0, Blk.new w _ _, hn, Nat.le_refl _, h.keep fun p hp => World.cell?_alloc_lt w _ p hp⟩
theorem below_cur {w w' : World} (o : Obj) (h : (w.alloc o).grownBy w' (some w.heap.size)) : Below w.heap.size w w' :=
  ((Below.refl _ _).alloc (Nat.le_refl _) o).grown h (by simp) (fun k hk => by injection hk with hk; omega)
end Go.Proofs.Ytcpbcmebfiilmaa
