/- What is drawn for the laws on carries. Condition: the code's bytes can be read. -/
import Derived.Test.YtamehlafmfmgmaaCarAny
import Derived.Test.YtamehlafmfmgmaaCurInts
import Derived.Test.YtamehlafmfmgmaaAreSpec
import Derived.Test.YtamehlafmfmgmaaIntApp
namespace Go.Proofs.Ytamehlafmfmgmaa
open Go.RowKit

/-- Drawn carries are owned, and nothing that was there has changed. -/
def DrawnC (w : World) (u : Value) (k : Nat) (xs : List Int) (w' : World) : Prop := k ≤ 41 ∧ carBd xs ∧ w'.ownsRow w.heap.size 52 4 u k (ints xs) ∧ Below w.heap.size w w'
theorem drawn_c {w W : World} {N k : Nat} {o : Obj} {u : Value} {xs : List Int} (h : Lca (w.alloc o) w.heap.size w.heap.size N W u k xs) (hk : k ≤ 41) (hb : carBd xs) : DrawnC w u k xs W :=
  ⟨hk, hb, own_base h.own (by simp), below_cur o h.only⟩
/-! $1 questions so far, $2 the numbers, $3 bounds, $4 the new world, $5 the one before, $6 the number's name -/
set_option maxHeartbeats 1000000 in
set_option maxRecDepth 100000 in
theorem DrawLongestCarry_any (A : Option Addr) (n c : Nat) (w : World) (h : RdB w w.heap.size A n) (hn : n ≤ 9223372036854775807) :
    Calls Try.prog 13 #[.slice A n c] w fun e w' => ∃ u k xs p, e = .returned (.tuple #[u, .int .i64 p]) ∧ DrawnC w u k xs w' := by
  have C0 := Lib.hid (Cur.new w A n c h hn)
  have hlt : w.heap.size < (w.alloc (.cells #[.slice A n c, .int .i64 0, .int .u64 0] 66)).heap.size := by simp
  clear h hn
  go_enter Try.func13, Try.ntmps13
  go_wp2_with fail
  refine (anyCarries_any w.heap.size w.heap.size 0 _ C0.out (by omega)).mono ?_
  rintro e w1 ⟨u, k, xs, rfl, hk, hbd, hl⟩
  have HB := Lib.hid hbd
  have L0 := Lib.hid hl
  clear hbd hl C0
  go_wp2_with fail
  refine (carrier_any w.heap.size w.heap.size (10100) _ L0.out.cur (by omega)).mono ?_
  rintro e w2 ⟨p, ⟨p0, p1⟩, rfl, hc, hg⟩
  replace L0 := Lib.hid (L0.out.ask hlt hc hg)
  clear hc hg
  go_wp2_with fail
  go_ret2
  exact ⟨u, k, xs, p, rfl, drawn_c L0.out hk HB.out⟩
set_option maxHeartbeats 1000000 in
set_option maxRecDepth 100000 in
theorem DrawTooLong_any (A : Option Addr) (n c : Nat) (w : World) (h : RdB w w.heap.size A n) (hn : n ≤ 9223372036854775807) :
    Calls Try.prog 16 #[.slice A n c] w fun e w' => ∃ u k xs p, e = .returned (.tuple #[u, .int .i64 p]) ∧ DrawnC w u k xs w' := by
  have C0 := Lib.hid (Cur.new w A n c h hn)
  have hlt : w.heap.size < (w.alloc (.cells #[.slice A n c, .int .i64 0, .int .u64 0] 66)).heap.size := by simp
  clear h hn
  go_enter Try.func16, Try.ntmps16
  go_wp2_with fail
  refine (anyCarries_any w.heap.size w.heap.size 0 _ C0.out (by omega)).mono ?_
  rintro e w1 ⟨u, k, xs, rfl, hk, hbd, hl⟩
  have HB := Lib.hid hbd
  have L0 := Lib.hid hl
  clear hbd hl C0
  have A5 := Lib.hid (Blk.new w1 3 (ints [0, 1000]).toArray)
  have hg5 := L0.out.cur.lt
  replace L0 := Lib.hid (L0.out.alloc (.cells (ints [0, 1000]).toArray 3))
  go_wp2_with fail
  refine (among_blk w.heap.size w.heap.size (10100) w1.heap.size _ [0, 1000] 0 1000 _ L0.out.cur (by omega) hg5 A5.out (by simp) (by simp) (by simp; try omega)).mono ?_
  rintro e w2 ⟨p, p0, p1, rfl, hc, hg⟩
  replace L0 := Lib.hid (L0.out.ask hlt hc hg)
  clear hc hg hg5 A5
  have A5 := Lib.hid (Blk.new w2 3 (ints [1, 4, 8, 16, 999, p]).toArray)
  have hg5 := L0.out.cur.lt
  replace L0 := Lib.hid (L0.out.alloc (.cells (ints [1, 4, 8, 16, 999, p]).toArray 3))
  go_wp2_with fail
  refine (among_blk w.heap.size w.heap.size (10102) w2.heap.size _ [1, 4, 8, 16, 999, p] 0 1000 _ L0.out.cur (by omega) hg5 A5.out (by simp) (by simp) (by simp; try omega)).mono ?_
  rintro e w3 ⟨q, q0, q1, rfl, hc, hg⟩
  replace L0 := Lib.hid (L0.out.ask hlt hc hg)
  clear hc hg hg5 A5
  go_wp2_with fail
  go_ret2
  exact ⟨u, k, xs, q, rfl, drawn_c L0.out hk HB.out⟩
end Go.Proofs.Ytamehlafmfmgmaa
