/- What is drawn for the laws on carries. Condition: the code's bytes can be read. -/
import Derived.Test.YtamehlafmfmgmaaDoorCarAny
import Derived.Test.YtamehlafmfmgmaaDoorCurInts
import Derived.Test.YtamehlafmfmgmaaDoorAreSpec
import Derived.Test.YtamehlafmfmgmaaDoorIntApp
namespace Go.Proofs.YtamehlafmfmgmaaDoor
open Go.RowKit

/-- Drawn carries are owned, and nothing that was there has changed. -/
def DrawnC (w : World) (u : Value) (k : Nat) (xs : List Int) (w' : World) : Prop := k ≤ 41 ∧ carBd xs ∧ w'.ownsRow w.heap.size 50 4 u k (ints xs) ∧ Below w.heap.size w w'
theorem drawn_c {w W : World} {N k : Nat} {o : Obj} {u : Value} {xs : List Int} (h : Lca (w.alloc o) w.heap.size w.heap.size N W u k xs) (hk : k ≤ 41) (hb : carBd xs) : DrawnC w u k xs W :=
  ⟨hk, hb, own_base h.own (by simp), below_cur o h.only⟩
/-! $1 questions so far, $2 the numbers, $3 bounds, $4 the new world, $5 the one before, $6 the number's name -/
set_option maxHeartbeats 1000000 in
set_option maxRecDepth 100000 in
theorem DrawAreCarries_any (A : Option Addr) (n c : Nat) (w : World) (h : RdB w w.heap.size A n) (hn : n ≤ 9223372036854775807) :
    Calls Tryd.prog 44 #[.slice A n c] w fun e w' => ∃ u k xs, e = .returned u ∧ DrawnC w u k xs w' := by
  have C0 := Lib.hid (Cur.new w A n c h hn)
  have hlt : w.heap.size < (w.alloc (.cells #[.slice A n c, .int .i64 0, .int .u64 0] 67)).heap.size := by simp
  clear h hn
  go_enter Tryd.func44, Tryd.ntmps44
  go_wp2_with fail
  refine (anyCarries_any w.heap.size w.heap.size 0 _ C0.out (by omega)).mono ?_
  rintro e w1 ⟨u, k, xs, rfl, hk, hbd, hl⟩
  have HB := Lib.hid hbd
  have L0 := Lib.hid hl
  clear hbd hl C0
  go_wp2_with fail
  go_ret
  exact ⟨u, k, xs, rfl, drawn_c L0.out hk HB.out⟩
set_option maxHeartbeats 1000000 in
set_option maxRecDepth 100000 in
theorem DrawCarriesText_any (A : Option Addr) (n c : Nat) (w : World) (h : RdB w w.heap.size A n) (hn : n ≤ 9223372036854775807) :
    Calls Tryd.prog 22 #[.slice A n c] w fun e w' => ∃ u k xs, e = .returned u ∧ DrawnC w u k xs w' := by
  have H := Lib.hid h
  clear h
  go_enter Tryd.func22, Tryd.ntmps22
  go_wp2_with fail
  refine (DrawAreCarries_any A n c _ H.out hn).mono ?_
  rintro e w1 ⟨u, k, xs, rfl, hd⟩
  have HD := Lib.hid hd
  clear hd
  go_wp2_with fail
  go_ret
  exact ⟨u, k, xs, rfl, HD.out⟩
set_option maxHeartbeats 1000000 in
set_option maxRecDepth 100000 in
theorem DrawHandOversOf_any (A : Option Addr) (n c : Nat) (w : World) (h : RdB w w.heap.size A n) (hn : n ≤ 9223372036854775807) :
    Calls Tryd.prog 19 #[.slice A n c] w fun e w' => ∃ u k xs p, e = .returned (.tuple #[u, .int .i64 p]) ∧ DrawnC w u k xs w' := by
  have C0 := Lib.hid (Cur.new w A n c h hn)
  have hlt : w.heap.size < (w.alloc (.cells #[.slice A n c, .int .i64 0, .int .u64 0] 67)).heap.size := by simp
  clear h hn
  go_enter Tryd.func19, Tryd.ntmps19
  go_wp2_with fail
  refine (anyCarries_any w.heap.size w.heap.size 0 _ C0.out (by omega)).mono ?_
  rintro e w1 ⟨u, k, xs, rfl, hk, hbd, hl⟩
  have HB := Lib.hid hbd
  have L0 := Lib.hid hl
  clear hbd hl C0
  go_wp2_with fail
  refine (loadOf_any w.heap.size w.heap.size (10100) _ L0.out.cur (by omega)).mono ?_
  rintro e w2 ⟨p, ⟨p0, p1⟩, rfl, hc, hg⟩
  replace L0 := Lib.hid (L0.out.ask hlt hc hg)
  clear hc hg
  go_wp2_with fail
  go_ret2
  exact ⟨u, k, xs, p, rfl, drawn_c L0.out hk HB.out⟩
set_option maxHeartbeats 1000000 in
set_option maxRecDepth 100000 in
theorem DrawCarrierAt_any (A : Option Addr) (n c : Nat) (w : World) (h : RdB w w.heap.size A n) (hn : n ≤ 9223372036854775807) :
    Calls Tryd.prog 13 #[.slice A n c] w fun e w' => ∃ u k xs p q, e = .returned (.tuple #[u, .int .i64 p, .int .i64 q]) ∧ DrawnC w u k xs w' := by
  have C0 := Lib.hid (Cur.new w A n c h hn)
  have hlt : w.heap.size < (w.alloc (.cells #[.slice A n c, .int .i64 0, .int .u64 0] 67)).heap.size := by simp
  clear h hn
  go_enter Tryd.func13, Tryd.ntmps13
  go_wp2_with fail
  refine (anyCarries_any w.heap.size w.heap.size 0 _ C0.out (by omega)).mono ?_
  rintro e w1 ⟨u, k, xs, rfl, hk, hbd, hl⟩
  have HB := Lib.hid hbd
  have L0 := Lib.hid hl
  clear hbd hl C0
  go_wp2_with fail
  refine (loadOf_any w.heap.size w.heap.size (10100) _ L0.out.cur (by omega)).mono ?_
  rintro e w2 ⟨p, ⟨p0, p1⟩, rfl, hc, hg⟩
  replace L0 := Lib.hid (L0.out.ask hlt hc hg)
  clear hc hg
  go_wp2_with fail
  refine (carryCount_any w.heap.size w.heap.size (10104) _ L0.out.cur (by omega)).mono ?_
  rintro e w3 ⟨q, ⟨q0, q1⟩, rfl, hc, hg⟩
  replace L0 := Lib.hid (L0.out.ask hlt hc hg)
  clear hc hg
  go_wp2_with fail
  go_ret3
  exact ⟨u, k, xs, p, q, rfl, drawn_c L0.out hk HB.out⟩
set_option maxHeartbeats 1000000 in
set_option maxRecDepth 100000 in
theorem DrawLoadAt_any (A : Option Addr) (n c : Nat) (w : World) (h : RdB w w.heap.size A n) (hn : n ≤ 9223372036854775807) :
    Calls Tryd.prog 16 #[.slice A n c] w fun e w' => ∃ u k xs p q, e = .returned (.tuple #[u, .int .i64 p, .int .i64 q]) ∧ DrawnC w u k xs w' := by
  have C0 := Lib.hid (Cur.new w A n c h hn)
  have hlt : w.heap.size < (w.alloc (.cells #[.slice A n c, .int .i64 0, .int .u64 0] 67)).heap.size := by simp
  clear h hn
  go_enter Tryd.func16, Tryd.ntmps16
  go_wp2_with fail
  refine (anyCarries_any w.heap.size w.heap.size 0 _ C0.out (by omega)).mono ?_
  rintro e w1 ⟨u, k, xs, rfl, hk, hbd, hl⟩
  have HB := Lib.hid hbd
  have L0 := Lib.hid hl
  clear hbd hl C0
  go_wp2_with fail
  refine (carrier_any w.heap.size w.heap.size (10100) _ L0.out.cur (by omega)).mono ?_
  rintro e w2 ⟨p, ⟨p0, p1⟩, rfl, hc, hg⟩
  replace L0 := Lib.hid (L0.out.ask hlt hc hg)
  clear hc hg
  go_wp2_with fail
  refine (carryCount_any w.heap.size w.heap.size (10104) _ L0.out.cur (by omega)).mono ?_
  rintro e w3 ⟨q, ⟨q0, q1⟩, rfl, hc, hg⟩
  replace L0 := Lib.hid (L0.out.ask hlt hc hg)
  clear hc hg
  go_wp2_with fail
  go_ret3
  exact ⟨u, k, xs, p, q, rfl, drawn_c L0.out hk HB.out⟩
end Go.Proofs.YtamehlafmfmgmaaDoor
