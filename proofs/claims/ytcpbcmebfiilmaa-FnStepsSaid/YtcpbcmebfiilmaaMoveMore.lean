/- Contracts of ReverseMove and WithinStep where the move is one. Conditions: the move is valid, the step lies in its range. -/
import Derived.Test.YtcpbcmebfiilmaaSquare
import Derived.Test.YtcpbcmebfiilmaaSet
namespace Go.Proofs.Ytcpbcmebfiilmaa
open Go.RowKit

theorem Blk.st5 {w : World} {g : Nat} {t : TypeId} {a b c d e : Value} (h : Blk w g t #[a, b, c, d, e]) (p q r s u : Value) :
    Blk (((((w.setCell ⟨g, 0, none⟩ p).setCell ⟨g, 1, none⟩ q).setCell ⟨g, 2, none⟩ r).setCell ⟨g, 3, none⟩ s).setCell ⟨g, 4, none⟩ u) g t #[p, q, r, s, u] := by
  have := ((((h.set_ 0 p).set_ 1 q).set_ 2 r).set_ 3 s).set_ 4 u
  simpa using this
set_option maxHeartbeats 1000000 in
theorem ReverseMove_yes (x y z u c : Int) (w : World) (hm : mvB x y z u c = true) :
    Calls Try.prog 8 #[(Value.agg #[Value.int .i64 x, Value.int .i64 y, Value.int .i64 z, Value.int .i64 u, Value.int .i64 c])] w fun e w' => e = .returned (.tuple #[(Value.agg #[Value.int .i64 z, Value.int .i64 u, Value.int .i64 x, Value.int .i64 y, Value.int .i64 c]), .bool true]) ∧ Below w.heap.size w w' := by
  have h1 := fun W => IsMove_any x y z u c W
  rw [hm] at h1
  have H1 := Lib.hid h1
  have A0 := Lib.hid ((Blk.new w 27 #[.int .i64 x, .int .i64 y, .int .i64 z, .int .i64 u, .int .i64 c]).alloc (.cells #[.int .i64 0, .int .i64 0, .int .i64 0, .int .i64 0, .int .i64 0] 27))
  have R0 := Lib.hid (show Blk ((w.alloc (.cells #[.int .i64 x, .int .i64 y, .int .i64 z, .int .i64 u, .int .i64 c] 27)).alloc (.cells #[.int .i64 0, .int .i64 0, .int .i64 0, .int .i64 0, .int .i64 0] 27)) (w.heap.size + 1) 27 #[.int .i64 0, .int .i64 0, .int .i64 0, .int .i64 0, .int .i64 0] by
    have := Blk.new (w.alloc (.cells #[.int .i64 x, .int .i64 y, .int .i64 z, .int .i64 u, .int .i64 c] 27)) 27 #[.int .i64 0, .int .i64 0, .int .i64 0, .int .i64 0, .int .i64 0]; simpa using this)
  have HB := Lib.hid (below_new (below_new (Below.refl w.heap.size w) (.cells #[.int .i64 x, .int .i64 y, .int .i64 z, .int .i64 u, .int .i64 c] 27)) (.cells #[.int .i64 0, .int .i64 0, .int .i64 0, .int .i64 0, .int .i64 0] 27))
  clear h1 hm
  go_enter Try.func8, Try.ntmps8
  go_wp2_with fail
  refine (H1.out _).mono ?_
  rintro e w1 ⟨rfl, hb⟩
  replace A0 := Lib.hid (A0.out.on hb)
  replace R0 := Lib.hid (R0.out.on hb)
  replace HB := Lib.hid (below_on HB.out hb)
  clear hb
  obtain ⟨a0, a1, a2, a3, a4⟩ := A0.out.c5
  obtain ⟨r0, r1, r2, r3, r4⟩ := R0.out.c5
  have f0 := R0.out.frozen 0
  have f1 := R0.out.frozen 1
  have f2 := R0.out.frozen 2
  have f3 := R0.out.frozen 3
  have f4 := R0.out.frozen 4
  go_wp2_with fail
  obtain ⟨m0, m1, m2, m3, m4⟩ := (R0.out.st5 (.int .i64 z) (.int .i64 u) (.int .i64 x) (.int .i64 y) (.int .i64 c)).c5
  have k : w.heap.size ≤ w.heap.size + 1 := by omega
  exact bodyPost_ret (v := .tuple #[(Value.agg #[Value.int .i64 z, Value.int .i64 u, Value.int .i64 x, Value.int .i64 y, Value.int .i64 c]), .bool true]) (by simp [results, Try.results8, go_sem, m0, m1, m2, m3, m4]) rfl
    ⟨rfl, ((((HB.out.setCell (p := ⟨w.heap.size + 1, 0, none⟩) k _).setCell (p := ⟨w.heap.size + 1, 1, none⟩) k _).setCell (p := ⟨w.heap.size + 1, 2, none⟩) k _).setCell (p := ⟨w.heap.size + 1, 3, none⟩) k _).setCell (p := ⟨w.heap.size + 1, 4, none⟩) k _⟩
set_option maxHeartbeats 1000000 in
theorem WithinStep_yes (x y z u c s : Int) (w : World) (hm : mvB x y z u c = true) (hs : inB s 1 24 = true) :
    Calls Try.prog 19 #[(Value.agg #[Value.int .i64 x, Value.int .i64 y, Value.int .i64 z, Value.int .i64 u, Value.int .i64 c]), .int .i64 s] w fun e w' => e = .returned (.tuple #[.bool (wsB x y z u c s), .bool true]) ∧ Below w.heap.size w w' := by
  have h1 := fun W => IsMove_any x y z u c W
  have h2 := fun W => within_any s 1 24 W
  have hS := fun W => withinStep_any x y z u c s W hm (inB_yes hs).1 (inB_yes hs).2
  rw [hm] at h1
  rw [hs] at h2
  have H1 := Lib.hid h1
  have H2 := Lib.hid h2
  have HS := Lib.hid hS
  have A0 := Lib.hid (Blk.new w 27 #[.int .i64 x, .int .i64 y, .int .i64 z, .int .i64 u, .int .i64 c])
  have HB := Lib.hid (below_new (Below.refl w.heap.size w) (.cells #[.int .i64 x, .int .i64 y, .int .i64 z, .int .i64 u, .int .i64 c] 27))
  clear h1 h2 hS hm hs
  go_enter Try.func19, Try.ntmps19
  go_wp2_with fail
  refine (H1.out _).mono ?_
  rintro e w1 ⟨rfl, hb⟩
  replace A0 := Lib.hid (A0.out.on hb)
  replace HB := Lib.hid (below_on HB.out hb)
  clear hb
  obtain ⟨a0, a1, a2, a3, a4⟩ := A0.out.c5
  go_wp2_with fail
  refine (H2.out _).mono ?_
  rintro e w' ⟨rfl, rfl⟩
  go_wp2_with fail
  refine (HS.out _).mono ?_
  rintro e w2 ⟨rfl, hb⟩
  replace HB := Lib.hid (below_on HB.out hb)
  clear hb
  go_wp2_with fail
  go_ret2
  exact ⟨rfl, HB.out⟩
end Go.Proofs.Ytcpbcmebfiilmaa
