/- The program's LeastDelayed returns what the reference's returns, for all arguments. Without conditions. The walk of the law. -/
import Derived.Test.YtpikhkdgohapeaaFrameMove
import Derived.Test.YtpikhkdgohapeaaDelTop
namespace Go.Proofs.Ytpikhkdgohapeaa.fnExactLeastDelayed
open Go.RowKit

set_option maxRecDepth 100000 in
set_option maxHeartbeats 2000000 in
theorem walk (w : World) (x y z u c : Int) (X Y Z U C : Int) (p0 : Int) (_ : (Lit.int .i64 p0).wf = true) (p1 : Int) (_ : (Lit.int .i64 p1).wf = true) :
    Calls Try.prog 4 #[(Value.agg #[Value.int .i64 x, Value.int .i64 y, Value.int .i64 z, Value.int .i64 u, Value.int .i64 c]), (Value.agg #[Value.int .i64 X, Value.int .i64 Y, Value.int .i64 Z, Value.int .i64 U, Value.int .i64 C]), .int .i64 p0, .int .i64 p1] w fun e w' => e = .returned (.bool true) ∧ Below w.heap.size w w' := by
  obtain ⟨r0, f0⟩ : ∃ r, ldVA x y z u c X Y Z U C p0 p1 = r := ⟨_, rfl⟩
  obtain ⟨r1, f1⟩ : ∃ r, ldVC x y z u c X Y Z U C p0 p1 = r := ⟨_, rfl⟩
  obtain ⟨r2, f2⟩ : ∃ r, ldB x y z u c X Y Z U C p0 p1 = r := ⟨_, rfl⟩
  have hI := fun W => LeastDelayed_any x y z u c X Y Z U C p0 p1 W
  have hS := fun W => specLeastDelayed_any x y z u c X Y Z U C p0 p1 W
  rw [f0, f1, f2] at hI hS
  have HI := Lib.hid hI
  have HS := Lib.hid hS
  clear hI hS f0 f1 f2
  have hb50 : (r0 != r0) = false := by simp
  have hb51 : (r1 != r1) = false := by simp
  have hb52 : (r2 != r2) = false := by simp
  have K1 := Lib.hid (Blk.new2 w (.cells #[.int .i64 x, .int .i64 y, .int .i64 z, .int .i64 u, .int .i64 c] 25) 25 #[.int .i64 X, .int .i64 Y, .int .i64 Z, .int .i64 U, .int .i64 C])
  have K0 := Lib.hid ((Blk.new w 25 #[.int .i64 x, .int .i64 y, .int .i64 z, .int .i64 u, .int .i64 c]).alloc (.cells #[.int .i64 X, .int .i64 Y, .int .i64 Z, .int .i64 U, .int .i64 C] 25))
  have HB0 := Lib.hid (below_new (below_new (Below.refl w.heap.size w) (.cells #[.int .i64 x, .int .i64 y, .int .i64 z, .int .i64 u, .int .i64 c] 25)) (.cells #[.int .i64 X, .int .i64 Y, .int .i64 Z, .int .i64 U, .int .i64 C] 25))
  obtain ⟨c0, c1, c2, c3, c4⟩ := K0.out.c5
  obtain ⟨e0, e1, e2, e3, e4⟩ := K1.out.c5
  go_enter Try.func4, Try.ntmps4
  go_upto_region 1 with (fail)
  go_cut [9, 10, 11] (fun s1 s2 s3 wx => s1 = .int .i64 r0 ∧ s2 = .int .i64 r1 ∧ s3 = .bool r2 ∧ Below w.heap.size w wx ∧ Blk wx w.heap.size 25 #[.int .i64 x, .int .i64 y, .int .i64 z, .int .i64 u, .int .i64 c] ∧ Blk wx (w.heap.size + 1) 25 #[.int .i64 X, .int .i64 Y, .int .i64 Z, .int .i64 U, .int .i64 C])
  case first =>
    go_region_held3 (fun W => W.cell? ⟨w.heap.size, 0, none⟩ = some (.int .i64 x) ∧ W.cell? ⟨w.heap.size, 1, none⟩ = some (.int .i64 y) ∧ W.cell? ⟨w.heap.size, 2, none⟩ = some (.int .i64 z) ∧ W.cell? ⟨w.heap.size, 3, none⟩ = some (.int .i64 u) ∧ W.cell? ⟨w.heap.size, 4, none⟩ = some (.int .i64 c) ∧ W.cell? ⟨w.heap.size + 1, 0, none⟩ = some (.int .i64 X) ∧ W.cell? ⟨w.heap.size + 1, 1, none⟩ = some (.int .i64 Y) ∧ W.cell? ⟨w.heap.size + 1, 2, none⟩ = some (.int .i64 Z) ∧ W.cell? ⟨w.heap.size + 1, 3, none⟩ = some (.int .i64 U) ∧ W.cell? ⟨w.heap.size + 1, 4, none⟩ = some (.int .i64 C) ∧ Below w.heap.size w W ∧ Blk W w.heap.size 25 #[.int .i64 x, .int .i64 y, .int .i64 z, .int .i64 u, .int .i64 c] ∧ Blk W (w.heap.size + 1) 25 #[.int .i64 X, .int .i64 Y, .int .i64 Z, .int .i64 U, .int .i64 C])
      (first | exact ⟨c0, c1, c2, c3, c4, e0, e1, e2, e3, e4, HB0.out.drew, K0.out.drew, K1.out.drew⟩ | (go_split_ands; exact ⟨cell_on hb2 (by assumption), cell_on hb2 (by assumption), cell_on hb2 (by assumption), cell_on hb2 (by assumption), cell_on hb2 (by assumption), cell_on hb2 (by assumption), cell_on hb2 (by assumption), cell_on hb2 (by assumption), cell_on hb2 (by assumption), cell_on hb2 (by assumption), below_on (by assumption) hb2, Blk.on (by assumption) hb2, Blk.on (by assumption) hb2⟩) | go_keep)
      (first | (go_at_call_of 10 ((Value.agg #[Value.int .i64 x, Value.int .i64 y, Value.int .i64 z, Value.int .i64 u, Value.int .i64 c])); refine (toMove_any x y z u c _).mono ?_; rintro e w2 ⟨rfl, hb2⟩) | (go_at_call_of 10 ((Value.agg #[Value.int .i64 X, Value.int .i64 Y, Value.int .i64 Z, Value.int .i64 U, Value.int .i64 C])); refine (toMove_any X Y Z U C _).mono ?_; rintro e w2 ⟨rfl, hb2⟩) | (go_at_call 12; refine (HS.out _).mono ?_; rintro e w2 ⟨rfl, hb2⟩))
    all_goals
      go_split_ands
      go_wp2_with fail
      go_meet
      exact ⟨rfl, rfl, rfl, by assumption, by assumption, by assumption⟩
  case rest =>
    obtain ⟨rfl, rfl, rfl, hb, k0, k1⟩ := hcut
    clear HB0 K0 K1 c0 c1 c2 c3 c4 e0 e1 e2 e3 e4
    have HB0 := Lib.hid hb
    have K0 := Lib.hid k0
    have K1 := Lib.hid k1
    obtain ⟨c0, c1, c2, c3, c4⟩ := k0.c5
    obtain ⟨e0, e1, e2, e3, e4⟩ := k1.c5
    clear hb k0 k1
    go_upto_region 2 with (fail)
    go_cut [12, 13, 14] (fun s1 s2 s3 wx => s1 = .int .i64 r0 ∧ s2 = .int .i64 r1 ∧ s3 = .bool r2 ∧ Below w.heap.size w wx ∧ Blk wx w.heap.size 25 #[.int .i64 x, .int .i64 y, .int .i64 z, .int .i64 u, .int .i64 c] ∧ Blk wx (w.heap.size + 1) 25 #[.int .i64 X, .int .i64 Y, .int .i64 Z, .int .i64 U, .int .i64 C])
    case first =>
      go_region_held3 (fun W => W.cell? ⟨w.heap.size, 0, none⟩ = some (.int .i64 x) ∧ W.cell? ⟨w.heap.size, 1, none⟩ = some (.int .i64 y) ∧ W.cell? ⟨w.heap.size, 2, none⟩ = some (.int .i64 z) ∧ W.cell? ⟨w.heap.size, 3, none⟩ = some (.int .i64 u) ∧ W.cell? ⟨w.heap.size, 4, none⟩ = some (.int .i64 c) ∧ W.cell? ⟨w.heap.size + 1, 0, none⟩ = some (.int .i64 X) ∧ W.cell? ⟨w.heap.size + 1, 1, none⟩ = some (.int .i64 Y) ∧ W.cell? ⟨w.heap.size + 1, 2, none⟩ = some (.int .i64 Z) ∧ W.cell? ⟨w.heap.size + 1, 3, none⟩ = some (.int .i64 U) ∧ W.cell? ⟨w.heap.size + 1, 4, none⟩ = some (.int .i64 C) ∧ Below w.heap.size w W ∧ Blk W w.heap.size 25 #[.int .i64 x, .int .i64 y, .int .i64 z, .int .i64 u, .int .i64 c] ∧ Blk W (w.heap.size + 1) 25 #[.int .i64 X, .int .i64 Y, .int .i64 Z, .int .i64 U, .int .i64 C])
        (first | exact ⟨c0, c1, c2, c3, c4, e0, e1, e2, e3, e4, HB0.out.drew, K0.out.drew, K1.out.drew⟩ | (go_split_ands; exact ⟨cell_on hb2 (by assumption), cell_on hb2 (by assumption), cell_on hb2 (by assumption), cell_on hb2 (by assumption), cell_on hb2 (by assumption), cell_on hb2 (by assumption), cell_on hb2 (by assumption), cell_on hb2 (by assumption), cell_on hb2 (by assumption), cell_on hb2 (by assumption), below_on (by assumption) hb2, Blk.on (by assumption) hb2, Blk.on (by assumption) hb2⟩) | go_keep)
        (first | (go_at_call_of 10 ((Value.agg #[Value.int .i64 x, Value.int .i64 y, Value.int .i64 z, Value.int .i64 u, Value.int .i64 c])); refine (toMove_any x y z u c _).mono ?_; rintro e w2 ⟨rfl, hb2⟩) | (go_at_call_of 10 ((Value.agg #[Value.int .i64 X, Value.int .i64 Y, Value.int .i64 Z, Value.int .i64 U, Value.int .i64 C])); refine (toMove_any X Y Z U C _).mono ?_; rintro e w2 ⟨rfl, hb2⟩) | (go_at_call 13; refine (HI.out _).mono ?_; rintro e w2 ⟨rfl, hb2⟩))
      all_goals
        go_split_ands
        go_wp2_with fail
        go_meet
        exact ⟨rfl, rfl, rfl, by assumption, by assumption, by assumption⟩
    case rest =>
      obtain ⟨rfl, rfl, rfl, hb, k0, k1⟩ := hcut
      clear HB0 K0 K1 c0 c1 c2 c3 c4 e0 e1 e2 e3 e4
      have HB0 := Lib.hid hb
      have K0 := Lib.hid k0
      have K1 := Lib.hid k1
      obtain ⟨c0, c1, c2, c3, c4⟩ := k0.c5
      obtain ⟨e0, e1, e2, e3, e4⟩ := k1.c5
      clear hb k0 k1
      go_wp2_with fail
      go_ret
      exact ⟨rfl, HB0.out⟩
end Go.Proofs.Ytpikhkdgohapeaa.fnExactLeastDelayed
