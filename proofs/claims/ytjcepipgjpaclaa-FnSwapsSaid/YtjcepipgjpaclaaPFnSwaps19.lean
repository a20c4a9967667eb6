/- Contracts of how near two moves come to each other, in the program and in the reference. Condition: moves on the field. Contracts of the least square of two moves, and of the test whether they stay apart, in the program and in the reference. Condition: moves on the field. Contracts of the test whether two moves stay apart, and of the reference's least square of two moves. Condition: moves on the field. Contracts of whether two moves go together, and of the two ClosestTime. Condition: both moves are good, with the same counts. -/
import Derived.Test.YtjcepipgjpaclaaPFnSwaps01
import Derived.Test.YtjcepipgjpaclaaPFnSwaps18
import Derived.Test.YtjcepipgjpaclaaPFnSwaps12
import Derived.StillTailTactics
import Derived.Deep.RegionHeld3
import Derived.BigQuiet
import Derived.Deep.QuietTactic
import Derived.Test.YtjcepipgjpaclaaPFnSwaps02
namespace Go.Proofs.Ytjcepipgjpaclaa
open Go.RowKit

/-- A move on the field. -/
def okM (x y z u : Int) : Prop := (0 ≤ x ∧ x ≤ 1280) ∧ (0 ≤ y ∧ y ≤ 1280) ∧ (0 ≤ z ∧ z ≤ 1280) ∧ 0 ≤ u ∧ u ≤ 1280
set_option maxHeartbeats 2000000 in
set_option maxRecDepth 100000 in
theorem between_any (a1 a2 a3 a4 a5 b1 b2 b3 b4 b5 : Int) (w : World) (ha : okM a1 a2 a3 a4) (hb : okM b1 b2 b3 b4) :
    Calls Try.prog 83 #[(Value.agg #[Value.int .i64 a1, Value.int .i64 a2, Value.int .i64 a3, Value.int .i64 a4, Value.int .i64 a5]), (Value.agg #[Value.int .i64 b1, Value.int .i64 b2, Value.int .i64 b3, Value.int .i64 b4, Value.int .i64 b5])] w fun e w' =>
      e = .returned (.tuple #[(Value.agg #[Value.int .i64 (a1 - b1), Value.int .i64 (a2 - b2)]), (Value.agg #[Value.int .i64 (a3 - b3 - (a1 - b1)), Value.int .i64 (a4 - b4 - (a2 - b2))]), .int .i64 (dtOf (a1 - b1) (a2 - b2) (a3 - b3) (a4 - b4)), .int .i64 (szOf (a1 - b1) (a2 - b2) (a3 - b3) (a4 - b4))]) ∧ Below w.heap.size w w' := by
  obtain ⟨⟨h1, h2⟩, ⟨h3, h4⟩, ⟨h5, h6⟩, h7, h8⟩ := ha
  obtain ⟨⟨k1, k2⟩, ⟨k3, k4⟩, ⟨k5, k6⟩, k7, k8⟩ := hb
  have HD := Lib.hid (show dtOf (a1 - b1) (a2 - b2) (a3 - b3) (a4 - b4) = (a1 - b1) * (a3 - b3 - (a1 - b1)) + (a2 - b2) * (a4 - b4 - (a2 - b2)) from rfl)
  have HZ := Lib.hid (show szOf (a1 - b1) (a2 - b2) (a3 - b3) (a4 - b4) = (a3 - b3 - (a1 - b1)) * (a3 - b3 - (a1 - b1)) + (a4 - b4 - (a2 - b2)) * (a4 - b4 - (a2 - b2)) from rfl)
  have m1 := mul_wide (x := a1 - b1) (y := a3 - b3 - (a1 - b1)) (a := 1280) (b := 2560) (by omega) (by omega) (by omega) (by omega)
  have m2 := mul_wide (x := a2 - b2) (y := a4 - b4 - (a2 - b2)) (a := 1280) (b := 2560) (by omega) (by omega) (by omega) (by omega)
  have m3 := mul_wide (x := a3 - b3 - (a1 - b1)) (y := a3 - b3 - (a1 - b1)) (a := 2560) (b := 2560) (by omega) (by omega) (by omega) (by omega)
  have m4 := mul_wide (x := a4 - b4 - (a2 - b2)) (y := a4 - b4 - (a2 - b2)) (a := 2560) (b := 2560) (by omega) (by omega) (by omega) (by omega)
  obtain ⟨m1, n1⟩ := m1
  obtain ⟨m2, n2⟩ := m2
  obtain ⟨m3, n3⟩ := m3
  obtain ⟨m4, n4⟩ := m4
  obtain ⟨W, eW⟩ : ∃ W, (((((w.alloc (.cells #[.int .i64 a1, .int .i64 a2, .int .i64 a3, .int .i64 a4, .int .i64 a5] 47)).alloc (.cells #[.int .i64 b1, .int .i64 b2, .int .i64 b3, .int .i64 b4, .int .i64 b5] 47)).alloc (.cells #[.int .i64 0, .int .i64 0] 45)).alloc (.cells #[.int .i64 0, .int .i64 0] 45)).alloc (.cells #[.int .i64 (a1 - b1), .int .i64 (a2 - b2)] 45)).alloc (.cells #[.int .i64 (a3 - b3 - (a1 - b1)), .int .i64 (a4 - b4 - (a2 - b2))] 45) = W := ⟨_, rfl⟩
  have hbW : Below w.heap.size w W := by rw [← eW]; exact below_new (below_new (below_new (below_new (below_new (below_new (Below.refl _ _) _) _) _) _) _) _
  have K2 : Blk W (w.heap.size + 1 + 1) 45 #[.int .i64 0, .int .i64 0] := by rw [← eW]; exact (((Blk.new3 _ _ _ _ _).alloc _).alloc _).alloc _
  have K3 : Blk W (w.heap.size + 1 + 1 + 1) 45 #[.int .i64 0, .int .i64 0] := by
    rw [← eW]
    have := (Blk.new3 (w.alloc (.cells #[.int .i64 a1, .int .i64 a2, .int .i64 a3, .int .i64 a4, .int .i64 a5] 47)) (.cells #[.int .i64 b1, .int .i64 b2, .int .i64 b3, .int .i64 b4, .int .i64 b5] 47) (.cells #[.int .i64 0, .int .i64 0] 45) 45 #[.int .i64 0, .int .i64 0])
    rw [show (w.alloc (.cells #[.int .i64 a1, .int .i64 a2, .int .i64 a3, .int .i64 a4, .int .i64 a5] 47)).heap.size = w.heap.size + 1 by simp] at this
    exact (this.alloc _).alloc _
  have K4 : Blk W (w.heap.size + 1 + 1 + 1 + 1) 45 #[.int .i64 (a1 - b1), .int .i64 (a2 - b2)] := by
    rw [← eW]
    have := (Blk.new3 ((w.alloc (.cells #[.int .i64 a1, .int .i64 a2, .int .i64 a3, .int .i64 a4, .int .i64 a5] 47)).alloc (.cells #[.int .i64 b1, .int .i64 b2, .int .i64 b3, .int .i64 b4, .int .i64 b5] 47)) (.cells #[.int .i64 0, .int .i64 0] 45) (.cells #[.int .i64 0, .int .i64 0] 45) 45 #[.int .i64 (a1 - b1), .int .i64 (a2 - b2)])
    rw [show ((w.alloc (.cells #[.int .i64 a1, .int .i64 a2, .int .i64 a3, .int .i64 a4, .int .i64 a5] 47)).alloc (.cells #[.int .i64 b1, .int .i64 b2, .int .i64 b3, .int .i64 b4, .int .i64 b5] 47)).heap.size = w.heap.size + 1 + 1 by simp] at this
    exact this.alloc _
  have K5 : Blk W (w.heap.size + 1 + 1 + 1 + 1 + 1) 45 #[.int .i64 (a3 - b3 - (a1 - b1)), .int .i64 (a4 - b4 - (a2 - b2))] := by
    rw [← eW]
    have := (Blk.new3 (((w.alloc (.cells #[.int .i64 a1, .int .i64 a2, .int .i64 a3, .int .i64 a4, .int .i64 a5] 47)).alloc (.cells #[.int .i64 b1, .int .i64 b2, .int .i64 b3, .int .i64 b4, .int .i64 b5] 47)).alloc (.cells #[.int .i64 0, .int .i64 0] 45)) (.cells #[.int .i64 0, .int .i64 0] 45) (.cells #[.int .i64 (a1 - b1), .int .i64 (a2 - b2)] 45) 45 #[.int .i64 (a3 - b3 - (a1 - b1)), .int .i64 (a4 - b4 - (a2 - b2))])
    rw [show (((w.alloc (.cells #[.int .i64 a1, .int .i64 a2, .int .i64 a3, .int .i64 a4, .int .i64 a5] 47)).alloc (.cells #[.int .i64 b1, .int .i64 b2, .int .i64 b3, .int .i64 b4, .int .i64 b5] 47)).alloc (.cells #[.int .i64 0, .int .i64 0] 45)).heap.size = w.heap.size + 1 + 1 + 1 by simp] at this
    exact this
  have HKK := Lib.hid (And.intro K2 (And.intro K3 hbW))
  obtain ⟨p0, p1⟩ := K2.c2
  obtain ⟨p2, p3⟩ := K3.c2
  obtain ⟨p4, p5⟩ := K4.c2
  obtain ⟨p6, p7⟩ := K5.c2
  have z0 := K2.frozen 0
  have z1 := K2.frozen 1
  have z2 := K3.frozen 0
  have z3 := K3.frozen 1
  clear K2 K3 K4 K5 hbW
  have e1 := IntWalk.i64_in ((a1 - b1) * (a3 - b3 - (a1 - b1))) (by omega)
  have e2 := IntWalk.i64_in ((a2 - b2) * (a4 - b4 - (a2 - b2))) (by omega)
  have e3 := IntWalk.i64_in ((a1 - b1) * (a3 - b3 - (a1 - b1)) + (a2 - b2) * (a4 - b4 - (a2 - b2))) (by omega)
  have e4 := IntWalk.i64_in ((a3 - b3 - (a1 - b1)) * (a3 - b3 - (a1 - b1))) (by omega)
  have e5 := IntWalk.i64_in ((a4 - b4 - (a2 - b2)) * (a4 - b4 - (a2 - b2))) (by omega)
  have e6 := IntWalk.i64_in ((a3 - b3 - (a1 - b1)) * (a3 - b3 - (a1 - b1)) + (a4 - b4 - (a2 - b2)) * (a4 - b4 - (a2 - b2))) (by omega)
  go_enter Try.func83, Try.ntmps83
  go_wp2_with fail
  try rw [eW]
  clear eW
  refine wp_region_held_drew (S := fun V => V.cell? ⟨w.heap.size + 1 + 1 + 1 + 1, 0, none⟩ = some (.int .i64 (a1 - b1)) ∧ V.cell? ⟨w.heap.size + 1 + 1 + 1 + 1, 1, none⟩ = some (.int .i64 (a2 - b2)) ∧ V.cell? ⟨w.heap.size + 1 + 1 + 1 + 1 + 1, 0, none⟩ = some (.int .i64 (a3 - b3 - (a1 - b1))) ∧ V.cell? ⟨w.heap.size + 1 + 1 + 1 + 1 + 1, 1, none⟩ = some (.int .i64 (a4 - b4 - (a2 - b2)))) (by kernel_rfl) ⟨p4, p5, p6, p7⟩ (fun hHeld => ?_)
  refine take_at (i := 0) (oi := _) 46 (v := (Value.agg #[Value.int .i64 (a1 - b1), Value.int .i64 (a2 - b2)])) rfl rfl (by kernel_rfl) (by kernel_rfl) (by kernel_rfl) (fun _ _ _ h => h) (Or.inl ⟨by rfl, ?_⟩) hHeld ?_
  · (intro w hSw; (try dsimp only at hSw); go_split_ands; go_simp)
  simp only [List.setIfInBounds_toArray, List.set_cons_zero, List.set_cons_succ]
  refine take_at (i := 1) (oi := _) 47 (v := (Value.agg #[Value.int .i64 (a3 - b3 - (a1 - b1)), Value.int .i64 (a4 - b4 - (a2 - b2))])) rfl rfl (by kernel_rfl) (by kernel_rfl) (by kernel_rfl) (fun _ _ _ h => h) (Or.inl ⟨by rfl, ?_⟩) hHeld ?_
  · (intro w hSw; (try dsimp only at hSw); go_split_ands; go_simp)
  simp only [List.setIfInBounds_toArray, List.set_cons_zero, List.set_cons_succ]
  refine take_at (i := 2) (oi := _) 48 (v := .pointer (some ⟨w.heap.size + 1 + 1 + 1 + 1, 0, none⟩)) rfl rfl (by kernel_rfl) (by kernel_rfl) (by kernel_rfl) (fun _ _ _ h => h) (Or.inl ⟨by rfl, ?_⟩) hHeld ?_
  · (intro w hSw; (try dsimp only at hSw); go_split_ands; go_simp)
  simp only [List.setIfInBounds_toArray, List.set_cons_zero, List.set_cons_succ]
  refine take_at (i := 3) (oi := _) 49 (v := .int .i64 (a1 - b1)) rfl rfl (by kernel_rfl) (by kernel_rfl) (by kernel_rfl) (fun _ _ _ h => h) (Or.inl ⟨by rfl, ?_⟩) hHeld ?_
  · (intro w hSw; (try dsimp only at hSw); go_split_ands; go_simp)
  simp only [List.setIfInBounds_toArray, List.set_cons_zero, List.set_cons_succ]
  refine take_at (i := 4) (oi := _) 50 (v := .pointer (some ⟨w.heap.size + 1 + 1 + 1 + 1 + 1, 0, none⟩)) rfl rfl (by kernel_rfl) (by kernel_rfl) (by kernel_rfl) (fun _ _ _ h => h) (Or.inl ⟨by rfl, ?_⟩) hHeld ?_
  · (intro w hSw; (try dsimp only at hSw); go_split_ands; go_simp)
  simp only [List.setIfInBounds_toArray, List.set_cons_zero, List.set_cons_succ]
  refine take_at (i := 5) (oi := _) 51 (v := .int .i64 (a3 - b3 - (a1 - b1))) rfl rfl (by kernel_rfl) (by kernel_rfl) (by kernel_rfl) (fun _ _ _ h => h) (Or.inl ⟨by rfl, ?_⟩) hHeld ?_
  · (intro w hSw; (try dsimp only at hSw); go_split_ands; go_simp)
  simp only [List.setIfInBounds_toArray, List.set_cons_zero, List.set_cons_succ]
  refine take_at (i := 6) (oi := _) 52 (v := .int .i64 ((a1 - b1) * (a3 - b3 - (a1 - b1)))) rfl rfl (by kernel_rfl) (by kernel_rfl) (by kernel_rfl) (fun _ _ _ h => h) (Or.inl ⟨by rfl, ?_⟩) hHeld ?_
  · (intro w hSw; (try dsimp only at hSw); go_split_ands; go_simp)
  simp only [List.setIfInBounds_toArray, List.set_cons_zero, List.set_cons_succ]
  refine take_at (i := 7) (oi := _) 53 (v := .pointer (some ⟨w.heap.size + 1 + 1 + 1 + 1, 1, none⟩)) rfl rfl (by kernel_rfl) (by kernel_rfl) (by kernel_rfl) (fun _ _ _ h => h) (Or.inl ⟨by rfl, ?_⟩) hHeld ?_
  · (intro w hSw; (try dsimp only at hSw); go_split_ands; go_simp)
  simp only [List.setIfInBounds_toArray, List.set_cons_zero, List.set_cons_succ]
  refine take_at (i := 8) (oi := _) 54 (v := .int .i64 (a2 - b2)) rfl rfl (by kernel_rfl) (by kernel_rfl) (by kernel_rfl) (fun _ _ _ h => h) (Or.inl ⟨by rfl, ?_⟩) hHeld ?_
  · (intro w hSw; (try dsimp only at hSw); go_split_ands; go_simp)
  simp only [List.setIfInBounds_toArray, List.set_cons_zero, List.set_cons_succ]
  refine take_at (i := 9) (oi := _) 55 (v := .pointer (some ⟨w.heap.size + 1 + 1 + 1 + 1 + 1, 1, none⟩)) rfl rfl (by kernel_rfl) (by kernel_rfl) (by kernel_rfl) (fun _ _ _ h => h) (Or.inl ⟨by rfl, ?_⟩) hHeld ?_
  · (intro w hSw; (try dsimp only at hSw); go_split_ands; go_simp)
  simp only [List.setIfInBounds_toArray, List.set_cons_zero, List.set_cons_succ]
  refine take_at (i := 10) (oi := _) 56 (v := .int .i64 (a4 - b4 - (a2 - b2))) rfl rfl (by kernel_rfl) (by kernel_rfl) (by kernel_rfl) (fun _ _ _ h => h) (Or.inl ⟨by rfl, ?_⟩) hHeld ?_
  · (intro w hSw; (try dsimp only at hSw); go_split_ands; go_simp)
  simp only [List.setIfInBounds_toArray, List.set_cons_zero, List.set_cons_succ]
  refine take_at (i := 11) (oi := _) 57 (v := .int .i64 ((a2 - b2) * (a4 - b4 - (a2 - b2)))) rfl rfl (by kernel_rfl) (by kernel_rfl) (by kernel_rfl) (fun _ _ _ h => h) (Or.inl ⟨by rfl, ?_⟩) hHeld ?_
  · (intro w hSw; (try dsimp only at hSw); go_split_ands; go_simp)
  simp only [List.setIfInBounds_toArray, List.set_cons_zero, List.set_cons_succ]
  refine take_at (i := 12) (oi := _) 58 (v := .int .i64 ((a1 - b1) * (a3 - b3 - (a1 - b1)) + (a2 - b2) * (a4 - b4 - (a2 - b2)))) rfl rfl (by kernel_rfl) (by kernel_rfl) (by kernel_rfl) (fun _ _ _ h => h) (Or.inl ⟨by rfl, ?_⟩) hHeld ?_
  · (intro w hSw; (try dsimp only at hSw); go_split_ands; go_simp)
  simp only [List.setIfInBounds_toArray, List.set_cons_zero, List.set_cons_succ]
  refine take_at (i := 13) (oi := _) 59 (v := .pointer (some ⟨w.heap.size + 1 + 1 + 1 + 1 + 1, 0, none⟩)) rfl rfl (by kernel_rfl) (by kernel_rfl) (by kernel_rfl) (fun _ _ _ h => h) (Or.inl ⟨by rfl, ?_⟩) hHeld ?_
  · (intro w hSw; (try dsimp only at hSw); go_split_ands; go_simp)
  simp only [List.setIfInBounds_toArray, List.set_cons_zero, List.set_cons_succ]
  refine take_at (i := 14) (oi := _) 60 (v := .int .i64 (a3 - b3 - (a1 - b1))) rfl rfl (by kernel_rfl) (by kernel_rfl) (by kernel_rfl) (fun _ _ _ h => h) (Or.inl ⟨by rfl, ?_⟩) hHeld ?_
  · (intro w hSw; (try dsimp only at hSw); go_split_ands; go_simp)
  simp only [List.setIfInBounds_toArray, List.set_cons_zero, List.set_cons_succ]
  refine take_at (i := 15) (oi := _) 61 (v := .pointer (some ⟨w.heap.size + 1 + 1 + 1 + 1 + 1, 0, none⟩)) rfl rfl (by kernel_rfl) (by kernel_rfl) (by kernel_rfl) (fun _ _ _ h => h) (Or.inl ⟨by rfl, ?_⟩) hHeld ?_
  · (intro w hSw; (try dsimp only at hSw); go_split_ands; go_simp)
  simp only [List.setIfInBounds_toArray, List.set_cons_zero, List.set_cons_succ]
  refine take_at (i := 16) (oi := _) 62 (v := .int .i64 (a3 - b3 - (a1 - b1))) rfl rfl (by kernel_rfl) (by kernel_rfl) (by kernel_rfl) (fun _ _ _ h => h) (Or.inl ⟨by rfl, ?_⟩) hHeld ?_
  · (intro w hSw; (try dsimp only at hSw); go_split_ands; go_simp)
  simp only [List.setIfInBounds_toArray, List.set_cons_zero, List.set_cons_succ]
  refine take_at (i := 17) (oi := _) 63 (v := .int .i64 ((a3 - b3 - (a1 - b1)) * (a3 - b3 - (a1 - b1)))) rfl rfl (by kernel_rfl) (by kernel_rfl) (by kernel_rfl) (fun _ _ _ h => h) (Or.inl ⟨by rfl, ?_⟩) hHeld ?_
  · (intro w hSw; (try dsimp only at hSw); go_split_ands; go_simp)
  simp only [List.setIfInBounds_toArray, List.set_cons_zero, List.set_cons_succ]
  refine take_at (i := 18) (oi := _) 64 (v := .pointer (some ⟨w.heap.size + 1 + 1 + 1 + 1 + 1, 1, none⟩)) rfl rfl (by kernel_rfl) (by kernel_rfl) (by kernel_rfl) (fun _ _ _ h => h) (Or.inl ⟨by rfl, ?_⟩) hHeld ?_
  · (intro w hSw; (try dsimp only at hSw); go_split_ands; go_simp)
  simp only [List.setIfInBounds_toArray, List.set_cons_zero, List.set_cons_succ]
  refine take_at (i := 19) (oi := _) 65 (v := .int .i64 (a4 - b4 - (a2 - b2))) rfl rfl (by kernel_rfl) (by kernel_rfl) (by kernel_rfl) (fun _ _ _ h => h) (Or.inl ⟨by rfl, ?_⟩) hHeld ?_
  · (intro w hSw; (try dsimp only at hSw); go_split_ands; go_simp)
  simp only [List.setIfInBounds_toArray, List.set_cons_zero, List.set_cons_succ]
  refine take_at (i := 20) (oi := _) 66 (v := .pointer (some ⟨w.heap.size + 1 + 1 + 1 + 1 + 1, 1, none⟩)) rfl rfl (by kernel_rfl) (by kernel_rfl) (by kernel_rfl) (fun _ _ _ h => h) (Or.inl ⟨by rfl, ?_⟩) hHeld ?_
  · (intro w hSw; (try dsimp only at hSw); go_split_ands; go_simp)
  simp only [List.setIfInBounds_toArray, List.set_cons_zero, List.set_cons_succ]
  refine take_at (i := 21) (oi := _) 67 (v := .int .i64 (a4 - b4 - (a2 - b2))) rfl rfl (by kernel_rfl) (by kernel_rfl) (by kernel_rfl) (fun _ _ _ h => h) (Or.inl ⟨by rfl, ?_⟩) hHeld ?_
  · (intro w hSw; (try dsimp only at hSw); go_split_ands; go_simp)
  simp only [List.setIfInBounds_toArray, List.set_cons_zero, List.set_cons_succ]
  refine take_at (i := 22) (oi := _) 68 (v := .int .i64 ((a4 - b4 - (a2 - b2)) * (a4 - b4 - (a2 - b2)))) rfl rfl (by kernel_rfl) (by kernel_rfl) (by kernel_rfl) (fun _ _ _ h => h) (Or.inl ⟨by rfl, ?_⟩) hHeld ?_
  · (intro w hSw; (try dsimp only at hSw); go_split_ands; go_simp)
  simp only [List.setIfInBounds_toArray, List.set_cons_zero, List.set_cons_succ]
  refine take_at (i := 23) (oi := _) 69 (v := .int .i64 ((a3 - b3 - (a1 - b1)) * (a3 - b3 - (a1 - b1)) + (a4 - b4 - (a2 - b2)) * (a4 - b4 - (a2 - b2)))) rfl rfl (by kernel_rfl) (by kernel_rfl) (by kernel_rfl) (fun _ _ _ h => h) (Or.inl ⟨by rfl, ?_⟩) hHeld ?_
  · (intro w hSw; (try dsimp only at hSw); go_split_ands; go_simp)
  simp only [List.setIfInBounds_toArray, List.set_cons_zero, List.set_cons_succ]
  have far : ∀ (V : World) (p q : Addr) (u : Value), q.block ≠ p.block → (V.setCell p u).cell? q = V.cell? q := fun V p q u h => World.cell?_of_block (w := V) (Below.heap_setCell V p u q.block h)
  have FAR := Lib.hid far
  clear far
  refine wpAnyH_ready (rs := [24]) (by kernel_rfl) (by simp) ?_
  refine AllReadyH.cons (o := _) rfl (fun K hK => ?_) AllReadyH.nil
  go_simp
  refine hK.out _ _ ⟨(FAR.out _ _ _ _ (by first | (simp; done) | (simp; omega))).trans ((FAR.out _ _ _ _ (by first | (simp; done) | (simp; omega))).trans p4), (FAR.out _ _ _ _ (by first | (simp; done) | (simp; omega))).trans ((FAR.out _ _ _ _ (by first | (simp; done) | (simp; omega))).trans p5), (FAR.out _ _ _ _ (by first | (simp; done) | (simp; omega))).trans ((FAR.out _ _ _ _ (by first | (simp; done) | (simp; omega))).trans p6), (FAR.out _ _ _ _ (by first | (simp; done) | (simp; omega))).trans ((FAR.out _ _ _ _ (by first | (simp; done) | (simp; omega))).trans p7)⟩ (fun hHeld => ?_)
  clear hK K
  have q2 : ((W.setCell ⟨w.heap.size + 1 + 1, 0, none⟩ (.int .i64 (a1 - b1))).setCell ⟨w.heap.size + 1 + 1, 1, none⟩ (.int .i64 (a2 - b2))).cell? ⟨w.heap.size + 1 + 1 + 1, 0, none⟩ = some (.int .i64 0) := (FAR.out _ _ _ _ (by first | (simp; done) | (simp; omega))).trans ((FAR.out _ _ _ _ (by first | (simp; done) | (simp; omega))).trans p2)
  have q3 : ((W.setCell ⟨w.heap.size + 1 + 1, 0, none⟩ (.int .i64 (a1 - b1))).setCell ⟨w.heap.size + 1 + 1, 1, none⟩ (.int .i64 (a2 - b2))).cell? ⟨w.heap.size + 1 + 1 + 1, 1, none⟩ = some (.int .i64 0) := (FAR.out _ _ _ _ (by first | (simp; done) | (simp; omega))).trans ((FAR.out _ _ _ _ (by first | (simp; done) | (simp; omega))).trans p3)
  refine wpAnyH_ready (rs := [25]) (by kernel_rfl) (by simp) ?_
  refine AllReadyH.cons (o := _) rfl (fun K hK => ?_) AllReadyH.nil
  go_simp
  refine hK.out _ _ ⟨(FAR.out _ _ _ _ (by first | (simp; done) | (simp; omega))).trans ((FAR.out _ _ _ _ (by first | (simp; done) | (simp; omega))).trans ((FAR.out _ _ _ _ (by first | (simp; done) | (simp; omega))).trans ((FAR.out _ _ _ _ (by first | (simp; done) | (simp; omega))).trans p4))), (FAR.out _ _ _ _ (by first | (simp; done) | (simp; omega))).trans ((FAR.out _ _ _ _ (by first | (simp; done) | (simp; omega))).trans ((FAR.out _ _ _ _ (by first | (simp; done) | (simp; omega))).trans ((FAR.out _ _ _ _ (by first | (simp; done) | (simp; omega))).trans p5))), (FAR.out _ _ _ _ (by first | (simp; done) | (simp; omega))).trans ((FAR.out _ _ _ _ (by first | (simp; done) | (simp; omega))).trans ((FAR.out _ _ _ _ (by first | (simp; done) | (simp; omega))).trans ((FAR.out _ _ _ _ (by first | (simp; done) | (simp; omega))).trans p6))), (FAR.out _ _ _ _ (by first | (simp; done) | (simp; omega))).trans ((FAR.out _ _ _ _ (by first | (simp; done) | (simp; omega))).trans ((FAR.out _ _ _ _ (by first | (simp; done) | (simp; omega))).trans ((FAR.out _ _ _ _ (by first | (simp; done) | (simp; omega))).trans p7)))⟩ (fun hHeld => ?_)
  clear hK K
  refine wpAnyH_ready (rs := [26]) (by kernel_rfl) (by simp) ?_
  refine AllReadyH.cons (o := _) rfl (fun K hK => ?_) AllReadyH.nil
  go_simp
  refine hK.out _ _ hHeld (fun hHeld => ?_)
  clear hK K
  refine wpAnyH_ready (rs := [27]) (by kernel_rfl) (by simp) ?_
  refine AllReadyH.cons (o := _) rfl (fun K hK => ?_) AllReadyH.nil
  go_simp
  refine hK.out _ _ hHeld (fun hHeld => ?_)
  clear hK K
  refine wpAnyH_done (by kernel_rfl) ?_ _
  clear hHeld
  have M2 : Blk ((((W.setCell ⟨w.heap.size + 1 + 1, 0, none⟩ (.int .i64 (a1 - b1))).setCell ⟨w.heap.size + 1 + 1, 1, none⟩ (.int .i64 (a2 - b2))).setCell ⟨w.heap.size + 1 + 1 + 1, 0, none⟩ (.int .i64 (a3 - b3 - (a1 - b1)))).setCell ⟨w.heap.size + 1 + 1 + 1, 1, none⟩ (.int .i64 (a4 - b4 - (a2 - b2)))) (w.heap.size + 1 + 1) 45 #[.int .i64 (a1 - b1), .int .i64 (a2 - b2)] :=
    ((HKK.out.1.set2 _ _).far (by first | (simp; done) | (simp; omega)) _).far (by first | (simp; done) | (simp; omega)) _
  have M3 : Blk ((((W.setCell ⟨w.heap.size + 1 + 1, 0, none⟩ (.int .i64 (a1 - b1))).setCell ⟨w.heap.size + 1 + 1, 1, none⟩ (.int .i64 (a2 - b2))).setCell ⟨w.heap.size + 1 + 1 + 1, 0, none⟩ (.int .i64 (a3 - b3 - (a1 - b1)))).setCell ⟨w.heap.size + 1 + 1 + 1, 1, none⟩ (.int .i64 (a4 - b4 - (a2 - b2)))) (w.heap.size + 1 + 1 + 1) 45 #[.int .i64 (a3 - b3 - (a1 - b1)), .int .i64 (a4 - b4 - (a2 - b2))] :=
    ((HKK.out.2.1.far (by first | (simp; done) | (simp; omega)) _).far (by first | (simp; done) | (simp; omega)) _).set2 _ _
  have hbe := (((HKK.out.2.2.setCell (p := ⟨w.heap.size + 1 + 1, 0, none⟩) (by show w.heap.size ≤ w.heap.size + 1 + 1; omega) (.int .i64 (a1 - b1))).setCell (p := ⟨w.heap.size + 1 + 1, 1, none⟩) (by show w.heap.size ≤ w.heap.size + 1 + 1; omega) (.int .i64 (a2 - b2))).setCell (p := ⟨w.heap.size + 1 + 1 + 1, 0, none⟩) (by show w.heap.size ≤ w.heap.size + 1 + 1 + 1; omega) (.int .i64 (a3 - b3 - (a1 - b1)))).setCell (p := ⟨w.heap.size + 1 + 1 + 1, 1, none⟩) (by show w.heap.size ≤ w.heap.size + 1 + 1 + 1; omega) (.int .i64 (a4 - b4 - (a2 - b2)))
  have HBE := Lib.hid hbe
  obtain ⟨r0, r1⟩ := M2.drew.c2
  obtain ⟨r2, r3⟩ := M3.drew.c2
  clear M2 M3 hbe
  go_wp2_with fail
  exact bodyPost_ret (v := .tuple #[(Value.agg #[Value.int .i64 (a1 - b1), Value.int .i64 (a2 - b2)]), (Value.agg #[Value.int .i64 (a3 - b3 - (a1 - b1)), Value.int .i64 (a4 - b4 - (a2 - b2))]), .int .i64 ((a1 - b1) * (a3 - b3 - (a1 - b1)) + (a2 - b2) * (a4 - b4 - (a2 - b2))), .int .i64 ((a3 - b3 - (a1 - b1)) * (a3 - b3 - (a1 - b1)) + (a4 - b4 - (a2 - b2)) * (a4 - b4 - (a2 - b2)))]) (by simp [results, Try.results83, go_sem, r0, r1, r2, r3]) rfl
    ⟨by rw [HD.out, HZ.out], HBE.out.drew⟩
end Go.Proofs.Ytjcepipgjpaclaa

namespace Go.Proofs.Ytjcepipgjpaclaa
open Go.RowKit

def sqL (x y z u : Int) : Int := (x - z) * (x - z) + (y - u) * (y - u)
set_option maxHeartbeats 1000000 in
theorem squareOf_any (x y z u : Int) (w : World) (hx : 0 ≤ x ∧ x ≤ 1280) (hy : 0 ≤ y ∧ y ≤ 1280) (hz : 0 ≤ z ∧ z ≤ 1280) (hu : 0 ≤ u ∧ u ≤ 1280) :
    Calls Try.prog 75 #[(Value.agg #[Value.int .i64 x, Value.int .i64 y]), (Value.agg #[Value.int .i64 z, Value.int .i64 u])] w fun e w' => e = .returned (.int .i64 (sqL x y z u)) ∧ Below w.heap.size w w' := by
  obtain ⟨h1, h2⟩ := mul_wide (x := x - z) (y := x - z) (a := 1280) (b := 1280) (by omega) (by omega) (by omega) (by omega)
  obtain ⟨h3, h4⟩ := mul_wide (x := y - u) (y := y - u) (a := 1280) (b := 1280) (by omega) (by omega) (by omega) (by omega)
  have HR := Lib.hid (show sqL x y z u = (x - z) * (x - z) + (y - u) * (y - u) from rfl)
  go_enter Try.func75, Try.ntmps75
  go_wp2_with fail
  go_ret
  exact ⟨by rw [HR.out]; rfl, ((Below.refl _ _).alloc (Nat.le_refl _) _).alloc (by simp) _⟩
set_option maxHeartbeats 1000000 in
theorem stSquare_any (x y z u : Int) (w : World) (hx : 0 ≤ x ∧ x ≤ 1280) (hy : 0 ≤ y ∧ y ≤ 1280) (hz : 0 ≤ z ∧ z ≤ 1280) (hu : 0 ≤ u ∧ u ≤ 1280) :
    Calls Try.prog 77 #[(Value.agg #[Value.int .i64 x, Value.int .i64 y]), (Value.agg #[Value.int .i64 z, Value.int .i64 u])] w fun e w' => e = .returned (.int .i64 (sqL x y z u)) ∧ Below w.heap.size w w' := by
  obtain ⟨h1, h2⟩ := mul_wide (x := x - z) (y := x - z) (a := 1280) (b := 1280) (by omega) (by omega) (by omega) (by omega)
  obtain ⟨h3, h4⟩ := mul_wide (x := y - u) (y := y - u) (a := 1280) (b := 1280) (by omega) (by omega) (by omega) (by omega)
  have HR := Lib.hid (show sqL x y z u = (x - z) * (x - z) + (y - u) * (y - u) from rfl)
  go_enter Try.func77, Try.ntmps77
  go_wp2_with fail
  go_ret
  exact ⟨by rw [HR.out]; rfl, ((Below.refl _ _).alloc (Nat.le_refl _) _).alloc (by simp) _⟩
theorem l1Least_any (a b : Int) (w : World) : Calls Try.prog 152 #[.int .i64 a, .int .i64 b] w fun e w' => e = .returned (.int .i64 (min a b)) ∧ w = w' := by
  by_cases h : a < b
  · have hf := Lib.hid (show min a b = a by omega)
    go_enter Try.func152, Try.ntmps152
    go_wp2_with fail
    go_ret
    exact ⟨by rw [hf.out]; rfl, rfl⟩
  · have hf := Lib.hid (show min a b = b by omega)
    go_enter Try.func152, Try.ntmps152
    go_wp2_with fail
    go_ret
    exact ⟨by rw [hf.out]; rfl, rfl⟩

set_option maxRecDepth 100000 in
set_option maxHeartbeats 2000000 in
theorem leastApart_any (a1 a2 a3 a4 a5 b1 b2 b3 b4 b5 : Int) (w : World) (ha : okM a1 a2 a3 a4) (hb : okM b1 b2 b3 b4) :
    Calls Try.prog 135 #[(Value.agg #[Value.int .i64 a1, Value.int .i64 a2, Value.int .i64 a3, Value.int .i64 a4, Value.int .i64 a5]), (Value.agg #[Value.int .i64 b1, Value.int .i64 b2, Value.int .i64 b3, Value.int .i64 b4, Value.int .i64 b5])] w fun e w' =>
      e = .returned (.tuple #[.int .i64 (lpT (a1 - b1) (a2 - b2) (a3 - b3) (a4 - b4)), .int .i64 (lpB (a1 - b1) (a2 - b2) (a3 - b3) (a4 - b4))]) ∧ Below w.heap.size w w' := by
  have P := fun W => between_any a1 a2 a3 a4 a5 b1 b2 b3 b4 b5 W ha hb
  have PS := fun W => squareOf_any a3 a4 b3 b4 W (by have := ha.2.2.1; omega) (by have := ha.2.2.2; omega) (by have := hb.2.2.1; omega) (by have := hb.2.2.2; omega)
  obtain ⟨⟨h1, h2⟩, ⟨h3, h4⟩, ⟨h5, h6⟩, h7, h8⟩ := ha
  obtain ⟨⟨k1, k2⟩, ⟨k3, k4⟩, ⟨k5, k6⟩, k7, k8⟩ := hb
  have hw1 : wide 1280 (a1 - b1) (a2 - b2) := ⟨by omega, by omega, by omega, by omega⟩
  have hw2 : wide 1280 (a3 - b3) (a4 - b4) := ⟨by omega, by omega, by omega, by omega⟩
  obtain ⟨d1, d2, d3, d4, d5⟩ := dt_in hw1 hw2
  have d6 := sz0 (a1 - b1) (a2 - b2) (a3 - b3) (a4 - b4)
  have hcr := mul_wide (x := crOf (a1 - b1) (a2 - b2) (a3 - b3) (a4 - b4)) (y := crOf (a1 - b1) (a2 - b2) (a3 - b3) (a4 - b4)) (a := 6553600) (b := 6553600) (by omega) (by omega) (by omega) (by omega)
  have hcr0 := sq0 (crOf (a1 - b1) (a2 - b2) (a3 - b3) (a4 - b4))
  have hsq1 := mul_wide (x := a1 - b1) (y := a1 - b1) (a := 1280) (b := 1280) (by omega) (by omega) (by omega) (by omega)
  have hsq2 := mul_wide (x := a2 - b2) (y := a2 - b2) (a := 1280) (b := 1280) (by omega) (by omega) (by omega) (by omega)
  have hcx1 := mul_wide (x := a1 - b1) (y := a4 - b4 - (a2 - b2)) (a := 1280) (b := 2560) (by omega) (by omega) (by omega) (by omega)
  have hcx2 := mul_wide (x := a2 - b2) (y := a3 - b3 - (a1 - b1)) (a := 1280) (b := 2560) (by omega) (by omega) (by omega) (by omega)
  have hce : crOf (a1 - b1) (a2 - b2) (a3 - b3) (a4 - b4) = (a1 - b1) * (a4 - b4 - (a2 - b2)) - (a2 - b2) * (a3 - b3 - (a1 - b1)) := rfl
  have hse : sqL a3 a4 b3 b4 = (a3 - b3) * (a3 - b3) + (a4 - b4) * (a4 - b4) := rfl
  have hbeg := lp_begin (px := a1 - b1) (py := a2 - b2) (qx := a3 - b3) (qy := a4 - b4)
  have hend := lp_end (px := a1 - b1) (py := a2 - b2) (qx := a3 - b3) (qy := a4 - b4)
  have hmid := lp_mid (px := a1 - b1) (py := a2 - b2) (qx := a3 - b3) (qy := a4 - b4)
  have hT : lpT (a1 - b1) (a2 - b2) (a3 - b3) (a4 - b4) = if inMid (a1 - b1) (a2 - b2) (a3 - b3) (a4 - b4) = true then tmA (crOf (a1 - b1) (a2 - b2) (a3 - b3) (a4 - b4) * crOf (a1 - b1) (a2 - b2) (a3 - b3) (a4 - b4)) (szOf (a1 - b1) (a2 - b2) (a3 - b3) (a4 - b4)) else min ((a1 - b1) * (a1 - b1) + (a2 - b2) * (a2 - b2)) ((a3 - b3) * (a3 - b3) + (a4 - b4) * (a4 - b4)) := rfl
  have hU : lpB (a1 - b1) (a2 - b2) (a3 - b3) (a4 - b4) = if inMid (a1 - b1) (a2 - b2) (a3 - b3) (a4 - b4) = true then tmB (crOf (a1 - b1) (a2 - b2) (a3 - b3) (a4 - b4) * crOf (a1 - b1) (a2 - b2) (a3 - b3) (a4 - b4)) (szOf (a1 - b1) (a2 - b2) (a3 - b3) (a4 - b4)) else 1 := rfl
  obtain ⟨T, eT⟩ : ∃ x, lpT (a1 - b1) (a2 - b2) (a3 - b3) (a4 - b4) = x := ⟨_, rfl⟩
  obtain ⟨U, eU⟩ : ∃ x, lpB (a1 - b1) (a2 - b2) (a3 - b3) (a4 - b4) = x := ⟨_, rfl⟩
  obtain ⟨dt, edt⟩ : ∃ x, dtOf (a1 - b1) (a2 - b2) (a3 - b3) (a4 - b4) = x := ⟨_, rfl⟩
  obtain ⟨sz, esz⟩ : ∃ x, szOf (a1 - b1) (a2 - b2) (a3 - b3) (a4 - b4) = x := ⟨_, rfl⟩
  obtain ⟨cr, ecr⟩ : ∃ x, crOf (a1 - b1) (a2 - b2) (a3 - b3) (a4 - b4) = x := ⟨_, rfl⟩
  obtain ⟨sq, esq⟩ : ∃ x, sqL a3 a4 b3 b4 = x := ⟨_, rfl⟩
  rw [eT] at hT
  rw [eU] at hU
  rw [edt] at P d1 d2 hbeg hend hmid
  rw [esz] at P d3 d6 hend hmid hT hU
  rw [ecr] at d4 d5 hcr hcr0 hce hT hU
  rw [esq] at PS hse
  rw [eT, eU]
  clear eT eU edt esz ecr esq hw1 hw2
  have K0 := Blk.new w 47 #[.int .i64 a1, .int .i64 a2, .int .i64 a3, .int .i64 a4, .int .i64 a5]
  replace K0 := K0.alloc (.cells #[.int .i64 b1, .int .i64 b2, .int .i64 b3, .int .i64 b4, .int .i64 b5] 47)
  have K1 := Blk.new2 w (.cells #[.int .i64 a1, .int .i64 a2, .int .i64 a3, .int .i64 a4, .int .i64 a5] 47) 47 #[.int .i64 b1, .int .i64 b2, .int .i64 b3, .int .i64 b4, .int .i64 b5]
  have HB0 := Lib.hid (below_new (below_new (Below.refl w.heap.size w) (.cells #[.int .i64 a1, .int .i64 a2, .int .i64 a3, .int .i64 a4, .int .i64 a5] 47)) (.cells #[.int .i64 b1, .int .i64 b2, .int .i64 b3, .int .i64 b4, .int .i64 b5] 47))
  replace K0 := Lib.hid K0
  replace K1 := Lib.hid K1
  have HP := Lib.hid P
  have HS := Lib.hid PS
  clear P PS
  by_cases c1 : 0 ≤ dt
  · have hf := Lib.hid (show T = (a1 - b1) * (a1 - b1) + (a2 - b2) * (a2 - b2) ∧ U = 1 by
      have := hbeg c1
      rw [this.1] at hT hU
      rw [hT, hU, this.2]; exact ⟨rfl, rfl⟩)
    clear hbeg hend hmid hT hU hce hse hcr hcr0 hcx1 hcx2
    go_enter Try.func135, Try.ntmps135
    go_wp2_with fail
    refine (HP.out _).mono ?_
    rintro e w1 ⟨rfl, r1⟩
    have HB1 := Lib.hid (HB0.out.trans (r1.mono HB0.out.size))
    clear r1
    go_wp2_with fail
    go_ret2
    exact ⟨by rw [hf.out.1, hf.out.2]; rfl, below_new (below_new HB1.out _) _⟩
  · by_cases c2 : sz ≤ -dt
    · have hf := Lib.hid (show T = sq ∧ U = 1 by
        have := hend (by omega) c2
        rw [this.1] at hT hU
        rw [hT, hU, this.2, hse]; exact ⟨rfl, rfl⟩)
      clear hbeg hend hmid hT hU hce hse hcr hcr0 hcx1 hcx2 hsq1 hsq2
      go_enter Try.func135, Try.ntmps135
      go_wp2_with fail
      refine (HP.out _).mono ?_
      rintro e w1 ⟨rfl, r1⟩
      have HB1 := Lib.hid (HB0.out.trans (r1.mono HB0.out.size))
      obtain ⟨p0, p1, p2, p3, p4⟩ := (((K0.out.on r1).alloc (.cells #[.int .i64 (a1 - b1), .int .i64 (a2 - b2)] 45)).alloc (.cells #[.int .i64 (a3 - b3 - (a1 - b1)), .int .i64 (a4 - b4 - (a2 - b2))] 45)).c5
      obtain ⟨q0, q1, q2, q3, q4⟩ := (((K1.out.on r1).alloc (.cells #[.int .i64 (a1 - b1), .int .i64 (a2 - b2)] 45)).alloc (.cells #[.int .i64 (a3 - b3 - (a1 - b1)), .int .i64 (a4 - b4 - (a2 - b2))] 45)).c5
      clear r1
      go_wp2_with fail
      refine (HS.out _).mono ?_
      rintro e w2 ⟨rfl, r2⟩
      have HB2 := Lib.hid (below_on (below_new (below_new HB1.out _) _) r2)
      clear r2
      go_wp2_with fail
      go_ret2
      exact ⟨by rw [hf.out.1, hf.out.2]; rfl, HB2.out⟩
    · have hf := Lib.hid (show T = tmA (cr * cr) sz ∧ U = tmB (cr * cr) sz by
        rw [hmid (by omega) (by omega)] at hT hU
        rw [hT, hU]; exact ⟨rfl, rfl⟩)
      have PL := Lib.hid (fun W => lowestTerms_any (cr * cr) sz W hcr0 (by omega) (by omega) (by omega))
      have HCE := hce.symm
      clear hbeg hend hmid hT hU hse hsq1 hsq2 hce
      go_enter Try.func135, Try.ntmps135
      go_wp2_with fail
      refine (HP.out _).mono ?_
      rintro e w1 ⟨rfl, r1⟩
      have HB1 := Lib.hid (HB0.out.trans (r1.mono HB0.out.size))
      clear r1
      go_wp2_with fail
      refine (PL.out _).mono ?_
      rintro e w2 ⟨rfl, r2⟩
      have HB2 := Lib.hid (below_on (below_new (below_new HB1.out _) _) r2)
      clear r2
      go_wp2_with fail
      go_ret2
      exact ⟨by rw [hf.out.1, hf.out.2]; rfl, HB2.out⟩
end Go.Proofs.Ytjcepipgjpaclaa

namespace Go.Proofs.Ytjcepipgjpaclaa
open Go.RowKit

theorem lp_bounds {a1 a2 a3 a4 b1 b2 b3 b4 : Int} (ha : okM a1 a2 a3 a4) (hb : okM b1 b2 b3 b4) :
    0 ≤ lpT (a1 - b1) (a2 - b2) (a3 - b3) (a4 - b4) ∧ lpT (a1 - b1) (a2 - b2) (a3 - b3) (a4 - b4) ≤ 42949672960000 ∧ 1 ≤ lpB (a1 - b1) (a2 - b2) (a3 - b3) (a4 - b4) ∧ lpB (a1 - b1) (a2 - b2) (a3 - b3) (a4 - b4) ≤ 13107200 := by
  obtain ⟨⟨h1, h2⟩, ⟨h3, h4⟩, ⟨h5, h6⟩, h7, h8⟩ := ha
  obtain ⟨⟨k1, k2⟩, ⟨k3, k4⟩, ⟨k5, k6⟩, k7, k8⟩ := hb
  have hw1 : wide 1280 (a1 - b1) (a2 - b2) := ⟨by omega, by omega, by omega, by omega⟩
  have hw2 : wide 1280 (a3 - b3) (a4 - b4) := ⟨by omega, by omega, by omega, by omega⟩
  obtain ⟨d1, d2, d3, d4, d5⟩ := dt_in hw1 hw2
  have d6 := sz0 (a1 - b1) (a2 - b2) (a3 - b3) (a4 - b4)
  have hcr := mul_wide (x := crOf (a1 - b1) (a2 - b2) (a3 - b3) (a4 - b4)) (y := crOf (a1 - b1) (a2 - b2) (a3 - b3) (a4 - b4)) (a := 6553600) (b := 6553600) (by omega) (by omega) (by omega) (by omega)
  have hcr0 := sq0 (crOf (a1 - b1) (a2 - b2) (a3 - b3) (a4 - b4))
  have hsq1 := mul_wide (x := a1 - b1) (y := a1 - b1) (a := 1280) (b := 1280) (by omega) (by omega) (by omega) (by omega)
  have hsq2 := mul_wide (x := a2 - b2) (y := a2 - b2) (a := 1280) (b := 1280) (by omega) (by omega) (by omega) (by omega)
  have g1 := sq0 (a1 - b1)
  have g2 := sq0 (a2 - b2)
  have g3 := sq0 (a3 - b3)
  have g4 := sq0 (a4 - b4)
  unfold lpT lpB
  split
  · rename_i hm
    have := mid_yes hm
    have := tm_bounds (a := crOf (a1 - b1) (a2 - b2) (a3 - b3) (a4 - b4) * crOf (a1 - b1) (a2 - b2) (a3 - b3) (a4 - b4)) (b := szOf (a1 - b1) (a2 - b2) (a3 - b3) (a4 - b4)) hcr0 (by omega)
    omega
  · omega
def saB (a1 a2 a3 a4 b1 b2 b3 b4 L : Int) : Bool := decide (L * L * lpB (a1 - b1) (a2 - b2) (a3 - b3) (a4 - b4) ≤ lpT (a1 - b1) (a2 - b2) (a3 - b3) (a4 - b4))
set_option maxHeartbeats 1000000 in
theorem stayApart_any (a1 a2 a3 a4 a5 b1 b2 b3 b4 b5 L : Int) (w : World) (ha : okM a1 a2 a3 a4) (hb : okM b1 b2 b3 b4) (hL0 : 0 ≤ L) (hL : L ≤ 80) :
    Calls Try.prog 82 #[(Value.agg #[Value.int .i64 a1, Value.int .i64 a2, Value.int .i64 a3, Value.int .i64 a4, Value.int .i64 a5]), (Value.agg #[Value.int .i64 b1, Value.int .i64 b2, Value.int .i64 b3, Value.int .i64 b4, Value.int .i64 b5]), .int .i64 L] w fun e w' => e = .returned (.bool (saB a1 a2 a3 a4 b1 b2 b3 b4 L)) ∧ Below w.heap.size w w' := by
  have P := fun W => leastApart_any a1 a2 a3 a4 a5 b1 b2 b3 b4 b5 W ha hb
  have hl := lp_bounds ha hb
  have hS : saB a1 a2 a3 a4 b1 b2 b3 b4 L = decide (L * L * lpB (a1 - b1) (a2 - b2) (a3 - b3) (a4 - b4) ≤ lpT (a1 - b1) (a2 - b2) (a3 - b3) (a4 - b4)) := rfl
  obtain ⟨T, eT⟩ : ∃ x, lpT (a1 - b1) (a2 - b2) (a3 - b3) (a4 - b4) = x := ⟨_, rfl⟩
  obtain ⟨U, eU⟩ : ∃ x, lpB (a1 - b1) (a2 - b2) (a3 - b3) (a4 - b4) = x := ⟨_, rfl⟩
  rw [eT, eU] at P hl hS
  have HS := Lib.hid hS
  have HP := Lib.hid P
  obtain ⟨l1, l2, l3, l4⟩ := hl
  have m1 := mul_wide (x := L) (y := L) (a := 80) (b := 80) (by omega) (by omega) (by omega) (by omega)
  have m2 := mul_wide (x := L * L) (y := U) (a := 6400) (b := 13107200) (by omega) (by omega) (by omega) (by omega)
  have HB0 := Lib.hid (below_new (below_new (Below.refl w.heap.size w) (.cells #[.int .i64 a1, .int .i64 a2, .int .i64 a3, .int .i64 a4, .int .i64 a5] 47)) (.cells #[.int .i64 b1, .int .i64 b2, .int .i64 b3, .int .i64 b4, .int .i64 b5] 47))
  clear P hS eT eU ha hb
  by_cases hle : L * L * U ≤ T
  · have hf := Lib.hid (HS.out.trans (decide_eq_true hle))
    have hd : decide (L * L * U ≤ T) = true := decide_eq_true hle
    go_enter Try.func82, Try.ntmps82
    go_wp2_with fail
    refine (HP.out _).mono ?_
    rintro e w1 ⟨rfl, r1⟩
    have HB1 := Lib.hid (HB0.out.trans (r1.mono HB0.out.size))
    clear r1
    go_wp2_with fail
    go_ret
    exact ⟨by rw [hf.out]; rfl, HB1.out⟩
  · have hf := Lib.hid (HS.out.trans (decide_eq_false hle))
    have hd : decide (L * L * U ≤ T) = false := decide_eq_false hle
    go_enter Try.func82, Try.ntmps82
    go_wp2_with fail
    refine (HP.out _).mono ?_
    rintro e w1 ⟨rfl, r1⟩
    have HB1 := Lib.hid (HB0.out.trans (r1.mono HB0.out.size))
    clear r1
    go_wp2_with fail
    go_ret
    exact ⟨by rw [hf.out]; rfl, HB1.out⟩
set_option maxRecDepth 100000 in
set_option maxHeartbeats 1000000 in
theorem apEnds_any (a1 a2 a3 a4 a5 b1 b2 b3 b4 b5 : Int) (w : World) (ha : okM a1 a2 a3 a4) (hb : okM b1 b2 b3 b4) :
    Calls Try.prog 130 #[(Value.agg #[Value.int .i64 a1, Value.int .i64 a2, Value.int .i64 a3, Value.int .i64 a4, Value.int .i64 a5]), (Value.agg #[Value.int .i64 b1, Value.int .i64 b2, Value.int .i64 b3, Value.int .i64 b4, Value.int .i64 b5])] w fun e w' =>
      e = .returned (.tuple #[.int .i64 (a1 - b1), .int .i64 (a2 - b2), .int .i64 (a3 - b3), .int .i64 (a4 - b4)]) ∧ Below w.heap.size w w' := by
  obtain ⟨⟨h1, h2⟩, ⟨h3, h4⟩, ⟨h5, h6⟩, h7, h8⟩ := ha
  obtain ⟨⟨k1, k2⟩, ⟨k3, k4⟩, ⟨k5, k6⟩, k7, k8⟩ := hb
  have HB0 := Lib.hid (below_new (below_new (Below.refl w.heap.size w) (.cells #[.int .i64 a1, .int .i64 a2, .int .i64 a3, .int .i64 a4, .int .i64 a5] 47)) (.cells #[.int .i64 b1, .int .i64 b2, .int .i64 b3, .int .i64 b4, .int .i64 b5] 47))
  go_enter Try.func130, Try.ntmps130
  go_wp2_with fail
  go_quiet (fail)
  go_wp2_with fail
  exact bodyPost_ret (v := .tuple #[.int .i64 (a1 - b1), .int .i64 (a2 - b2), .int .i64 (a3 - b3), .int .i64 (a4 - b4)]) (by simp [results, Try.results130, go_sem]) rfl ⟨rfl, below_drewN HB0.out _⟩
/-- The part of the time at which two moves are closest, if that is between their ends; else 0 and 0. -/
def inT (px py qx qy : Int) : Int := if inMid px py qx qy = true then -dtOf px py qx qy else 0
def inU (px py qx qy : Int) : Int := if inMid px py qx qy = true then szOf px py qx qy else 0
set_option maxRecDepth 100000 in
set_option maxHeartbeats 2000000 in
theorem apInner_any (a1 a2 a3 a4 a5 b1 b2 b3 b4 b5 : Int) (w : World) (ha : okM a1 a2 a3 a4) (hb : okM b1 b2 b3 b4) :
    Calls Try.prog 128 #[(Value.agg #[Value.int .i64 a1, Value.int .i64 a2, Value.int .i64 a3, Value.int .i64 a4, Value.int .i64 a5]), (Value.agg #[Value.int .i64 b1, Value.int .i64 b2, Value.int .i64 b3, Value.int .i64 b4, Value.int .i64 b5])] w fun e w' =>
      e = .returned (.tuple #[.int .i64 (inT (a1 - b1) (a2 - b2) (a3 - b3) (a4 - b4)), .int .i64 (inU (a1 - b1) (a2 - b2) (a3 - b3) (a4 - b4))]) ∧ Below w.heap.size w w' := by
  have P := fun W => apEnds_any a1 a2 a3 a4 a5 b1 b2 b3 b4 b5 W ha hb
  obtain ⟨⟨h1, h2⟩, ⟨h3, h4⟩, ⟨h5, h6⟩, h7, h8⟩ := ha
  obtain ⟨⟨k1, k2⟩, ⟨k3, k4⟩, ⟨k5, k6⟩, k7, k8⟩ := hb
  have hw1 : wide 1280 (a1 - b1) (a2 - b2) := ⟨by omega, by omega, by omega, by omega⟩
  have hw2 : wide 1280 (a3 - b3) (a4 - b4) := ⟨by omega, by omega, by omega, by omega⟩
  obtain ⟨d1, d2, d3, d4, d5⟩ := dt_in hw1 hw2
  have d6 := sz0 (a1 - b1) (a2 - b2) (a3 - b3) (a4 - b4)
  have hcr := mul_wide (x := crOf (a1 - b1) (a2 - b2) (a3 - b3) (a4 - b4)) (y := crOf (a1 - b1) (a2 - b2) (a3 - b3) (a4 - b4)) (a := 6553600) (b := 6553600) (by omega) (by omega) (by omega) (by omega)
  have hcr0 := sq0 (crOf (a1 - b1) (a2 - b2) (a3 - b3) (a4 - b4))
  have m1 := mul_wide (x := a1 - b1) (y := a3 - b3 - (a1 - b1)) (a := 1280) (b := 2560) (by omega) (by omega) (by omega) (by omega)
  have m2 := mul_wide (x := a2 - b2) (y := a4 - b4 - (a2 - b2)) (a := 1280) (b := 2560) (by omega) (by omega) (by omega) (by omega)
  have m3 := mul_wide (x := a3 - b3 - (a1 - b1)) (y := a3 - b3 - (a1 - b1)) (a := 2560) (b := 2560) (by omega) (by omega) (by omega) (by omega)
  have m4 := mul_wide (x := a4 - b4 - (a2 - b2)) (y := a4 - b4 - (a2 - b2)) (a := 2560) (b := 2560) (by omega) (by omega) (by omega) (by omega)
  have hd : dtOf (a1 - b1) (a2 - b2) (a3 - b3) (a4 - b4) = (a1 - b1) * (a3 - b3 - (a1 - b1)) + (a2 - b2) * (a4 - b4 - (a2 - b2)) := rfl
  have hz : szOf (a1 - b1) (a2 - b2) (a3 - b3) (a4 - b4) = (a3 - b3 - (a1 - b1)) * (a3 - b3 - (a1 - b1)) + (a4 - b4 - (a2 - b2)) * (a4 - b4 - (a2 - b2)) := rfl
  have hI : inT (a1 - b1) (a2 - b2) (a3 - b3) (a4 - b4) = if decide (dtOf (a1 - b1) (a2 - b2) (a3 - b3) (a4 - b4) < 0 ∧ -dtOf (a1 - b1) (a2 - b2) (a3 - b3) (a4 - b4) < szOf (a1 - b1) (a2 - b2) (a3 - b3) (a4 - b4)) = true then -dtOf (a1 - b1) (a2 - b2) (a3 - b3) (a4 - b4) else 0 := rfl
  have hJ : inU (a1 - b1) (a2 - b2) (a3 - b3) (a4 - b4) = if decide (dtOf (a1 - b1) (a2 - b2) (a3 - b3) (a4 - b4) < 0 ∧ -dtOf (a1 - b1) (a2 - b2) (a3 - b3) (a4 - b4) < szOf (a1 - b1) (a2 - b2) (a3 - b3) (a4 - b4)) = true then szOf (a1 - b1) (a2 - b2) (a3 - b3) (a4 - b4) else 0 := rfl
  rw [hd, hz] at hI hJ
  obtain ⟨p, ep⟩ : ∃ x, a1 - b1 = x := ⟨_, rfl⟩
  obtain ⟨q, eq⟩ : ∃ x, a2 - b2 = x := ⟨_, rfl⟩
  obtain ⟨r, er⟩ : ∃ x, a3 - b3 = x := ⟨_, rfl⟩
  obtain ⟨s, es⟩ : ∃ x, a4 - b4 = x := ⟨_, rfl⟩
  have rp : -1280 ≤ p ∧ p ≤ 1280 := by omega
  have rq : -1280 ≤ q ∧ q ≤ 1280 := by omega
  have rr : -1280 ≤ r ∧ r ≤ 1280 := by omega
  have rs : -1280 ≤ s ∧ s ≤ 1280 := by omega
  clear hd hz hcr hcr0 d1 d2 d3 d4 d5 d6 hw1 hw2
  rw [ep, eq, er, es] at P hI hJ
  rw [ep, er] at m1 m3
  rw [eq, es] at m2 m4
  rw [ep, eq, er, es]
  clear ep eq er es
  obtain ⟨I, eI⟩ : ∃ x, inT p q r s = x := ⟨_, rfl⟩
  obtain ⟨J, eJ⟩ : ∃ x, inU p q r s = x := ⟨_, rfl⟩
  rw [eI] at hI
  rw [eJ] at hJ
  rw [eI, eJ]
  have HP := Lib.hid P
  have HI := Lib.hid hI
  have HJ := Lib.hid hJ
  have HB0 := Lib.hid (below_new (below_new (Below.refl w.heap.size w) (.cells #[.int .i64 a1, .int .i64 a2, .int .i64 a3, .int .i64 a4, .int .i64 a5] 47)) (.cells #[.int .i64 b1, .int .i64 b2, .int .i64 b3, .int .i64 b4, .int .i64 b5] 47))
  clear P hI hJ eI eJ
  by_cases c1 : -(p * (r - p) + q * (s - q)) ≤ 0
  · have hf := Lib.hid (show I = 0 ∧ J = 0 by
      rw [HI.out, HJ.out, decide_eq_false (by omega)]; exact ⟨rfl, rfl⟩)
    have hd1 : decide (-(p * (r - p) + q * (s - q)) ≤ 0) = true := decide_eq_true c1
    go_enter Try.func128, Try.ntmps128
    go_wp2_with fail
    refine (HP.out _).mono ?_
    rintro e w1 ⟨rfl, r1⟩
    have HB1 := Lib.hid (HB0.out.trans (r1.mono HB0.out.size))
    clear r1
    go_wp2_with fail
    go_ret2
    exact ⟨by rw [hf.out.1, hf.out.2]; rfl, HB1.out⟩
  · have hd1 : decide (-(p * (r - p) + q * (s - q)) ≤ 0) = false := decide_eq_false c1
    by_cases c2 : (r - p) * (r - p) + (s - q) * (s - q) ≤ -(p * (r - p) + q * (s - q))
    · have hf := Lib.hid (show I = 0 ∧ J = 0 by
        rw [HI.out, HJ.out, decide_eq_false (by omega)]; exact ⟨rfl, rfl⟩)
      have hd2 : decide ((r - p) * (r - p) + (s - q) * (s - q) ≤ -(p * (r - p) + q * (s - q))) = true := decide_eq_true c2
      go_enter Try.func128, Try.ntmps128
      go_wp2_with fail
      refine (HP.out _).mono ?_
      rintro e w1 ⟨rfl, r1⟩
      have HB1 := Lib.hid (HB0.out.trans (r1.mono HB0.out.size))
      clear r1
      go_wp2_with fail
      go_ret2
      exact ⟨by rw [hf.out.1, hf.out.2]; rfl, HB1.out⟩
    · have hf := Lib.hid (show I = -(p * (r - p) + q * (s - q)) ∧ J = (r - p) * (r - p) + (s - q) * (s - q) by
        rw [HI.out, HJ.out, decide_eq_true (by omega)]; exact ⟨rfl, rfl⟩)
      have hd2 : decide ((r - p) * (r - p) + (s - q) * (s - q) ≤ -(p * (r - p) + q * (s - q))) = false := decide_eq_false c2
      go_enter Try.func128, Try.ntmps128
      go_wp2_with fail
      refine (HP.out _).mono ?_
      rintro e w1 ⟨rfl, r1⟩
      have HB1 := Lib.hid (HB0.out.trans (r1.mono HB0.out.size))
      clear r1
      go_wp2_with fail
      go_ret2
      exact ⟨by rw [hf.out.1, hf.out.2]; rfl, HB1.out⟩
set_option maxRecDepth 100000 in
set_option maxHeartbeats 2000000 in
theorem apLeast_any (a1 a2 a3 a4 a5 b1 b2 b3 b4 b5 : Int) (w : World) (ha : okM a1 a2 a3 a4) (hb : okM b1 b2 b3 b4) :
    Calls Try.prog 156 #[(Value.agg #[Value.int .i64 a1, Value.int .i64 a2, Value.int .i64 a3, Value.int .i64 a4, Value.int .i64 a5]), (Value.agg #[Value.int .i64 b1, Value.int .i64 b2, Value.int .i64 b3, Value.int .i64 b4, Value.int .i64 b5])] w fun e w' =>
      e = .returned (.tuple #[.int .i64 (lpT (a1 - b1) (a2 - b2) (a3 - b3) (a4 - b4)), .int .i64 (lpB (a1 - b1) (a2 - b2) (a3 - b3) (a4 - b4))]) ∧ Below w.heap.size w w' := by
  have P := fun W => apEnds_any a1 a2 a3 a4 a5 b1 b2 b3 b4 b5 W ha hb
  have Q := fun W => apInner_any a1 a2 a3 a4 a5 b1 b2 b3 b4 b5 W ha hb
  obtain ⟨⟨h1, h2⟩, ⟨h3, h4⟩, ⟨h5, h6⟩, h7, h8⟩ := ha
  obtain ⟨⟨k1, k2⟩, ⟨k3, k4⟩, ⟨k5, k6⟩, k7, k8⟩ := hb
  have hw1 : wide 1280 (a1 - b1) (a2 - b2) := ⟨by omega, by omega, by omega, by omega⟩
  have hw2 : wide 1280 (a3 - b3) (a4 - b4) := ⟨by omega, by omega, by omega, by omega⟩
  obtain ⟨d1, d2, d3, d4, d5⟩ := dt_in hw1 hw2
  have d6 := sz0 (a1 - b1) (a2 - b2) (a3 - b3) (a4 - b4)
  have hcr := mul_wide (x := crOf (a1 - b1) (a2 - b2) (a3 - b3) (a4 - b4)) (y := crOf (a1 - b1) (a2 - b2) (a3 - b3) (a4 - b4)) (a := 6553600) (b := 6553600) (by omega) (by omega) (by omega) (by omega)
  have hcr0 := sq0 (crOf (a1 - b1) (a2 - b2) (a3 - b3) (a4 - b4))
  have hI : inT (a1 - b1) (a2 - b2) (a3 - b3) (a4 - b4) = if inMid (a1 - b1) (a2 - b2) (a3 - b3) (a4 - b4) = true then -dtOf (a1 - b1) (a2 - b2) (a3 - b3) (a4 - b4) else 0 := rfl
  have hJ : inU (a1 - b1) (a2 - b2) (a3 - b3) (a4 - b4) = if inMid (a1 - b1) (a2 - b2) (a3 - b3) (a4 - b4) = true then szOf (a1 - b1) (a2 - b2) (a3 - b3) (a4 - b4) else 0 := rfl
  have hT : lpT (a1 - b1) (a2 - b2) (a3 - b3) (a4 - b4) = if inMid (a1 - b1) (a2 - b2) (a3 - b3) (a4 - b4) = true then tmA (crOf (a1 - b1) (a2 - b2) (a3 - b3) (a4 - b4) * crOf (a1 - b1) (a2 - b2) (a3 - b3) (a4 - b4)) (szOf (a1 - b1) (a2 - b2) (a3 - b3) (a4 - b4)) else min ((a1 - b1) * (a1 - b1) + (a2 - b2) * (a2 - b2)) ((a3 - b3) * (a3 - b3) + (a4 - b4) * (a4 - b4)) := rfl
  have hU : lpB (a1 - b1) (a2 - b2) (a3 - b3) (a4 - b4) = if inMid (a1 - b1) (a2 - b2) (a3 - b3) (a4 - b4) = true then tmB (crOf (a1 - b1) (a2 - b2) (a3 - b3) (a4 - b4) * crOf (a1 - b1) (a2 - b2) (a3 - b3) (a4 - b4)) (szOf (a1 - b1) (a2 - b2) (a3 - b3) (a4 - b4)) else 1 := rfl
  have hce := cr_eq (a1 - b1) (a2 - b2) (a3 - b3) (a4 - b4)
  have hmy := mid_yes (px := a1 - b1) (py := a2 - b2) (qx := a3 - b3) (qy := a4 - b4)
  have m1 := mul_wide (x := a1 - b1) (y := a4 - b4) (a := 1280) (b := 1280) (by omega) (by omega) (by omega) (by omega)
  have m2 := mul_wide (x := a2 - b2) (y := a3 - b3) (a := 1280) (b := 1280) (by omega) (by omega) (by omega) (by omega)
  have m3 := mul_wide (x := a1 - b1) (y := a1 - b1) (a := 1280) (b := 1280) (by omega) (by omega) (by omega) (by omega)
  have m4 := mul_wide (x := a2 - b2) (y := a2 - b2) (a := 1280) (b := 1280) (by omega) (by omega) (by omega) (by omega)
  have m5 := mul_wide (x := a3 - b3) (y := a3 - b3) (a := 1280) (b := 1280) (by omega) (by omega) (by omega) (by omega)
  have m6 := mul_wide (x := a4 - b4) (y := a4 - b4) (a := 1280) (b := 1280) (by omega) (by omega) (by omega) (by omega)
  obtain ⟨T, eT⟩ : ∃ x, lpT (a1 - b1) (a2 - b2) (a3 - b3) (a4 - b4) = x := ⟨_, rfl⟩
  obtain ⟨U, eU⟩ : ∃ x, lpB (a1 - b1) (a2 - b2) (a3 - b3) (a4 - b4) = x := ⟨_, rfl⟩
  obtain ⟨I, eI⟩ : ∃ x, inT (a1 - b1) (a2 - b2) (a3 - b3) (a4 - b4) = x := ⟨_, rfl⟩
  obtain ⟨J, eJ⟩ : ∃ x, inU (a1 - b1) (a2 - b2) (a3 - b3) (a4 - b4) = x := ⟨_, rfl⟩
  obtain ⟨M, eM⟩ : ∃ x, inMid (a1 - b1) (a2 - b2) (a3 - b3) (a4 - b4) = x := ⟨_, rfl⟩
  obtain ⟨dt, edt⟩ : ∃ x, dtOf (a1 - b1) (a2 - b2) (a3 - b3) (a4 - b4) = x := ⟨_, rfl⟩
  obtain ⟨sz, esz⟩ : ∃ x, szOf (a1 - b1) (a2 - b2) (a3 - b3) (a4 - b4) = x := ⟨_, rfl⟩
  obtain ⟨cr, ecr⟩ : ∃ x, crOf (a1 - b1) (a2 - b2) (a3 - b3) (a4 - b4) = x := ⟨_, rfl⟩
  rw [eT, eM, ecr, esz] at hT
  rw [eU, eM, ecr, esz] at hU
  rw [eI, eM, edt] at hI
  rw [eJ, eM, esz] at hJ
  rw [eI, eJ] at Q
  rw [ecr] at hce hcr hcr0
  rw [eM, edt, esz] at hmy
  rw [esz] at d3 d6
  rw [edt] at d1 d2
  rw [eT, eU]
  obtain ⟨p, ep⟩ : ∃ x, a1 - b1 = x := ⟨_, rfl⟩
  obtain ⟨q, eq⟩ : ∃ x, a2 - b2 = x := ⟨_, rfl⟩
  obtain ⟨r, er⟩ : ∃ x, a3 - b3 = x := ⟨_, rfl⟩
  obtain ⟨s, es⟩ : ∃ x, a4 - b4 = x := ⟨_, rfl⟩
  clear d4 d5 hw1 hw2 eT eU eI eJ eM edt esz ecr
  rw [ep, eq, er, es] at P hT hce
  rw [ep] at m1 m3
  rw [eq] at m2 m4
  rw [er] at m2 m5
  rw [es] at m1 m6
  clear ep eq er es
  have HP := Lib.hid P
  have HQ := Lib.hid Q
  have K0 := Blk.new w 47 #[.int .i64 a1, .int .i64 a2, .int .i64 a3, .int .i64 a4, .int .i64 a5]
  replace K0 := K0.alloc (.cells #[.int .i64 b1, .int .i64 b2, .int .i64 b3, .int .i64 b4, .int .i64 b5] 47)
  have K1 := Blk.new2 w (.cells #[.int .i64 a1, .int .i64 a2, .int .i64 a3, .int .i64 a4, .int .i64 a5] 47) 47 #[.int .i64 b1, .int .i64 b2, .int .i64 b3, .int .i64 b4, .int .i64 b5]
  have HB0 := Lib.hid (below_new (below_new (Below.refl w.heap.size w) (.cells #[.int .i64 a1, .int .i64 a2, .int .i64 a3, .int .i64 a4, .int .i64 a5] 47)) (.cells #[.int .i64 b1, .int .i64 b2, .int .i64 b3, .int .i64 b4, .int .i64 b5] 47))
  replace K0 := Lib.hid K0
  replace K1 := Lib.hid K1
  clear P Q h1 h2 h3 h4 h5 h6 h7 h8 k1 k2 k3 k4 k5 k6 k7 k8
  cases M with
  | true =>
    have hmm := hmy rfl
    have hJ2 : J = sz := hJ
    subst hJ2
    have hJ0 : 0 < J := by omega
    have hf := Lib.hid (show T = tmA (cr * cr) J ∧ U = tmB (cr * cr) J from ⟨hT, hU⟩)
    have PL := Lib.hid (fun W => mvPart_any (cr * cr) J W hcr0 (by omega) hJ0 (by omega))
    clear hT hU hI hJ hmy hmm
    go_enter Try.func156, Try.ntmps156
    go_wp2_with fail
    refine (HP.out _).mono ?_
    rintro e w1 ⟨rfl, r1⟩
    have HB1 := Lib.hid (HB0.out.trans (r1.mono HB0.out.size))
    obtain ⟨p0, p1, p2, p3, p4⟩ := (K0.out.on r1).c5
    obtain ⟨q0, q1, q2, q3, q4⟩ := (K1.out.on r1).c5
    clear r1
    go_wp2_with fail
    refine (HQ.out _).mono ?_
    rintro e w2 ⟨rfl, r2⟩
    have HB2 := Lib.hid (below_on HB1.out r2)
    clear r2
    go_wp2_with fail
    refine (PL.out _).mono ?_
    rintro e w3 ⟨rfl, r3⟩
    have HB3 := Lib.hid (below_on HB2.out r3)
    clear r3
    go_wp2_with fail
    go_ret2
    exact ⟨by rw [hf.out.1, hf.out.2]; rfl, HB3.out⟩
  | false =>
    have hJ2 : J = 0 := hJ
    subst hJ2
    have hf := Lib.hid (show T = min (p * p + q * q) (r * r + s * s) ∧ U = 1 from ⟨hT, hU⟩)
    have PL := Lib.hid (fun W => l1Least_any (p * p + q * q) (r * r + s * s) W)
    clear hT hU hI hJ hmy
    go_enter Try.func156, Try.ntmps156
    go_wp2_with fail
    refine (HP.out _).mono ?_
    rintro e w1 ⟨rfl, r1⟩
    have HB1 := Lib.hid (HB0.out.trans (r1.mono HB0.out.size))
    obtain ⟨p0, p1, p2, p3, p4⟩ := (K0.out.on r1).c5
    obtain ⟨q0, q1, q2, q3, q4⟩ := (K1.out.on r1).c5
    clear r1
    go_wp2_with fail
    refine (HQ.out _).mono ?_
    rintro e w2 ⟨rfl, r2⟩
    have HB2 := Lib.hid (below_on HB1.out r2)
    clear r2
    go_wp2_with fail
    refine (PL.out _).mono ?_
    rintro e w3 ⟨rfl, rfl⟩
    go_wp2_with fail
    go_ret2
    exact ⟨by rw [hf.out.1, hf.out.2]; rfl, HB2.out⟩
set_option maxHeartbeats 1000000 in
theorem apStay_any (a1 a2 a3 a4 a5 b1 b2 b3 b4 b5 L : Int) (w : World) (ha : okM a1 a2 a3 a4) (hb : okM b1 b2 b3 b4) (hL0 : 0 ≤ L) (hL : L ≤ 80) :
    Calls Try.prog 126 #[(Value.agg #[Value.int .i64 a1, Value.int .i64 a2, Value.int .i64 a3, Value.int .i64 a4, Value.int .i64 a5]), (Value.agg #[Value.int .i64 b1, Value.int .i64 b2, Value.int .i64 b3, Value.int .i64 b4, Value.int .i64 b5]), .int .i64 L] w fun e w' => e = .returned (.bool (saB a1 a2 a3 a4 b1 b2 b3 b4 L)) ∧ Below w.heap.size w w' := by
  have P := fun W => apLeast_any a1 a2 a3 a4 a5 b1 b2 b3 b4 b5 W ha hb
  have hl := lp_bounds ha hb
  have hS : saB a1 a2 a3 a4 b1 b2 b3 b4 L = decide (L * L * lpB (a1 - b1) (a2 - b2) (a3 - b3) (a4 - b4) ≤ lpT (a1 - b1) (a2 - b2) (a3 - b3) (a4 - b4)) := rfl
  obtain ⟨T, eT⟩ : ∃ x, lpT (a1 - b1) (a2 - b2) (a3 - b3) (a4 - b4) = x := ⟨_, rfl⟩
  obtain ⟨U, eU⟩ : ∃ x, lpB (a1 - b1) (a2 - b2) (a3 - b3) (a4 - b4) = x := ⟨_, rfl⟩
  rw [eT, eU] at P hl hS
  have HS := Lib.hid hS
  have HP := Lib.hid P
  obtain ⟨l1, l2, l3, l4⟩ := hl
  have m1 := mul_wide (x := L) (y := L) (a := 80) (b := 80) (by omega) (by omega) (by omega) (by omega)
  have m2 := mul_wide (x := L * L) (y := U) (a := 6400) (b := 13107200) (by omega) (by omega) (by omega) (by omega)
  have HB0 := Lib.hid (below_new (below_new (Below.refl w.heap.size w) (.cells #[.int .i64 a1, .int .i64 a2, .int .i64 a3, .int .i64 a4, .int .i64 a5] 47)) (.cells #[.int .i64 b1, .int .i64 b2, .int .i64 b3, .int .i64 b4, .int .i64 b5] 47))
  clear P hS eT eU ha hb
  by_cases hle : L * L * U ≤ T
  · have hf := Lib.hid (HS.out.trans (decide_eq_true hle))
    have hd : decide (L * L * U ≤ T) = true := decide_eq_true hle
    go_enter Try.func126, Try.ntmps126
    go_wp2_with fail
    refine (HP.out _).mono ?_
    rintro e w1 ⟨rfl, r1⟩
    have HB1 := Lib.hid (HB0.out.trans (r1.mono HB0.out.size))
    clear r1
    go_wp2_with fail
    go_ret
    exact ⟨by rw [hf.out]; rfl, HB1.out⟩
  · have hf := Lib.hid (HS.out.trans (decide_eq_false hle))
    have hd : decide (L * L * U ≤ T) = false := decide_eq_false hle
    go_enter Try.func126, Try.ntmps126
    go_wp2_with fail
    refine (HP.out _).mono ?_
    rintro e w1 ⟨rfl, r1⟩
    have HB1 := Lib.hid (HB0.out.trans (r1.mono HB0.out.size))
    clear r1
    go_wp2_with fail
    go_ret
    exact ⟨by rw [hf.out]; rfl, HB1.out⟩
end Go.Proofs.Ytjcepipgjpaclaa

namespace Go.Proofs.Ytjcepipgjpaclaa
open Go.RowKit

theorem ok_of {x y z u c : Int} (h : mvB x y z u c = true) : okM x y z u ∧ 1 ≤ c ∧ c ≤ 64 := by
  have := mvB_yes h
  exact ⟨⟨⟨by omega, by omega⟩, ⟨by omega, by omega⟩, ⟨by omega, by omega⟩, by omega, by omega⟩, by omega, by omega⟩
set_option maxHeartbeats 1000000 in
theorem goTogether_any (a1 a2 a3 a4 b1 b2 b3 b4 c : Int) (w : World) (ha : mvB a1 a2 a3 a4 c = true) (hb : mvB b1 b2 b3 b4 c = true) :
    Calls Try.prog 80 #[(Value.agg #[Value.int .i64 a1, Value.int .i64 a2, Value.int .i64 a3, Value.int .i64 a4, Value.int .i64 c]), (Value.agg #[Value.int .i64 b1, Value.int .i64 b2, Value.int .i64 b3, Value.int .i64 b4, Value.int .i64 c])] w fun e w' => e = .returned (.bool true) ∧ Below w.heap.size w w' := by
  have P := fun W => IsMove_any a1 a2 a3 a4 c W
  have Q := fun W => IsMove_any b1 b2 b3 b4 c W
  rw [ha] at P
  rw [hb] at Q
  have HP := Lib.hid P
  have HQ := Lib.hid Q
  have hcc : (c == c) = true := by simp
  clear P Q ha hb
  have K0 := (Blk.new w 47 #[.int .i64 a1, .int .i64 a2, .int .i64 a3, .int .i64 a4, .int .i64 c]).alloc (.cells #[.int .i64 b1, .int .i64 b2, .int .i64 b3, .int .i64 b4, .int .i64 c] 47)
  have K1 := Blk.new2 w (.cells #[.int .i64 a1, .int .i64 a2, .int .i64 a3, .int .i64 a4, .int .i64 c] 47) 47 #[.int .i64 b1, .int .i64 b2, .int .i64 b3, .int .i64 b4, .int .i64 c]
  have HB0 := Lib.hid (below_new (below_new (Below.refl w.heap.size w) (.cells #[.int .i64 a1, .int .i64 a2, .int .i64 a3, .int .i64 a4, .int .i64 c] 47)) (.cells #[.int .i64 b1, .int .i64 b2, .int .i64 b3, .int .i64 b4, .int .i64 c] 47))
  replace K0 := Lib.hid K0
  replace K1 := Lib.hid K1
  obtain ⟨p0, p1, p2, p3, p4⟩ := K0.out.c5
  obtain ⟨q0, q1, q2, q3, q4⟩ := K1.out.c5
  go_enter Try.func80, Try.ntmps80
  go_wp2_with fail
  refine (HP.out _).mono ?_
  rintro e w1 ⟨rfl, r1⟩
  clear p0 p1 p2 p3 p4 q0 q1 q2 q3 q4
  have HB1 := Lib.hid (HB0.out.trans (r1.mono HB0.out.size))
  replace K0 := Lib.hid (K0.out.on r1)
  replace K1 := Lib.hid (K1.out.on r1)
  clear HB0 r1
  have HB0 := HB1
  clear HB1
  obtain ⟨p0, p1, p2, p3, p4⟩ := K0.out.c5
  obtain ⟨q0, q1, q2, q3, q4⟩ := K1.out.c5
  go_wp2_with fail
  refine (HQ.out _).mono ?_
  rintro e w2 ⟨rfl, r1⟩
  clear p0 p1 p2 p3 p4 q0 q1 q2 q3 q4
  have HB1 := Lib.hid (HB0.out.trans (r1.mono HB0.out.size))
  replace K0 := Lib.hid (K0.out.on r1)
  replace K1 := Lib.hid (K1.out.on r1)
  clear HB0 r1
  have HB0 := HB1
  clear HB1
  obtain ⟨p0, p1, p2, p3, p4⟩ := K0.out.c5
  obtain ⟨q0, q1, q2, q3, q4⟩ := K1.out.c5
  go_wp2_with fail
  go_ret
  exact ⟨rfl, HB0.out⟩
set_option maxHeartbeats 1000000 in
theorem apGood_any (a1 a2 a3 a4 b1 b2 b3 b4 c : Int) (w : World) (ha : mvB a1 a2 a3 a4 c = true) (hb : mvB b1 b2 b3 b4 c = true) :
    Calls Try.prog 127 #[(Value.agg #[Value.int .i64 a1, Value.int .i64 a2, Value.int .i64 a3, Value.int .i64 a4, Value.int .i64 c]), (Value.agg #[Value.int .i64 b1, Value.int .i64 b2, Value.int .i64 b3, Value.int .i64 b4, Value.int .i64 c])] w fun e w' => e = .returned (.bool true) ∧ Below w.heap.size w w' := by
  have P := fun W => mvGood_any a1 a2 a3 a4 c W
  have Q := fun W => mvGood_any b1 b2 b3 b4 c W
  rw [ha] at P
  rw [hb] at Q
  have HP := Lib.hid P
  have HQ := Lib.hid Q
  have hcc : (c == c) = true := by simp
  clear P Q ha hb
  have K0 := (Blk.new w 47 #[.int .i64 a1, .int .i64 a2, .int .i64 a3, .int .i64 a4, .int .i64 c]).alloc (.cells #[.int .i64 b1, .int .i64 b2, .int .i64 b3, .int .i64 b4, .int .i64 c] 47)
  have K1 := Blk.new2 w (.cells #[.int .i64 a1, .int .i64 a2, .int .i64 a3, .int .i64 a4, .int .i64 c] 47) 47 #[.int .i64 b1, .int .i64 b2, .int .i64 b3, .int .i64 b4, .int .i64 c]
  have HB0 := Lib.hid (below_new (below_new (Below.refl w.heap.size w) (.cells #[.int .i64 a1, .int .i64 a2, .int .i64 a3, .int .i64 a4, .int .i64 c] 47)) (.cells #[.int .i64 b1, .int .i64 b2, .int .i64 b3, .int .i64 b4, .int .i64 c] 47))
  replace K0 := Lib.hid K0
  replace K1 := Lib.hid K1
  obtain ⟨p0, p1, p2, p3, p4⟩ := K0.out.c5
  obtain ⟨q0, q1, q2, q3, q4⟩ := K1.out.c5
  go_enter Try.func127, Try.ntmps127
  go_wp2_with fail
  refine (HP.out _).mono ?_
  rintro e w1 ⟨rfl, r1⟩
  clear p0 p1 p2 p3 p4 q0 q1 q2 q3 q4
  have HB1 := Lib.hid (HB0.out.trans (r1.mono HB0.out.size))
  replace K0 := Lib.hid (K0.out.on r1)
  replace K1 := Lib.hid (K1.out.on r1)
  clear HB0 r1
  have HB0 := HB1
  clear HB1
  obtain ⟨p0, p1, p2, p3, p4⟩ := K0.out.c5
  obtain ⟨q0, q1, q2, q3, q4⟩ := K1.out.c5
  go_wp2_with fail
  refine (HQ.out _).mono ?_
  rintro e w2 ⟨rfl, r1⟩
  clear p0 p1 p2 p3 p4 q0 q1 q2 q3 q4
  have HB1 := Lib.hid (HB0.out.trans (r1.mono HB0.out.size))
  replace K0 := Lib.hid (K0.out.on r1)
  replace K1 := Lib.hid (K1.out.on r1)
  clear HB0 r1
  have HB0 := HB1
  clear HB1
  obtain ⟨p0, p1, p2, p3, p4⟩ := K0.out.c5
  obtain ⟨q0, q1, q2, q3, q4⟩ := K1.out.c5
  go_wp2_with fail
  go_ret
  exact ⟨rfl, HB0.out⟩
set_option maxRecDepth 100000 in
set_option maxHeartbeats 2000000 in
theorem ClosestTime_any (a1 a2 a3 a4 b1 b2 b3 b4 c : Int) (w : World) (ha : mvB a1 a2 a3 a4 c = true) (hb : mvB b1 b2 b3 b4 c = true) :
    Calls Try.prog 29 #[(Value.agg #[Value.int .i64 a1, Value.int .i64 a2, Value.int .i64 a3, Value.int .i64 a4, Value.int .i64 c]), (Value.agg #[Value.int .i64 b1, Value.int .i64 b2, Value.int .i64 b3, Value.int .i64 b4, Value.int .i64 c])] w fun e w' =>
      e = .returned (.tuple #[.int .i64 (tmT (a1 - b1) (a2 - b2) (a3 - b3) (a4 - b4) c), .int .i64 (tmU (a1 - b1) (a2 - b2) (a3 - b3) (a4 - b4) c), .bool true]) ∧ Below w.heap.size w w' := by
  have P := fun W => goTogether_any a1 a2 a3 a4 b1 b2 b3 b4 c W ha hb
  have hoa := ok_of ha
  have hob := ok_of hb
  have Q := fun W => between_any a1 a2 a3 a4 c b1 b2 b3 b4 c W hoa.1 hob.1
  have R := fun W => between_any a1 a2 a3 a4 c b1 b2 b3 b4 c W hoa.1 hob.1
  obtain ⟨ha, hc0, hc⟩ := hoa
  obtain ⟨hb, _, _⟩ := hob
  obtain ⟨⟨h1, h2⟩, ⟨h3, h4⟩, ⟨h5, h6⟩, h7, h8⟩ := ha
  obtain ⟨⟨k1, k2⟩, ⟨k3, k4⟩, ⟨k5, k6⟩, k7, k8⟩ := hb
  have hw1 : wide 1280 (a1 - b1) (a2 - b2) := ⟨by omega, by omega, by omega, by omega⟩
  have hw2 : wide 1280 (a3 - b3) (a4 - b4) := ⟨by omega, by omega, by omega, by omega⟩
  obtain ⟨d1, d2, d3, d4, d5⟩ := dt_in hw1 hw2
  have d6 := sz0 (a1 - b1) (a2 - b2) (a3 - b3) (a4 - b4)
  have hcr := mul_wide (x := crOf (a1 - b1) (a2 - b2) (a3 - b3) (a4 - b4)) (y := crOf (a1 - b1) (a2 - b2) (a3 - b3) (a4 - b4)) (a := 6553600) (b := 6553600) (by omega) (by omega) (by omega) (by omega)
  have hcr0 := sq0 (crOf (a1 - b1) (a2 - b2) (a3 - b3) (a4 - b4))
  have hes := end_sq (a1 - b1) (a2 - b2) (a3 - b3) (a4 - b4)
  have hmid := lp_mid (px := a1 - b1) (py := a2 - b2) (qx := a3 - b3) (qy := a4 - b4)
  have hmy := mid_yes (px := a1 - b1) (py := a2 - b2) (qx := a3 - b3) (qy := a4 - b4)
  have hT : tmT (a1 - b1) (a2 - b2) (a3 - b3) (a4 - b4) c = if inMid (a1 - b1) (a2 - b2) (a3 - b3) (a4 - b4) = true then tmA (-dtOf (a1 - b1) (a2 - b2) (a3 - b3) (a4 - b4) * c) (szOf (a1 - b1) (a2 - b2) (a3 - b3) (a4 - b4)) else if (a3 - b3) * (a3 - b3) + (a4 - b4) * (a4 - b4) < (a1 - b1) * (a1 - b1) + (a2 - b2) * (a2 - b2) then c else 0 := rfl
  have hU : tmU (a1 - b1) (a2 - b2) (a3 - b3) (a4 - b4) c = if inMid (a1 - b1) (a2 - b2) (a3 - b3) (a4 - b4) = true then tmB (-dtOf (a1 - b1) (a2 - b2) (a3 - b3) (a4 - b4) * c) (szOf (a1 - b1) (a2 - b2) (a3 - b3) (a4 - b4)) else 1 := rfl
  obtain ⟨T, eT⟩ : ∃ x, tmT (a1 - b1) (a2 - b2) (a3 - b3) (a4 - b4) c = x := ⟨_, rfl⟩
  obtain ⟨U, eU⟩ : ∃ x, tmU (a1 - b1) (a2 - b2) (a3 - b3) (a4 - b4) c = x := ⟨_, rfl⟩
  obtain ⟨dt, edt⟩ : ∃ x, dtOf (a1 - b1) (a2 - b2) (a3 - b3) (a4 - b4) = x := ⟨_, rfl⟩
  obtain ⟨sz, esz⟩ : ∃ x, szOf (a1 - b1) (a2 - b2) (a3 - b3) (a4 - b4) = x := ⟨_, rfl⟩
  obtain ⟨M, eM⟩ : ∃ x, inMid (a1 - b1) (a2 - b2) (a3 - b3) (a4 - b4) = x := ⟨_, rfl⟩
  rw [eT, eM, edt, esz] at hT
  rw [eU, eM, edt, esz] at hU
  rw [edt, esz] at Q hmy hmid hes
  rw [eM] at hmy hmid
  rw [esz] at d3 d6
  rw [edt] at d1 d2
  rw [eT, eU]
  have m1 := mul_wide (x := -dt) (y := c) (a := 6553600) (b := 64) (by omega) (by omega) (by omega) (by omega)
  have HP := Lib.hid P
  have HQ := Lib.hid Q
  clear P Q R eT eU eM edt esz d4 d5 hcr hcr0 hw1 hw2
  have K0 := (Blk.new w 47 #[.int .i64 a1, .int .i64 a2, .int .i64 a3, .int .i64 a4, .int .i64 c]).alloc (.cells #[.int .i64 b1, .int .i64 b2, .int .i64 b3, .int .i64 b4, .int .i64 c] 47)
  have K1 := Blk.new2 w (.cells #[.int .i64 a1, .int .i64 a2, .int .i64 a3, .int .i64 a4, .int .i64 c] 47) 47 #[.int .i64 b1, .int .i64 b2, .int .i64 b3, .int .i64 b4, .int .i64 c]
  have HB0 := Lib.hid (below_new (below_new (Below.refl w.heap.size w) (.cells #[.int .i64 a1, .int .i64 a2, .int .i64 a3, .int .i64 a4, .int .i64 c] 47)) (.cells #[.int .i64 b1, .int .i64 b2, .int .i64 b3, .int .i64 b4, .int .i64 c] 47))
  replace K0 := Lib.hid K0
  replace K1 := Lib.hid K1
  obtain ⟨p0, p1, p2, p3, p4⟩ := K0.out.c5
  obtain ⟨q0, q1, q2, q3, q4⟩ := K1.out.c5
  by_cases c1 : 0 ≤ dt
  · have hf := Lib.hid (show T = 0 ∧ U = 1 by
      have hM : M = false := by
        cases M with
        | false => rfl
        | true => have := hmy rfl; omega
      rw [hM] at hT hU
      rw [hT, hU]
      simp only [Bool.false_eq_true, if_false]
      rw [if_neg (by omega)]
      exact ⟨by rfl, by trivial⟩)
    clear hT hU hmy hmid hes
    go_enter Try.func29, Try.ntmps29
    go_wp2_with fail
    refine (HP.out _).mono ?_
    rintro e w1 ⟨rfl, r1⟩
    clear p0 p1 p2 p3 p4 q0 q1 q2 q3 q4
    have HB1 := Lib.hid (HB0.out.trans (r1.mono HB0.out.size))
    replace K0 := Lib.hid (K0.out.on r1)
    replace K1 := Lib.hid (K1.out.on r1)
    clear HB0 r1
    have HB0 := HB1
    clear HB1
    obtain ⟨p0, p1, p2, p3, p4⟩ := K0.out.c5
    obtain ⟨q0, q1, q2, q3, q4⟩ := K1.out.c5
    go_wp2_with fail
    refine (HQ.out _).mono ?_
    rintro e w2 ⟨rfl, r1⟩
    clear p0 p1 p2 p3 p4 q0 q1 q2 q3 q4
    have HB1 := Lib.hid (HB0.out.trans (r1.mono HB0.out.size))
    replace K0 := Lib.hid (K0.out.on r1)
    replace K1 := Lib.hid (K1.out.on r1)
    clear HB0 r1
    have HB0 := HB1
    clear HB1
    go_wp2_with fail
    exact bodyPost_ret (v := .tuple #[.int .i64 0, .int .i64 1, .bool true]) (by simp [results, Try.results29, go_sem]) rfl ⟨by rw [hf.out.1, hf.out.2], below_new (below_new HB0.out _) _⟩
  · by_cases c2 : sz ≤ -dt
    · have hf := Lib.hid (show T = c ∧ U = 1 by
        have hM : M = false := by
          cases M with
          | false => rfl
          | true => have := hmy rfl; omega
        rw [hM] at hT hU
        rw [hT, hU]
        simp only [Bool.false_eq_true, if_false]
        rw [if_pos (by omega)]
        exact ⟨by rfl, by trivial⟩)
      clear hT hU hmy hmid hes
      go_enter Try.func29, Try.ntmps29
      go_wp2_with fail
      refine (HP.out _).mono ?_
      rintro e w1 ⟨rfl, r1⟩
      clear p0 p1 p2 p3 p4 q0 q1 q2 q3 q4
      have HB1 := Lib.hid (HB0.out.trans (r1.mono HB0.out.size))
      replace K0 := Lib.hid (K0.out.on r1)
      replace K1 := Lib.hid (K1.out.on r1)
      clear HB0 r1
      have HB0 := HB1
      clear HB1
      obtain ⟨p0, p1, p2, p3, p4⟩ := K0.out.c5
      obtain ⟨q0, q1, q2, q3, q4⟩ := K1.out.c5
      go_wp2_with fail
      refine (HQ.out _).mono ?_
      rintro e w2 ⟨rfl, r1⟩
      clear p0 p1 p2 p3 p4 q0 q1 q2 q3 q4
      have HB1 := Lib.hid (HB0.out.trans (r1.mono HB0.out.size))
      replace K0 := Lib.hid (K0.out.on r1)
      replace K1 := Lib.hid (K1.out.on r1)
      clear HB0 r1
      have HB0 := HB1
      clear HB1
      obtain ⟨p0, p1, p2, p3, p4⟩ := ((K0.out.alloc (.cells #[.int .i64 (a1 - b1), .int .i64 (a2 - b2)] 45)).alloc (.cells #[.int .i64 (a3 - b3 - (a1 - b1)), .int .i64 (a4 - b4 - (a2 - b2))] 45)).c5
      go_wp2_with fail
      exact bodyPost_ret (v := .tuple #[.int .i64 c, .int .i64 1, .bool true]) (by simp [results, Try.results29, go_sem]) rfl ⟨by rw [hf.out.1, hf.out.2], below_new (below_new HB0.out _) _⟩
    · have hf := Lib.hid (show T = tmA (-dt * c) sz ∧ U = tmB (-dt * c) sz by
        have hM : M = true := hmid (by omega) (by omega)
        rw [hM] at hT hU
        rw [hT, hU]; exact ⟨rfl, rfl⟩)
      have hm0 : 0 ≤ -dt * c := Int.mul_nonneg (by omega) (by omega)
      have PL := Lib.hid (fun W => lowestTerms_any (-dt * c) sz W hm0 (by omega) (by omega) (by omega))
      clear hT hU hmy hmid hes
      go_enter Try.func29, Try.ntmps29
      go_wp2_with fail
      refine (HP.out _).mono ?_
      rintro e w1 ⟨rfl, r1⟩
      clear p0 p1 p2 p3 p4 q0 q1 q2 q3 q4
      have HB1 := Lib.hid (HB0.out.trans (r1.mono HB0.out.size))
      replace K0 := Lib.hid (K0.out.on r1)
      replace K1 := Lib.hid (K1.out.on r1)
      clear HB0 r1
      have HB0 := HB1
      clear HB1
      obtain ⟨p0, p1, p2, p3, p4⟩ := K0.out.c5
      obtain ⟨q0, q1, q2, q3, q4⟩ := K1.out.c5
      go_wp2_with fail
      refine (HQ.out _).mono ?_
      rintro e w2 ⟨rfl, r1⟩
      clear p0 p1 p2 p3 p4 q0 q1 q2 q3 q4
      have HB1 := Lib.hid (HB0.out.trans (r1.mono HB0.out.size))
      replace K0 := Lib.hid (K0.out.on r1)
      replace K1 := Lib.hid (K1.out.on r1)
      clear HB0 r1
      have HB0 := HB1
      clear HB1
      obtain ⟨p0, p1, p2, p3, p4⟩ := ((K0.out.alloc (.cells #[.int .i64 (a1 - b1), .int .i64 (a2 - b2)] 45)).alloc (.cells #[.int .i64 (a3 - b3 - (a1 - b1)), .int .i64 (a4 - b4 - (a2 - b2))] 45)).c5
      go_wp2_with fail
      refine (PL.out _).mono ?_
      rintro e w3 ⟨rfl, r2⟩
      have HB3 := Lib.hid (below_on (below_new (below_new HB0.out _) _) r2)
      clear r2
      go_wp2_with fail
      exact bodyPost_ret (v := .tuple #[.int .i64 (tmA (-dt * c) sz), .int .i64 (tmB (-dt * c) sz), .bool true]) (by simp [results, Try.results29, go_sem]) rfl ⟨by rw [hf.out.1, hf.out.2], HB3.out⟩
set_option maxRecDepth 100000 in
set_option maxHeartbeats 2000000 in
theorem specClosestTime_any (a1 a2 a3 a4 b1 b2 b3 b4 c : Int) (w : World) (ha : mvB a1 a2 a3 a4 c = true) (hb : mvB b1 b2 b3 b4 c = true) :
    Calls Try.prog 78 #[(Value.agg #[Value.int .i64 a1, Value.int .i64 a2, Value.int .i64 a3, Value.int .i64 a4, Value.int .i64 c]), (Value.agg #[Value.int .i64 b1, Value.int .i64 b2, Value.int .i64 b3, Value.int .i64 b4, Value.int .i64 c])] w fun e w' =>
      e = .returned (.tuple #[.int .i64 (tmT (a1 - b1) (a2 - b2) (a3 - b3) (a4 - b4) c), .int .i64 (tmU (a1 - b1) (a2 - b2) (a3 - b3) (a4 - b4) c), .bool true]) ∧ Below w.heap.size w w' := by
  have P := fun W => apGood_any a1 a2 a3 a4 b1 b2 b3 b4 c W ha hb
  have hoa := ok_of ha
  have hob := ok_of hb
  have Q := fun W => apInner_any a1 a2 a3 a4 c b1 b2 b3 b4 c W hoa.1 hob.1
  have R := fun W => apEnds_any a1 a2 a3 a4 c b1 b2 b3 b4 c W hoa.1 hob.1
  obtain ⟨ha, hc0, hc⟩ := hoa
  obtain ⟨hb, _, _⟩ := hob
  obtain ⟨⟨h1, h2⟩, ⟨h3, h4⟩, ⟨h5, h6⟩, h7, h8⟩ := ha
  obtain ⟨⟨k1, k2⟩, ⟨k3, k4⟩, ⟨k5, k6⟩, k7, k8⟩ := hb
  have hw1 : wide 1280 (a1 - b1) (a2 - b2) := ⟨by omega, by omega, by omega, by omega⟩
  have hw2 : wide 1280 (a3 - b3) (a4 - b4) := ⟨by omega, by omega, by omega, by omega⟩
  obtain ⟨d1, d2, d3, d4, d5⟩ := dt_in hw1 hw2
  have d6 := sz0 (a1 - b1) (a2 - b2) (a3 - b3) (a4 - b4)
  have hcr := mul_wide (x := crOf (a1 - b1) (a2 - b2) (a3 - b3) (a4 - b4)) (y := crOf (a1 - b1) (a2 - b2) (a3 - b3) (a4 - b4)) (a := 6553600) (b := 6553600) (by omega) (by omega) (by omega) (by omega)
  have hcr0 := sq0 (crOf (a1 - b1) (a2 - b2) (a3 - b3) (a4 - b4))
  have hes := end_sq (a1 - b1) (a2 - b2) (a3 - b3) (a4 - b4)
  have hmid := lp_mid (px := a1 - b1) (py := a2 - b2) (qx := a3 - b3) (qy := a4 - b4)
  have hmy := mid_yes (px := a1 - b1) (py := a2 - b2) (qx := a3 - b3) (qy := a4 - b4)
  have hT : tmT (a1 - b1) (a2 - b2) (a3 - b3) (a4 - b4) c = if inMid (a1 - b1) (a2 - b2) (a3 - b3) (a4 - b4) = true then tmA (-dtOf (a1 - b1) (a2 - b2) (a3 - b3) (a4 - b4) * c) (szOf (a1 - b1) (a2 - b2) (a3 - b3) (a4 - b4)) else if (a3 - b3) * (a3 - b3) + (a4 - b4) * (a4 - b4) < (a1 - b1) * (a1 - b1) + (a2 - b2) * (a2 - b2) then c else 0 := rfl
  have hU : tmU (a1 - b1) (a2 - b2) (a3 - b3) (a4 - b4) c = if inMid (a1 - b1) (a2 - b2) (a3 - b3) (a4 - b4) = true then tmB (-dtOf (a1 - b1) (a2 - b2) (a3 - b3) (a4 - b4) * c) (szOf (a1 - b1) (a2 - b2) (a3 - b3) (a4 - b4)) else 1 := rfl
  obtain ⟨T, eT⟩ : ∃ x, tmT (a1 - b1) (a2 - b2) (a3 - b3) (a4 - b4) c = x := ⟨_, rfl⟩
  obtain ⟨U, eU⟩ : ∃ x, tmU (a1 - b1) (a2 - b2) (a3 - b3) (a4 - b4) c = x := ⟨_, rfl⟩
  obtain ⟨dt, edt⟩ : ∃ x, dtOf (a1 - b1) (a2 - b2) (a3 - b3) (a4 - b4) = x := ⟨_, rfl⟩
  obtain ⟨sz, esz⟩ : ∃ x, szOf (a1 - b1) (a2 - b2) (a3 - b3) (a4 - b4) = x := ⟨_, rfl⟩
  obtain ⟨M, eM⟩ : ∃ x, inMid (a1 - b1) (a2 - b2) (a3 - b3) (a4 - b4) = x := ⟨_, rfl⟩
  have hI : inT (a1 - b1) (a2 - b2) (a3 - b3) (a4 - b4) = if inMid (a1 - b1) (a2 - b2) (a3 - b3) (a4 - b4) = true then -dtOf (a1 - b1) (a2 - b2) (a3 - b3) (a4 - b4) else 0 := rfl
  have hJ : inU (a1 - b1) (a2 - b2) (a3 - b3) (a4 - b4) = if inMid (a1 - b1) (a2 - b2) (a3 - b3) (a4 - b4) = true then szOf (a1 - b1) (a2 - b2) (a3 - b3) (a4 - b4) else 0 := rfl
  obtain ⟨I, eI⟩ : ∃ x, inT (a1 - b1) (a2 - b2) (a3 - b3) (a4 - b4) = x := ⟨_, rfl⟩
  obtain ⟨J, eJ⟩ : ∃ x, inU (a1 - b1) (a2 - b2) (a3 - b3) (a4 - b4) = x := ⟨_, rfl⟩
  rw [eI, eM, edt] at hI
  rw [eJ, eM, esz] at hJ
  rw [eI, eJ] at Q
  rw [eT, eM, edt, esz] at hT
  rw [eU, eM, edt, esz] at hU
  rw [edt, esz] at hmy
  rw [eM] at hmy
  rw [esz] at d3 d6
  rw [edt] at d1 d2
  rw [eT, eU]
  have n1 := mul_wide (x := a1 - b1) (y := a1 - b1) (a := 1280) (b := 1280) (by omega) (by omega) (by omega) (by omega)
  have n2 := mul_wide (x := a2 - b2) (y := a2 - b2) (a := 1280) (b := 1280) (by omega) (by omega) (by omega) (by omega)
  have n3 := mul_wide (x := a3 - b3) (y := a3 - b3) (a := 1280) (b := 1280) (by omega) (by omega) (by omega) (by omega)
  have n4 := mul_wide (x := a4 - b4) (y := a4 - b4) (a := 1280) (b := 1280) (by omega) (by omega) (by omega) (by omega)
  obtain ⟨p, ep⟩ : ∃ x, a1 - b1 = x := ⟨_, rfl⟩
  obtain ⟨q, eq⟩ : ∃ x, a2 - b2 = x := ⟨_, rfl⟩
  obtain ⟨r, er⟩ : ∃ x, a3 - b3 = x := ⟨_, rfl⟩
  obtain ⟨s, es⟩ : ∃ x, a4 - b4 = x := ⟨_, rfl⟩
  clear d4 d5 hcr hcr0 hw1 hw2 eT eU eM edt esz eI eJ hmid hes
  rw [ep, eq, er, es] at R hT
  rw [ep] at n1
  rw [eq] at n2
  rw [er] at n3
  rw [es] at n4
  clear ep eq er es
  have HP := Lib.hid P
  have HQ := Lib.hid Q
  have HR := Lib.hid R
  clear P Q R h1 h2 h3 h4 h5 h6 h7 h8 k1 k2 k3 k4 k5 k6 k7 k8 ha hb
  have K0 := (Blk.new w 47 #[.int .i64 a1, .int .i64 a2, .int .i64 a3, .int .i64 a4, .int .i64 c]).alloc (.cells #[.int .i64 b1, .int .i64 b2, .int .i64 b3, .int .i64 b4, .int .i64 c] 47)
  have K1 := Blk.new2 w (.cells #[.int .i64 a1, .int .i64 a2, .int .i64 a3, .int .i64 a4, .int .i64 c] 47) 47 #[.int .i64 b1, .int .i64 b2, .int .i64 b3, .int .i64 b4, .int .i64 c]
  have HB0 := Lib.hid (below_new (below_new (Below.refl w.heap.size w) (.cells #[.int .i64 a1, .int .i64 a2, .int .i64 a3, .int .i64 a4, .int .i64 c] 47)) (.cells #[.int .i64 b1, .int .i64 b2, .int .i64 b3, .int .i64 b4, .int .i64 c] 47))
  replace K0 := Lib.hid K0
  replace K1 := Lib.hid K1
  obtain ⟨p0, p1, p2, p3, p4⟩ := K0.out.c5
  obtain ⟨q0, q1, q2, q3, q4⟩ := K1.out.c5
  cases M with
  | true =>
    have hmm := hmy rfl
    have hJ2 : J = sz := hJ
    have hI2 : I = -dt := hI
    subst hJ2
    have hI0 : 0 ≤ I ∧ I ≤ 6553600 := by omega
    have m1 := mul_wide (x := I) (y := c) (a := 6553600) (b := 64) (by omega) (by omega) (by omega) (by omega)
    have hm0 : 0 ≤ I * c := Int.mul_nonneg (by omega) (by omega)
    have hJ0 : 0 < J := by omega
    have hf := Lib.hid (show T = tmA (I * c) J ∧ U = tmB (I * c) J by rw [hI2]; exact ⟨hT, hU⟩)
    have PL := Lib.hid (fun W => mvPart_any (I * c) J W hm0 (by omega) hJ0 (by omega))
    clear hT hU hI hJ hmy hmm hI2
    go_enter Try.func78, Try.ntmps78
    go_wp2_with fail
    refine (HP.out _).mono ?_
    rintro e w1 ⟨rfl, r1⟩
    clear p0 p1 p2 p3 p4 q0 q1 q2 q3 q4
    have HB1 := Lib.hid (HB0.out.trans (r1.mono HB0.out.size))
    replace K0 := Lib.hid (K0.out.on r1)
    replace K1 := Lib.hid (K1.out.on r1)
    clear HB0 r1
    have HB0 := HB1
    clear HB1
    obtain ⟨p0, p1, p2, p3, p4⟩ := K0.out.c5
    obtain ⟨q0, q1, q2, q3, q4⟩ := K1.out.c5
    go_wp2_with fail
    refine (HQ.out _).mono ?_
    rintro e w2 ⟨rfl, r1⟩
    clear p0 p1 p2 p3 p4 q0 q1 q2 q3 q4
    have HB1 := Lib.hid (HB0.out.trans (r1.mono HB0.out.size))
    replace K0 := Lib.hid (K0.out.on r1)
    replace K1 := Lib.hid (K1.out.on r1)
    clear HB0 r1
    have HB0 := HB1
    clear HB1
    obtain ⟨p0, p1, p2, p3, p4⟩ := K0.out.c5
    obtain ⟨q0, q1, q2, q3, q4⟩ := K1.out.c5
    go_wp2_with fail
    refine (PL.out _).mono ?_
    rintro e w3 ⟨rfl, r2⟩
    have HB3 := Lib.hid (below_on HB0.out r2)
    clear r2
    go_wp2_with fail
    exact bodyPost_ret (v := .tuple #[.int .i64 (tmA (I * c) J), .int .i64 (tmB (I * c) J), .bool true]) (by simp [results, Try.results78, go_sem]) rfl ⟨by rw [hf.out.1, hf.out.2], HB3.out⟩
  | false =>
    have hJ2 : J = 0 := hJ
    subst hJ2
    have hT2 : T = if r * r + s * s < p * p + q * q then c else 0 := hT
    have hU2 : U = 1 := hU
    clear hT hU hI hJ hmy
    by_cases hlt : r * r + s * s < p * p + q * q
    · have hf := Lib.hid (show T = c ∧ U = 1 from ⟨hT2.trans (if_pos hlt), hU2⟩)
      have hd : decide (r * r + s * s < p * p + q * q) = true := decide_eq_true hlt
      clear hT2 hU2
      go_enter Try.func78, Try.ntmps78
      go_wp2_with fail
      refine (HP.out _).mono ?_
      rintro e w1 ⟨rfl, r1⟩
      clear p0 p1 p2 p3 p4 q0 q1 q2 q3 q4
      have HB1 := Lib.hid (HB0.out.trans (r1.mono HB0.out.size))
      replace K0 := Lib.hid (K0.out.on r1)
      replace K1 := Lib.hid (K1.out.on r1)
      clear HB0 r1
      have HB0 := HB1
      clear HB1
      obtain ⟨p0, p1, p2, p3, p4⟩ := K0.out.c5
      obtain ⟨q0, q1, q2, q3, q4⟩ := K1.out.c5
      go_wp2_with fail
      refine (HQ.out _).mono ?_
      rintro e w2 ⟨rfl, r1⟩
      clear p0 p1 p2 p3 p4 q0 q1 q2 q3 q4
      have HB1 := Lib.hid (HB0.out.trans (r1.mono HB0.out.size))
      replace K0 := Lib.hid (K0.out.on r1)
      replace K1 := Lib.hid (K1.out.on r1)
      clear HB0 r1
      have HB0 := HB1
      clear HB1
      obtain ⟨p0, p1, p2, p3, p4⟩ := K0.out.c5
      obtain ⟨q0, q1, q2, q3, q4⟩ := K1.out.c5
      go_wp2_with fail
      refine (HR.out _).mono ?_
      rintro e w3 ⟨rfl, r1⟩
      clear p0 p1 p2 p3 p4 q0 q1 q2 q3 q4
      have HB1 := Lib.hid (HB0.out.trans (r1.mono HB0.out.size))
      replace K0 := Lib.hid (K0.out.on r1)
      replace K1 := Lib.hid (K1.out.on r1)
      clear HB0 r1
      have HB0 := HB1
      clear HB1
      obtain ⟨p0, p1, p2, p3, p4⟩ := K0.out.c5
      obtain ⟨q0, q1, q2, q3, q4⟩ := K1.out.c5
      go_wp2_with fail
      exact bodyPost_ret (v := .tuple #[.int .i64 c, .int .i64 1, .bool true]) (by simp [results, Try.results78, go_sem]) rfl ⟨by rw [hf.out.1, hf.out.2], HB0.out⟩
    · have hf := Lib.hid (show T = 0 ∧ U = 1 from ⟨hT2.trans (if_neg hlt), hU2⟩)
      have hd : decide (r * r + s * s < p * p + q * q) = false := decide_eq_false hlt
      clear hT2 hU2
      go_enter Try.func78, Try.ntmps78
      go_wp2_with fail
      refine (HP.out _).mono ?_
      rintro e w1 ⟨rfl, r1⟩
      clear p0 p1 p2 p3 p4 q0 q1 q2 q3 q4
      have HB1 := Lib.hid (HB0.out.trans (r1.mono HB0.out.size))
      replace K0 := Lib.hid (K0.out.on r1)
      replace K1 := Lib.hid (K1.out.on r1)
      clear HB0 r1
      have HB0 := HB1
      clear HB1
      obtain ⟨p0, p1, p2, p3, p4⟩ := K0.out.c5
      obtain ⟨q0, q1, q2, q3, q4⟩ := K1.out.c5
      go_wp2_with fail
      refine (HQ.out _).mono ?_
      rintro e w2 ⟨rfl, r1⟩
      clear p0 p1 p2 p3 p4 q0 q1 q2 q3 q4
      have HB1 := Lib.hid (HB0.out.trans (r1.mono HB0.out.size))
      replace K0 := Lib.hid (K0.out.on r1)
      replace K1 := Lib.hid (K1.out.on r1)
      clear HB0 r1
      have HB0 := HB1
      clear HB1
      obtain ⟨p0, p1, p2, p3, p4⟩ := K0.out.c5
      obtain ⟨q0, q1, q2, q3, q4⟩ := K1.out.c5
      go_wp2_with fail
      refine (HR.out _).mono ?_
      rintro e w3 ⟨rfl, r1⟩
      clear p0 p1 p2 p3 p4 q0 q1 q2 q3 q4
      have HB1 := Lib.hid (HB0.out.trans (r1.mono HB0.out.size))
      replace K0 := Lib.hid (K0.out.on r1)
      replace K1 := Lib.hid (K1.out.on r1)
      clear HB0 r1
      have HB0 := HB1
      clear HB1
      go_wp2_with fail
      exact bodyPost_ret (v := .tuple #[.int .i64 0, .int .i64 1, .bool true]) (by simp [results, Try.results78, go_sem]) rfl ⟨by rw [hf.out.1, hf.out.2], HB0.out⟩
end Go.Proofs.Ytjcepipgjpaclaa
