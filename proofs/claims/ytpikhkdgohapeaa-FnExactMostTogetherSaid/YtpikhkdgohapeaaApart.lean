/- Contracts of how near two moves come to each other, in the program and in the reference. Condition: moves on the field. -/
import Derived.Test.YtpikhkdgohapeaaApartFn
import Derived.Test.YtpikhkdgohapeaaTerms
import Derived.Test.YtpikhkdgohapeaaSet
import Derived.Test.YtpikhkdgohapeaaTake
import Derived.StillTailTactics
import Derived.Deep.RegionHeld3
namespace Go.Proofs.Ytpikhkdgohapeaa
open Go.RowKit

/-- A move on the field. -/
def okM (x y z u : Int) : Prop := (0 ≤ x ∧ x ≤ 1280) ∧ (0 ≤ y ∧ y ≤ 1280) ∧ (0 ≤ z ∧ z ≤ 1280) ∧ 0 ≤ u ∧ u ≤ 1280
set_option maxHeartbeats 2000000 in
set_option maxRecDepth 100000 in
theorem between_any (a1 a2 a3 a4 a5 b1 b2 b3 b4 b5 : Int) (w : World) (ha : okM a1 a2 a3 a4) (hb : okM b1 b2 b3 b4) :
    Calls Try.prog 81 #[(Value.agg #[Value.int .i64 a1, Value.int .i64 a2, Value.int .i64 a3, Value.int .i64 a4, Value.int .i64 a5]), (Value.agg #[Value.int .i64 b1, Value.int .i64 b2, Value.int .i64 b3, Value.int .i64 b4, Value.int .i64 b5])] w fun e w' =>
      e = .returned (.tuple #[(Value.agg #[Value.int .i64 (a1 - b1), Value.int .i64 (a2 - b2)]), (Value.agg #[Value.int .i64 (a3 - b3 - (a1 - b1)), Value.int .i64 (a4 - b4 - (a2 - b2))]), .int .i64 (dtOf (a1 - b1) (a2 - b2) (a3 - b3) (a4 - b4)), .int .i64 (szOf (a1 - b1) (a2 - b2) (a3 - b3) (a4 - b4))]) ∧ Below w.heap.size w w' := by
  obtain ⟨⟨h1, h2⟩, ⟨h3, h4⟩, ⟨h5, h6⟩, h7, h8⟩ := ha
  obtain ⟨⟨k1, k2⟩, ⟨k3, k4⟩, ⟨k5, k6⟩, k7, k8⟩ := hb
  have HD := Lib.hid (show dtOf (a1 - b1) (a2 - b2) (a3 - b3) (a4 - b4) = (a1 - b1) * (a3 - b3 - (a1 - b1)) + (a2 - b2) * (a4 - b4 - (a2 - b2)) from rfl)
  have HZ := Lib.hid (show szOf (a1 - b1) (a2 - b2) (a3 - b3) (a4 - b4) = (a3 - b3 - (a1 - b1)) * (a3 - b3 - (a1 - b1)) + (a4 - b4 - (a2 - b2)) * (a4 - b4 - (a2 - b2)) from rfl)
  have m1 := mul_wide (x := a1 - b1) (y := a3 - b3 - (a1 - b1)) (a := 1280) (b := 2560) (by omega) (by omega) (by omega) (by omega)
  have m2 := mul_wide (x := a2 - b2) (y := a4 - b4 - (a2 - b2)) (a := 1280) (b := 2560) (by omega) (by omega) (by omega) (by omega)
  have m3 := mul_wide (x := a3 - b3 - (a1 - b1)) (y := a3 - b3 - (a1 - b1)) (a := 2560) (b := 2560) (by omega) (by omega) (by omega) (by omega)
  have m4 := mul_wide (x := a4 - b4 - (a2 - b2)) (y := a4 - b4 - (a2 - b2)) (a := 2560) (b := 2560) (by omega) (by omega) (by omega) (by omega)
  obtain ⟨m1, n1⟩ := m1
  obtain ⟨m2, n2⟩ := m2
  obtain ⟨m3, n3⟩ := m3
  obtain ⟨m4, n4⟩ := m4
  obtain ⟨W, eW⟩ : ∃ W, (((((w.alloc (.cells #[.int .i64 a1, .int .i64 a2, .int .i64 a3, .int .i64 a4, .int .i64 a5] 30)).alloc (.cells #[.int .i64 b1, .int .i64 b2, .int .i64 b3, .int .i64 b4, .int .i64 b5] 30)).alloc (.cells #[.int .i64 0, .int .i64 0] 28)).alloc (.cells #[.int .i64 0, .int .i64 0] 28)).alloc (.cells #[.int .i64 (a1 - b1), .int .i64 (a2 - b2)] 28)).alloc (.cells #[.int .i64 (a3 - b3 - (a1 - b1)), .int .i64 (a4 - b4 - (a2 - b2))] 28) = W := ⟨_, rfl⟩
  have hbW : Below w.heap.size w W := by rw [← eW]; exact below_new (below_new (below_new (below_new (below_new (below_new (Below.refl _ _) _) _) _) _) _) _
  have K2 : Blk W (w.heap.size + 1 + 1) 28 #[.int .i64 0, .int .i64 0] := by rw [← eW]; exact (((Blk.new3 _ _ _ _ _).alloc _).alloc _).alloc _
  have K3 : Blk W (w.heap.size + 1 + 1 + 1) 28 #[.int .i64 0, .int .i64 0] := by
    rw [← eW]
    have := (Blk.new3 (w.alloc (.cells #[.int .i64 a1, .int .i64 a2, .int .i64 a3, .int .i64 a4, .int .i64 a5] 30)) (.cells #[.int .i64 b1, .int .i64 b2, .int .i64 b3, .int .i64 b4, .int .i64 b5] 30) (.cells #[.int .i64 0, .int .i64 0] 28) 28 #[.int .i64 0, .int .i64 0])
    rw [show (w.alloc (.cells #[.int .i64 a1, .int .i64 a2, .int .i64 a3, .int .i64 a4, .int .i64 a5] 30)).heap.size = w.heap.size + 1 by simp] at this
    exact (this.alloc _).alloc _
  have K4 : Blk W (w.heap.size + 1 + 1 + 1 + 1) 28 #[.int .i64 (a1 - b1), .int .i64 (a2 - b2)] := by
    rw [← eW]
    have := (Blk.new3 ((w.alloc (.cells #[.int .i64 a1, .int .i64 a2, .int .i64 a3, .int .i64 a4, .int .i64 a5] 30)).alloc (.cells #[.int .i64 b1, .int .i64 b2, .int .i64 b3, .int .i64 b4, .int .i64 b5] 30)) (.cells #[.int .i64 0, .int .i64 0] 28) (.cells #[.int .i64 0, .int .i64 0] 28) 28 #[.int .i64 (a1 - b1), .int .i64 (a2 - b2)])
    rw [show ((w.alloc (.cells #[.int .i64 a1, .int .i64 a2, .int .i64 a3, .int .i64 a4, .int .i64 a5] 30)).alloc (.cells #[.int .i64 b1, .int .i64 b2, .int .i64 b3, .int .i64 b4, .int .i64 b5] 30)).heap.size = w.heap.size + 1 + 1 by simp] at this
    exact this.alloc _
  have K5 : Blk W (w.heap.size + 1 + 1 + 1 + 1 + 1) 28 #[.int .i64 (a3 - b3 - (a1 - b1)), .int .i64 (a4 - b4 - (a2 - b2))] := by
    rw [← eW]
    have := (Blk.new3 (((w.alloc (.cells #[.int .i64 a1, .int .i64 a2, .int .i64 a3, .int .i64 a4, .int .i64 a5] 30)).alloc (.cells #[.int .i64 b1, .int .i64 b2, .int .i64 b3, .int .i64 b4, .int .i64 b5] 30)).alloc (.cells #[.int .i64 0, .int .i64 0] 28)) (.cells #[.int .i64 0, .int .i64 0] 28) (.cells #[.int .i64 (a1 - b1), .int .i64 (a2 - b2)] 28) 28 #[.int .i64 (a3 - b3 - (a1 - b1)), .int .i64 (a4 - b4 - (a2 - b2))])
    rw [show (((w.alloc (.cells #[.int .i64 a1, .int .i64 a2, .int .i64 a3, .int .i64 a4, .int .i64 a5] 30)).alloc (.cells #[.int .i64 b1, .int .i64 b2, .int .i64 b3, .int .i64 b4, .int .i64 b5] 30)).alloc (.cells #[.int .i64 0, .int .i64 0] 28)).heap.size = w.heap.size + 1 + 1 + 1 by simp] at this
    exact this
  have HKK := Lib.hid (And.intro K2 (And.intro K3 hbW))
  obtain ⟨p0, p1⟩ := K2.c2
  obtain ⟨p2, p3⟩ := K3.c2
  obtain ⟨p4, p5⟩ := K4.c2
  obtain ⟨p6, p7⟩ := K5.c2
  have z0 := K2.frozen 0
  have z1 := K2.frozen 1
  have z2 := K3.frozen 0
  have z3 := K3.frozen 1
  clear K2 K3 K4 K5 hbW
  have e1 := IntWalk.i64_in ((a1 - b1) * (a3 - b3 - (a1 - b1))) (by omega)
  have e2 := IntWalk.i64_in ((a2 - b2) * (a4 - b4 - (a2 - b2))) (by omega)
  have e3 := IntWalk.i64_in ((a1 - b1) * (a3 - b3 - (a1 - b1)) + (a2 - b2) * (a4 - b4 - (a2 - b2))) (by omega)
  have e4 := IntWalk.i64_in ((a3 - b3 - (a1 - b1)) * (a3 - b3 - (a1 - b1))) (by omega)
  have e5 := IntWalk.i64_in ((a4 - b4 - (a2 - b2)) * (a4 - b4 - (a2 - b2))) (by omega)
  have e6 := IntWalk.i64_in ((a3 - b3 - (a1 - b1)) * (a3 - b3 - (a1 - b1)) + (a4 - b4 - (a2 - b2)) * (a4 - b4 - (a2 - b2))) (by omega)
  go_enter Try.func81, Try.ntmps81
  go_wp2_with fail
  try rw [eW]
  clear eW
  refine wp_region_held_drew (S := fun V => V.cell? ⟨w.heap.size + 1 + 1 + 1 + 1, 0, none⟩ = some (.int .i64 (a1 - b1)) ∧ V.cell? ⟨w.heap.size + 1 + 1 + 1 + 1, 1, none⟩ = some (.int .i64 (a2 - b2)) ∧ V.cell? ⟨w.heap.size + 1 + 1 + 1 + 1 + 1, 0, none⟩ = some (.int .i64 (a3 - b3 - (a1 - b1))) ∧ V.cell? ⟨w.heap.size + 1 + 1 + 1 + 1 + 1, 1, none⟩ = some (.int .i64 (a4 - b4 - (a2 - b2)))) (by kernel_rfl) ⟨p4, p5, p6, p7⟩ (fun hHeld => ?_)
  refine take_at (i := 0) (oi := _) 46 (v := (Value.agg #[Value.int .i64 (a1 - b1), Value.int .i64 (a2 - b2)])) rfl rfl (by kernel_rfl) (by kernel_rfl) (by kernel_rfl) (fun _ _ _ h => h) (Or.inl ⟨by rfl, ?_⟩) hHeld ?_
  · (intro w hSw; (try dsimp only at hSw); go_split_ands; go_simp)
  simp only [List.setIfInBounds_toArray, List.set_cons_zero, List.set_cons_succ]
  refine take_at (i := 1) (oi := _) 47 (v := (Value.agg #[Value.int .i64 (a3 - b3 - (a1 - b1)), Value.int .i64 (a4 - b4 - (a2 - b2))])) rfl rfl (by kernel_rfl) (by kernel_rfl) (by kernel_rfl) (fun _ _ _ h => h) (Or.inl ⟨by rfl, ?_⟩) hHeld ?_
  · (intro w hSw; (try dsimp only at hSw); go_split_ands; go_simp)
  simp only [List.setIfInBounds_toArray, List.set_cons_zero, List.set_cons_succ]
  refine take_at (i := 2) (oi := _) 48 (v := .pointer (some ⟨w.heap.size + 1 + 1 + 1 + 1, 0, none⟩)) rfl rfl (by kernel_rfl) (by kernel_rfl) (by kernel_rfl) (fun _ _ _ h => h) (Or.inl ⟨by rfl, ?_⟩) hHeld ?_
  · (intro w hSw; (try dsimp only at hSw); go_split_ands; go_simp)
  simp only [List.setIfInBounds_toArray, List.set_cons_zero, List.set_cons_succ]
  refine take_at (i := 3) (oi := _) 49 (v := .int .i64 (a1 - b1)) rfl rfl (by kernel_rfl) (by kernel_rfl) (by kernel_rfl) (fun _ _ _ h => h) (Or.inl ⟨by rfl, ?_⟩) hHeld ?_
  · (intro w hSw; (try dsimp only at hSw); go_split_ands; go_simp)
  simp only [List.setIfInBounds_toArray, List.set_cons_zero, List.set_cons_succ]
  refine take_at (i := 4) (oi := _) 50 (v := .pointer (some ⟨w.heap.size + 1 + 1 + 1 + 1 + 1, 0, none⟩)) rfl rfl (by kernel_rfl) (by kernel_rfl) (by kernel_rfl) (fun _ _ _ h => h) (Or.inl ⟨by rfl, ?_⟩) hHeld ?_
  · (intro w hSw; (try dsimp only at hSw); go_split_ands; go_simp)
  simp only [List.setIfInBounds_toArray, List.set_cons_zero, List.set_cons_succ]
  refine take_at (i := 5) (oi := _) 51 (v := .int .i64 (a3 - b3 - (a1 - b1))) rfl rfl (by kernel_rfl) (by kernel_rfl) (by kernel_rfl) (fun _ _ _ h => h) (Or.inl ⟨by rfl, ?_⟩) hHeld ?_
  · (intro w hSw; (try dsimp only at hSw); go_split_ands; go_simp)
  simp only [List.setIfInBounds_toArray, List.set_cons_zero, List.set_cons_succ]
  refine take_at (i := 6) (oi := _) 52 (v := .int .i64 ((a1 - b1) * (a3 - b3 - (a1 - b1)))) rfl rfl (by kernel_rfl) (by kernel_rfl) (by kernel_rfl) (fun _ _ _ h => h) (Or.inl ⟨by rfl, ?_⟩) hHeld ?_
  · (intro w hSw; (try dsimp only at hSw); go_split_ands; go_simp)
  simp only [List.setIfInBounds_toArray, List.set_cons_zero, List.set_cons_succ]
  refine take_at (i := 7) (oi := _) 53 (v := .pointer (some ⟨w.heap.size + 1 + 1 + 1 + 1, 1, none⟩)) rfl rfl (by kernel_rfl) (by kernel_rfl) (by kernel_rfl) (fun _ _ _ h => h) (Or.inl ⟨by rfl, ?_⟩) hHeld ?_
  · (intro w hSw; (try dsimp only at hSw); go_split_ands; go_simp)
  simp only [List.setIfInBounds_toArray, List.set_cons_zero, List.set_cons_succ]
  refine take_at (i := 8) (oi := _) 54 (v := .int .i64 (a2 - b2)) rfl rfl (by kernel_rfl) (by kernel_rfl) (by kernel_rfl) (fun _ _ _ h => h) (Or.inl ⟨by rfl, ?_⟩) hHeld ?_
  · (intro w hSw; (try dsimp only at hSw); go_split_ands; go_simp)
  simp only [List.setIfInBounds_toArray, List.set_cons_zero, List.set_cons_succ]
  refine take_at (i := 9) (oi := _) 55 (v := .pointer (some ⟨w.heap.size + 1 + 1 + 1 + 1 + 1, 1, none⟩)) rfl rfl (by kernel_rfl) (by kernel_rfl) (by kernel_rfl) (fun _ _ _ h => h) (Or.inl ⟨by rfl, ?_⟩) hHeld ?_
  · (intro w hSw; (try dsimp only at hSw); go_split_ands; go_simp)
  simp only [List.setIfInBounds_toArray, List.set_cons_zero, List.set_cons_succ]
  refine take_at (i := 10) (oi := _) 56 (v := .int .i64 (a4 - b4 - (a2 - b2))) rfl rfl (by kernel_rfl) (by kernel_rfl) (by kernel_rfl) (fun _ _ _ h => h) (Or.inl ⟨by rfl, ?_⟩) hHeld ?_
  · (intro w hSw; (try dsimp only at hSw); go_split_ands; go_simp)
  simp only [List.setIfInBounds_toArray, List.set_cons_zero, List.set_cons_succ]
  refine take_at (i := 11) (oi := _) 57 (v := .int .i64 ((a2 - b2) * (a4 - b4 - (a2 - b2)))) rfl rfl (by kernel_rfl) (by kernel_rfl) (by kernel_rfl) (fun _ _ _ h => h) (Or.inl ⟨by rfl, ?_⟩) hHeld ?_
  · (intro w hSw; (try dsimp only at hSw); go_split_ands; go_simp)
  simp only [List.setIfInBounds_toArray, List.set_cons_zero, List.set_cons_succ]
  refine take_at (i := 12) (oi := _) 58 (v := .int .i64 ((a1 - b1) * (a3 - b3 - (a1 - b1)) + (a2 - b2) * (a4 - b4 - (a2 - b2)))) rfl rfl (by kernel_rfl) (by kernel_rfl) (by kernel_rfl) (fun _ _ _ h => h) (Or.inl ⟨by rfl, ?_⟩) hHeld ?_
  · (intro w hSw; (try dsimp only at hSw); go_split_ands; go_simp)
  simp only [List.setIfInBounds_toArray, List.set_cons_zero, List.set_cons_succ]
  refine take_at (i := 13) (oi := _) 59 (v := .pointer (some ⟨w.heap.size + 1 + 1 + 1 + 1 + 1, 0, none⟩)) rfl rfl (by kernel_rfl) (by kernel_rfl) (by kernel_rfl) (fun _ _ _ h => h) (Or.inl ⟨by rfl, ?_⟩) hHeld ?_
  · (intro w hSw; (try dsimp only at hSw); go_split_ands; go_simp)
  simp only [List.setIfInBounds_toArray, List.set_cons_zero, List.set_cons_succ]
  refine take_at (i := 14) (oi := _) 60 (v := .int .i64 (a3 - b3 - (a1 - b1))) rfl rfl (by kernel_rfl) (by kernel_rfl) (by kernel_rfl) (fun _ _ _ h => h) (Or.inl ⟨by rfl, ?_⟩) hHeld ?_
  · (intro w hSw; (try dsimp only at hSw); go_split_ands; go_simp)
  simp only [List.setIfInBounds_toArray, List.set_cons_zero, List.set_cons_succ]
  refine take_at (i := 15) (oi := _) 61 (v := .pointer (some ⟨w.heap.size + 1 + 1 + 1 + 1 + 1, 0, none⟩)) rfl rfl (by kernel_rfl) (by kernel_rfl) (by kernel_rfl) (fun _ _ _ h => h) (Or.inl ⟨by rfl, ?_⟩) hHeld ?_
  · (intro w hSw; (try dsimp only at hSw); go_split_ands; go_simp)
  simp only [List.setIfInBounds_toArray, List.set_cons_zero, List.set_cons_succ]
  refine take_at (i := 16) (oi := _) 62 (v := .int .i64 (a3 - b3 - (a1 - b1))) rfl rfl (by kernel_rfl) (by kernel_rfl) (by kernel_rfl) (fun _ _ _ h => h) (Or.inl ⟨by rfl, ?_⟩) hHeld ?_
  · (intro w hSw; (try dsimp only at hSw); go_split_ands; go_simp)
  simp only [List.setIfInBounds_toArray, List.set_cons_zero, List.set_cons_succ]
  refine take_at (i := 17) (oi := _) 63 (v := .int .i64 ((a3 - b3 - (a1 - b1)) * (a3 - b3 - (a1 - b1)))) rfl rfl (by kernel_rfl) (by kernel_rfl) (by kernel_rfl) (fun _ _ _ h => h) (Or.inl ⟨by rfl, ?_⟩) hHeld ?_
  · (intro w hSw; (try dsimp only at hSw); go_split_ands; go_simp)
  simp only [List.setIfInBounds_toArray, List.set_cons_zero, List.set_cons_succ]
  refine take_at (i := 18) (oi := _) 64 (v := .pointer (some ⟨w.heap.size + 1 + 1 + 1 + 1 + 1, 1, none⟩)) rfl rfl (by kernel_rfl) (by kernel_rfl) (by kernel_rfl) (fun _ _ _ h => h) (Or.inl ⟨by rfl, ?_⟩) hHeld ?_
  · (intro w hSw; (try dsimp only at hSw); go_split_ands; go_simp)
  simp only [List.setIfInBounds_toArray, List.set_cons_zero, List.set_cons_succ]
  refine take_at (i := 19) (oi := _) 65 (v := .int .i64 (a4 - b4 - (a2 - b2))) rfl rfl (by kernel_rfl) (by kernel_rfl) (by kernel_rfl) (fun _ _ _ h => h) (Or.inl ⟨by rfl, ?_⟩) hHeld ?_
  · (intro w hSw; (try dsimp only at hSw); go_split_ands; go_simp)
  simp only [List.setIfInBounds_toArray, List.set_cons_zero, List.set_cons_succ]
  refine take_at (i := 20) (oi := _) 66 (v := .pointer (some ⟨w.heap.size + 1 + 1 + 1 + 1 + 1, 1, none⟩)) rfl rfl (by kernel_rfl) (by kernel_rfl) (by kernel_rfl) (fun _ _ _ h => h) (Or.inl ⟨by rfl, ?_⟩) hHeld ?_
  · (intro w hSw; (try dsimp only at hSw); go_split_ands; go_simp)
  simp only [List.setIfInBounds_toArray, List.set_cons_zero, List.set_cons_succ]
  refine take_at (i := 21) (oi := _) 67 (v := .int .i64 (a4 - b4 - (a2 - b2))) rfl rfl (by kernel_rfl) (by kernel_rfl) (by kernel_rfl) (fun _ _ _ h => h) (Or.inl ⟨by rfl, ?_⟩) hHeld ?_
  · (intro w hSw; (try dsimp only at hSw); go_split_ands; go_simp)
  simp only [List.setIfInBounds_toArray, List.set_cons_zero, List.set_cons_succ]
  refine take_at (i := 22) (oi := _) 68 (v := .int .i64 ((a4 - b4 - (a2 - b2)) * (a4 - b4 - (a2 - b2)))) rfl rfl (by kernel_rfl) (by kernel_rfl) (by kernel_rfl) (fun _ _ _ h => h) (Or.inl ⟨by rfl, ?_⟩) hHeld ?_
  · (intro w hSw; (try dsimp only at hSw); go_split_ands; go_simp)
  simp only [List.setIfInBounds_toArray, List.set_cons_zero, List.set_cons_succ]
  refine take_at (i := 23) (oi := _) 69 (v := .int .i64 ((a3 - b3 - (a1 - b1)) * (a3 - b3 - (a1 - b1)) + (a4 - b4 - (a2 - b2)) * (a4 - b4 - (a2 - b2)))) rfl rfl (by kernel_rfl) (by kernel_rfl) (by kernel_rfl) (fun _ _ _ h => h) (Or.inl ⟨by rfl, ?_⟩) hHeld ?_
  · (intro w hSw; (try dsimp only at hSw); go_split_ands; go_simp)
  simp only [List.setIfInBounds_toArray, List.set_cons_zero, List.set_cons_succ]
  have far : ∀ (V : World) (p q : Addr) (u : Value), q.block ≠ p.block → (V.setCell p u).cell? q = V.cell? q := fun V p q u h => World.cell?_of_block (w := V) (Below.heap_setCell V p u q.block h)
  have FAR := Lib.hid far
  clear far
  refine wpAnyH_ready (rs := [24]) (by kernel_rfl) (by simp) ?_
  refine AllReadyH.cons (o := _) rfl (fun K hK => ?_) AllReadyH.nil
  go_simp
  refine hK.out _ _ ⟨(FAR.out _ _ _ _ (by first | (simp; done) | (simp; omega))).trans ((FAR.out _ _ _ _ (by first | (simp; done) | (simp; omega))).trans p4), (FAR.out _ _ _ _ (by first | (simp; done) | (simp; omega))).trans ((FAR.out _ _ _ _ (by first | (simp; done) | (simp; omega))).trans p5), (FAR.out _ _ _ _ (by first | (simp; done) | (simp; omega))).trans ((FAR.out _ _ _ _ (by first | (simp; done) | (simp; omega))).trans p6), (FAR.out _ _ _ _ (by first | (simp; done) | (simp; omega))).trans ((FAR.out _ _ _ _ (by first | (simp; done) | (simp; omega))).trans p7)⟩ (fun hHeld => ?_)
  clear hK K
  have q2 : ((W.setCell ⟨w.heap.size + 1 + 1, 0, none⟩ (.int .i64 (a1 - b1))).setCell ⟨w.heap.size + 1 + 1, 1, none⟩ (.int .i64 (a2 - b2))).cell? ⟨w.heap.size + 1 + 1 + 1, 0, none⟩ = some (.int .i64 0) := (FAR.out _ _ _ _ (by first | (simp; done) | (simp; omega))).trans ((FAR.out _ _ _ _ (by first | (simp; done) | (simp; omega))).trans p2)
  have q3 : ((W.setCell ⟨w.heap.size + 1 + 1, 0, none⟩ (.int .i64 (a1 - b1))).setCell ⟨w.heap.size + 1 + 1, 1, none⟩ (.int .i64 (a2 - b2))).cell? ⟨w.heap.size + 1 + 1 + 1, 1, none⟩ = some (.int .i64 0) := (FAR.out _ _ _ _ (by first | (simp; done) | (simp; omega))).trans ((FAR.out _ _ _ _ (by first | (simp; done) | (simp; omega))).trans p3)
  refine wpAnyH_ready (rs := [25]) (by kernel_rfl) (by simp) ?_
  refine AllReadyH.cons (o := _) rfl (fun K hK => ?_) AllReadyH.nil
  go_simp
  refine hK.out _ _ ⟨(FAR.out _ _ _ _ (by first | (simp; done) | (simp; omega))).trans ((FAR.out _ _ _ _ (by first | (simp; done) | (simp; omega))).trans ((FAR.out _ _ _ _ (by first | (simp; done) | (simp; omega))).trans ((FAR.out _ _ _ _ (by first | (simp; done) | (simp; omega))).trans p4))), (FAR.out _ _ _ _ (by first | (simp; done) | (simp; omega))).trans ((FAR.out _ _ _ _ (by first | (simp; done) | (simp; omega))).trans ((FAR.out _ _ _ _ (by first | (simp; done) | (simp; omega))).trans ((FAR.out _ _ _ _ (by first | (simp; done) | (simp; omega))).trans p5))), (FAR.out _ _ _ _ (by first | (simp; done) | (simp; omega))).trans ((FAR.out _ _ _ _ (by first | (simp; done) | (simp; omega))).trans ((FAR.out _ _ _ _ (by first | (simp; done) | (simp; omega))).trans ((FAR.out _ _ _ _ (by first | (simp; done) | (simp; omega))).trans p6))), (FAR.out _ _ _ _ (by first | (simp; done) | (simp; omega))).trans ((FAR.out _ _ _ _ (by first | (simp; done) | (simp; omega))).trans ((FAR.out _ _ _ _ (by first | (simp; done) | (simp; omega))).trans ((FAR.out _ _ _ _ (by first | (simp; done) | (simp; omega))).trans p7)))⟩ (fun hHeld => ?_)
  clear hK K
  refine wpAnyH_ready (rs := [26]) (by kernel_rfl) (by simp) ?_
  refine AllReadyH.cons (o := _) rfl (fun K hK => ?_) AllReadyH.nil
  go_simp
  refine hK.out _ _ hHeld (fun hHeld => ?_)
  clear hK K
  refine wpAnyH_ready (rs := [27]) (by kernel_rfl) (by simp) ?_
  refine AllReadyH.cons (o := _) rfl (fun K hK => ?_) AllReadyH.nil
  go_simp
  refine hK.out _ _ hHeld (fun hHeld => ?_)
  clear hK K
  refine wpAnyH_done (by kernel_rfl) ?_ _
  clear hHeld
  have M2 : Blk ((((W.setCell ⟨w.heap.size + 1 + 1, 0, none⟩ (.int .i64 (a1 - b1))).setCell ⟨w.heap.size + 1 + 1, 1, none⟩ (.int .i64 (a2 - b2))).setCell ⟨w.heap.size + 1 + 1 + 1, 0, none⟩ (.int .i64 (a3 - b3 - (a1 - b1)))).setCell ⟨w.heap.size + 1 + 1 + 1, 1, none⟩ (.int .i64 (a4 - b4 - (a2 - b2)))) (w.heap.size + 1 + 1) 28 #[.int .i64 (a1 - b1), .int .i64 (a2 - b2)] :=
    ((HKK.out.1.set2 _ _).far (by first | (simp; done) | (simp; omega)) _).far (by first | (simp; done) | (simp; omega)) _
  have M3 : Blk ((((W.setCell ⟨w.heap.size + 1 + 1, 0, none⟩ (.int .i64 (a1 - b1))).setCell ⟨w.heap.size + 1 + 1, 1, none⟩ (.int .i64 (a2 - b2))).setCell ⟨w.heap.size + 1 + 1 + 1, 0, none⟩ (.int .i64 (a3 - b3 - (a1 - b1)))).setCell ⟨w.heap.size + 1 + 1 + 1, 1, none⟩ (.int .i64 (a4 - b4 - (a2 - b2)))) (w.heap.size + 1 + 1 + 1) 28 #[.int .i64 (a3 - b3 - (a1 - b1)), .int .i64 (a4 - b4 - (a2 - b2))] :=
    ((HKK.out.2.1.far (by first | (simp; done) | (simp; omega)) _).far (by first | (simp; done) | (simp; omega)) _).set2 _ _
  have hbe := (((HKK.out.2.2.setCell (p := ⟨w.heap.size + 1 + 1, 0, none⟩) (by show w.heap.size ≤ w.heap.size + 1 + 1; omega) (.int .i64 (a1 - b1))).setCell (p := ⟨w.heap.size + 1 + 1, 1, none⟩) (by show w.heap.size ≤ w.heap.size + 1 + 1; omega) (.int .i64 (a2 - b2))).setCell (p := ⟨w.heap.size + 1 + 1 + 1, 0, none⟩) (by show w.heap.size ≤ w.heap.size + 1 + 1 + 1; omega) (.int .i64 (a3 - b3 - (a1 - b1)))).setCell (p := ⟨w.heap.size + 1 + 1 + 1, 1, none⟩) (by show w.heap.size ≤ w.heap.size + 1 + 1 + 1; omega) (.int .i64 (a4 - b4 - (a2 - b2)))
  have HBE := Lib.hid hbe
  obtain ⟨r0, r1⟩ := M2.drew.c2
  obtain ⟨r2, r3⟩ := M3.drew.c2
  clear M2 M3 hbe
  go_wp2_with fail
  exact bodyPost_ret (v := .tuple #[(Value.agg #[Value.int .i64 (a1 - b1), Value.int .i64 (a2 - b2)]), (Value.agg #[Value.int .i64 (a3 - b3 - (a1 - b1)), Value.int .i64 (a4 - b4 - (a2 - b2))]), .int .i64 ((a1 - b1) * (a3 - b3 - (a1 - b1)) + (a2 - b2) * (a4 - b4 - (a2 - b2))), .int .i64 ((a3 - b3 - (a1 - b1)) * (a3 - b3 - (a1 - b1)) + (a4 - b4 - (a2 - b2)) * (a4 - b4 - (a2 - b2)))]) (by simp [results, Try.results81, go_sem, r0, r1, r2, r3]) rfl
    ⟨by rw [HD.out, HZ.out], HBE.out.drew⟩
end Go.Proofs.Ytpikhkdgohapeaa
