/- Contracts of the tests whether steps fit, of the widest step, and of the square of a way. Conditions: the transition's slices can be read; spots on the field. Contracts of FitsStep on both sides, of WidestStep and of SquareOf. Conditions: the transition's slices can be read. Contracts of WidestStep and of SquareOf in the program. Conditions: the transition's slices can be read; both are spots. -/
import Derived.Test.YtjcepipgjpaclaaPFnSwaps32
import Derived.Test.YtjcepipgjpaclaaPFnSwaps18
namespace Go.Proofs.Ytjcepipgjpaclaa
open Go.RowKit

theorem fit_wide {s c : Int} (hs : 1 ≤ s ∧ s ≤ 24) (hc : 1 ≤ c ∧ c ≤ 64) : (0 ≤ s * s ∧ s * s ≤ 576) ∧ (0 ≤ s * s * c ∧ s * s * c ≤ 36864) ∧ (0 ≤ s * s * c * c ∧ s * s * c * c ≤ 2359296) := by
  have h1 : 0 ≤ s * s := sq0 s
  have h2 : s * s ≤ 24 * 24 := Int.mul_le_mul (by omega) (by omega) (by omega) (by omega)
  have h3 : 0 ≤ s * s * c := Int.mul_nonneg h1 (by omega)
  have h4 : s * s * c ≤ 576 * 64 := Int.mul_le_mul (by omega) (by omega) (by omega) (by omega)
  have h5 : 0 ≤ s * s * c * c := Int.mul_nonneg h3 (by omega)
  have h6 : s * s * c * c ≤ 36864 * 64 := Int.mul_le_mul (by omega) (by omega) (by omega) (by omega)
  omega
def wiB (x y z u c s : Int) : Bool := decide (sqL x y z u ≤ s * s * c * c)
set_option maxRecDepth 100000 in
set_option maxHeartbeats 2000000 in
theorem withinStep_any (x y z u c s : Int) (w : World) (hx : 0 ≤ x ∧ x ≤ 1280) (hy : 0 ≤ y ∧ y ≤ 1280) (hz : 0 ≤ z ∧ z ≤ 1280) (hu : 0 ≤ u ∧ u ≤ 1280) (hc : 1 ≤ c ∧ c ≤ 64) (hs : 1 ≤ s ∧ s ≤ 24) :
    Calls Try.prog 148 #[(Value.agg #[Value.int .i64 x, Value.int .i64 y, Value.int .i64 z, Value.int .i64 u, Value.int .i64 c]), .int .i64 s] w fun e w' => e = .returned (.bool (wiB x y z u c s)) ∧ Below w.heap.size w w' := by
  obtain ⟨⟨p0, p1⟩, ⟨p2, p3⟩, p4, p5⟩ := fit_wide hs hc
  have i1 := IntWalk.i64_in (s * s) (by omega)
  have i2 := IntWalk.i64_in (s * s * c) (by omega)
  have i3 := IntWalk.i64_in (s * s * c * c) (by omega)
  have HP := Lib.hid (fun W => squareOf_any x y z u W hx hy hz hu)
  have HD := Lib.hid (show wiB x y z u c s = decide (sqL x y z u ≤ s * s * c * c) from rfl)
  obtain ⟨r, er⟩ : ∃ q, sqL x y z u = q := ⟨_, rfl⟩
  rw [er] at HP HD
  have K0 := Lib.hid (Blk.new w 47 #[.int .i64 x, .int .i64 y, .int .i64 z, .int .i64 u, .int .i64 c])
  have HB0 := Lib.hid (below_new (Below.refl w.heap.size w) (.cells #[.int .i64 x, .int .i64 y, .int .i64 z, .int .i64 u, .int .i64 c] 47))
  obtain ⟨a0, a1, a2, a3, a4⟩ := K0.out.c5
  clear er p0 p1 p2 p3 p4 p5 hx hy hz hu hs hc
  go_enter Try.func148, Try.ntmps148
  go_wp2_with fail
  refine wp_region_held_drew (S := fun W => W.cell? ⟨w.heap.size, 0, none⟩ = some (.int .i64 x) ∧ W.cell? ⟨w.heap.size, 1, none⟩ = some (.int .i64 y) ∧ W.cell? ⟨w.heap.size, 2, none⟩ = some (.int .i64 z) ∧ W.cell? ⟨w.heap.size, 3, none⟩ = some (.int .i64 u) ∧ W.cell? ⟨w.heap.size, 4, none⟩ = some (.int .i64 c)) (by kernel_rfl) ⟨a0, a1, a2, a3, a4⟩ (fun hHeld => ?_)
  clear a0 a1 a2 a3 a4
  refine take_at (i := 0) (oi := _) 5 (v := .pointer (some ⟨w.heap.size, 0, none⟩)) rfl rfl (by kernel_rfl) (by kernel_rfl) (by kernel_rfl) (fun _ _ _ h => h) (Or.inl ⟨by rfl, ?_⟩) hHeld ?_
  · (intro w hSw; (try dsimp only at hSw); go_split_ands; go_simp)
  simp only [List.setIfInBounds_toArray, List.set_cons_zero, List.set_cons_succ]
  refine take_at (i := 1) (oi := _) 6 (v := (Value.agg #[Value.int .i64 x, Value.int .i64 y])) rfl rfl (by kernel_rfl) (by kernel_rfl) (by kernel_rfl) (fun _ _ _ h => h) (Or.inl ⟨by rfl, ?_⟩) hHeld ?_
  · (intro w hSw; (try dsimp only at hSw); go_split_ands; go_simp)
  simp only [List.setIfInBounds_toArray, List.set_cons_zero, List.set_cons_succ]
  refine take_at (i := 2) (oi := _) 7 (v := .pointer (some ⟨w.heap.size, 2, none⟩)) rfl rfl (by kernel_rfl) (by kernel_rfl) (by kernel_rfl) (fun _ _ _ h => h) (Or.inl ⟨by rfl, ?_⟩) hHeld ?_
  · (intro w hSw; (try dsimp only at hSw); go_split_ands; go_simp)
  simp only [List.setIfInBounds_toArray, List.set_cons_zero, List.set_cons_succ]
  refine take_at (i := 3) (oi := _) 8 (v := (Value.agg #[Value.int .i64 z, Value.int .i64 u])) rfl rfl (by kernel_rfl) (by kernel_rfl) (by kernel_rfl) (fun _ _ _ h => h) (Or.inl ⟨by rfl, ?_⟩) hHeld ?_
  · (intro w hSw; (try dsimp only at hSw); go_split_ands; go_simp)
  simp only [List.setIfInBounds_toArray, List.set_cons_zero, List.set_cons_succ]
  refine take_at (i := 5) (oi := _) 10 (v := .int .i64 s) rfl rfl (by kernel_rfl) (by kernel_rfl) (by kernel_rfl) (fun _ _ _ h => h) (Or.inl ⟨by rfl, ?_⟩) hHeld ?_
  · (intro w hSw; (try dsimp only at hSw); go_split_ands; go_simp)
  simp only [List.setIfInBounds_toArray, List.set_cons_zero, List.set_cons_succ]
  refine take_at (i := 6) (oi := _) 11 (v := .int .i64 s) rfl rfl (by kernel_rfl) (by kernel_rfl) (by kernel_rfl) (fun _ _ _ h => h) (Or.inl ⟨by rfl, ?_⟩) hHeld ?_
  · (intro w hSw; (try dsimp only at hSw); go_split_ands; go_simp)
  simp only [List.setIfInBounds_toArray, List.set_cons_zero, List.set_cons_succ]
  refine take_at (i := 7) (oi := _) 12 (v := .int .i64 (s * s)) rfl rfl (by kernel_rfl) (by kernel_rfl) (by kernel_rfl) (fun _ _ _ h => h) (Or.inl ⟨by rfl, ?_⟩) hHeld ?_
  · (intro w hSw; (try dsimp only at hSw); go_split_ands; go_simp)
  simp only [List.setIfInBounds_toArray, List.set_cons_zero, List.set_cons_succ]
  refine take_at (i := 8) (oi := _) 13 (v := .pointer (some ⟨w.heap.size, 4, none⟩)) rfl rfl (by kernel_rfl) (by kernel_rfl) (by kernel_rfl) (fun _ _ _ h => h) (Or.inl ⟨by rfl, ?_⟩) hHeld ?_
  · (intro w hSw; (try dsimp only at hSw); go_split_ands; go_simp)
  simp only [List.setIfInBounds_toArray, List.set_cons_zero, List.set_cons_succ]
  refine take_at (i := 9) (oi := _) 14 (v := .int .i64 c) rfl rfl (by kernel_rfl) (by kernel_rfl) (by kernel_rfl) (fun _ _ _ h => h) (Or.inl ⟨by rfl, ?_⟩) hHeld ?_
  · (intro w hSw; (try dsimp only at hSw); go_split_ands; go_simp)
  simp only [List.setIfInBounds_toArray, List.set_cons_zero, List.set_cons_succ]
  refine take_at (i := 10) (oi := _) 15 (v := .int .i64 (s * s * c)) rfl rfl (by kernel_rfl) (by kernel_rfl) (by kernel_rfl) (fun _ _ _ h => h) (Or.inl ⟨by rfl, ?_⟩) hHeld ?_
  · (intro w hSw; (try dsimp only at hSw); go_split_ands; go_simp)
  simp only [List.setIfInBounds_toArray, List.set_cons_zero, List.set_cons_succ]
  refine take_at (i := 11) (oi := _) 16 (v := .pointer (some ⟨w.heap.size, 4, none⟩)) rfl rfl (by kernel_rfl) (by kernel_rfl) (by kernel_rfl) (fun _ _ _ h => h) (Or.inl ⟨by rfl, ?_⟩) hHeld ?_
  · (intro w hSw; (try dsimp only at hSw); go_split_ands; go_simp)
  simp only [List.setIfInBounds_toArray, List.set_cons_zero, List.set_cons_succ]
  refine take_at (i := 12) (oi := _) 17 (v := .int .i64 c) rfl rfl (by kernel_rfl) (by kernel_rfl) (by kernel_rfl) (fun _ _ _ h => h) (Or.inl ⟨by rfl, ?_⟩) hHeld ?_
  · (intro w hSw; (try dsimp only at hSw); go_split_ands; go_simp)
  simp only [List.setIfInBounds_toArray, List.set_cons_zero, List.set_cons_succ]
  refine take_at (i := 13) (oi := _) 18 (v := .int .i64 (s * s * c * c)) rfl rfl (by kernel_rfl) (by kernel_rfl) (by kernel_rfl) (fun _ _ _ h => h) (Or.inl ⟨by rfl, ?_⟩) hHeld ?_
  · (intro w hSw; (try dsimp only at hSw); go_split_ands; go_simp)
  simp only [List.setIfInBounds_toArray, List.set_cons_zero, List.set_cons_succ]
  refine wpAnyH_ready (rs := [4]) (by kernel_rfl) (by simp) ?_
  refine AllReadyH.cons (o := _) rfl (fun K9 hK => ?_) AllReadyH.nil
  go_simp
  refine (HP.out _).mono ?_
  rintro e w9 ⟨rfl, hb9⟩
  obtain ⟨h0, h1, h2, h3, h4⟩ := hHeld
  refine hK.out _ _ ⟨cell_on hb9 h0, cell_on hb9 h1, cell_on hb9 h2, cell_on hb9 h3, cell_on hb9 h4⟩ (fun hHeld => ?_)
  have HB1 := Lib.hid (below_on (below_drewN HB0.out 1) hb9)
  clear hK K9 hb9 h0 h1 h2 h3 h4
  try simp only [Act.put, List.setIfInBounds_toArray, List.set_cons_zero, List.set_cons_succ]
  refine take_at (i := 14) (oi := _) 19 (v := .bool (decide (r ≤ s * s * c * c))) rfl rfl (by kernel_rfl) (by kernel_rfl) (by kernel_rfl) (fun _ _ _ h => h) (Or.inl ⟨by rfl, ?_⟩) hHeld ?_
  · (intro w hSw; (try dsimp only at hSw); go_split_ands; go_simp)
  simp only [List.setIfInBounds_toArray, List.set_cons_zero, List.set_cons_succ]
  refine wpAnyH_ready (rs := [15]) (by kernel_rfl) (by simp) ?_
  refine AllReadyH.cons (o := _) rfl (fun K9 hK => ?_) AllReadyH.nil
  go_simp
  refine hK.out _ _ hHeld (fun hHeld => ?_)
  clear hK K9
  try simp only [Act.put, List.setIfInBounds_toArray, List.set_cons_zero, List.set_cons_succ]
  refine wpAnyH_done (by kernel_rfl) ?_ _
  clear hHeld
  go_wp2_with fail
  go_ret
  exact ⟨by rw [HD.out]; rfl, HB1.out⟩
set_option maxRecDepth 100000 in
set_option maxHeartbeats 2000000 in
theorem mvWithin_any (x y z u c s : Int) (w : World) (hx : 0 ≤ x ∧ x ≤ 1280) (hy : 0 ≤ y ∧ y ≤ 1280) (hz : 0 ≤ z ∧ z ≤ 1280) (hu : 0 ≤ u ∧ u ≤ 1280) (hc : 1 ≤ c ∧ c ≤ 64) (hs : 1 ≤ s ∧ s ≤ 24) :
    Calls Try.prog 117 #[(Value.agg #[Value.int .i64 x, Value.int .i64 y, Value.int .i64 z, Value.int .i64 u, Value.int .i64 c]), .int .i64 s] w fun e w' => e = .returned (.bool (wiB x y z u c s)) ∧ Below w.heap.size w w' := by
  obtain ⟨⟨p0, p1⟩, ⟨p2, p3⟩, p4, p5⟩ := fit_wide hs hc
  have i1 := IntWalk.i64_in (s * s) (by omega)
  have i2 := IntWalk.i64_in (s * s * c) (by omega)
  have i3 := IntWalk.i64_in (s * s * c * c) (by omega)
  have HP := Lib.hid (fun W => stSquare_any x y z u W hx hy hz hu)
  have HD := Lib.hid (show wiB x y z u c s = decide (sqL x y z u ≤ s * s * c * c) from rfl)
  obtain ⟨r, er⟩ : ∃ q, sqL x y z u = q := ⟨_, rfl⟩
  rw [er] at HP HD
  have K0 := Lib.hid (Blk.new w 47 #[.int .i64 x, .int .i64 y, .int .i64 z, .int .i64 u, .int .i64 c])
  have HB0 := Lib.hid (below_new (Below.refl w.heap.size w) (.cells #[.int .i64 x, .int .i64 y, .int .i64 z, .int .i64 u, .int .i64 c] 47))
  obtain ⟨a0, a1, a2, a3, a4⟩ := K0.out.c5
  clear er p0 p1 p2 p3 p4 p5 hx hy hz hu hs hc
  go_enter Try.func117, Try.ntmps117
  go_wp2_with fail
  refine wp_region_held_drew (S := fun W => W.cell? ⟨w.heap.size, 0, none⟩ = some (.int .i64 x) ∧ W.cell? ⟨w.heap.size, 1, none⟩ = some (.int .i64 y) ∧ W.cell? ⟨w.heap.size, 2, none⟩ = some (.int .i64 z) ∧ W.cell? ⟨w.heap.size, 3, none⟩ = some (.int .i64 u) ∧ W.cell? ⟨w.heap.size, 4, none⟩ = some (.int .i64 c)) (by kernel_rfl) ⟨a0, a1, a2, a3, a4⟩ (fun hHeld => ?_)
  clear a0 a1 a2 a3 a4
  refine take_at (i := 0) (oi := _) 5 (v := .pointer (some ⟨w.heap.size, 0, none⟩)) rfl rfl (by kernel_rfl) (by kernel_rfl) (by kernel_rfl) (fun _ _ _ h => h) (Or.inl ⟨by rfl, ?_⟩) hHeld ?_
  · (intro w hSw; (try dsimp only at hSw); go_split_ands; go_simp)
  simp only [List.setIfInBounds_toArray, List.set_cons_zero, List.set_cons_succ]
  refine take_at (i := 1) (oi := _) 6 (v := (Value.agg #[Value.int .i64 x, Value.int .i64 y])) rfl rfl (by kernel_rfl) (by kernel_rfl) (by kernel_rfl) (fun _ _ _ h => h) (Or.inl ⟨by rfl, ?_⟩) hHeld ?_
  · (intro w hSw; (try dsimp only at hSw); go_split_ands; go_simp)
  simp only [List.setIfInBounds_toArray, List.set_cons_zero, List.set_cons_succ]
  refine take_at (i := 2) (oi := _) 7 (v := .pointer (some ⟨w.heap.size, 2, none⟩)) rfl rfl (by kernel_rfl) (by kernel_rfl) (by kernel_rfl) (fun _ _ _ h => h) (Or.inl ⟨by rfl, ?_⟩) hHeld ?_
  · (intro w hSw; (try dsimp only at hSw); go_split_ands; go_simp)
  simp only [List.setIfInBounds_toArray, List.set_cons_zero, List.set_cons_succ]
  refine take_at (i := 3) (oi := _) 8 (v := (Value.agg #[Value.int .i64 z, Value.int .i64 u])) rfl rfl (by kernel_rfl) (by kernel_rfl) (by kernel_rfl) (fun _ _ _ h => h) (Or.inl ⟨by rfl, ?_⟩) hHeld ?_
  · (intro w hSw; (try dsimp only at hSw); go_split_ands; go_simp)
  simp only [List.setIfInBounds_toArray, List.set_cons_zero, List.set_cons_succ]
  refine take_at (i := 5) (oi := _) 10 (v := .int .i64 s) rfl rfl (by kernel_rfl) (by kernel_rfl) (by kernel_rfl) (fun _ _ _ h => h) (Or.inl ⟨by rfl, ?_⟩) hHeld ?_
  · (intro w hSw; (try dsimp only at hSw); go_split_ands; go_simp)
  simp only [List.setIfInBounds_toArray, List.set_cons_zero, List.set_cons_succ]
  refine take_at (i := 6) (oi := _) 11 (v := .int .i64 s) rfl rfl (by kernel_rfl) (by kernel_rfl) (by kernel_rfl) (fun _ _ _ h => h) (Or.inl ⟨by rfl, ?_⟩) hHeld ?_
  · (intro w hSw; (try dsimp only at hSw); go_split_ands; go_simp)
  simp only [List.setIfInBounds_toArray, List.set_cons_zero, List.set_cons_succ]
  refine take_at (i := 7) (oi := _) 12 (v := .int .i64 (s * s)) rfl rfl (by kernel_rfl) (by kernel_rfl) (by kernel_rfl) (fun _ _ _ h => h) (Or.inl ⟨by rfl, ?_⟩) hHeld ?_
  · (intro w hSw; (try dsimp only at hSw); go_split_ands; go_simp)
  simp only [List.setIfInBounds_toArray, List.set_cons_zero, List.set_cons_succ]
  refine take_at (i := 8) (oi := _) 13 (v := .pointer (some ⟨w.heap.size, 4, none⟩)) rfl rfl (by kernel_rfl) (by kernel_rfl) (by kernel_rfl) (fun _ _ _ h => h) (Or.inl ⟨by rfl, ?_⟩) hHeld ?_
  · (intro w hSw; (try dsimp only at hSw); go_split_ands; go_simp)
  simp only [List.setIfInBounds_toArray, List.set_cons_zero, List.set_cons_succ]
  refine take_at (i := 9) (oi := _) 14 (v := .int .i64 c) rfl rfl (by kernel_rfl) (by kernel_rfl) (by kernel_rfl) (fun _ _ _ h => h) (Or.inl ⟨by rfl, ?_⟩) hHeld ?_
  · (intro w hSw; (try dsimp only at hSw); go_split_ands; go_simp)
  simp only [List.setIfInBounds_toArray, List.set_cons_zero, List.set_cons_succ]
  refine take_at (i := 10) (oi := _) 15 (v := .int .i64 (s * s * c)) rfl rfl (by kernel_rfl) (by kernel_rfl) (by kernel_rfl) (fun _ _ _ h => h) (Or.inl ⟨by rfl, ?_⟩) hHeld ?_
  · (intro w hSw; (try dsimp only at hSw); go_split_ands; go_simp)
  simp only [List.setIfInBounds_toArray, List.set_cons_zero, List.set_cons_succ]
  refine take_at (i := 11) (oi := _) 16 (v := .pointer (some ⟨w.heap.size, 4, none⟩)) rfl rfl (by kernel_rfl) (by kernel_rfl) (by kernel_rfl) (fun _ _ _ h => h) (Or.inl ⟨by rfl, ?_⟩) hHeld ?_
  · (intro w hSw; (try dsimp only at hSw); go_split_ands; go_simp)
  simp only [List.setIfInBounds_toArray, List.set_cons_zero, List.set_cons_succ]
  refine take_at (i := 12) (oi := _) 17 (v := .int .i64 c) rfl rfl (by kernel_rfl) (by kernel_rfl) (by kernel_rfl) (fun _ _ _ h => h) (Or.inl ⟨by rfl, ?_⟩) hHeld ?_
  · (intro w hSw; (try dsimp only at hSw); go_split_ands; go_simp)
  simp only [List.setIfInBounds_toArray, List.set_cons_zero, List.set_cons_succ]
  refine take_at (i := 13) (oi := _) 18 (v := .int .i64 (s * s * c * c)) rfl rfl (by kernel_rfl) (by kernel_rfl) (by kernel_rfl) (fun _ _ _ h => h) (Or.inl ⟨by rfl, ?_⟩) hHeld ?_
  · (intro w hSw; (try dsimp only at hSw); go_split_ands; go_simp)
  simp only [List.setIfInBounds_toArray, List.set_cons_zero, List.set_cons_succ]
  refine wpAnyH_ready (rs := [4]) (by kernel_rfl) (by simp) ?_
  refine AllReadyH.cons (o := _) rfl (fun K9 hK => ?_) AllReadyH.nil
  go_simp
  refine (HP.out _).mono ?_
  rintro e w9 ⟨rfl, hb9⟩
  obtain ⟨h0, h1, h2, h3, h4⟩ := hHeld
  refine hK.out _ _ ⟨cell_on hb9 h0, cell_on hb9 h1, cell_on hb9 h2, cell_on hb9 h3, cell_on hb9 h4⟩ (fun hHeld => ?_)
  have HB1 := Lib.hid (below_on (below_drewN HB0.out 1) hb9)
  clear hK K9 hb9 h0 h1 h2 h3 h4
  try simp only [Act.put, List.setIfInBounds_toArray, List.set_cons_zero, List.set_cons_succ]
  refine take_at (i := 14) (oi := _) 19 (v := .bool (decide (r ≤ s * s * c * c))) rfl rfl (by kernel_rfl) (by kernel_rfl) (by kernel_rfl) (fun _ _ _ h => h) (Or.inl ⟨by rfl, ?_⟩) hHeld ?_
  · (intro w hSw; (try dsimp only at hSw); go_split_ands; go_simp)
  simp only [List.setIfInBounds_toArray, List.set_cons_zero, List.set_cons_succ]
  refine wpAnyH_ready (rs := [15]) (by kernel_rfl) (by simp) ?_
  refine AllReadyH.cons (o := _) rfl (fun K9 hK => ?_) AllReadyH.nil
  go_simp
  refine hK.out _ _ hHeld (fun hHeld => ?_)
  clear hK K9
  try simp only [Act.put, List.setIfInBounds_toArray, List.set_cons_zero, List.set_cons_succ]
  refine wpAnyH_done (by kernel_rfl) ?_ _
  clear hHeld
  go_wp2_with fail
  go_ret
  exact ⟨by rw [HD.out]; rfl, HB1.out⟩
theorem mvStep_q (s : Int) (w : World) : Calls Try.prog 116 #[.int .i64 s] w fun e w' => e = .returned (.bool (inB s 1 24)) ∧ w = w' := by
  go_enter Try.func116, Try.ntmps116
  go_wp2_with fail
  refine (l1In_any _ _ _ _).mono ?_
  rintro e w' ⟨rfl, rfl⟩
  go_wp2_with fail
  go_ret
  exact ⟨rfl, rfl⟩
end Go.Proofs.Ytjcepipgjpaclaa

namespace Go.Proofs.Ytjcepipgjpaclaa
open Go.RowKit

/-- Every step fits if and only if the farthest one does. -/
def fitT (t : TrN) (s : Int) : Bool := decide (mSq t (faT t t.n) ≤ s * s * t.c * t.c)
def fiB (t : TrN) (s : Int) : Bool := trB t && inB s 1 24
def fiV (t : TrN) (s : Int) : Bool := fiB t s && fitT t s
theorem wi_mv (t : TrN) (s : Int) (i : Nat) : wiB (X t.xs i) (Y t.xs i) (X t.ys (plc t i)) (Y t.ys (plc t i)) t.c s = decide (mSq t i ≤ s * s * t.c * t.c) := rfl
set_option maxRecDepth 100000 in
set_option maxHeartbeats 4000000 in
theorem fitsStep_any (v : Value) (B : Nat) (t : TrN) (s : Int) (w : World) (hv : RdT w B v t) (hB : B ≤ w.heap.size) (hok : TrOk t) (hs : 1 ≤ s ∧ s ≤ 24) :
    Calls Try.prog 115 #[v, .int .i64 s] w fun e w' => e = .returned (.bool (fitT t s)) ∧ Below w.heap.size w w' := by
  have P := Lib.hid (fun W (hb : Below w.heap.size w W) => movesOf_any v B t W (hv.below' hb hB) (Nat.le_trans hB hb.size) hok)
  have n0 := hok.n0
  have n1 := hok.n1
  have c0 := hok.c0
  have c1 := hok.c1
  have HSQ := Lib.hid (fun k (hk : k < t.n) => (by
    have h1 := spotB_yes (hok.from_ k hk)
    have h2 := spotB_yes (hok.to_ _ (hok.place k hk).2)
    omega : (0 ≤ X t.xs k ∧ X t.xs k ≤ 1280) ∧ (0 ≤ Y t.xs k ∧ Y t.xs k ≤ 1280) ∧ (0 ≤ X t.ys (plc t k) ∧ X t.ys (plc t k) ≤ 1280) ∧ (0 ≤ Y t.ys (plc t k) ∧ Y t.ys (plc t k) ≤ 1280)))
  have HW := Lib.hid (fun k (hk : k < t.n) W => withinStep_any (X t.xs k) (Y t.xs k) (X t.ys (plc t k)) (Y t.ys (plc t k)) t.c s W (HSQ.out k hk).1 (HSQ.out k hk).2.1 (HSQ.out k hk).2.2.1 (HSQ.out k hk).2.2.2 ⟨c0, c1⟩ hs)
  have HFA := Lib.hid (faT_is (t := t) t.n)
  have HFL := Lib.hid (faT_lt (t := t) n0)
  clear HSQ c0 c1
  obtain ⟨A, ca, C, cb, D, cc, rfl, -, -, -⟩ := hv.form
  have K0 := Lib.hid (Blk.new w 27 #[.slice A t.n ca, .slice C t.m cb, .int .i64 t.c, .slice D t.p cc])
  have HB0 := Lib.hid (below_new (Below.refl w.heap.size w) (.cells #[.slice A t.n ca, .slice C t.m cb, .int .i64 t.c, .slice D t.p cc] 27))
  obtain ⟨a0, a1, a2, a3⟩ := K0.out.c4
  clear hv hok
  go_enter Try.func115, Try.ntmps115
  go_wp2_with fail
  refine (P.out _ HB0.out).mono ?_
  rintro e w1 ⟨mv, rfl, o1, hb⟩
  have HB1 := Lib.hid (below_on HB0.out hb)
  obtain ⟨bm, cm, rfl, -, hbm⟩ : ∃ b c, mv = .slice (some ⟨b, 0, none⟩) t.n c ∧ w.heap.size ≤ b ∧ b < w1.heap.size := by
    have hl := o1.lt
    rcases o1.2 with ⟨rfl, h0⟩ | ⟨g, cap, cur, rfl, _⟩
    · exact absurd h0 (by omega)
    · exact ⟨g, cap, rfl, Nat.le_trans HB0.out.size (hl g rfl).1, (hl g rfl).2⟩
  have HM := Lib.hid (fun (V : World) (hb : Below w1.heap.size w1 V) (j : Nat) (hj : j < t.n) => (by
    have h := mvTo_get t t.n j hj
    have hl := mvTo_length t t.n
    have g := fun i (hi : i < t.n * 5) => (hb.cell (p := ⟨bm, i, none⟩) hbm).trans ((o1.cellAt i hi).trans (ints_get _ i (by rw [hl]; exact hi)))
    have k0 := g (j * 5) (by omega)
    have k1 := g (j * 5 + 1) (by omega)
    have k2 := g (j * 5 + 2) (by omega)
    have k3 := g (j * 5 + 3) (by omega)
    have k4 := g (j * 5 + 4) (by omega)
    rw [h.1] at k0
    rw [h.2.1] at k1
    rw [h.2.2.1] at k2
    rw [h.2.2.2.1] at k3
    rw [h.2.2.2.2] at k4
    exact ⟨k0, k1, k2, k3, k4⟩ : V.cell? ⟨bm, j * 5, none⟩ = some (.int .i64 (X t.xs j)) ∧ V.cell? ⟨bm, j * 5 + 1, none⟩ = some (.int .i64 (Y t.xs j)) ∧ V.cell? ⟨bm, j * 5 + 2, none⟩ = some (.int .i64 (X t.ys (plc t j))) ∧ V.cell? ⟨bm, j * 5 + 3, none⟩ = some (.int .i64 (Y t.ys (plc t j))) ∧ V.cell? ⟨bm, j * 5 + 4, none⟩ = some (.int .i64 t.c)))
  clear o1
  clear hb a0 a1 a2 a3 K0 HB0
  go_wp2_with fail
  go_loopw [10] (fun i wr => ∃ k : Nat, k ≤ t.n ∧ i = .int .i64 k ∧ (∀ j, j < k → mSq t j ≤ s * s * t.c * t.c) ∧ Below w.heap.size w wr ∧ Below w1.heap.size w1 wr) (fun i _ => t.n - (intOf i).toNat)
  case atStart => exact ⟨0, by omega, rfl, fun j hj => absurd hj (by omega), HB1.out, Below.refl _ _⟩
  case round =>
    clear HB1
    obtain ⟨k, hk, rfl, hall, hb, hbm1⟩ := hrel
    have HB := Lib.hid hb
    have BM := Lib.hid hbm1
    have HALL := Lib.hid hall
    clear hb hbm1 hall
    by_cases hlt : k < t.n
    · obtain ⟨m0, m1, m2, m3, m4⟩ := HM.out _ BM.out k hlt
      have HP := HW.out k hlt
      have hwi := wi_mv t s k
      obtain ⟨x, ex⟩ : ∃ q, X t.xs k = q := ⟨_, rfl⟩
      obtain ⟨y, ey⟩ : ∃ q, Y t.xs k = q := ⟨_, rfl⟩
      obtain ⟨z, ez⟩ : ∃ q, X t.ys (plc t k) = q := ⟨_, rfl⟩
      obtain ⟨u, eu⟩ : ∃ q, Y t.ys (plc t k) = q := ⟨_, rfl⟩
      obtain ⟨c, ec⟩ : ∃ q, t.c = q := ⟨_, rfl⟩
      rw [ex] at m0
      rw [ey] at m1
      rw [ez] at m2
      rw [eu] at m3
      rw [ec] at m4
      rw [ex, ey, ez, eu, ec] at hwi HP
      rw [hwi] at HP
      have HX := Lib.hid HP
      have EC := Lib.hid ec
      have i0 : (0 : Int) ≤ (k : Int) := by omega
      have i1 : (k : Int) < (t.n : Int) := by omega
      have KX := Lib.hid (Blk.new wr 47 #[.int .i64 x, .int .i64 y, .int .i64 z, .int .i64 u, .int .i64 c])
      obtain ⟨b0, b1, b2, b3, b4⟩ := KX.out.c5
      replace HB := Lib.hid (below_new HB.out (.cells #[.int .i64 x, .int .i64 y, .int .i64 z, .int .i64 u, .int .i64 c] 47))
      replace BM := Lib.hid (below_new BM.out (.cells #[.int .i64 x, .int .i64 y, .int .i64 z, .int .i64 u, .int .i64 c] 47))
      by_cases hfit : mSq t k ≤ s * s * c * c
      · have hd : decide (mSq t k ≤ s * s * c * c) = true := by simpa using hfit
        have HN := Lib.hid (show ∀ j, j < k + 1 → mSq t j ≤ s * s * t.c * t.c from fun j hj => by
          rcases Nat.lt_succ_iff_lt_or_eq.1 hj with h | rfl
          · exact HALL.out j h
          · rw [ec]; exact hfit)
        rw [hd] at HX
        clear ex ey ez eu ec hwi HP hfit hd
        go_wp2_with fail
        refine (HX.out _).mono ?_
        rintro e w2 ⟨rfl, hb2⟩
        replace HB := Lib.hid (below_on HB.out hb2)
        replace BM := Lib.hid (below_on BM.out hb2)
        clear hb2 b0 b1 b2 b3 b4 m0 m1 m2 m3 m4
        go_wp2_with fail
        go_roundw
        case rel => exact ⟨k + 1, by omega, by go_num, HN.out, HB.out, BM.out⟩
        case measure => simp [intOf]; omega
      · have hd : decide (mSq t k ≤ s * s * c * c) = false := by simpa using hfit
        have HN := Lib.hid (show fitT t s = false by
          have := HFA.out.2.1 k hlt
          rw [← ec] at hfit
          simp only [fitT, decide_eq_false_iff_not]
          omega)
        rw [hd] at HX
        clear ex ey ez eu ec hwi HP hfit hd
        go_wp2_with fail
        refine (HX.out _).mono ?_
        rintro e w2 ⟨rfl, hb2⟩
        replace HB := Lib.hid (below_on HB.out hb2)
        clear hb2 b0 b1 b2 b3 b4 m0 m1 m2 m3 m4
        go_wp2_with fail
        go_ret
        exact ⟨by rw [HN.out]; rfl, HB.out⟩
    · obtain rfl : k = t.n := by omega
      have HN := Lib.hid (show fitT t s = true by
        simp only [fitT, decide_eq_true_eq]
        exact HALL.out _ HFL.out)
      go_wp2_with fail
      go_ret
      exact ⟨by rw [HN.out]; rfl, HB.out⟩
/-! The two tops -/
set_option maxRecDepth 100000 in
set_option maxHeartbeats 4000000 in
theorem FitsStep_any (v : Value) (B : Nat) (t : TrN) (s : Int) (w : World) (hcp : CapT v) (hv : RdT w B v t) (hB : B ≤ w.heap.size) (hs : t.small) :
    Calls Try.prog 63 #[v, .int .i64 s] w fun e w' => e = .returned (.tuple #[.bool (fiV t s), .bool (fiB t s)]) ∧ Below w.heap.size w w' := by
  have P := Lib.hid (fun W (hb : Below w.heap.size w W) => IsTransition_any v B t W hcp (hv.below' hb hB) (Nat.le_trans hB hb.size) hs)
  obtain ⟨A, ca, C, cb, D, cc, rfl, -, -, -⟩ := hv.form
  have K0 := Lib.hid (Blk.new w 27 #[.slice A t.n ca, .slice C t.m cb, .int .i64 t.c, .slice D t.p cc])
  have HB0 := Lib.hid (below_new (Below.refl w.heap.size w) (.cells #[.slice A t.n ca, .slice C t.m cb, .int .i64 t.c, .slice D t.p cc] 27))
  have hfb : fiB t s = (trB t && inB s 1 24) := rfl
  obtain ⟨a0, a1, a2, a3⟩ := K0.out.c4
  cases hg : trB t with
  | false =>
    have HD := Lib.hid (show fiV t s = false ∧ fiB t s = false by simp [fiV, hfb, hg])
    have HG := Lib.hid hg
    clear hg hfb hv hcp hs
    go_enter Try.func63, Try.ntmps63
    go_wp2_with fail
    refine (P.out _ HB0.out).mono ?_
    rintro e w2 ⟨rfl, hb⟩
    rw [HG.out]
    have HB1 := Lib.hid (below_on HB0.out hb)
    clear hb a0 a1 a2 a3 K0 HB0
    go_wp2_with fail
    go_ret2
    exact ⟨by rw [HD.out.1, HD.out.2]; rfl, HB1.out⟩
  | true =>
    cases hi : inB s 1 24 with
    | false =>
      have HD := Lib.hid (show fiV t s = false ∧ fiB t s = false by simp [fiV, hfb, hi])
      have HG := Lib.hid hg
      have HI := Lib.hid hi
      clear hg hfb hv hcp hs hi
      go_enter Try.func63, Try.ntmps63
      go_wp2_with fail
      refine (P.out _ HB0.out).mono ?_
      rintro e w2 ⟨rfl, hb⟩
      rw [HG.out]
      have HB1 := Lib.hid (below_on HB0.out hb)
      clear hb a0 a1 a2 a3 K0 HB0
      go_wp2_with fail
      refine (within_any s 1 24 _).mono ?_
      rintro e w' ⟨rfl, rfl⟩
      rw [HI.out]
      go_wp2_with fail
      go_ret2
      exact ⟨by rw [HD.out.1, HD.out.2]; rfl, HB1.out⟩
    | true =>
      have HD := Lib.hid (show fiV t s = fitT t s ∧ fiB t s = true by simp [fiV, hfb, hg, hi])
      have HG := Lib.hid hg
      have HI := Lib.hid hi
      have hok := tr_ok hg
      have hss := inB_yes hi
      have Q := Lib.hid (fun W (hb : Below w.heap.size w W) => fitsStep_any _ B t s W (hv.below' hb hB) (Nat.le_trans hB hb.size) hok hss)
      clear hg hfb hv hcp hs hi hok hss
      go_enter Try.func63, Try.ntmps63
      go_wp2_with fail
      refine (P.out _ HB0.out).mono ?_
      rintro e w2 ⟨rfl, hb⟩
      rw [HG.out]
      have HB1 := Lib.hid (below_on HB0.out hb)
      have K1 := Lib.hid (K0.out.on hb)
      clear hb a0 a1 a2 a3 K0 HB0
      obtain ⟨a0, a1, a2, a3⟩ := K1.out.c4
      go_wp2_with fail
      refine (within_any s 1 24 _).mono ?_
      rintro e w' ⟨rfl, rfl⟩
      rw [HI.out]
      go_wp2_with fail
      refine (Q.out _ HB1.out).mono ?_
      rintro e w3 ⟨rfl, hb⟩
      have HB2 := Lib.hid (below_on HB1.out hb)
      clear hb a0 a1 a2 a3
      go_wp2_with fail
      go_ret2
      exact ⟨by rw [HD.out.1, HD.out.2]; rfl, HB2.out⟩
set_option maxRecDepth 100000 in
set_option maxHeartbeats 4000000 in
theorem specFitsStep_any (v : Value) (B : Nat) (t : TrN) (s : Int) (w : World) (hcp : CapT v) (hv : RdT w B v t) (hB : B ≤ w.heap.size) (hs : t.small) :
    Calls Try.prog 64 #[v, .int .i64 s] w fun e w' => e = .returned (.tuple #[.bool (fiV t s), .bool (fiB t s)]) ∧ Below w.heap.size w w' := by
  have P := Lib.hid (fun W (hb : Below w.heap.size w W) => asGood_any v B t W hcp (hv.below' hb hB) (Nat.le_trans hB hb.size) hs)
  obtain ⟨A, ca, C, cb, D, cc, rfl, -, -, -⟩ := hv.form
  have K0 := Lib.hid (Blk.new w 27 #[.slice A t.n ca, .slice C t.m cb, .int .i64 t.c, .slice D t.p cc])
  have HB0 := Lib.hid (below_new (Below.refl w.heap.size w) (.cells #[.slice A t.n ca, .slice C t.m cb, .int .i64 t.c, .slice D t.p cc] 27))
  have hfb : fiB t s = (trB t && inB s 1 24) := rfl
  obtain ⟨a0, a1, a2, a3⟩ := K0.out.c4
  cases hg : trB t with
  | false =>
    have HD := Lib.hid (show fiV t s = false ∧ fiB t s = false by simp [fiV, hfb, hg])
    have HG := Lib.hid hg
    clear hg hfb hv hcp hs
    go_enter Try.func64, Try.ntmps64
    go_wp2_with fail
    refine (P.out _ HB0.out).mono ?_
    rintro e w2 ⟨rfl, hb⟩
    rw [HG.out]
    have HB1 := Lib.hid (below_on HB0.out hb)
    clear hb a0 a1 a2 a3 K0 HB0
    go_wp2_with fail
    go_ret2
    exact ⟨by rw [HD.out.1, HD.out.2]; rfl, HB1.out⟩
  | true =>
    cases hi : inB s 1 24 with
    | false =>
      have HD := Lib.hid (show fiV t s = false ∧ fiB t s = false by simp [fiV, hfb, hi])
      have HG := Lib.hid hg
      have HI := Lib.hid hi
      clear hg hfb hv hcp hs hi
      go_enter Try.func64, Try.ntmps64
      go_wp2_with fail
      refine (P.out _ HB0.out).mono ?_
      rintro e w2 ⟨rfl, hb⟩
      rw [HG.out]
      have HB1 := Lib.hid (below_on HB0.out hb)
      clear hb a0 a1 a2 a3 K0 HB0
      go_wp2_with fail
      refine (mvStep_q s _).mono ?_
      rintro e w' ⟨rfl, rfl⟩
      rw [HI.out]
      go_wp2_with fail
      go_ret2
      exact ⟨by rw [HD.out.1, HD.out.2]; rfl, HB1.out⟩
    | true =>
      have HD := Lib.hid (show fiV t s = fitT t s ∧ fiB t s = true by simp [fiV, hfb, hg, hi])
      have HG := Lib.hid hg
      have HI := Lib.hid hi
      have hok := tr_ok hg
      have hss := inB_yes hi
      have Q1 := Lib.hid (fun W (hb : Below w.heap.size w W) => asMoves_any _ B t W (hv.below' hb hB) (Nat.le_trans hB hb.size) hok)
      have Q2 := Lib.hid (fun W (hb : Below w.heap.size w W) => asFarthest_any _ B t W (hv.below' hb hB) (Nat.le_trans hB hb.size) hok)
      clear hs
      have hs := hss
      have n0 := hok.n0
      have n1 := hok.n1
      have c0 := hok.c0
      have c1 := hok.c1
      have HSQ := Lib.hid (fun k (hk : k < t.n) => (by
        have h1 := spotB_yes (hok.from_ k hk)
        have h2 := spotB_yes (hok.to_ _ (hok.place k hk).2)
        omega : (0 ≤ X t.xs k ∧ X t.xs k ≤ 1280) ∧ (0 ≤ Y t.xs k ∧ Y t.xs k ≤ 1280) ∧ (0 ≤ X t.ys (plc t k) ∧ X t.ys (plc t k) ≤ 1280) ∧ (0 ≤ Y t.ys (plc t k) ∧ Y t.ys (plc t k) ≤ 1280)))
      have HW := Lib.hid (fun k (hk : k < t.n) W => mvWithin_any (X t.xs k) (Y t.xs k) (X t.ys (plc t k)) (Y t.ys (plc t k)) t.c s W (HSQ.out k hk).1 (HSQ.out k hk).2.1 (HSQ.out k hk).2.2.1 (HSQ.out k hk).2.2.2 ⟨c0, c1⟩ hs)
      have HFA := Lib.hid (faT_is (t := t) t.n)
      have HFL := Lib.hid (faT_lt (t := t) n0)
      clear HSQ c0 c1
      clear hg hfb hv hcp hi hok hss hs
      go_enter Try.func64, Try.ntmps64
      go_wp2_with fail
      refine (P.out _ HB0.out).mono ?_
      rintro e w2 ⟨rfl, hb⟩
      rw [HG.out]
      have HB1 := Lib.hid (below_on HB0.out hb)
      have K1 := Lib.hid (K0.out.on hb)
      clear hb a0 a1 a2 a3 K0 HB0
      obtain ⟨a0, a1, a2, a3⟩ := K1.out.c4
      go_wp2_with fail
      refine (mvStep_q s _).mono ?_
      rintro e w' ⟨rfl, rfl⟩
      rw [HI.out]
      go_wp2_with fail
      refine wp_region_held_drew (S := fun W => W.cell? ⟨w.heap.size, 0, none⟩ = some (.slice A t.n ca) ∧ W.cell? ⟨w.heap.size, 1, none⟩ = some (.slice C t.m cb) ∧ W.cell? ⟨w.heap.size, 2, none⟩ = some (.int .i64 t.c) ∧ W.cell? ⟨w.heap.size, 3, none⟩ = some (.slice D t.p cc)) (by kernel_rfl) ⟨a0, a1, a2, a3⟩ (fun hHeld => ?_)
      clear a0 a1 a2 a3
      refine take_at (i := 0) (oi := _) 14 (v := .agg #[.slice A t.n ca, .slice C t.m cb, .int .i64 t.c, .slice D t.p cc]) rfl rfl (by kernel_rfl) (by kernel_rfl) (by kernel_rfl) (fun _ _ _ h => h) (Or.inl ⟨by rfl, ?_⟩) hHeld ?_
      · (intro w hSw; (try dsimp only at hSw); go_split_ands; go_simp)
      simp only [List.setIfInBounds_toArray, List.set_cons_zero, List.set_cons_succ]
      refine take_at (i := 2) (oi := _) 16 (v := .agg #[.slice A t.n ca, .slice C t.m cb, .int .i64 t.c, .slice D t.p cc]) rfl rfl (by kernel_rfl) (by kernel_rfl) (by kernel_rfl) (fun _ _ _ h => h) (Or.inl ⟨by rfl, ?_⟩) hHeld ?_
      · (intro w hSw; (try dsimp only at hSw); go_split_ands; go_simp)
      simp only [List.setIfInBounds_toArray, List.set_cons_zero, List.set_cons_succ]
      refine take_at (i := 6) (oi := _) 20 (v := .int .i64 s) rfl rfl (by kernel_rfl) (by kernel_rfl) (by kernel_rfl) (fun _ _ _ h => h) (Or.inl ⟨by rfl, ?_⟩) hHeld ?_
      · (intro w hSw; (try dsimp only at hSw); go_split_ands; go_simp)
      simp only [List.setIfInBounds_toArray, List.set_cons_zero, List.set_cons_succ]
      refine wpAnyH_ready (rs := [1]) (by kernel_rfl) (by simp) ?_
      refine AllReadyH.cons (o := _) rfl (fun K9 hK => ?_) AllReadyH.nil
      go_simp
      refine (Q1.out _ (below_drewN HB1.out 1)).mono ?_
      rintro e w1 ⟨mv, rfl, o1, hb⟩
      have HB2 := Lib.hid (below_on (below_drewN HB1.out 1) hb)
      obtain ⟨bm, cm, rfl, -, hbm⟩ : ∃ b c, mv = .slice (some ⟨b, 0, none⟩) t.n c ∧ w.heap.size ≤ b ∧ b < w1.heap.size := by
        have hl := o1.lt
        rcases o1.2 with ⟨rfl, h0⟩ | ⟨g, cap, cur, rfl, _⟩
        · exact absurd h0 (by omega)
        · exact ⟨g, cap, rfl, Nat.le_trans (below_drewN HB1.out 1).size (hl g rfl).1, (hl g rfl).2⟩
      have HM := Lib.hid (fun (V : World) (hb : Below w1.heap.size w1 V) (j : Nat) (hj : j < t.n) => (by
        have h := mvTo_get t t.n j hj
        have hl := mvTo_length t t.n
        have g := fun i (hi : i < t.n * 5) => (hb.cell (p := ⟨bm, i, none⟩) hbm).trans ((o1.cellAt i hi).trans (ints_get _ i (by rw [hl]; exact hi)))
        have k0 := g (j * 5) (by omega)
        have k1 := g (j * 5 + 1) (by omega)
        have k2 := g (j * 5 + 2) (by omega)
        have k3 := g (j * 5 + 3) (by omega)
        have k4 := g (j * 5 + 4) (by omega)
        rw [h.1] at k0
        rw [h.2.1] at k1
        rw [h.2.2.1] at k2
        rw [h.2.2.2.1] at k3
        rw [h.2.2.2.2] at k4
        exact ⟨k0, k1, k2, k3, k4⟩ : V.cell? ⟨bm, j * 5, none⟩ = some (.int .i64 (X t.xs j)) ∧ V.cell? ⟨bm, j * 5 + 1, none⟩ = some (.int .i64 (Y t.xs j)) ∧ V.cell? ⟨bm, j * 5 + 2, none⟩ = some (.int .i64 (X t.ys (plc t j))) ∧ V.cell? ⟨bm, j * 5 + 3, none⟩ = some (.int .i64 (Y t.ys (plc t j))) ∧ V.cell? ⟨bm, j * 5 + 4, none⟩ = some (.int .i64 t.c)))
      clear o1
      obtain ⟨h0, h1, h2, h3⟩ := hHeld
      refine hK.out _ _ ⟨cell_on hb h0, cell_on hb h1, cell_on hb h2, cell_on hb h3⟩ (fun hHeld => ?_)
      clear hK K9 hb h0 h1 h2 h3
      try simp only [Act.put, List.setIfInBounds_toArray, List.set_cons_zero, List.set_cons_succ]
      refine wpAnyH_ready (rs := [3]) (by kernel_rfl) (by simp) ?_
      refine AllReadyH.cons (o := _) rfl (fun K9 hK => ?_) AllReadyH.nil
      go_simp
      refine (Q2.out _ HB2.out).mono ?_
      rintro e w3 ⟨rfl, hb⟩
      have HB3 := Lib.hid (below_on HB2.out hb)
      obtain ⟨m0, m1, m2, m3, m4⟩ := HM.out _ hb _ HFL.out
      obtain ⟨h0, h1, h2, h3⟩ := hHeld
      refine hK.out _ _ ⟨cell_on hb h0, cell_on hb h1, cell_on hb h2, cell_on hb h3⟩ (fun hHeld => ?_)
      clear hK K9 hb h0 h1 h2 h3
      try simp only [Act.put, List.setIfInBounds_toArray, List.set_cons_zero, List.set_cons_succ]
      have HP := HW.out _ HFL.out
      have hwi := wi_mv t s (faT t t.n)
      have hfl := HFL.out
      have hft : fitT t s = decide (mSq t (faT t t.n) ≤ s * s * t.c * t.c) := rfl
      rw [hwi, ← hft] at HP
      obtain ⟨f, ef⟩ : ∃ f, faT t t.n = f := ⟨_, rfl⟩
      rw [ef] at m0 m1 m2 m3 m4 HP hfl ⊢
      have j0 : (0 : Int) ≤ (f : Int) := by omega
      have j1 : (f : Int) < (t.n : Int) := by omega
      have HX := Lib.hid HP
      clear hwi hft HP ef
      refine wpAnyH_ready (rs := [4]) (by kernel_rfl) (by simp) ?_
      refine AllReadyH.cons (o := _) rfl (fun K9 hK => ?_) AllReadyH.nil
      go_simp
      refine hK.out _ _ hHeld (fun hHeld => ?_)
      clear hK K9
      try simp only [Act.put, List.setIfInBounds_toArray, List.set_cons_zero, List.set_cons_succ]
      refine wpAnyH_ready (rs := [5]) (by kernel_rfl) (by simp) ?_
      refine AllReadyH.cons (o := _) rfl (fun K9 hK => ?_) AllReadyH.nil
      go_simp
      refine hK.out _ _ hHeld (fun hHeld => ?_)
      clear hK K9
      try simp only [Act.put, List.setIfInBounds_toArray, List.set_cons_zero, List.set_cons_succ]
      refine wpAnyH_ready (rs := [7]) (by kernel_rfl) (by simp) ?_
      refine AllReadyH.cons (o := _) rfl (fun K9 hK => ?_) AllReadyH.nil
      go_simp
      refine (HX.out _).mono ?_
      rintro e w4 ⟨rfl, hb⟩
      have HB4 := Lib.hid (below_on HB3.out hb)
      obtain ⟨h0, h1, h2, h3⟩ := hHeld
      refine hK.out _ _ ⟨cell_on hb h0, cell_on hb h1, cell_on hb h2, cell_on hb h3⟩ (fun hHeld => ?_)
      clear hK K9 hb h0 h1 h2 h3 m0 m1 m2 m3 m4
      try simp only [Act.put, List.setIfInBounds_toArray, List.set_cons_zero, List.set_cons_succ]
      refine wpAnyH_ready (rs := [8]) (by kernel_rfl) (by simp) ?_
      refine AllReadyH.cons (o := _) rfl (fun K9 hK => ?_) AllReadyH.nil
      go_simp
      refine hK.out _ _ hHeld (fun hHeld => ?_)
      clear hK K9
      try simp only [Act.put, List.setIfInBounds_toArray, List.set_cons_zero, List.set_cons_succ]
      refine wpAnyH_ready (rs := [9]) (by kernel_rfl) (by simp) ?_
      refine AllReadyH.cons (o := _) rfl (fun K9 hK => ?_) AllReadyH.nil
      go_simp
      refine hK.out _ _ hHeld (fun hHeld => ?_)
      clear hK K9
      try simp only [Act.put, List.setIfInBounds_toArray, List.set_cons_zero, List.set_cons_succ]
      refine wpAnyH_done (by kernel_rfl) ?_ _
      clear hHeld
      go_wp2_with fail
      go_ret2
      exact ⟨by rw [HD.out.1, HD.out.2]; rfl, HB4.out⟩
end Go.Proofs.Ytjcepipgjpaclaa

namespace Go.Proofs.Ytjcepipgjpaclaa
open Go.RowKit

def wdT (t : TrN) : Int × Int := if trB t = true then (tmA (mSq t (faT t t.n)) (t.c * t.c), tmB (mSq t (faT t t.n)) (t.c * t.c)) else (0, 0)
theorem wd_no {t : TrN} (h : trB t = false) : wdT t = (0, 0) := by simp [wdT, h]
theorem wd_yes {t : TrN} (h : trB t = true) : wdT t = (tmA (mSq t (faT t t.n)) (t.c * t.c), tmB (mSq t (faT t t.n)) (t.c * t.c)) := by simp [wdT, h]
/-- All moves are in a step's width if and only if the widest one's fraction is. -/
theorem wd_fits {t : TrN} (h : trB t = true) (s : Int) : decide ((wdT t).1 ≤ s * s * (wdT t).2) = decide (mSq t (faT t t.n) ≤ s * s * t.c * t.c) := by
  have hok := tr_ok h
  have hm := mSq_in hok (faT_lt (t := t) hok.n0)
  have hc := Int.mul_pos (show 0 < t.c by have := hok.c0; omega) (show 0 < t.c by have := hok.c0; omega)
  have hs := tm_same hm.1 hc
  have hb := (tm_bounds hm.1 hc).2.2.1
  rw [wd_yes h]
  simp only
  obtain ⟨m, em⟩ : ∃ q, mSq t (faT t t.n) = q := ⟨_, rfl⟩
  obtain ⟨d, ed⟩ : ∃ q, t.c * t.c = q := ⟨_, rfl⟩
  have e2 : s * s * t.c * t.c = s * s * d := by rw [Int.mul_assoc, ed]
  rw [em, ed] at hs hb ⊢
  rw [ed] at hc
  rw [e2]
  obtain ⟨p, ep⟩ : ∃ q, tmA m d = q := ⟨_, rfl⟩
  obtain ⟨q, eq⟩ : ∃ q, tmB m d = q := ⟨_, rfl⟩
  rw [ep, eq] at hs ⊢
  rw [eq] at hb
  have h1 : p * d ≤ s * s * q * d ↔ p ≤ s * s * q := ⟨fun h => Int.le_of_mul_le_mul_right h hc, fun h => Int.mul_le_mul_of_nonneg_right h (by omega)⟩
  have h2 : m * q ≤ s * s * d * q ↔ m ≤ s * s * d := ⟨fun h => Int.le_of_mul_le_mul_right h (by omega), fun h => Int.mul_le_mul_of_nonneg_right h (by omega)⟩
  have h3 : s * s * q * d = s * s * d * q := Int.mul_right_comm _ _ _
  have h4 : (p ≤ s * s * q) ↔ (m ≤ s * s * d) := by rw [← h1, ← h2, hs, h3]
  exact decide_eq_decide.2 h4
set_option maxRecDepth 100000 in
set_option maxHeartbeats 4000000 in
theorem WidestStep_any (v : Value) (B : Nat) (t : TrN) (w : World) (hcp : CapT v) (hv : RdT w B v t) (hB : B ≤ w.heap.size) (hs : t.small) :
    Calls Try.prog 43 #[v] w fun e w' => e = .returned (.tuple #[.int .i64 (wdT t).1, .int .i64 (wdT t).2, .bool (trB t)]) ∧ Below w.heap.size w w' := by
  have P := Lib.hid (fun W (hb : Below w.heap.size w W) => IsTransition_any v B t W hcp (hv.below' hb hB) (Nat.le_trans hB hb.size) hs)
  cases hg : trB t with
  | false =>
    obtain ⟨A, ca, C, cb, D, cc, rfl, -, -, -⟩ := hv.form
    have K0 := Lib.hid (Blk.new w 27 #[.slice A t.n ca, .slice C t.m cb, .int .i64 t.c, .slice D t.p cc])
    have HB0 := Lib.hid (below_new (Below.refl w.heap.size w) (.cells #[.slice A t.n ca, .slice C t.m cb, .int .i64 t.c, .slice D t.p cc] 27))
    obtain ⟨a0, a1, a2, a3⟩ := K0.out.c4
    have HD := Lib.hid (wd_no hg)
    have HG := Lib.hid hg
    clear hg hv hcp hs
    go_enter Try.func43, Try.ntmps43
    go_wp2_with fail
    refine (P.out _ HB0.out).mono ?_
    rintro e w2 ⟨rfl, hb⟩
    rw [HG.out]
    have HB1 := Lib.hid (below_on HB0.out hb)
    clear hb a0 a1 a2 a3 K0 HB0
    go_wp2_with fail
    go_ret3
    exact ⟨by rw [HD.out]; rfl, HB1.out⟩
  | true =>
    have hok := tr_ok hg
    have HD := Lib.hid (wd_yes hg)
    have HG := Lib.hid hg
    have Q := Lib.hid (fun W (hb : Below w.heap.size w W) => farthestMove_any v B t W (hv.below' hb hB) (Nat.le_trans hB hb.size) (tr_ok HG.out))
    have hfl := faT_lt (t := t) hok.n0
    have hc0 := hok.c0
    have hc1 := hok.c1
    have hmE0 := hok.m
    have hpE0 := hok.p
    clear hg hcp hs
    have n0 := hok.n0
    have n1 := hok.n1
    have hPl := hok.place
    have hmE := hok.m
    have hpE := hok.p
    have HIN := Lib.hid (fun k (hk : k ≤ t.n) => suT_in hok k hk)
    have HSQ := Lib.hid (fun k (hk : k < t.n) => (by
      have h1 := spotB_yes (hok.from_ k hk)
      have h2 := spotB_yes (hok.to_ _ (hok.place k hk).2)
      omega : (0 ≤ X t.xs k ∧ X t.xs k ≤ 1280) ∧ (0 ≤ Y t.xs k ∧ Y t.xs k ≤ 1280) ∧ (0 ≤ X t.ys (plc t k) ∧ X t.ys (plc t k) ≤ 1280) ∧ (0 ≤ Y t.ys (plc t k) ∧ Y t.ys (plc t k) ≤ 1280)))
    have HMS := Lib.hid (fun k (hk : k < t.n) => mSq_in hok hk)
    obtain ⟨A, ca, C, cb, D, cc, rfl, ha, hb, hc⟩ := hv.form
    clear hv
    rw [hmE] at hb ⊢
    rw [hpE] at hc ⊢
    obtain ⟨bA, oA, rfl, hbA, hcA⟩ := ha.spot n0
    obtain ⟨bC, oC, rfl, hbC, hcC⟩ := hb.spot n0
    obtain ⟨_, D', cc', e, hD⟩ := hc
    simp only [Value.slice.injEq, true_and] at e
    obtain ⟨rfl, rfl⟩ := e
    obtain ⟨b, off, rfl, hbD, hcD⟩ := hD (by omega)
    have HPL := Lib.hid hPl
    have HCX := Lib.hid (fun (V : World) (h : Below w.heap.size w V) (j : Nat) (hj : j < t.n) => (by
      have hd := hcD j (by omega)
      rw [(hPl j hj).1] at hd
      have h1 := hcA j hj
      have h2 := hcC (plc t j) (hPl j hj).2
      exact ⟨(h.cell (p := ⟨bA, oA + j * 2, none⟩) (Nat.lt_of_lt_of_le hbA hB)).trans h1.1, (h.cell (p := ⟨bA, oA + j * 2 + 1, none⟩) (Nat.lt_of_lt_of_le hbA hB)).trans h1.2, (h.cell (p := ⟨bC, oC + plc t j * 2, none⟩) (Nat.lt_of_lt_of_le hbC hB)).trans h2.1, (h.cell (p := ⟨bC, oC + plc t j * 2 + 1, none⟩) (Nat.lt_of_lt_of_le hbC hB)).trans h2.2, (h.cell (p := ⟨b, off + j, none⟩) (Nat.lt_of_lt_of_le hbD hB)).trans hd⟩ :
      V.cell? ⟨bA, oA + j * 2, none⟩ = some (.int .i64 (X t.xs j)) ∧ V.cell? ⟨bA, oA + j * 2 + 1, none⟩ = some (.int .i64 (Y t.xs j)) ∧ V.cell? ⟨bC, oC + plc t j * 2, none⟩ = some (.int .i64 (X t.ys (plc t j))) ∧ V.cell? ⟨bC, oC + plc t j * 2 + 1, none⟩ = some (.int .i64 (Y t.ys (plc t j))) ∧ V.cell? ⟨b, off + j, none⟩ = some (.int .i64 (plc t j : Int))))
    have K0 := Lib.hid (Blk.new w 27 #[.slice (some ⟨bA, oA, none⟩) t.n ca, .slice (some ⟨bC, oC, none⟩) t.n cb, .int .i64 t.c, .slice (some ⟨b, off, none⟩) t.n cc])
    have HB0 := Lib.hid (below_new (Below.refl w.heap.size w) (.cells #[.slice (some ⟨bA, oA, none⟩) t.n ca, .slice (some ⟨bC, oC, none⟩) t.n cb, .int .i64 t.c, .slice (some ⟨b, off, none⟩) t.n cc] 27))
    obtain ⟨a0, a1, a2, a3⟩ := K0.out.c4
    clear ha hb hD hcA hcC hcD hPl hmE hpE hok
    rw [hmE0] at P Q
    rw [hpE0] at P Q
    have hcc : 0 < t.c * t.c := Int.mul_pos (by omega) (by omega)
    have hcc2 : t.c * t.c ≤ 64 * 64 := Int.mul_le_mul (by omega) (by omega) (by omega) (by omega)
    have hms := HMS.out _ hfl
    have PL := Lib.hid (fun W => lowestTerms_any (mSq t (faT t t.n)) (t.c * t.c) W hms.1 (by omega) hcc (by omega))
    obtain ⟨k, ek⟩ : ∃ q, faT t t.n = q := ⟨_, rfl⟩
    rw [ek] at PL HD Q hfl hms
    obtain ⟨c, ec⟩ : ∃ q, t.c = q := ⟨_, rfl⟩
    rw [ec] at P Q K0 HB0 PL HD hcc hcc2 a2 ⊢
    have i9 := IntWalk.i64_in (c * c) (by omega)
    clear hmE0 hpE0 hc0 hc1 ek ec
    have hlt := hfl
    obtain ⟨m, em⟩ : ∃ q, mSq t k = q := ⟨_, rfl⟩
    go_enter Try.func43, Try.ntmps43
    go_wp2_with fail
    refine (P.out _ HB0.out).mono ?_
    rintro e w2 ⟨rfl, hb⟩
    rw [HG.out]
    replace K0 := Lib.hid (K0.out.on hb)
    replace HB0 := Lib.hid (below_on HB0.out hb)
    clear hb a0 a1 a2 a3
    obtain ⟨a0, a1, a2, a3⟩ := K0.out.c4
    go_wp2_with fail
    refine (Q.out _ HB0.out).mono ?_
    rintro e w3 ⟨rfl, hb⟩
    have KB := Lib.hid (K0.out.on hb)
    have HB := Lib.hid (below_on HB0.out hb)
    clear hb a0 a1 a2 a3 K0 HB0 hms hcc hcc2
    obtain ⟨c0, c1, c2, c3, c4⟩ := HCX.out _ HB.out k hlt
    obtain ⟨⟨x0, x1⟩, ⟨y0, y1⟩, ⟨z0, z1⟩, u0, u1⟩ := HSQ.out k hlt
    have hsq : mSq t k = sqL (X t.xs k) (Y t.xs k) (X t.ys (plc t k)) (Y t.ys (plc t k)) := rfl
    have hpl := (HPL.out k hlt).2
    obtain ⟨x, ex⟩ : ∃ q, X t.xs k = q := ⟨_, rfl⟩
    obtain ⟨y, ey⟩ : ∃ q, Y t.xs k = q := ⟨_, rfl⟩
    obtain ⟨z, ez⟩ : ∃ q, X t.ys (plc t k) = q := ⟨_, rfl⟩
    obtain ⟨u, eu⟩ : ∃ q, Y t.ys (plc t k) = q := ⟨_, rfl⟩
    obtain ⟨q, eq⟩ : ∃ q, plc t k = q := ⟨_, rfl⟩
    rw [ex] at c0 x0 x1 hsq
    rw [ey] at c1 y0 y1 hsq
    rw [ez] at c2 z0 z1 hsq
    rw [eu] at c3 u0 u1 hsq
    rw [eq] at c2 c3 c4 hpl
    have HP := Lib.hid (fun W => squareOf_any x y z u W ⟨x0, x1⟩ ⟨y0, y1⟩ ⟨z0, z1⟩ ⟨u0, u1⟩)
    rw [← hsq] at HP
    have i0 : (0 : Int) ≤ (k : Int) := by omega
    have i1 : (k : Int) < (t.n : Int) := by omega
    have i2 : (0 : Int) ≤ (q : Int) := by omega
    have i3 : (q : Int) < (t.n : Int) := by omega
    clear ex ey ez eu eq hsq x0 x1 y0 y1 z0 z1 u0 u1
    rw [em] at PL HD HP
    clear em
    obtain ⟨a0, a1, a2, a3⟩ := KB.out.c4
    go_wp2_with fail
    refine wp_region_held_drew (S := fun W => W.cell? ⟨w.heap.size, 0, none⟩ = some (.slice (some ⟨bA, oA, none⟩) t.n ca) ∧ W.cell? ⟨w.heap.size, 1, none⟩ = some (.slice (some ⟨bC, oC, none⟩) t.n cb) ∧ W.cell? ⟨w.heap.size, 2, none⟩ = some (.int .i64 c) ∧ W.cell? ⟨w.heap.size, 3, none⟩ = some (.slice (some ⟨b, off, none⟩) t.n cc) ∧ W.cell? ⟨bA, oA + k * 2, none⟩ = some (.int .i64 x) ∧ W.cell? ⟨bA, oA + k * 2 + 1, none⟩ = some (.int .i64 y) ∧ W.cell? ⟨bC, oC + q * 2, none⟩ = some (.int .i64 z) ∧ W.cell? ⟨bC, oC + q * 2 + 1, none⟩ = some (.int .i64 u) ∧ W.cell? ⟨b, off + k, none⟩ = some (.int .i64 (q : Int))) (by kernel_rfl) ⟨a0, a1, a2, a3, c0, c1, c2, c3, c4⟩ (fun hHeld => ?_)
    clear a0 a1 a2 a3 c0 c1 c2 c3 c4
    refine take_at (i := 0) (oi := _) 14 (v := .pointer (some ⟨w.heap.size, 0, none⟩)) rfl rfl (by kernel_rfl) (by kernel_rfl) (by kernel_rfl) (fun _ _ _ h => h) (Or.inl ⟨by rfl, ?_⟩) hHeld ?_
    · (intro w hSw; (try dsimp only at hSw); go_split_ands; go_simp)
    simp only [List.setIfInBounds_toArray, List.set_cons_zero, List.set_cons_succ]
    refine take_at (i := 1) (oi := _) 15 (v := .slice (some ⟨bA, oA, none⟩) t.n ca) rfl rfl (by kernel_rfl) (by kernel_rfl) (by kernel_rfl) (fun _ _ _ h => h) (Or.inl ⟨by rfl, ?_⟩) hHeld ?_
    · (intro w hSw; (try dsimp only at hSw); go_split_ands; go_simp)
    simp only [List.setIfInBounds_toArray, List.set_cons_zero, List.set_cons_succ]
    refine take_at (i := 2) (oi := _) 16 (v := .int .i64 (k : Int)) rfl rfl (by kernel_rfl) (by kernel_rfl) (by kernel_rfl) (fun _ _ _ h => h) (Or.inl ⟨by rfl, ?_⟩) hHeld ?_
    · (intro w hSw; (try dsimp only at hSw); go_split_ands; go_simp)
    simp only [List.setIfInBounds_toArray, List.set_cons_zero, List.set_cons_succ]
    refine take_at (i := 3) (oi := _) 17 (v := .pointer (some ⟨bA, oA + k * 2, none⟩)) rfl rfl (by kernel_rfl) (by kernel_rfl) (by kernel_rfl) (fun _ _ _ h => h) (Or.inl ⟨by rfl, ?_⟩) hHeld ?_
    · (intro w hSw; (try dsimp only at hSw); go_split_ands; go_simp)
    simp only [List.setIfInBounds_toArray, List.set_cons_zero, List.set_cons_succ]
    refine take_at (i := 4) (oi := _) 18 (v := (Value.agg #[Value.int .i64 x, Value.int .i64 y])) rfl rfl (by kernel_rfl) (by kernel_rfl) (by kernel_rfl) (fun _ _ _ h => h) (Or.inl ⟨by rfl, ?_⟩) hHeld ?_
    · (intro w hSw; (try dsimp only at hSw); go_split_ands; go_simp)
    simp only [List.setIfInBounds_toArray, List.set_cons_zero, List.set_cons_succ]
    refine take_at (i := 5) (oi := _) 19 (v := .pointer (some ⟨w.heap.size, 1, none⟩)) rfl rfl (by kernel_rfl) (by kernel_rfl) (by kernel_rfl) (fun _ _ _ h => h) (Or.inl ⟨by rfl, ?_⟩) hHeld ?_
    · (intro w hSw; (try dsimp only at hSw); go_split_ands; go_simp)
    simp only [List.setIfInBounds_toArray, List.set_cons_zero, List.set_cons_succ]
    refine take_at (i := 6) (oi := _) 20 (v := .slice (some ⟨bC, oC, none⟩) t.n cb) rfl rfl (by kernel_rfl) (by kernel_rfl) (by kernel_rfl) (fun _ _ _ h => h) (Or.inl ⟨by rfl, ?_⟩) hHeld ?_
    · (intro w hSw; (try dsimp only at hSw); go_split_ands; go_simp)
    simp only [List.setIfInBounds_toArray, List.set_cons_zero, List.set_cons_succ]
    refine take_at (i := 7) (oi := _) 21 (v := .pointer (some ⟨w.heap.size, 3, none⟩)) rfl rfl (by kernel_rfl) (by kernel_rfl) (by kernel_rfl) (fun _ _ _ h => h) (Or.inl ⟨by rfl, ?_⟩) hHeld ?_
    · (intro w hSw; (try dsimp only at hSw); go_split_ands; go_simp)
    simp only [List.setIfInBounds_toArray, List.set_cons_zero, List.set_cons_succ]
    refine take_at (i := 8) (oi := _) 22 (v := .slice (some ⟨b, off, none⟩) t.n cc) rfl rfl (by kernel_rfl) (by kernel_rfl) (by kernel_rfl) (fun _ _ _ h => h) (Or.inl ⟨by rfl, ?_⟩) hHeld ?_
    · (intro w hSw; (try dsimp only at hSw); go_split_ands; go_simp)
    simp only [List.setIfInBounds_toArray, List.set_cons_zero, List.set_cons_succ]
    refine take_at (i := 9) (oi := _) 23 (v := .int .i64 (k : Int)) rfl rfl (by kernel_rfl) (by kernel_rfl) (by kernel_rfl) (fun _ _ _ h => h) (Or.inl ⟨by rfl, ?_⟩) hHeld ?_
    · (intro w hSw; (try dsimp only at hSw); go_split_ands; go_simp)
    simp only [List.setIfInBounds_toArray, List.set_cons_zero, List.set_cons_succ]
    refine take_at (i := 10) (oi := _) 24 (v := .pointer (some ⟨b, off + k, none⟩)) rfl rfl (by kernel_rfl) (by kernel_rfl) (by kernel_rfl) (fun _ _ _ h => h) (Or.inl ⟨by rfl, ?_⟩) hHeld ?_
    · (intro w hSw; (try dsimp only at hSw); go_split_ands; go_simp)
    simp only [List.setIfInBounds_toArray, List.set_cons_zero, List.set_cons_succ]
    refine take_at (i := 11) (oi := _) 25 (v := .int .i64 (q : Int)) rfl rfl (by kernel_rfl) (by kernel_rfl) (by kernel_rfl) (fun _ _ _ h => h) (Or.inl ⟨by rfl, ?_⟩) hHeld ?_
    · (intro w hSw; (try dsimp only at hSw); go_split_ands; go_simp)
    simp only [List.setIfInBounds_toArray, List.set_cons_zero, List.set_cons_succ]
    refine take_at (i := 12) (oi := _) 26 (v := .pointer (some ⟨bC, oC + q * 2, none⟩)) rfl rfl (by kernel_rfl) (by kernel_rfl) (by kernel_rfl) (fun _ _ _ h => h) (Or.inl ⟨by rfl, ?_⟩) hHeld ?_
    · (intro w hSw; (try dsimp only at hSw); go_split_ands; go_simp)
    simp only [List.setIfInBounds_toArray, List.set_cons_zero, List.set_cons_succ]
    refine take_at (i := 13) (oi := _) 27 (v := (Value.agg #[Value.int .i64 z, Value.int .i64 u])) rfl rfl (by kernel_rfl) (by kernel_rfl) (by kernel_rfl) (fun _ _ _ h => h) (Or.inl ⟨by rfl, ?_⟩) hHeld ?_
    · (intro w hSw; (try dsimp only at hSw); go_split_ands; go_simp)
    simp only [List.setIfInBounds_toArray, List.set_cons_zero, List.set_cons_succ]
    refine take_at (i := 15) (oi := _) 29 (v := .pointer (some ⟨w.heap.size, 2, none⟩)) rfl rfl (by kernel_rfl) (by kernel_rfl) (by kernel_rfl) (fun _ _ _ h => h) (Or.inl ⟨by rfl, ?_⟩) hHeld ?_
    · (intro w hSw; (try dsimp only at hSw); go_split_ands; go_simp)
    simp only [List.setIfInBounds_toArray, List.set_cons_zero, List.set_cons_succ]
    refine take_at (i := 16) (oi := _) 30 (v := .int .i64 c) rfl rfl (by kernel_rfl) (by kernel_rfl) (by kernel_rfl) (fun _ _ _ h => h) (Or.inl ⟨by rfl, ?_⟩) hHeld ?_
    · (intro w hSw; (try dsimp only at hSw); go_split_ands; go_simp)
    simp only [List.setIfInBounds_toArray, List.set_cons_zero, List.set_cons_succ]
    refine take_at (i := 17) (oi := _) 31 (v := .pointer (some ⟨w.heap.size, 2, none⟩)) rfl rfl (by kernel_rfl) (by kernel_rfl) (by kernel_rfl) (fun _ _ _ h => h) (Or.inl ⟨by rfl, ?_⟩) hHeld ?_
    · (intro w hSw; (try dsimp only at hSw); go_split_ands; go_simp)
    simp only [List.setIfInBounds_toArray, List.set_cons_zero, List.set_cons_succ]
    refine take_at (i := 18) (oi := _) 32 (v := .int .i64 c) rfl rfl (by kernel_rfl) (by kernel_rfl) (by kernel_rfl) (fun _ _ _ h => h) (Or.inl ⟨by rfl, ?_⟩) hHeld ?_
    · (intro w hSw; (try dsimp only at hSw); go_split_ands; go_simp)
    simp only [List.setIfInBounds_toArray, List.set_cons_zero, List.set_cons_succ]
    refine take_at (i := 19) (oi := _) 33 (v := .int .i64 (c * c)) rfl rfl (by kernel_rfl) (by kernel_rfl) (by kernel_rfl) (fun _ _ _ h => h) (Or.inl ⟨by rfl, ?_⟩) hHeld ?_
    · (intro w hSw; (try dsimp only at hSw); go_split_ands; go_simp)
    simp only [List.setIfInBounds_toArray, List.set_cons_zero, List.set_cons_succ]
    refine wpAnyH_ready (rs := [14]) (by kernel_rfl) (by simp) ?_
    refine AllReadyH.cons (o := _) rfl (fun K9 hK => ?_) AllReadyH.nil
    go_simp
    refine (HP.out _).mono ?_
    rintro e w8 ⟨rfl, hb9⟩
    replace HB := Lib.hid (below_on (below_drewN HB.out 1) hb9)
    obtain ⟨h0, h1, h2, h3, h4, h5, h6, h7, h8⟩ := hHeld
    refine hK.out _ _ ⟨cell_on hb9 h0, cell_on hb9 h1, cell_on hb9 h2, cell_on hb9 h3, cell_on hb9 h4, cell_on hb9 h5, cell_on hb9 h6, cell_on hb9 h7, cell_on hb9 h8⟩ (fun hHeld => ?_)
    clear hK K9 hb9 h0 h1 h2 h3 h4 h5 h6 h7 h8
    try simp only [Act.put, List.setIfInBounds_toArray, List.set_cons_zero, List.set_cons_succ]
    refine wpAnyH_ready (rs := [20]) (by kernel_rfl) (by simp) ?_
    refine AllReadyH.cons (o := _) rfl (fun K9 hK => ?_) AllReadyH.nil
    go_simp
    refine (PL.out _).mono ?_
    rintro e w9 ⟨rfl, hb9⟩
    have HB2 := Lib.hid (below_on HB.out hb9)
    obtain ⟨h0, h1, h2, h3, h4, h5, h6, h7, h8⟩ := hHeld
    refine hK.out _ _ ⟨cell_on hb9 h0, cell_on hb9 h1, cell_on hb9 h2, cell_on hb9 h3, cell_on hb9 h4, cell_on hb9 h5, cell_on hb9 h6, cell_on hb9 h7, cell_on hb9 h8⟩ (fun hHeld => ?_)
    clear hK K9 hb9 h0 h1 h2 h3 h4 h5 h6 h7 h8
    try simp only [Act.put, List.setIfInBounds_toArray, List.set_cons_zero, List.set_cons_succ]
    refine take_at (i := 21) (oi := _) 13 (v := .tuple #[.int .i64 (tmA m (c * c)), .int .i64 (tmB m (c * c))]) rfl rfl (by kernel_rfl) (by kernel_rfl) (by kernel_rfl) (fun _ _ _ h => h) (Or.inl ⟨by rfl, ?_⟩) hHeld ?_
    · (intro w hSw; (try dsimp only at hSw); go_split_ands; go_simp)
    simp only [List.setIfInBounds_toArray, List.set_cons_zero, List.set_cons_succ]
    refine take_at (i := 22) (oi := _) 35 (v := .int .i64 (tmA m (c * c))) rfl rfl (by kernel_rfl) (by kernel_rfl) (by kernel_rfl) (fun _ _ _ h => h) (Or.inl ⟨by rfl, ?_⟩) hHeld ?_
    · (intro w hSw; (try dsimp only at hSw); go_split_ands; go_simp)
    simp only [List.setIfInBounds_toArray, List.set_cons_zero, List.set_cons_succ]
    refine take_at (i := 23) (oi := _) 36 (v := .int .i64 (tmB m (c * c))) rfl rfl (by kernel_rfl) (by kernel_rfl) (by kernel_rfl) (fun _ _ _ h => h) (Or.inl ⟨by rfl, ?_⟩) hHeld ?_
    · (intro w hSw; (try dsimp only at hSw); go_split_ands; go_simp)
    simp only [List.setIfInBounds_toArray, List.set_cons_zero, List.set_cons_succ]
    refine wpAnyH_ready (rs := [24]) (by kernel_rfl) (by simp) ?_
    refine AllReadyH.cons (o := _) rfl (fun K9 hK => ?_) AllReadyH.nil
    go_simp
    refine hK.out _ _ hHeld (fun hHeld => ?_)
    clear hK K9
    try simp only [Act.put, List.setIfInBounds_toArray, List.set_cons_zero, List.set_cons_succ]
    refine wpAnyH_ready (rs := [25]) (by kernel_rfl) (by simp) ?_
    refine AllReadyH.cons (o := _) rfl (fun K9 hK => ?_) AllReadyH.nil
    go_simp
    refine hK.out _ _ hHeld (fun hHeld => ?_)
    clear hK K9
    try simp only [Act.put, List.setIfInBounds_toArray, List.set_cons_zero, List.set_cons_succ]
    refine wpAnyH_done (by kernel_rfl) ?_ _
    clear hHeld
    go_wp2_with fail
    go_ret3
    exact ⟨by rw [HD.out]; rfl, HB2.out⟩
/-! The square of two spots -/
theorem SquareOf_yes (x y z u : Int) (w : World) (h1 : spotB x y = true) (h2 : spotB z u = true) :
    Calls Try.prog 61 #[(Value.agg #[Value.int .i64 x, Value.int .i64 y]), (Value.agg #[Value.int .i64 z, Value.int .i64 u])] w fun e w' => e = .returned (.tuple #[.int .i64 (sqL x y z u), .bool true]) ∧ Below w.heap.size w w' := by
  have g1 := spotB_yes h1
  have g2 := spotB_yes h2
  have P1 := Lib.hid (fun W => IsSpot_any x y W)
  have P2 := Lib.hid (fun W => IsSpot_any z u W)
  have P3 := Lib.hid (fun W => squareOf_any x y z u W (by omega) (by omega) (by omega) (by omega))
  rw [h1] at P1
  rw [h2] at P2
  have K1 := Lib.hid ((Blk.new w 45 #[.int .i64 x, .int .i64 y]).alloc (.cells #[.int .i64 z, .int .i64 u] 45))
  have K2 := Lib.hid (Blk.new2 w (.cells #[.int .i64 x, .int .i64 y] 45) 45 #[.int .i64 z, .int .i64 u])
  have HB0 := Lib.hid (below_new (below_new (Below.refl w.heap.size w) (.cells #[.int .i64 x, .int .i64 y] 45)) (.cells #[.int .i64 z, .int .i64 u] 45))
  obtain ⟨a0, a1⟩ := K1.out.c2
  obtain ⟨b0, b1⟩ := K2.out.c2
  clear g1 g2 h1 h2
  go_enter Try.func61, Try.ntmps61
  go_wp2_with fail
  refine (P1.out _).mono ?_
  rintro e w1 ⟨rfl, hb⟩
  replace K1 := Lib.hid (K1.out.on hb)
  replace K2 := Lib.hid (K2.out.on hb)
  replace HB0 := Lib.hid (below_on HB0.out hb)
  clear hb a0 a1 b0 b1
  obtain ⟨a0, a1⟩ := K1.out.c2
  obtain ⟨b0, b1⟩ := K2.out.c2
  go_wp2_with fail
  refine (P2.out _).mono ?_
  rintro e w2 ⟨rfl, hb⟩
  replace K1 := Lib.hid (K1.out.on hb)
  replace K2 := Lib.hid (K2.out.on hb)
  replace HB0 := Lib.hid (below_on HB0.out hb)
  clear hb a0 a1 b0 b1
  obtain ⟨a0, a1⟩ := K1.out.c2
  obtain ⟨b0, b1⟩ := K2.out.c2
  go_wp2_with fail
  refine (P3.out _).mono ?_
  rintro e w3 ⟨rfl, hb⟩
  replace HB0 := Lib.hid (below_on HB0.out hb)
  clear hb a0 a1 b0 b1
  go_wp2_with fail
  go_ret2
  exact ⟨rfl, HB0.out⟩
end Go.Proofs.Ytjcepipgjpaclaa
