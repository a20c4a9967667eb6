/- Contracts of the program's sum of squares and of its farthest move. Conditions: the transition is good, and its slices can be read. -/
import Derived.Test.YtnlneblipedddaaPFnTransitions32
namespace Go.Proofs.Ytnlneblipedddaa
open Go.RowKit

set_option maxRecDepth 100000 in
set_option maxHeartbeats 4000000 in
theorem squareSum_any (v : Value) (B : Nat) (t : TrN) (w : World) (hv : RdT w B v t) (hB : B ≤ w.heap.size) (hok : TrOk t) :
    Calls Try.prog 49 #[v] w fun e w' => e = .returned (.int .i64 (suT t t.n)) ∧ Below w.heap.size w w' := by
  have n0 := hok.n0
  have n1 := hok.n1
  have hPl := hok.place
  have hmE := hok.m
  have hpE := hok.p
  have HIN := Lib.hid (fun k (hk : k ≤ t.n) => suT_in hok k hk)
  have HSQ := Lib.hid (fun k (hk : k < t.n) => (by
    have h1 := spotB_yes (hok.from_ k hk)
    have h2 := spotB_yes (hok.to_ _ (hok.place k hk).2)
    omega : (0 ≤ X t.xs k ∧ X t.xs k ≤ 1280) ∧ (0 ≤ Y t.xs k ∧ Y t.xs k ≤ 1280) ∧ (0 ≤ X t.ys (plc t k) ∧ X t.ys (plc t k) ≤ 1280) ∧ (0 ≤ Y t.ys (plc t k) ∧ Y t.ys (plc t k) ≤ 1280)))
  have HMS := Lib.hid (fun k (hk : k < t.n) => mSq_in hok hk)
  obtain ⟨A, ca, C, cb, D, cc, rfl, ha, hb, hc⟩ := hv.form
  clear hv
  rw [hmE] at hb ⊢
  rw [hpE] at hc ⊢
  obtain ⟨bA, oA, rfl, hbA, hcA⟩ := ha.spot n0
  obtain ⟨bC, oC, rfl, hbC, hcC⟩ := hb.spot n0
  obtain ⟨_, D', cc', e, hD⟩ := hc
  simp only [Value.slice.injEq, true_and] at e
  obtain ⟨rfl, rfl⟩ := e
  obtain ⟨b, off, rfl, hbD, hcD⟩ := hD (by omega)
  have HPL := Lib.hid hPl
  have HCX := Lib.hid (fun (V : World) (h : Below w.heap.size w V) (j : Nat) (hj : j < t.n) => (by
    have hd := hcD j (by omega)
    rw [(hPl j hj).1] at hd
    have h1 := hcA j hj
    have h2 := hcC (plc t j) (hPl j hj).2
    exact ⟨(h.cell (p := ⟨bA, oA + j * 2, none⟩) (Nat.lt_of_lt_of_le hbA hB)).trans h1.1, (h.cell (p := ⟨bA, oA + j * 2 + 1, none⟩) (Nat.lt_of_lt_of_le hbA hB)).trans h1.2, (h.cell (p := ⟨bC, oC + plc t j * 2, none⟩) (Nat.lt_of_lt_of_le hbC hB)).trans h2.1, (h.cell (p := ⟨bC, oC + plc t j * 2 + 1, none⟩) (Nat.lt_of_lt_of_le hbC hB)).trans h2.2, (h.cell (p := ⟨b, off + j, none⟩) (Nat.lt_of_lt_of_le hbD hB)).trans hd⟩ :
    V.cell? ⟨bA, oA + j * 2, none⟩ = some (.int .i64 (X t.xs j)) ∧ V.cell? ⟨bA, oA + j * 2 + 1, none⟩ = some (.int .i64 (Y t.xs j)) ∧ V.cell? ⟨bC, oC + plc t j * 2, none⟩ = some (.int .i64 (X t.ys (plc t j))) ∧ V.cell? ⟨bC, oC + plc t j * 2 + 1, none⟩ = some (.int .i64 (Y t.ys (plc t j))) ∧ V.cell? ⟨b, off + j, none⟩ = some (.int .i64 (plc t j : Int))))
  have K0 := Lib.hid (Blk.new w 29 #[.slice (some ⟨bA, oA, none⟩) t.n ca, .slice (some ⟨bC, oC, none⟩) t.n cb, .int .i64 t.c, .slice (some ⟨b, off, none⟩) t.n cc])
  have HB0 := Lib.hid (below_new (Below.refl w.heap.size w) (.cells #[.slice (some ⟨bA, oA, none⟩) t.n ca, .slice (some ⟨bC, oC, none⟩) t.n cb, .int .i64 t.c, .slice (some ⟨b, off, none⟩) t.n cc] 29))
  obtain ⟨a0, a1, a2, a3⟩ := K0.out.c4
  clear ha hb hD hcA hcC hcD hPl hmE hpE hok
  go_enter Try.func49, Try.ntmps49
  go_wp2_with fail
  go_loopw [3, 9] (fun s i wr => ∃ k : Nat, k ≤ t.n ∧ i = .int .i64 k ∧ s = .int .i64 (suT t k) ∧ Blk wr w.heap.size 29 #[.slice (some ⟨bA, oA, none⟩) t.n ca, .slice (some ⟨bC, oC, none⟩) t.n cb, .int .i64 t.c, .slice (some ⟨b, off, none⟩) t.n cc] ∧ Below w.heap.size w wr) (fun _ i _ => t.n - (intOf i).toNat)
  case atStart => exact ⟨0, by omega, rfl, rfl, K0.out, HB0.out⟩
  case round =>
    clear HB0 K0 a0 a1 a2 a3
    obtain ⟨k, hk, rfl, rfl, hkb, hb⟩ := hrel
    have HB := Lib.hid hb
    have KB := Lib.hid hkb
    clear hb hkb
    by_cases hlt : k < t.n
    · obtain ⟨c0, c1, c2, c3, c4⟩ := HCX.out _ HB.out k hlt
      obtain ⟨⟨x0, x1⟩, ⟨y0, y1⟩, ⟨z0, z1⟩, u0, u1⟩ := HSQ.out k hlt
      have hsq : mSq t k = sqL (X t.xs k) (Y t.xs k) (X t.ys (plc t k)) (Y t.ys (plc t k)) := rfl
      have hpl := (HPL.out k hlt).2
      obtain ⟨x, ex⟩ : ∃ q, X t.xs k = q := ⟨_, rfl⟩
      obtain ⟨y, ey⟩ : ∃ q, Y t.xs k = q := ⟨_, rfl⟩
      obtain ⟨z, ez⟩ : ∃ q, X t.ys (plc t k) = q := ⟨_, rfl⟩
      obtain ⟨u, eu⟩ : ∃ q, Y t.ys (plc t k) = q := ⟨_, rfl⟩
      obtain ⟨q, eq⟩ : ∃ q, plc t k = q := ⟨_, rfl⟩
      rw [ex] at c0 x0 x1 hsq
      rw [ey] at c1 y0 y1 hsq
      rw [ez] at c2 z0 z1 hsq
      rw [eu] at c3 u0 u1 hsq
      rw [eq] at c2 c3 c4 hpl
      have HP := Lib.hid (fun W => squareOf_any x y z u W ⟨x0, x1⟩ ⟨y0, y1⟩ ⟨z0, z1⟩ ⟨u0, u1⟩)
      rw [← hsq] at HP
      have i0 : (0 : Int) ≤ (k : Int) := by omega
      have i1 : (k : Int) < (t.n : Int) := by omega
      have i2 : (0 : Int) ≤ (q : Int) := by omega
      have i3 : (q : Int) < (t.n : Int) := by omega
      clear ex ey ez eu eq hsq x0 x1 y0 y1 z0 z1 u0 u1
      have h0 := HIN.out k (by omega)
      have h1 := HIN.out (k + 1) (by omega)
      have h2 : suT t (k + 1) = suT t k + mSq t k := rfl
      obtain ⟨s, es⟩ : ∃ q, suT t k = q := ⟨_, rfl⟩
      obtain ⟨r, er⟩ : ∃ q, mSq t k = q := ⟨_, rfl⟩
      rw [es] at h0 h2 ⊢
      rw [er] at h2 HP
      have H2 := Lib.hid h2
      have i4 := IntWalk.i64_in (s + r) (by omega)
      obtain ⟨a0, a1, -, -⟩ := KB.out.c4
      clear h2 h0 h1 es er
      go_wp2_with fail
      refine wp_region_held_drew (S := fun W => W.cell? ⟨w.heap.size, 0, none⟩ = some (.slice (some ⟨bA, oA, none⟩) t.n ca) ∧ W.cell? ⟨w.heap.size, 1, none⟩ = some (.slice (some ⟨bC, oC, none⟩) t.n cb) ∧ W.cell? ⟨bA, oA + k * 2, none⟩ = some (.int .i64 x) ∧ W.cell? ⟨bA, oA + k * 2 + 1, none⟩ = some (.int .i64 y) ∧ W.cell? ⟨bC, oC + q * 2, none⟩ = some (.int .i64 z) ∧ W.cell? ⟨bC, oC + q * 2 + 1, none⟩ = some (.int .i64 u)) (by kernel_rfl) ⟨a0, a1, c0, c1, c2, c3⟩ (fun hHeld => ?_)
      clear a0 a1 c0 c1 c2 c3 c4
      refine take_at (i := 0) (oi := _) 14 (v := .int .i64 s) rfl rfl (by kernel_rfl) (by kernel_rfl) (by kernel_rfl) (fun _ _ _ h => h) (Or.inl ⟨by rfl, ?_⟩) hHeld ?_
      · (intro w hSw; (try dsimp only at hSw); go_split_ands; go_simp)
      simp only [List.setIfInBounds_toArray, List.set_cons_zero, List.set_cons_succ]
      refine take_at (i := 1) (oi := _) 15 (v := .pointer (some ⟨w.heap.size, 0, none⟩)) rfl rfl (by kernel_rfl) (by kernel_rfl) (by kernel_rfl) (fun _ _ _ h => h) (Or.inl ⟨by rfl, ?_⟩) hHeld ?_
      · (intro w hSw; (try dsimp only at hSw); go_split_ands; go_simp)
      simp only [List.setIfInBounds_toArray, List.set_cons_zero, List.set_cons_succ]
      refine take_at (i := 2) (oi := _) 16 (v := .slice (some ⟨bA, oA, none⟩) t.n ca) rfl rfl (by kernel_rfl) (by kernel_rfl) (by kernel_rfl) (fun _ _ _ h => h) (Or.inl ⟨by rfl, ?_⟩) hHeld ?_
      · (intro w hSw; (try dsimp only at hSw); go_split_ands; go_simp)
      simp only [List.setIfInBounds_toArray, List.set_cons_zero, List.set_cons_succ]
      refine take_at (i := 3) (oi := _) 17 (v := .int .i64 (k : Int)) rfl rfl (by kernel_rfl) (by kernel_rfl) (by kernel_rfl) (fun _ _ _ h => h) (Or.inl ⟨by rfl, ?_⟩) hHeld ?_
      · (intro w hSw; (try dsimp only at hSw); go_split_ands; go_simp)
      simp only [List.setIfInBounds_toArray, List.set_cons_zero, List.set_cons_succ]
      refine take_at (i := 4) (oi := _) 18 (v := .pointer (some ⟨bA, oA + k * 2, none⟩)) rfl rfl (by kernel_rfl) (by kernel_rfl) (by kernel_rfl) (fun _ _ _ h => h) (Or.inl ⟨by rfl, ?_⟩) hHeld ?_
      · (intro w hSw; (try dsimp only at hSw); go_split_ands; go_simp)
      simp only [List.setIfInBounds_toArray, List.set_cons_zero, List.set_cons_succ]
      refine take_at (i := 5) (oi := _) 19 (v := (Value.agg #[Value.int .i64 x, Value.int .i64 y])) rfl rfl (by kernel_rfl) (by kernel_rfl) (by kernel_rfl) (fun _ _ _ h => h) (Or.inl ⟨by rfl, ?_⟩) hHeld ?_
      · (intro w hSw; (try dsimp only at hSw); go_split_ands; go_simp)
      simp only [List.setIfInBounds_toArray, List.set_cons_zero, List.set_cons_succ]
      refine take_at (i := 6) (oi := _) 20 (v := .pointer (some ⟨w.heap.size, 1, none⟩)) rfl rfl (by kernel_rfl) (by kernel_rfl) (by kernel_rfl) (fun _ _ _ h => h) (Or.inl ⟨by rfl, ?_⟩) hHeld ?_
      · (intro w hSw; (try dsimp only at hSw); go_split_ands; go_simp)
      simp only [List.setIfInBounds_toArray, List.set_cons_zero, List.set_cons_succ]
      refine take_at (i := 7) (oi := _) 21 (v := .slice (some ⟨bC, oC, none⟩) t.n cb) rfl rfl (by kernel_rfl) (by kernel_rfl) (by kernel_rfl) (fun _ _ _ h => h) (Or.inl ⟨by rfl, ?_⟩) hHeld ?_
      · (intro w hSw; (try dsimp only at hSw); go_split_ands; go_simp)
      simp only [List.setIfInBounds_toArray, List.set_cons_zero, List.set_cons_succ]
      refine take_at (i := 8) (oi := _) 22 (v := .int .i64 (q : Int)) rfl rfl (by kernel_rfl) (by kernel_rfl) (by kernel_rfl) (fun _ _ _ h => h) (Or.inl ⟨by rfl, ?_⟩) hHeld ?_
      · (intro w hSw; (try dsimp only at hSw); go_split_ands; go_simp)
      simp only [List.setIfInBounds_toArray, List.set_cons_zero, List.set_cons_succ]
      refine take_at (i := 9) (oi := _) 23 (v := .pointer (some ⟨bC, oC + q * 2, none⟩)) rfl rfl (by kernel_rfl) (by kernel_rfl) (by kernel_rfl) (fun _ _ _ h => h) (Or.inl ⟨by rfl, ?_⟩) hHeld ?_
      · (intro w hSw; (try dsimp only at hSw); go_split_ands; go_simp)
      simp only [List.setIfInBounds_toArray, List.set_cons_zero, List.set_cons_succ]
      refine take_at (i := 10) (oi := _) 24 (v := (Value.agg #[Value.int .i64 z, Value.int .i64 u])) rfl rfl (by kernel_rfl) (by kernel_rfl) (by kernel_rfl) (fun _ _ _ h => h) (Or.inl ⟨by rfl, ?_⟩) hHeld ?_
      · (intro w hSw; (try dsimp only at hSw); go_split_ands; go_simp)
      simp only [List.setIfInBounds_toArray, List.set_cons_zero, List.set_cons_succ]
      refine wpAnyH_ready (rs := [11]) (by kernel_rfl) (by simp) ?_
      refine AllReadyH.cons (o := _) rfl (fun K9 hK => ?_) AllReadyH.nil
      go_simp
      refine (HP.out _).mono ?_
      rintro e w9 ⟨rfl, hb9⟩
      obtain ⟨h0, h1, h2, h3, h4, h5⟩ := hHeld
      refine hK.out _ _ ⟨cell_on hb9 h0, cell_on hb9 h1, cell_on hb9 h2, cell_on hb9 h3, cell_on hb9 h4, cell_on hb9 h5⟩ (fun hHeld => ?_)
      replace HB := Lib.hid (below_on (below_drewN HB.out 1) hb9)
      replace KB := Lib.hid ((KB.out.drewN 1).on hb9)
      clear hK K9 hb9 h0 h1 h2 h3 h4 h5
      try simp only [Act.put, List.setIfInBounds_toArray, List.set_cons_zero, List.set_cons_succ]
      refine take_at (i := 12) (oi := _) 26 (v := .int .i64 (s + r)) rfl rfl (by kernel_rfl) (by kernel_rfl) (by kernel_rfl) (fun _ _ _ h => h) (Or.inl ⟨by rfl, ?_⟩) hHeld ?_
      · (intro w hSw; (try dsimp only at hSw); go_split_ands; go_simp)
      simp only [List.setIfInBounds_toArray, List.set_cons_zero, List.set_cons_succ]
      refine wpAnyH_ready (rs := [13]) (by kernel_rfl) (by simp) ?_
      refine AllReadyH.cons (o := _) rfl (fun K9 hK => ?_) AllReadyH.nil
      go_simp
      refine hK.out _ _ hHeld (fun hHeld => ?_)
      clear hK K9
      try simp only [Act.put, List.setIfInBounds_toArray, List.set_cons_zero, List.set_cons_succ]
      refine wpAnyH_done (by kernel_rfl) ?_ _
      clear hHeld
      go_wp2_with fail
      go_roundw
      case rel => exact ⟨k + 1, by omega, by go_num, by rw [H2.out], KB.out, HB.out⟩
      case measure => simp [intOf]; omega
    · obtain rfl : k = t.n := by omega
      go_wp2_with fail
      go_ret
      exact ⟨rfl, HB.out⟩
set_option maxRecDepth 100000 in
set_option maxHeartbeats 4000000 in
theorem farthestMove_any (v : Value) (B : Nat) (t : TrN) (w : World) (hv : RdT w B v t) (hB : B ≤ w.heap.size) (hok : TrOk t) :
    Calls Try.prog 51 #[v] w fun e w' => e = .returned (.int .i64 (faT t t.n : Int)) ∧ Below w.heap.size w w' := by
  have n0 := hok.n0
  have n1 := hok.n1
  have hPl := hok.place
  have hmE := hok.m
  have hpE := hok.p
  have HIN := Lib.hid (fun k (hk : k ≤ t.n) => suT_in hok k hk)
  have HSQ := Lib.hid (fun k (hk : k < t.n) => (by
    have h1 := spotB_yes (hok.from_ k hk)
    have h2 := spotB_yes (hok.to_ _ (hok.place k hk).2)
    omega : (0 ≤ X t.xs k ∧ X t.xs k ≤ 1280) ∧ (0 ≤ Y t.xs k ∧ Y t.xs k ≤ 1280) ∧ (0 ≤ X t.ys (plc t k) ∧ X t.ys (plc t k) ≤ 1280) ∧ (0 ≤ Y t.ys (plc t k) ∧ Y t.ys (plc t k) ≤ 1280)))
  have HMS := Lib.hid (fun k (hk : k < t.n) => mSq_in hok hk)
  obtain ⟨A, ca, C, cb, D, cc, rfl, ha, hb, hc⟩ := hv.form
  clear hv
  rw [hmE] at hb ⊢
  rw [hpE] at hc ⊢
  obtain ⟨bA, oA, rfl, hbA, hcA⟩ := ha.spot n0
  obtain ⟨bC, oC, rfl, hbC, hcC⟩ := hb.spot n0
  obtain ⟨_, D', cc', e, hD⟩ := hc
  simp only [Value.slice.injEq, true_and] at e
  obtain ⟨rfl, rfl⟩ := e
  obtain ⟨b, off, rfl, hbD, hcD⟩ := hD (by omega)
  have HPL := Lib.hid hPl
  have HCX := Lib.hid (fun (V : World) (h : Below w.heap.size w V) (j : Nat) (hj : j < t.n) => (by
    have hd := hcD j (by omega)
    rw [(hPl j hj).1] at hd
    have h1 := hcA j hj
    have h2 := hcC (plc t j) (hPl j hj).2
    exact ⟨(h.cell (p := ⟨bA, oA + j * 2, none⟩) (Nat.lt_of_lt_of_le hbA hB)).trans h1.1, (h.cell (p := ⟨bA, oA + j * 2 + 1, none⟩) (Nat.lt_of_lt_of_le hbA hB)).trans h1.2, (h.cell (p := ⟨bC, oC + plc t j * 2, none⟩) (Nat.lt_of_lt_of_le hbC hB)).trans h2.1, (h.cell (p := ⟨bC, oC + plc t j * 2 + 1, none⟩) (Nat.lt_of_lt_of_le hbC hB)).trans h2.2, (h.cell (p := ⟨b, off + j, none⟩) (Nat.lt_of_lt_of_le hbD hB)).trans hd⟩ :
    V.cell? ⟨bA, oA + j * 2, none⟩ = some (.int .i64 (X t.xs j)) ∧ V.cell? ⟨bA, oA + j * 2 + 1, none⟩ = some (.int .i64 (Y t.xs j)) ∧ V.cell? ⟨bC, oC + plc t j * 2, none⟩ = some (.int .i64 (X t.ys (plc t j))) ∧ V.cell? ⟨bC, oC + plc t j * 2 + 1, none⟩ = some (.int .i64 (Y t.ys (plc t j))) ∧ V.cell? ⟨b, off + j, none⟩ = some (.int .i64 (plc t j : Int))))
  have K0 := Lib.hid (Blk.new w 29 #[.slice (some ⟨bA, oA, none⟩) t.n ca, .slice (some ⟨bC, oC, none⟩) t.n cb, .int .i64 t.c, .slice (some ⟨b, off, none⟩) t.n cc])
  have HB0 := Lib.hid (below_new (Below.refl w.heap.size w) (.cells #[.slice (some ⟨bA, oA, none⟩) t.n ca, .slice (some ⟨bC, oC, none⟩) t.n cb, .int .i64 t.c, .slice (some ⟨b, off, none⟩) t.n cc] 29))
  obtain ⟨a0, a1, a2, a3⟩ := K0.out.c4
  clear ha hb hD hcA hcC hcD hPl hmE hpE hok
  go_enter Try.func51, Try.ntmps51
  go_wp2_with fail
  go_loopw [3, 9] (fun s i wr => ∃ k : Nat, k ≤ t.n ∧ i = .int .i64 k ∧ s = .int .i64 (faT t k : Int) ∧ Blk wr w.heap.size 29 #[.slice (some ⟨bA, oA, none⟩) t.n ca, .slice (some ⟨bC, oC, none⟩) t.n cb, .int .i64 t.c, .slice (some ⟨b, off, none⟩) t.n cc] ∧ Below w.heap.size w wr) (fun _ i _ => t.n - (intOf i).toNat)
  case atStart => exact ⟨0, by omega, rfl, rfl, K0.out, HB0.out⟩
  case round =>
    clear HB0 K0 a0 a1 a2 a3
    obtain ⟨k, hk, rfl, rfl, hkb, hb⟩ := hrel
    have HB := Lib.hid hb
    have KB := Lib.hid hkb
    clear hb hkb
    by_cases hlt : k < t.n
    · have hfl : faT t k < t.n := by
        rcases (faT_is (t := t) k).1 with h | h <;> omega
      have hstep : faT t (k + 1) = if mSq t (faT t k) < mSq t k then k else faT t k := rfl
      obtain ⟨d0, d1, d2, d3, d4⟩ := HCX.out _ HB.out _ hfl
      obtain ⟨⟨xx0, xx1⟩, ⟨yy0, yy1⟩, ⟨zz0, zz1⟩, uu0, uu1⟩ := HSQ.out _ hfl
      have hsf : mSq t (faT t k) = sqL (X t.xs (faT t k)) (Y t.xs (faT t k)) (X t.ys (plc t (faT t k))) (Y t.ys (plc t (faT t k))) := rfl
      have hpf := (HPL.out _ hfl).2
      obtain ⟨f, ef⟩ : ∃ q, faT t k = q := ⟨_, rfl⟩
      rw [ef] at d0 d1 d2 d3 d4 xx0 xx1 yy0 yy1 zz0 zz1 uu0 uu1 hsf hpf hfl hstep ⊢
      obtain ⟨xx, exx⟩ : ∃ q, X t.xs f = q := ⟨_, rfl⟩
      obtain ⟨yy, eyy⟩ : ∃ q, Y t.xs f = q := ⟨_, rfl⟩
      obtain ⟨zz, ezz⟩ : ∃ q, X t.ys (plc t f) = q := ⟨_, rfl⟩
      obtain ⟨uu, euu⟩ : ∃ q, Y t.ys (plc t f) = q := ⟨_, rfl⟩
      obtain ⟨qq, eqq⟩ : ∃ q, plc t f = q := ⟨_, rfl⟩
      rw [exx] at d0 xx0 xx1 hsf
      rw [eyy] at d1 yy0 yy1 hsf
      rw [ezz] at d2 zz0 zz1 hsf
      rw [euu] at d3 uu0 uu1 hsf
      rw [eqq] at d2 d3 d4 hpf
      have HQ := Lib.hid (fun W => squareOf_any xx yy zz uu W ⟨xx0, xx1⟩ ⟨yy0, yy1⟩ ⟨zz0, zz1⟩ ⟨uu0, uu1⟩)
      rw [← hsf] at HQ
      have j0 : (0 : Int) ≤ (f : Int) := by omega
      have j1 : (f : Int) < (t.n : Int) := by omega
      have j2 : (0 : Int) ≤ (qq : Int) := by omega
      have j3 : (qq : Int) < (t.n : Int) := by omega
      clear ef exx eyy ezz euu eqq hsf xx0 xx1 yy0 yy1 zz0 zz1 uu0 uu1
      obtain ⟨c0, c1, c2, c3, c4⟩ := HCX.out _ HB.out k hlt
      obtain ⟨⟨x0, x1⟩, ⟨y0, y1⟩, ⟨z0, z1⟩, u0, u1⟩ := HSQ.out k hlt
      have hsq : mSq t k = sqL (X t.xs k) (Y t.xs k) (X t.ys (plc t k)) (Y t.ys (plc t k)) := rfl
      have hpl := (HPL.out k hlt).2
      obtain ⟨x, ex⟩ : ∃ q, X t.xs k = q := ⟨_, rfl⟩
      obtain ⟨y, ey⟩ : ∃ q, Y t.xs k = q := ⟨_, rfl⟩
      obtain ⟨z, ez⟩ : ∃ q, X t.ys (plc t k) = q := ⟨_, rfl⟩
      obtain ⟨u, eu⟩ : ∃ q, Y t.ys (plc t k) = q := ⟨_, rfl⟩
      obtain ⟨q, eq⟩ : ∃ q, plc t k = q := ⟨_, rfl⟩
      rw [ex] at c0 x0 x1 hsq
      rw [ey] at c1 y0 y1 hsq
      rw [ez] at c2 z0 z1 hsq
      rw [eu] at c3 u0 u1 hsq
      rw [eq] at c2 c3 c4 hpl
      have HP := Lib.hid (fun W => squareOf_any x y z u W ⟨x0, x1⟩ ⟨y0, y1⟩ ⟨z0, z1⟩ ⟨u0, u1⟩)
      rw [← hsq] at HP
      have i0 : (0 : Int) ≤ (k : Int) := by omega
      have i1 : (k : Int) < (t.n : Int) := by omega
      have i2 : (0 : Int) ≤ (q : Int) := by omega
      have i3 : (q : Int) < (t.n : Int) := by omega
      clear ex ey ez eu eq hsq x0 x1 y0 y1 z0 z1 u0 u1
      obtain ⟨r, er⟩ : ∃ q, mSq t k = q := ⟨_, rfl⟩
      obtain ⟨rf, erf⟩ : ∃ q, mSq t f = q := ⟨_, rfl⟩
      rw [er] at hstep HP
      rw [erf] at hstep HQ
      obtain ⟨a0, a1, -, a3⟩ := KB.out.c4
      have HST := Lib.hid hstep
      obtain ⟨bg, ebg⟩ : ∃ q, decide (rf < r) = q := ⟨_, rfl⟩
      have EBG := Lib.hid ebg
      clear er erf hstep ebg
      go_wp2_with fail
      refine wp_region_held_drew (S := fun W => W.cell? ⟨w.heap.size, 0, none⟩ = some (.slice (some ⟨bA, oA, none⟩) t.n ca) ∧ W.cell? ⟨w.heap.size, 1, none⟩ = some (.slice (some ⟨bC, oC, none⟩) t.n cb) ∧ W.cell? ⟨w.heap.size, 3, none⟩ = some (.slice (some ⟨b, off, none⟩) t.n cc) ∧ W.cell? ⟨bA, oA + k * 2, none⟩ = some (.int .i64 x) ∧ W.cell? ⟨bA, oA + k * 2 + 1, none⟩ = some (.int .i64 y) ∧ W.cell? ⟨bC, oC + q * 2, none⟩ = some (.int .i64 z) ∧ W.cell? ⟨bC, oC + q * 2 + 1, none⟩ = some (.int .i64 u) ∧ W.cell? ⟨bA, oA + f * 2, none⟩ = some (.int .i64 xx) ∧ W.cell? ⟨bA, oA + f * 2 + 1, none⟩ = some (.int .i64 yy) ∧ W.cell? ⟨bC, oC + qq * 2, none⟩ = some (.int .i64 zz) ∧ W.cell? ⟨bC, oC + qq * 2 + 1, none⟩ = some (.int .i64 uu) ∧ W.cell? ⟨b, off + f, none⟩ = some (.int .i64 (qq : Int))) (by kernel_rfl) ⟨a0, a1, a3, c0, c1, c2, c3, d0, d1, d2, d3, d4⟩ (fun hHeld => ?_)
      clear a0 a1 a3 c0 c1 c2 c3 c4 d0 d1 d2 d3 d4
      refine take_at (i := 0) (oi := _) 14 (v := .pointer (some ⟨w.heap.size, 0, none⟩)) rfl rfl (by kernel_rfl) (by kernel_rfl) (by kernel_rfl) (fun _ _ _ h => h) (Or.inl ⟨by rfl, ?_⟩) hHeld ?_
      · (intro w hSw; (try dsimp only at hSw); go_split_ands; go_simp)
      simp only [List.setIfInBounds_toArray, List.set_cons_zero, List.set_cons_succ]
      refine take_at (i := 1) (oi := _) 15 (v := .slice (some ⟨bA, oA, none⟩) t.n ca) rfl rfl (by kernel_rfl) (by kernel_rfl) (by kernel_rfl) (fun _ _ _ h => h) (Or.inl ⟨by rfl, ?_⟩) hHeld ?_
      · (intro w hSw; (try dsimp only at hSw); go_split_ands; go_simp)
      simp only [List.setIfInBounds_toArray, List.set_cons_zero, List.set_cons_succ]
      refine take_at (i := 2) (oi := _) 16 (v := .int .i64 (k : Int)) rfl rfl (by kernel_rfl) (by kernel_rfl) (by kernel_rfl) (fun _ _ _ h => h) (Or.inl ⟨by rfl, ?_⟩) hHeld ?_
      · (intro w hSw; (try dsimp only at hSw); go_split_ands; go_simp)
      simp only [List.setIfInBounds_toArray, List.set_cons_zero, List.set_cons_succ]
      refine take_at (i := 3) (oi := _) 17 (v := .pointer (some ⟨bA, oA + k * 2, none⟩)) rfl rfl (by kernel_rfl) (by kernel_rfl) (by kernel_rfl) (fun _ _ _ h => h) (Or.inl ⟨by rfl, ?_⟩) hHeld ?_
      · (intro w hSw; (try dsimp only at hSw); go_split_ands; go_simp)
      simp only [List.setIfInBounds_toArray, List.set_cons_zero, List.set_cons_succ]
      refine take_at (i := 4) (oi := _) 18 (v := (Value.agg #[Value.int .i64 x, Value.int .i64 y])) rfl rfl (by kernel_rfl) (by kernel_rfl) (by kernel_rfl) (fun _ _ _ h => h) (Or.inl ⟨by rfl, ?_⟩) hHeld ?_
      · (intro w hSw; (try dsimp only at hSw); go_split_ands; go_simp)
      simp only [List.setIfInBounds_toArray, List.set_cons_zero, List.set_cons_succ]
      refine take_at (i := 5) (oi := _) 19 (v := .pointer (some ⟨w.heap.size, 1, none⟩)) rfl rfl (by kernel_rfl) (by kernel_rfl) (by kernel_rfl) (fun _ _ _ h => h) (Or.inl ⟨by rfl, ?_⟩) hHeld ?_
      · (intro w hSw; (try dsimp only at hSw); go_split_ands; go_simp)
      simp only [List.setIfInBounds_toArray, List.set_cons_zero, List.set_cons_succ]
      refine take_at (i := 6) (oi := _) 20 (v := .slice (some ⟨bC, oC, none⟩) t.n cb) rfl rfl (by kernel_rfl) (by kernel_rfl) (by kernel_rfl) (fun _ _ _ h => h) (Or.inl ⟨by rfl, ?_⟩) hHeld ?_
      · (intro w hSw; (try dsimp only at hSw); go_split_ands; go_simp)
      simp only [List.setIfInBounds_toArray, List.set_cons_zero, List.set_cons_succ]
      refine take_at (i := 7) (oi := _) 21 (v := .int .i64 (q : Int)) rfl rfl (by kernel_rfl) (by kernel_rfl) (by kernel_rfl) (fun _ _ _ h => h) (Or.inl ⟨by rfl, ?_⟩) hHeld ?_
      · (intro w hSw; (try dsimp only at hSw); go_split_ands; go_simp)
      simp only [List.setIfInBounds_toArray, List.set_cons_zero, List.set_cons_succ]
      refine take_at (i := 8) (oi := _) 22 (v := .pointer (some ⟨bC, oC + q * 2, none⟩)) rfl rfl (by kernel_rfl) (by kernel_rfl) (by kernel_rfl) (fun _ _ _ h => h) (Or.inl ⟨by rfl, ?_⟩) hHeld ?_
      · (intro w hSw; (try dsimp only at hSw); go_split_ands; go_simp)
      simp only [List.setIfInBounds_toArray, List.set_cons_zero, List.set_cons_succ]
      refine take_at (i := 9) (oi := _) 23 (v := (Value.agg #[Value.int .i64 z, Value.int .i64 u])) rfl rfl (by kernel_rfl) (by kernel_rfl) (by kernel_rfl) (fun _ _ _ h => h) (Or.inl ⟨by rfl, ?_⟩) hHeld ?_
      · (intro w hSw; (try dsimp only at hSw); go_split_ands; go_simp)
      simp only [List.setIfInBounds_toArray, List.set_cons_zero, List.set_cons_succ]
      refine take_at (i := 11) (oi := _) 25 (v := .pointer (some ⟨w.heap.size, 0, none⟩)) rfl rfl (by kernel_rfl) (by kernel_rfl) (by kernel_rfl) (fun _ _ _ h => h) (Or.inl ⟨by rfl, ?_⟩) hHeld ?_
      · (intro w hSw; (try dsimp only at hSw); go_split_ands; go_simp)
      simp only [List.setIfInBounds_toArray, List.set_cons_zero, List.set_cons_succ]
      refine take_at (i := 12) (oi := _) 26 (v := .slice (some ⟨bA, oA, none⟩) t.n ca) rfl rfl (by kernel_rfl) (by kernel_rfl) (by kernel_rfl) (fun _ _ _ h => h) (Or.inl ⟨by rfl, ?_⟩) hHeld ?_
      · (intro w hSw; (try dsimp only at hSw); go_split_ands; go_simp)
      simp only [List.setIfInBounds_toArray, List.set_cons_zero, List.set_cons_succ]
      refine take_at (i := 13) (oi := _) 27 (v := .int .i64 (f : Int)) rfl rfl (by kernel_rfl) (by kernel_rfl) (by kernel_rfl) (fun _ _ _ h => h) (Or.inl ⟨by rfl, ?_⟩) hHeld ?_
      · (intro w hSw; (try dsimp only at hSw); go_split_ands; go_simp)
      simp only [List.setIfInBounds_toArray, List.set_cons_zero, List.set_cons_succ]
      refine take_at (i := 14) (oi := _) 28 (v := .pointer (some ⟨bA, oA + f * 2, none⟩)) rfl rfl (by kernel_rfl) (by kernel_rfl) (by kernel_rfl) (fun _ _ _ h => h) (Or.inl ⟨by rfl, ?_⟩) hHeld ?_
      · (intro w hSw; (try dsimp only at hSw); go_split_ands; go_simp)
      simp only [List.setIfInBounds_toArray, List.set_cons_zero, List.set_cons_succ]
      refine take_at (i := 15) (oi := _) 29 (v := (Value.agg #[Value.int .i64 xx, Value.int .i64 yy])) rfl rfl (by kernel_rfl) (by kernel_rfl) (by kernel_rfl) (fun _ _ _ h => h) (Or.inl ⟨by rfl, ?_⟩) hHeld ?_
      · (intro w hSw; (try dsimp only at hSw); go_split_ands; go_simp)
      simp only [List.setIfInBounds_toArray, List.set_cons_zero, List.set_cons_succ]
      refine take_at (i := 16) (oi := _) 30 (v := .pointer (some ⟨w.heap.size, 1, none⟩)) rfl rfl (by kernel_rfl) (by kernel_rfl) (by kernel_rfl) (fun _ _ _ h => h) (Or.inl ⟨by rfl, ?_⟩) hHeld ?_
      · (intro w hSw; (try dsimp only at hSw); go_split_ands; go_simp)
      simp only [List.setIfInBounds_toArray, List.set_cons_zero, List.set_cons_succ]
      refine take_at (i := 17) (oi := _) 31 (v := .slice (some ⟨bC, oC, none⟩) t.n cb) rfl rfl (by kernel_rfl) (by kernel_rfl) (by kernel_rfl) (fun _ _ _ h => h) (Or.inl ⟨by rfl, ?_⟩) hHeld ?_
      · (intro w hSw; (try dsimp only at hSw); go_split_ands; go_simp)
      simp only [List.setIfInBounds_toArray, List.set_cons_zero, List.set_cons_succ]
      refine take_at (i := 18) (oi := _) 32 (v := .pointer (some ⟨w.heap.size, 3, none⟩)) rfl rfl (by kernel_rfl) (by kernel_rfl) (by kernel_rfl) (fun _ _ _ h => h) (Or.inl ⟨by rfl, ?_⟩) hHeld ?_
      · (intro w hSw; (try dsimp only at hSw); go_split_ands; go_simp)
      simp only [List.setIfInBounds_toArray, List.set_cons_zero, List.set_cons_succ]
      refine take_at (i := 19) (oi := _) 33 (v := .slice (some ⟨b, off, none⟩) t.n cc) rfl rfl (by kernel_rfl) (by kernel_rfl) (by kernel_rfl) (fun _ _ _ h => h) (Or.inl ⟨by rfl, ?_⟩) hHeld ?_
      · (intro w hSw; (try dsimp only at hSw); go_split_ands; go_simp)
      simp only [List.setIfInBounds_toArray, List.set_cons_zero, List.set_cons_succ]
      refine take_at (i := 20) (oi := _) 34 (v := .int .i64 (f : Int)) rfl rfl (by kernel_rfl) (by kernel_rfl) (by kernel_rfl) (fun _ _ _ h => h) (Or.inl ⟨by rfl, ?_⟩) hHeld ?_
      · (intro w hSw; (try dsimp only at hSw); go_split_ands; go_simp)
      simp only [List.setIfInBounds_toArray, List.set_cons_zero, List.set_cons_succ]
      refine take_at (i := 21) (oi := _) 35 (v := .pointer (some ⟨b, off + f, none⟩)) rfl rfl (by kernel_rfl) (by kernel_rfl) (by kernel_rfl) (fun _ _ _ h => h) (Or.inl ⟨by rfl, ?_⟩) hHeld ?_
      · (intro w hSw; (try dsimp only at hSw); go_split_ands; go_simp)
      simp only [List.setIfInBounds_toArray, List.set_cons_zero, List.set_cons_succ]
      refine take_at (i := 22) (oi := _) 36 (v := .int .i64 (qq : Int)) rfl rfl (by kernel_rfl) (by kernel_rfl) (by kernel_rfl) (fun _ _ _ h => h) (Or.inl ⟨by rfl, ?_⟩) hHeld ?_
      · (intro w hSw; (try dsimp only at hSw); go_split_ands; go_simp)
      simp only [List.setIfInBounds_toArray, List.set_cons_zero, List.set_cons_succ]
      refine take_at (i := 23) (oi := _) 37 (v := .pointer (some ⟨bC, oC + qq * 2, none⟩)) rfl rfl (by kernel_rfl) (by kernel_rfl) (by kernel_rfl) (fun _ _ _ h => h) (Or.inl ⟨by rfl, ?_⟩) hHeld ?_
      · (intro w hSw; (try dsimp only at hSw); go_split_ands; go_simp)
      simp only [List.setIfInBounds_toArray, List.set_cons_zero, List.set_cons_succ]
      refine take_at (i := 24) (oi := _) 38 (v := (Value.agg #[Value.int .i64 zz, Value.int .i64 uu])) rfl rfl (by kernel_rfl) (by kernel_rfl) (by kernel_rfl) (fun _ _ _ h => h) (Or.inl ⟨by rfl, ?_⟩) hHeld ?_
      · (intro w hSw; (try dsimp only at hSw); go_split_ands; go_simp)
      simp only [List.setIfInBounds_toArray, List.set_cons_zero, List.set_cons_succ]
      refine wpAnyH_ready (rs := [10]) (by kernel_rfl) (by simp) ?_
      refine AllReadyH.cons (o := _) rfl (fun K9 hK => ?_) AllReadyH.nil
      go_simp
      refine (HP.out _).mono ?_
      rintro e w8 ⟨rfl, hb9⟩
      obtain ⟨h0, h1, h2, h3, h4, h5, h6, h7, h8, h9, h10, h11⟩ := hHeld
      refine hK.out _ _ ⟨cell_on hb9 h0, cell_on hb9 h1, cell_on hb9 h2, cell_on hb9 h3, cell_on hb9 h4, cell_on hb9 h5, cell_on hb9 h6, cell_on hb9 h7, cell_on hb9 h8, cell_on hb9 h9, cell_on hb9 h10, cell_on hb9 h11⟩ (fun hHeld => ?_)
      replace HB := Lib.hid (below_on (below_drewN HB.out 1) hb9)
      replace KB := Lib.hid ((KB.out.drewN 1).on hb9)
      clear hK K9 hb9 h0 h1 h2 h3 h4 h5 h6 h7 h8 h9 h10 h11
      try simp only [Act.put, List.setIfInBounds_toArray, List.set_cons_zero, List.set_cons_succ]
      refine wpAnyH_ready (rs := [25]) (by kernel_rfl) (by simp) ?_
      refine AllReadyH.cons (o := _) rfl (fun K9 hK => ?_) AllReadyH.nil
      go_simp
      refine (HQ.out _).mono ?_
      rintro e w9 ⟨rfl, hb9⟩
      obtain ⟨h0, h1, h2, h3, h4, h5, h6, h7, h8, h9, h10, h11⟩ := hHeld
      refine hK.out _ _ ⟨cell_on hb9 h0, cell_on hb9 h1, cell_on hb9 h2, cell_on hb9 h3, cell_on hb9 h4, cell_on hb9 h5, cell_on hb9 h6, cell_on hb9 h7, cell_on hb9 h8, cell_on hb9 h9, cell_on hb9 h10, cell_on hb9 h11⟩ (fun hHeld => ?_)
      replace HB := Lib.hid (below_on HB.out hb9)
      replace KB := Lib.hid (KB.out.on hb9)
      clear hK K9 hb9 h0 h1 h2 h3 h4 h5 h6 h7 h8 h9 h10 h11
      try simp only [Act.put, List.setIfInBounds_toArray, List.set_cons_zero, List.set_cons_succ]
      refine take_at (i := 26) (oi := _) 40 (v := .bool (decide (rf < r))) rfl rfl (by kernel_rfl) (by kernel_rfl) (by kernel_rfl) (fun _ _ _ h => h) (Or.inl ⟨by rfl, ?_⟩) hHeld ?_
      · (intro w hSw; (try dsimp only at hSw); go_split_ands; go_simp)
      simp only [List.setIfInBounds_toArray, List.set_cons_zero, List.set_cons_succ]
      refine wpAnyH_done (by kernel_rfl) ?_ _
      clear hHeld
      by_cases hgt : rf < r
      · have HS := Lib.hid (show faT t (k + 1) = k by rw [HST.out, if_pos hgt])
        have dg : decide (rf < r) = true := by simpa using hgt
        go_wp2_with fail
        go_roundw
        case rel => exact ⟨k + 1, by omega, by go_num, by rw [HS.out], KB.out, HB.out⟩
        case measure => simp [intOf]; omega
      · have HS := Lib.hid (show faT t (k + 1) = f by rw [HST.out, if_neg hgt])
        have dg : decide (rf < r) = false := by simpa using hgt
        go_wp2_with fail
        go_roundw
        case rel => exact ⟨k + 1, by omega, by go_num, by rw [HS.out], KB.out, HB.out⟩
        case measure => simp [intOf]; omega
    · obtain rfl : k = t.n := by omega
      go_wp2_with fail
      go_ret
      exact ⟨rfl, HB.out⟩
def suV (t : TrN) : Int := if trB t = true then suT t t.n else 0
def faV (t : TrN) : Int := if trB t = true then (faT t t.n : Int) else 0
set_option maxHeartbeats 2000000 in
theorem SquareSum_any (v : Value) (B : Nat) (t : TrN) (w : World) (hcp : CapT v) (hv : RdT w B v t) (hB : B ≤ w.heap.size) (hs : t.small) :
    Calls Try.prog 17 #[v] w fun e w' => e = .returned (.tuple #[.int .i64 (suV t), .bool (trB t)]) ∧ Below w.heap.size w w' := by
  have P := Lib.hid (fun W (hb : Below w.heap.size w W) => IsTransition_any v B t W hcp (hv.below' hb hB) (Nat.le_trans hB hb.size) hs)
  have Q := Lib.hid (fun (h : trB t = true) W (hb : Below w.heap.size w W) => squareSum_any v B t W (hv.below' hb hB) (Nat.le_trans hB hb.size) (tr_ok h))
  obtain ⟨A, ca, C, cb, D, cc, rfl, -, -, -⟩ := hv.form
  have K0 := Lib.hid (Blk.new w 29 #[.slice A t.n ca, .slice C t.m cb, .int .i64 t.c, .slice D t.p cc])
  have HB0 := Lib.hid (below_new (Below.refl w.heap.size w) (.cells #[.slice A t.n ca, .slice C t.m cb, .int .i64 t.c, .slice D t.p cc] 29))
  obtain ⟨a0, a1, a2, a3⟩ := K0.out.c4
  have hdef : suV t = if trB t = true then suT t t.n else 0 := rfl
  clear hv hcp hs
  cases hg : trB t with
  | false =>
    have HD := Lib.hid (show suV t = 0 by rw [hdef, hg]; rfl)
    have HG := Lib.hid hg
    clear hg hdef
    go_enter Try.func17, Try.ntmps17
    go_wp2_with fail
    refine (P.out _ HB0.out).mono ?_
    rintro e w2 ⟨rfl, hb⟩
    rw [HG.out]
    have HB1 := Lib.hid (below_on HB0.out hb)
    clear hb a0 a1 a2 a3 K0 HB0
    go_wp2_with fail
    go_ret2
    exact ⟨by rw [HD.out]; rfl, HB1.out⟩
  | true =>
    have HD := Lib.hid (show suV t = suT t t.n by rw [hdef, hg]; rfl)
    have HG := Lib.hid hg
    clear hg hdef
    go_enter Try.func17, Try.ntmps17
    go_wp2_with fail
    refine (P.out _ HB0.out).mono ?_
    rintro e w2 ⟨rfl, hb⟩
    rw [HG.out]
    have K1 := Lib.hid (K0.out.on hb)
    have HB1 := Lib.hid (below_on HB0.out hb)
    obtain ⟨b0, b1, b2, b3⟩ := K1.out.c4
    clear hb a0 a1 a2 a3 K0 HB0
    go_wp2_with fail
    refine (Q.out HG.out _ HB1.out).mono ?_
    rintro e w3 ⟨rfl, hb⟩
    have HB2 := Lib.hid (below_on HB1.out hb)
    clear hb b0 b1 b2 b3
    go_wp2_with fail
    go_ret2
    exact ⟨by rw [HD.out]; rfl, HB2.out⟩
set_option maxHeartbeats 2000000 in
theorem specSquareSum_any (v : Value) (B : Nat) (t : TrN) (w : World) (hcp : CapT v) (hv : RdT w B v t) (hB : B ≤ w.heap.size) (hs : t.small) :
    Calls Try.prog 18 #[v] w fun e w' => e = .returned (.tuple #[.int .i64 (suV t), .bool (trB t)]) ∧ Below w.heap.size w w' := by
  have P := Lib.hid (fun W (hb : Below w.heap.size w W) => asGood_any v B t W hcp (hv.below' hb hB) (Nat.le_trans hB hb.size) hs)
  have Q := Lib.hid (fun (h : trB t = true) W (hb : Below w.heap.size w W) => asSum_any v B t W (hv.below' hb hB) (Nat.le_trans hB hb.size) (tr_ok h))
  obtain ⟨A, ca, C, cb, D, cc, rfl, -, -, -⟩ := hv.form
  have K0 := Lib.hid (Blk.new w 29 #[.slice A t.n ca, .slice C t.m cb, .int .i64 t.c, .slice D t.p cc])
  have HB0 := Lib.hid (below_new (Below.refl w.heap.size w) (.cells #[.slice A t.n ca, .slice C t.m cb, .int .i64 t.c, .slice D t.p cc] 29))
  obtain ⟨a0, a1, a2, a3⟩ := K0.out.c4
  have hdef : suV t = if trB t = true then suT t t.n else 0 := rfl
  clear hv hcp hs
  cases hg : trB t with
  | false =>
    have HD := Lib.hid (show suV t = 0 by rw [hdef, hg]; rfl)
    have HG := Lib.hid hg
    clear hg hdef
    go_enter Try.func18, Try.ntmps18
    go_wp2_with fail
    refine (P.out _ HB0.out).mono ?_
    rintro e w2 ⟨rfl, hb⟩
    rw [HG.out]
    have HB1 := Lib.hid (below_on HB0.out hb)
    clear hb a0 a1 a2 a3 K0 HB0
    go_wp2_with fail
    go_ret2
    exact ⟨by rw [HD.out]; rfl, HB1.out⟩
  | true =>
    have HD := Lib.hid (show suV t = suT t t.n by rw [hdef, hg]; rfl)
    have HG := Lib.hid hg
    clear hg hdef
    go_enter Try.func18, Try.ntmps18
    go_wp2_with fail
    refine (P.out _ HB0.out).mono ?_
    rintro e w2 ⟨rfl, hb⟩
    rw [HG.out]
    have K1 := Lib.hid (K0.out.on hb)
    have HB1 := Lib.hid (below_on HB0.out hb)
    obtain ⟨b0, b1, b2, b3⟩ := K1.out.c4
    clear hb a0 a1 a2 a3 K0 HB0
    go_wp2_with fail
    refine (Q.out HG.out _ HB1.out).mono ?_
    rintro e w3 ⟨rfl, hb⟩
    have HB2 := Lib.hid (below_on HB1.out hb)
    clear hb b0 b1 b2 b3
    go_wp2_with fail
    go_ret2
    exact ⟨by rw [HD.out]; rfl, HB2.out⟩
end Go.Proofs.Ytnlneblipedddaa
