/- Contracts of WidestStep and of SquareOf in the program. Conditions: the transition's slices can be read; both are spots. -/
import Derived.Test.YtnlneblipedddaaPFnTransitions33
import Derived.Test.YtnlneblipedddaaPFnTransitions10
namespace Go.Proofs.Ytnlneblipedddaa
open Go.RowKit

def wdT (t : TrN) : Int × Int := if trB t = true then (tmA (mSq t (faT t t.n)) (t.c * t.c), tmB (mSq t (faT t t.n)) (t.c * t.c)) else (0, 0)
theorem wd_no {t : TrN} (h : trB t = false) : wdT t = (0, 0) := by simp [wdT, h]
theorem wd_yes {t : TrN} (h : trB t = true) : wdT t = (tmA (mSq t (faT t t.n)) (t.c * t.c), tmB (mSq t (faT t t.n)) (t.c * t.c)) := by simp [wdT, h]
/-- All moves are in a step's width if and only if the widest one's fraction is. -/
theorem wd_fits {t : TrN} (h : trB t = true) (s : Int) : decide ((wdT t).1 ≤ s * s * (wdT t).2) = decide (mSq t (faT t t.n) ≤ s * s * t.c * t.c) := by
  have hok := tr_ok h
  have hm := mSq_in hok (faT_lt (t := t) hok.n0)
  have hc := Int.mul_pos (show 0 < t.c by have := hok.c0; omega) (show 0 < t.c by have := hok.c0; omega)
  have hs := tm_same hm.1 hc
  have hb := (tm_bounds hm.1 hc).2.2.1
  rw [wd_yes h]
  simp only
  obtain ⟨m, em⟩ : ∃ q, mSq t (faT t t.n) = q := ⟨_, rfl⟩
  obtain ⟨d, ed⟩ : ∃ q, t.c * t.c = q := ⟨_, rfl⟩
  have e2 : s * s * t.c * t.c = s * s * d := by rw [Int.mul_assoc, ed]
  rw [em, ed] at hs hb ⊢
  rw [ed] at hc
  rw [e2]
  obtain ⟨p, ep⟩ : ∃ q, tmA m d = q := ⟨_, rfl⟩
  obtain ⟨q, eq⟩ : ∃ q, tmB m d = q := ⟨_, rfl⟩
  rw [ep, eq] at hs ⊢
  rw [eq] at hb
  have h1 : p * d ≤ s * s * q * d ↔ p ≤ s * s * q := ⟨fun h => Int.le_of_mul_le_mul_right h hc, fun h => Int.mul_le_mul_of_nonneg_right h (by omega)⟩
  have h2 : m * q ≤ s * s * d * q ↔ m ≤ s * s * d := ⟨fun h => Int.le_of_mul_le_mul_right h (by omega), fun h => Int.mul_le_mul_of_nonneg_right h (by omega)⟩
  have h3 : s * s * q * d = s * s * d * q := Int.mul_right_comm _ _ _
  have h4 : (p ≤ s * s * q) ↔ (m ≤ s * s * d) := by rw [← h1, ← h2, hs, h3]
  exact decide_eq_decide.2 h4
set_option maxRecDepth 100000 in
set_option maxHeartbeats 4000000 in
theorem WidestStep_any (v : Value) (B : Nat) (t : TrN) (w : World) (hcp : CapT v) (hv : RdT w B v t) (hB : B ≤ w.heap.size) (hs : t.small) :
    Calls Try.prog 19 #[v] w fun e w' => e = .returned (.tuple #[.int .i64 (wdT t).1, .int .i64 (wdT t).2, .bool (trB t)]) ∧ Below w.heap.size w w' := by
  have P := Lib.hid (fun W (hb : Below w.heap.size w W) => IsTransition_any v B t W hcp (hv.below' hb hB) (Nat.le_trans hB hb.size) hs)
  cases hg : trB t with
  | false =>
    obtain ⟨A, ca, C, cb, D, cc, rfl, -, -, -⟩ := hv.form
    have K0 := Lib.hid (Blk.new w 29 #[.slice A t.n ca, .slice C t.m cb, .int .i64 t.c, .slice D t.p cc])
    have HB0 := Lib.hid (below_new (Below.refl w.heap.size w) (.cells #[.slice A t.n ca, .slice C t.m cb, .int .i64 t.c, .slice D t.p cc] 29))
    obtain ⟨a0, a1, a2, a3⟩ := K0.out.c4
    have HD := Lib.hid (wd_no hg)
    have HG := Lib.hid hg
    clear hg hv hcp hs
    go_enter Try.func19, Try.ntmps19
    go_wp2_with fail
    refine (P.out _ HB0.out).mono ?_
    rintro e w2 ⟨rfl, hb⟩
    rw [HG.out]
    have HB1 := Lib.hid (below_on HB0.out hb)
    clear hb a0 a1 a2 a3 K0 HB0
    go_wp2_with fail
    go_ret3
    exact ⟨by rw [HD.out]; rfl, HB1.out⟩
  | true =>
    have hok := tr_ok hg
    have HD := Lib.hid (wd_yes hg)
    have HG := Lib.hid hg
    have Q := Lib.hid (fun W (hb : Below w.heap.size w W) => farthestMove_any v B t W (hv.below' hb hB) (Nat.le_trans hB hb.size) (tr_ok HG.out))
    have hfl := faT_lt (t := t) hok.n0
    have hc0 := hok.c0
    have hc1 := hok.c1
    have hmE0 := hok.m
    have hpE0 := hok.p
    clear hg hcp hs
    have n0 := hok.n0
    have n1 := hok.n1
    have hPl := hok.place
    have hmE := hok.m
    have hpE := hok.p
    have HIN := Lib.hid (fun k (hk : k ≤ t.n) => suT_in hok k hk)
    have HSQ := Lib.hid (fun k (hk : k < t.n) => (by
      have h1 := spotB_yes (hok.from_ k hk)
      have h2 := spotB_yes (hok.to_ _ (hok.place k hk).2)
      omega : (0 ≤ X t.xs k ∧ X t.xs k ≤ 1280) ∧ (0 ≤ Y t.xs k ∧ Y t.xs k ≤ 1280) ∧ (0 ≤ X t.ys (plc t k) ∧ X t.ys (plc t k) ≤ 1280) ∧ (0 ≤ Y t.ys (plc t k) ∧ Y t.ys (plc t k) ≤ 1280)))
    have HMS := Lib.hid (fun k (hk : k < t.n) => mSq_in hok hk)
    obtain ⟨A, ca, C, cb, D, cc, rfl, ha, hb, hc⟩ := hv.form
    clear hv
    rw [hmE] at hb ⊢
    rw [hpE] at hc ⊢
    obtain ⟨bA, oA, rfl, hbA, hcA⟩ := ha.spot n0
    obtain ⟨bC, oC, rfl, hbC, hcC⟩ := hb.spot n0
    obtain ⟨_, D', cc', e, hD⟩ := hc
    simp only [Value.slice.injEq, true_and] at e
    obtain ⟨rfl, rfl⟩ := e
    obtain ⟨b, off, rfl, hbD, hcD⟩ := hD (by omega)
    have HPL := Lib.hid hPl
    have HCX := Lib.hid (fun (V : World) (h : Below w.heap.size w V) (j : Nat) (hj : j < t.n) => (by
      have hd := hcD j (by omega)
      rw [(hPl j hj).1] at hd
      have h1 := hcA j hj
      have h2 := hcC (plc t j) (hPl j hj).2
      exact ⟨(h.cell (p := ⟨bA, oA + j * 2, none⟩) (Nat.lt_of_lt_of_le hbA hB)).trans h1.1, (h.cell (p := ⟨bA, oA + j * 2 + 1, none⟩) (Nat.lt_of_lt_of_le hbA hB)).trans h1.2, (h.cell (p := ⟨bC, oC + plc t j * 2, none⟩) (Nat.lt_of_lt_of_le hbC hB)).trans h2.1, (h.cell (p := ⟨bC, oC + plc t j * 2 + 1, none⟩) (Nat.lt_of_lt_of_le hbC hB)).trans h2.2, (h.cell (p := ⟨b, off + j, none⟩) (Nat.lt_of_lt_of_le hbD hB)).trans hd⟩ :
      V.cell? ⟨bA, oA + j * 2, none⟩ = some (.int .i64 (X t.xs j)) ∧ V.cell? ⟨bA, oA + j * 2 + 1, none⟩ = some (.int .i64 (Y t.xs j)) ∧ V.cell? ⟨bC, oC + plc t j * 2, none⟩ = some (.int .i64 (X t.ys (plc t j))) ∧ V.cell? ⟨bC, oC + plc t j * 2 + 1, none⟩ = some (.int .i64 (Y t.ys (plc t j))) ∧ V.cell? ⟨b, off + j, none⟩ = some (.int .i64 (plc t j : Int))))
    have K0 := Lib.hid (Blk.new w 29 #[.slice (some ⟨bA, oA, none⟩) t.n ca, .slice (some ⟨bC, oC, none⟩) t.n cb, .int .i64 t.c, .slice (some ⟨b, off, none⟩) t.n cc])
    have HB0 := Lib.hid (below_new (Below.refl w.heap.size w) (.cells #[.slice (some ⟨bA, oA, none⟩) t.n ca, .slice (some ⟨bC, oC, none⟩) t.n cb, .int .i64 t.c, .slice (some ⟨b, off, none⟩) t.n cc] 29))
    obtain ⟨a0, a1, a2, a3⟩ := K0.out.c4
    clear ha hb hD hcA hcC hcD hPl hmE hpE hok
    rw [hmE0] at P Q
    rw [hpE0] at P Q
    have hcc : 0 < t.c * t.c := Int.mul_pos (by omega) (by omega)
    have hcc2 : t.c * t.c ≤ 64 * 64 := Int.mul_le_mul (by omega) (by omega) (by omega) (by omega)
    have hms := HMS.out _ hfl
    have PL := Lib.hid (fun W => lowestTerms_any (mSq t (faT t t.n)) (t.c * t.c) W hms.1 (by omega) hcc (by omega))
    obtain ⟨k, ek⟩ : ∃ q, faT t t.n = q := ⟨_, rfl⟩
    rw [ek] at PL HD Q hfl hms
    obtain ⟨c, ec⟩ : ∃ q, t.c = q := ⟨_, rfl⟩
    rw [ec] at P Q K0 HB0 PL HD hcc hcc2 a2 ⊢
    have i9 := IntWalk.i64_in (c * c) (by omega)
    clear hmE0 hpE0 hc0 hc1 ek ec
    have hlt := hfl
    obtain ⟨m, em⟩ : ∃ q, mSq t k = q := ⟨_, rfl⟩
    go_enter Try.func19, Try.ntmps19
    go_wp2_with fail
    refine (P.out _ HB0.out).mono ?_
    rintro e w2 ⟨rfl, hb⟩
    rw [HG.out]
    replace K0 := Lib.hid (K0.out.on hb)
    replace HB0 := Lib.hid (below_on HB0.out hb)
    clear hb a0 a1 a2 a3
    obtain ⟨a0, a1, a2, a3⟩ := K0.out.c4
    go_wp2_with fail
    refine (Q.out _ HB0.out).mono ?_
    rintro e w3 ⟨rfl, hb⟩
    have KB := Lib.hid (K0.out.on hb)
    have HB := Lib.hid (below_on HB0.out hb)
    clear hb a0 a1 a2 a3 K0 HB0 hms hcc hcc2
    obtain ⟨c0, c1, c2, c3, c4⟩ := HCX.out _ HB.out k hlt
    obtain ⟨⟨x0, x1⟩, ⟨y0, y1⟩, ⟨z0, z1⟩, u0, u1⟩ := HSQ.out k hlt
    have hsq : mSq t k = sqL (X t.xs k) (Y t.xs k) (X t.ys (plc t k)) (Y t.ys (plc t k)) := rfl
    have hpl := (HPL.out k hlt).2
    obtain ⟨x, ex⟩ : ∃ q, X t.xs k = q := ⟨_, rfl⟩
    obtain ⟨y, ey⟩ : ∃ q, Y t.xs k = q := ⟨_, rfl⟩
    obtain ⟨z, ez⟩ : ∃ q, X t.ys (plc t k) = q := ⟨_, rfl⟩
    obtain ⟨u, eu⟩ : ∃ q, Y t.ys (plc t k) = q := ⟨_, rfl⟩
    obtain ⟨q, eq⟩ : ∃ q, plc t k = q := ⟨_, rfl⟩
    rw [ex] at c0 x0 x1 hsq
    rw [ey] at c1 y0 y1 hsq
    rw [ez] at c2 z0 z1 hsq
    rw [eu] at c3 u0 u1 hsq
    rw [eq] at c2 c3 c4 hpl
    have HP := Lib.hid (fun W => squareOf_any x y z u W ⟨x0, x1⟩ ⟨y0, y1⟩ ⟨z0, z1⟩ ⟨u0, u1⟩)
    rw [← hsq] at HP
    have i0 : (0 : Int) ≤ (k : Int) := by omega
    have i1 : (k : Int) < (t.n : Int) := by omega
    have i2 : (0 : Int) ≤ (q : Int) := by omega
    have i3 : (q : Int) < (t.n : Int) := by omega
    clear ex ey ez eu eq hsq x0 x1 y0 y1 z0 z1 u0 u1
    rw [em] at PL HD HP
    clear em
    obtain ⟨a0, a1, a2, a3⟩ := KB.out.c4
    go_wp2_with fail
    refine wp_region_held_drew (S := fun W => W.cell? ⟨w.heap.size, 0, none⟩ = some (.slice (some ⟨bA, oA, none⟩) t.n ca) ∧ W.cell? ⟨w.heap.size, 1, none⟩ = some (.slice (some ⟨bC, oC, none⟩) t.n cb) ∧ W.cell? ⟨w.heap.size, 2, none⟩ = some (.int .i64 c) ∧ W.cell? ⟨w.heap.size, 3, none⟩ = some (.slice (some ⟨b, off, none⟩) t.n cc) ∧ W.cell? ⟨bA, oA + k * 2, none⟩ = some (.int .i64 x) ∧ W.cell? ⟨bA, oA + k * 2 + 1, none⟩ = some (.int .i64 y) ∧ W.cell? ⟨bC, oC + q * 2, none⟩ = some (.int .i64 z) ∧ W.cell? ⟨bC, oC + q * 2 + 1, none⟩ = some (.int .i64 u) ∧ W.cell? ⟨b, off + k, none⟩ = some (.int .i64 (q : Int))) (by kernel_rfl) ⟨a0, a1, a2, a3, c0, c1, c2, c3, c4⟩ (fun hHeld => ?_)
    clear a0 a1 a2 a3 c0 c1 c2 c3 c4
    refine take_at (i := 0) (oi := _) 14 (v := .pointer (some ⟨w.heap.size, 0, none⟩)) rfl rfl (by kernel_rfl) (by kernel_rfl) (by kernel_rfl) (fun _ _ _ h => h) (Or.inl ⟨by rfl, ?_⟩) hHeld ?_
    · (intro w hSw; (try dsimp only at hSw); go_split_ands; go_simp)
    simp only [List.setIfInBounds_toArray, List.set_cons_zero, List.set_cons_succ]
    refine take_at (i := 1) (oi := _) 15 (v := .slice (some ⟨bA, oA, none⟩) t.n ca) rfl rfl (by kernel_rfl) (by kernel_rfl) (by kernel_rfl) (fun _ _ _ h => h) (Or.inl ⟨by rfl, ?_⟩) hHeld ?_
    · (intro w hSw; (try dsimp only at hSw); go_split_ands; go_simp)
    simp only [List.setIfInBounds_toArray, List.set_cons_zero, List.set_cons_succ]
    refine take_at (i := 2) (oi := _) 16 (v := .int .i64 (k : Int)) rfl rfl (by kernel_rfl) (by kernel_rfl) (by kernel_rfl) (fun _ _ _ h => h) (Or.inl ⟨by rfl, ?_⟩) hHeld ?_
    · (intro w hSw; (try dsimp only at hSw); go_split_ands; go_simp)
    simp only [List.setIfInBounds_toArray, List.set_cons_zero, List.set_cons_succ]
    refine take_at (i := 3) (oi := _) 17 (v := .pointer (some ⟨bA, oA + k * 2, none⟩)) rfl rfl (by kernel_rfl) (by kernel_rfl) (by kernel_rfl) (fun _ _ _ h => h) (Or.inl ⟨by rfl, ?_⟩) hHeld ?_
    · (intro w hSw; (try dsimp only at hSw); go_split_ands; go_simp)
    simp only [List.setIfInBounds_toArray, List.set_cons_zero, List.set_cons_succ]
    refine take_at (i := 4) (oi := _) 18 (v := (Value.agg #[Value.int .i64 x, Value.int .i64 y])) rfl rfl (by kernel_rfl) (by kernel_rfl) (by kernel_rfl) (fun _ _ _ h => h) (Or.inl ⟨by rfl, ?_⟩) hHeld ?_
    · (intro w hSw; (try dsimp only at hSw); go_split_ands; go_simp)
    simp only [List.setIfInBounds_toArray, List.set_cons_zero, List.set_cons_succ]
    refine take_at (i := 5) (oi := _) 19 (v := .pointer (some ⟨w.heap.size, 1, none⟩)) rfl rfl (by kernel_rfl) (by kernel_rfl) (by kernel_rfl) (fun _ _ _ h => h) (Or.inl ⟨by rfl, ?_⟩) hHeld ?_
    · (intro w hSw; (try dsimp only at hSw); go_split_ands; go_simp)
    simp only [List.setIfInBounds_toArray, List.set_cons_zero, List.set_cons_succ]
    refine take_at (i := 6) (oi := _) 20 (v := .slice (some ⟨bC, oC, none⟩) t.n cb) rfl rfl (by kernel_rfl) (by kernel_rfl) (by kernel_rfl) (fun _ _ _ h => h) (Or.inl ⟨by rfl, ?_⟩) hHeld ?_
    · (intro w hSw; (try dsimp only at hSw); go_split_ands; go_simp)
    simp only [List.setIfInBounds_toArray, List.set_cons_zero, List.set_cons_succ]
    refine take_at (i := 7) (oi := _) 21 (v := .pointer (some ⟨w.heap.size, 3, none⟩)) rfl rfl (by kernel_rfl) (by kernel_rfl) (by kernel_rfl) (fun _ _ _ h => h) (Or.inl ⟨by rfl, ?_⟩) hHeld ?_
    · (intro w hSw; (try dsimp only at hSw); go_split_ands; go_simp)
    simp only [List.setIfInBounds_toArray, List.set_cons_zero, List.set_cons_succ]
    refine take_at (i := 8) (oi := _) 22 (v := .slice (some ⟨b, off, none⟩) t.n cc) rfl rfl (by kernel_rfl) (by kernel_rfl) (by kernel_rfl) (fun _ _ _ h => h) (Or.inl ⟨by rfl, ?_⟩) hHeld ?_
    · (intro w hSw; (try dsimp only at hSw); go_split_ands; go_simp)
    simp only [List.setIfInBounds_toArray, List.set_cons_zero, List.set_cons_succ]
    refine take_at (i := 9) (oi := _) 23 (v := .int .i64 (k : Int)) rfl rfl (by kernel_rfl) (by kernel_rfl) (by kernel_rfl) (fun _ _ _ h => h) (Or.inl ⟨by rfl, ?_⟩) hHeld ?_
    · (intro w hSw; (try dsimp only at hSw); go_split_ands; go_simp)
    simp only [List.setIfInBounds_toArray, List.set_cons_zero, List.set_cons_succ]
    refine take_at (i := 10) (oi := _) 24 (v := .pointer (some ⟨b, off + k, none⟩)) rfl rfl (by kernel_rfl) (by kernel_rfl) (by kernel_rfl) (fun _ _ _ h => h) (Or.inl ⟨by rfl, ?_⟩) hHeld ?_
    · (intro w hSw; (try dsimp only at hSw); go_split_ands; go_simp)
    simp only [List.setIfInBounds_toArray, List.set_cons_zero, List.set_cons_succ]
    refine take_at (i := 11) (oi := _) 25 (v := .int .i64 (q : Int)) rfl rfl (by kernel_rfl) (by kernel_rfl) (by kernel_rfl) (fun _ _ _ h => h) (Or.inl ⟨by rfl, ?_⟩) hHeld ?_
    · (intro w hSw; (try dsimp only at hSw); go_split_ands; go_simp)
    simp only [List.setIfInBounds_toArray, List.set_cons_zero, List.set_cons_succ]
    refine take_at (i := 12) (oi := _) 26 (v := .pointer (some ⟨bC, oC + q * 2, none⟩)) rfl rfl (by kernel_rfl) (by kernel_rfl) (by kernel_rfl) (fun _ _ _ h => h) (Or.inl ⟨by rfl, ?_⟩) hHeld ?_
    · (intro w hSw; (try dsimp only at hSw); go_split_ands; go_simp)
    simp only [List.setIfInBounds_toArray, List.set_cons_zero, List.set_cons_succ]
    refine take_at (i := 13) (oi := _) 27 (v := (Value.agg #[Value.int .i64 z, Value.int .i64 u])) rfl rfl (by kernel_rfl) (by kernel_rfl) (by kernel_rfl) (fun _ _ _ h => h) (Or.inl ⟨by rfl, ?_⟩) hHeld ?_
    · (intro w hSw; (try dsimp only at hSw); go_split_ands; go_simp)
    simp only [List.setIfInBounds_toArray, List.set_cons_zero, List.set_cons_succ]
    refine take_at (i := 15) (oi := _) 29 (v := .pointer (some ⟨w.heap.size, 2, none⟩)) rfl rfl (by kernel_rfl) (by kernel_rfl) (by kernel_rfl) (fun _ _ _ h => h) (Or.inl ⟨by rfl, ?_⟩) hHeld ?_
    · (intro w hSw; (try dsimp only at hSw); go_split_ands; go_simp)
    simp only [List.setIfInBounds_toArray, List.set_cons_zero, List.set_cons_succ]
    refine take_at (i := 16) (oi := _) 30 (v := .int .i64 c) rfl rfl (by kernel_rfl) (by kernel_rfl) (by kernel_rfl) (fun _ _ _ h => h) (Or.inl ⟨by rfl, ?_⟩) hHeld ?_
    · (intro w hSw; (try dsimp only at hSw); go_split_ands; go_simp)
    simp only [List.setIfInBounds_toArray, List.set_cons_zero, List.set_cons_succ]
    refine take_at (i := 17) (oi := _) 31 (v := .pointer (some ⟨w.heap.size, 2, none⟩)) rfl rfl (by kernel_rfl) (by kernel_rfl) (by kernel_rfl) (fun _ _ _ h => h) (Or.inl ⟨by rfl, ?_⟩) hHeld ?_
    · (intro w hSw; (try dsimp only at hSw); go_split_ands; go_simp)
    simp only [List.setIfInBounds_toArray, List.set_cons_zero, List.set_cons_succ]
    refine take_at (i := 18) (oi := _) 32 (v := .int .i64 c) rfl rfl (by kernel_rfl) (by kernel_rfl) (by kernel_rfl) (fun _ _ _ h => h) (Or.inl ⟨by rfl, ?_⟩) hHeld ?_
    · (intro w hSw; (try dsimp only at hSw); go_split_ands; go_simp)
    simp only [List.setIfInBounds_toArray, List.set_cons_zero, List.set_cons_succ]
    refine take_at (i := 19) (oi := _) 33 (v := .int .i64 (c * c)) rfl rfl (by kernel_rfl) (by kernel_rfl) (by kernel_rfl) (fun _ _ _ h => h) (Or.inl ⟨by rfl, ?_⟩) hHeld ?_
    · (intro w hSw; (try dsimp only at hSw); go_split_ands; go_simp)
    simp only [List.setIfInBounds_toArray, List.set_cons_zero, List.set_cons_succ]
    refine wpAnyH_ready (rs := [14]) (by kernel_rfl) (by simp) ?_
    refine AllReadyH.cons (o := _) rfl (fun K9 hK => ?_) AllReadyH.nil
    go_simp
    refine (HP.out _).mono ?_
    rintro e w8 ⟨rfl, hb9⟩
    replace HB := Lib.hid (below_on (below_drewN HB.out 1) hb9)
    obtain ⟨h0, h1, h2, h3, h4, h5, h6, h7, h8⟩ := hHeld
    refine hK.out _ _ ⟨cell_on hb9 h0, cell_on hb9 h1, cell_on hb9 h2, cell_on hb9 h3, cell_on hb9 h4, cell_on hb9 h5, cell_on hb9 h6, cell_on hb9 h7, cell_on hb9 h8⟩ (fun hHeld => ?_)
    clear hK K9 hb9 h0 h1 h2 h3 h4 h5 h6 h7 h8
    try simp only [Act.put, List.setIfInBounds_toArray, List.set_cons_zero, List.set_cons_succ]
    refine wpAnyH_ready (rs := [20]) (by kernel_rfl) (by simp) ?_
    refine AllReadyH.cons (o := _) rfl (fun K9 hK => ?_) AllReadyH.nil
    go_simp
    refine (PL.out _).mono ?_
    rintro e w9 ⟨rfl, hb9⟩
    have HB2 := Lib.hid (below_on HB.out hb9)
    obtain ⟨h0, h1, h2, h3, h4, h5, h6, h7, h8⟩ := hHeld
    refine hK.out _ _ ⟨cell_on hb9 h0, cell_on hb9 h1, cell_on hb9 h2, cell_on hb9 h3, cell_on hb9 h4, cell_on hb9 h5, cell_on hb9 h6, cell_on hb9 h7, cell_on hb9 h8⟩ (fun hHeld => ?_)
    clear hK K9 hb9 h0 h1 h2 h3 h4 h5 h6 h7 h8
    try simp only [Act.put, List.setIfInBounds_toArray, List.set_cons_zero, List.set_cons_succ]
    refine take_at (i := 21) (oi := _) 13 (v := .tuple #[.int .i64 (tmA m (c * c)), .int .i64 (tmB m (c * c))]) rfl rfl (by kernel_rfl) (by kernel_rfl) (by kernel_rfl) (fun _ _ _ h => h) (Or.inl ⟨by rfl, ?_⟩) hHeld ?_
    · (intro w hSw; (try dsimp only at hSw); go_split_ands; go_simp)
    simp only [List.setIfInBounds_toArray, List.set_cons_zero, List.set_cons_succ]
    refine take_at (i := 22) (oi := _) 35 (v := .int .i64 (tmA m (c * c))) rfl rfl (by kernel_rfl) (by kernel_rfl) (by kernel_rfl) (fun _ _ _ h => h) (Or.inl ⟨by rfl, ?_⟩) hHeld ?_
    · (intro w hSw; (try dsimp only at hSw); go_split_ands; go_simp)
    simp only [List.setIfInBounds_toArray, List.set_cons_zero, List.set_cons_succ]
    refine take_at (i := 23) (oi := _) 36 (v := .int .i64 (tmB m (c * c))) rfl rfl (by kernel_rfl) (by kernel_rfl) (by kernel_rfl) (fun _ _ _ h => h) (Or.inl ⟨by rfl, ?_⟩) hHeld ?_
    · (intro w hSw; (try dsimp only at hSw); go_split_ands; go_simp)
    simp only [List.setIfInBounds_toArray, List.set_cons_zero, List.set_cons_succ]
    refine wpAnyH_ready (rs := [24]) (by kernel_rfl) (by simp) ?_
    refine AllReadyH.cons (o := _) rfl (fun K9 hK => ?_) AllReadyH.nil
    go_simp
    refine hK.out _ _ hHeld (fun hHeld => ?_)
    clear hK K9
    try simp only [Act.put, List.setIfInBounds_toArray, List.set_cons_zero, List.set_cons_succ]
    refine wpAnyH_ready (rs := [25]) (by kernel_rfl) (by simp) ?_
    refine AllReadyH.cons (o := _) rfl (fun K9 hK => ?_) AllReadyH.nil
    go_simp
    refine hK.out _ _ hHeld (fun hHeld => ?_)
    clear hK K9
    try simp only [Act.put, List.setIfInBounds_toArray, List.set_cons_zero, List.set_cons_succ]
    refine wpAnyH_done (by kernel_rfl) ?_ _
    clear hHeld
    go_wp2_with fail
    go_ret3
    exact ⟨by rw [HD.out]; rfl, HB2.out⟩
/-! The square of two spots -/
end Go.Proofs.Ytnlneblipedddaa
