/- Contracts of the sum of the squares of a transition's moves, and of the farthest move, on both sides. Conditions: the transition is good, and its slices can be read. -/
import Derived.Test.YtnlneblipedddaaPFnTransitions13
import Derived.Test.YtnlneblipedddaaPFnTransitions31
import Derived.Test.YtnlneblipedddaaPFnTransitions18
import Derived.Test.YtnlneblipedddaaPFnTransitions11
namespace Go.Proofs.Ytnlneblipedddaa
open Go.RowKit

set_option maxRecDepth 100000 in
set_option maxHeartbeats 4000000 in
theorem asSum_any (v : Value) (B : Nat) (t : TrN) (w : World) (hv : RdT w B v t) (hB : B ≤ w.heap.size) (hok : TrOk t) :
    Calls Try.prog 50 #[v] w fun e w' => e = .returned (.int .i64 (suT t t.n)) ∧ Below w.heap.size w w' := by
  have P := Lib.hid (fun W (hb : Below w.heap.size w W) => asMoves_any v B t W (hv.below' hb hB) (Nat.le_trans hB hb.size) hok)
  have n0 := hok.n0
  have n1 := hok.n1
  have HIN := Lib.hid (fun k (hk : k ≤ t.n) => suT_in hok k hk)
  have HSQ := Lib.hid (fun k (hk : k < t.n) => (by
    have h1 := spotB_yes (hok.from_ k hk)
    have h2 := spotB_yes (hok.to_ _ (hok.place k hk).2)
    omega : (0 ≤ X t.xs k ∧ X t.xs k ≤ 1280) ∧ (0 ≤ Y t.xs k ∧ Y t.xs k ≤ 1280) ∧ (0 ≤ X t.ys (plc t k) ∧ X t.ys (plc t k) ≤ 1280) ∧ (0 ≤ Y t.ys (plc t k) ∧ Y t.ys (plc t k) ≤ 1280)))
  have HMS := Lib.hid (fun k (hk : k < t.n) => mSq_in hok hk)
  obtain ⟨A, ca, C, cb, D, cc, rfl, -, -, -⟩ := hv.form
  have K0 := Lib.hid (Blk.new w 29 #[.slice A t.n ca, .slice C t.m cb, .int .i64 t.c, .slice D t.p cc])
  have HB0 := Lib.hid (below_new (Below.refl w.heap.size w) (.cells #[.slice A t.n ca, .slice C t.m cb, .int .i64 t.c, .slice D t.p cc] 29))
  obtain ⟨a0, a1, a2, a3⟩ := K0.out.c4
  clear hv hok
  go_enter Try.func50, Try.ntmps50
  go_wp2_with fail
  refine (P.out _ HB0.out).mono ?_
  rintro e w1 ⟨mv, rfl, o1, hb⟩
  have HB1 := Lib.hid (below_on HB0.out hb)
  obtain ⟨bm, cm, rfl, -, hbm⟩ : ∃ b c, mv = .slice (some ⟨b, 0, none⟩) t.n c ∧ w.heap.size ≤ b ∧ b < w1.heap.size := by
    have hl := o1.lt
    rcases o1.2 with ⟨rfl, h0⟩ | ⟨g, cap, cur, rfl, _⟩
    · exact absurd h0 (by omega)
    · exact ⟨g, cap, rfl, Nat.le_trans HB0.out.size (hl g rfl).1, (hl g rfl).2⟩
  have HM := Lib.hid (fun (V : World) (hb : Below w1.heap.size w1 V) (j : Nat) (hj : j < t.n) => (by
    have h := mvTo_get t t.n j hj
    have hl := mvTo_length t t.n
    have g := fun i (hi : i < t.n * 5) => (hb.cell (p := ⟨bm, i, none⟩) hbm).trans ((o1.cellAt i hi).trans (ints_get _ i (by rw [hl]; exact hi)))
    have k0 := g (j * 5) (by omega)
    have k1 := g (j * 5 + 1) (by omega)
    have k2 := g (j * 5 + 2) (by omega)
    have k3 := g (j * 5 + 3) (by omega)
    have k4 := g (j * 5 + 4) (by omega)
    rw [h.1] at k0
    rw [h.2.1] at k1
    rw [h.2.2.1] at k2
    rw [h.2.2.2.1] at k3
    rw [h.2.2.2.2] at k4
    exact ⟨k0, k1, k2, k3, k4⟩ : V.cell? ⟨bm, j * 5, none⟩ = some (.int .i64 (X t.xs j)) ∧ V.cell? ⟨bm, j * 5 + 1, none⟩ = some (.int .i64 (Y t.xs j)) ∧ V.cell? ⟨bm, j * 5 + 2, none⟩ = some (.int .i64 (X t.ys (plc t j))) ∧ V.cell? ⟨bm, j * 5 + 3, none⟩ = some (.int .i64 (Y t.ys (plc t j))) ∧ V.cell? ⟨bm, j * 5 + 4, none⟩ = some (.int .i64 t.c)))
  clear o1 hb a0 a1 a2 a3 K0 HB0
  go_wp2_with fail
  go_loopw [3, 9] (fun s i wr => ∃ k : Nat, k ≤ t.n ∧ i = .int .i64 k ∧ s = .int .i64 (suT t k) ∧ Below w.heap.size w wr ∧ Below w1.heap.size w1 wr) (fun _ i _ => t.n - (intOf i).toNat)
  case atStart => exact ⟨0, by omega, rfl, rfl, HB1.out, Below.refl _ _⟩
  case round =>
    clear HB1
    obtain ⟨k, hk, rfl, rfl, hb, hbm1⟩ := hrel
    have HB := Lib.hid hb
    have BM := Lib.hid hbm1
    clear hb hbm1
    by_cases hlt : k < t.n
    · obtain ⟨m0, m1, m2, m3, m4⟩ := HM.out _ BM.out k hlt
      obtain ⟨⟨x0, x1⟩, ⟨y0, y1⟩, ⟨z0, z1⟩, u0, u1⟩ := HSQ.out k hlt
      have hsq : mSq t k = sqL (X t.xs k) (Y t.xs k) (X t.ys (plc t k)) (Y t.ys (plc t k)) := rfl
      have hms := HMS.out k hlt
      obtain ⟨x, ex⟩ : ∃ q, X t.xs k = q := ⟨_, rfl⟩
      obtain ⟨y, ey⟩ : ∃ q, Y t.xs k = q := ⟨_, rfl⟩
      obtain ⟨z, ez⟩ : ∃ q, X t.ys (plc t k) = q := ⟨_, rfl⟩
      obtain ⟨u, eu⟩ : ∃ q, Y t.ys (plc t k) = q := ⟨_, rfl⟩
      rw [ex] at m0 x0 x1 hsq
      rw [ey] at m1 y0 y1 hsq
      rw [ez] at m2 z0 z1 hsq
      rw [eu] at m3 u0 u1 hsq
      have HP := Lib.hid (fun W => stSquare_any x y z u W ⟨x0, x1⟩ ⟨y0, y1⟩ ⟨z0, z1⟩ ⟨u0, u1⟩)
      rw [← hsq] at HP
      have i0 : (0 : Int) ≤ (k : Int) := by omega
      have i1 : (k : Int) < (t.n : Int) := by omega
      have h0 := HIN.out k (by omega)
      have h1 := HIN.out (k + 1) (by omega)
      have h2 : suT t (k + 1) = suT t k + mSq t k := rfl
      obtain ⟨s, es⟩ : ∃ q, suT t k = q := ⟨_, rfl⟩
      obtain ⟨q, eq⟩ : ∃ q, mSq t k = q := ⟨_, rfl⟩
      rw [es] at h0 h2 ⊢
      rw [eq] at h2 HP
      have H2 := Lib.hid h2
      have i2 := IntWalk.i64_in (s + q) (by omega)
      clear h2 h0 h1 es eq hsq hms
      have KX := Lib.hid (Blk.new wr 99 #[.int .i64 x, .int .i64 y, .int .i64 z, .int .i64 u, .int .i64 t.c])
      have b0 := KX.out.cell 0
      have b1 := KX.out.cell 1
      have b2 := KX.out.cell 2
      have b3 := KX.out.cell 3
      have b4 := KX.out.cell 4
      simp at b0 b1 b2 b3 b4
      replace HB := Lib.hid (below_new HB.out (.cells #[.int .i64 x, .int .i64 y, .int .i64 z, .int .i64 u, .int .i64 t.c] 99))
      replace BM := Lib.hid (below_new BM.out (.cells #[.int .i64 x, .int .i64 y, .int .i64 z, .int .i64 u, .int .i64 t.c] 99))
      clear ex ey ez eu x0 x1 y0 y1 z0 z1 u0 u1
      go_wp2_with fail
      refine (HP.out _).mono ?_
      rintro e w2 ⟨rfl, hb2⟩
      replace HB := Lib.hid (below_on HB.out hb2)
      replace BM := Lib.hid (below_on BM.out hb2)
      clear hb2 b0 b1 b2 b3 b4 m0 m1 m2 m3 m4
      go_wp2_with fail
      go_roundw
      case rel => exact ⟨k + 1, by omega, by go_num, by rw [H2.out], HB.out, BM.out⟩
      case measure => simp [intOf]; omega
    · obtain rfl : k = t.n := by omega
      go_wp2_with fail
      go_ret
      exact ⟨rfl, HB.out⟩
end Go.Proofs.Ytnlneblipedddaa
