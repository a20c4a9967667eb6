/- Contracts of the least square of two moves, and of the test whether they stay apart, in the program and in the reference. Condition: moves on the field. -/
import Derived.Test.YtpikhkdgohapeaaApart
import Derived.BigQuiet
import Derived.Deep.QuietTactic
namespace Go.Proofs.Ytpikhkdgohapeaa
open Go.RowKit

def sqL (x y z u : Int) : Int := (x - z) * (x - z) + (y - u) * (y - u)
set_option maxHeartbeats 1000000 in
theorem squareOf_any (x y z u : Int) (w : World) (hx : 0 ≤ x ∧ x ≤ 1280) (hy : 0 ≤ y ∧ y ≤ 1280) (hz : 0 ≤ z ∧ z ≤ 1280) (hu : 0 ≤ u ∧ u ≤ 1280) :
    Calls Try.prog 82 #[(Value.agg #[Value.int .i64 x, Value.int .i64 y]), (Value.agg #[Value.int .i64 z, Value.int .i64 u])] w fun e w' => e = .returned (.int .i64 (sqL x y z u)) ∧ Below w.heap.size w w' := by
  obtain ⟨h1, h2⟩ := mul_wide (x := x - z) (y := x - z) (a := 1280) (b := 1280) (by omega) (by omega) (by omega) (by omega)
  obtain ⟨h3, h4⟩ := mul_wide (x := y - u) (y := y - u) (a := 1280) (b := 1280) (by omega) (by omega) (by omega) (by omega)
  have HR := Lib.hid (show sqL x y z u = (x - z) * (x - z) + (y - u) * (y - u) from rfl)
  go_enter Try.func82, Try.ntmps82
  go_wp2_with fail
  go_ret
  exact ⟨by rw [HR.out]; rfl, ((Below.refl _ _).alloc (Nat.le_refl _) _).alloc (by simp) _⟩
theorem l1Least_any (a b : Int) (w : World) : Calls Try.prog 66 #[.int .i64 a, .int .i64 b] w fun e w' => e = .returned (.int .i64 (min a b)) ∧ w = w' := by
  by_cases h : a < b
  · have hf := Lib.hid (show min a b = a by omega)
    go_enter Try.func66, Try.ntmps66
    go_wp2_with fail
    go_ret
    exact ⟨by rw [hf.out]; rfl, rfl⟩
  · have hf := Lib.hid (show min a b = b by omega)
    go_enter Try.func66, Try.ntmps66
    go_wp2_with fail
    go_ret
    exact ⟨by rw [hf.out]; rfl, rfl⟩

set_option maxRecDepth 100000 in
set_option maxHeartbeats 2000000 in
theorem leastApart_any (a1 a2 a3 a4 a5 b1 b2 b3 b4 b5 : Int) (w : World) (ha : okM a1 a2 a3 a4) (hb : okM b1 b2 b3 b4) :
    Calls Try.prog 51 #[(Value.agg #[Value.int .i64 a1, Value.int .i64 a2, Value.int .i64 a3, Value.int .i64 a4, Value.int .i64 a5]), (Value.agg #[Value.int .i64 b1, Value.int .i64 b2, Value.int .i64 b3, Value.int .i64 b4, Value.int .i64 b5])] w fun e w' =>
      e = .returned (.tuple #[.int .i64 (lpT (a1 - b1) (a2 - b2) (a3 - b3) (a4 - b4)), .int .i64 (lpB (a1 - b1) (a2 - b2) (a3 - b3) (a4 - b4))]) ∧ Below w.heap.size w w' := by
  have P := fun W => between_any a1 a2 a3 a4 a5 b1 b2 b3 b4 b5 W ha hb
  have PS := fun W => squareOf_any a3 a4 b3 b4 W (by have := ha.2.2.1; omega) (by have := ha.2.2.2; omega) (by have := hb.2.2.1; omega) (by have := hb.2.2.2; omega)
  obtain ⟨⟨h1, h2⟩, ⟨h3, h4⟩, ⟨h5, h6⟩, h7, h8⟩ := ha
  obtain ⟨⟨k1, k2⟩, ⟨k3, k4⟩, ⟨k5, k6⟩, k7, k8⟩ := hb
  have hw1 : wide 1280 (a1 - b1) (a2 - b2) := ⟨by omega, by omega, by omega, by omega⟩
  have hw2 : wide 1280 (a3 - b3) (a4 - b4) := ⟨by omega, by omega, by omega, by omega⟩
  obtain ⟨d1, d2, d3, d4, d5⟩ := dt_in hw1 hw2
  have d6 := sz0 (a1 - b1) (a2 - b2) (a3 - b3) (a4 - b4)
  have hcr := mul_wide (x := crOf (a1 - b1) (a2 - b2) (a3 - b3) (a4 - b4)) (y := crOf (a1 - b1) (a2 - b2) (a3 - b3) (a4 - b4)) (a := 6553600) (b := 6553600) (by omega) (by omega) (by omega) (by omega)
  have hcr0 := sq0 (crOf (a1 - b1) (a2 - b2) (a3 - b3) (a4 - b4))
  have hsq1 := mul_wide (x := a1 - b1) (y := a1 - b1) (a := 1280) (b := 1280) (by omega) (by omega) (by omega) (by omega)
  have hsq2 := mul_wide (x := a2 - b2) (y := a2 - b2) (a := 1280) (b := 1280) (by omega) (by omega) (by omega) (by omega)
  have hcx1 := mul_wide (x := a1 - b1) (y := a4 - b4 - (a2 - b2)) (a := 1280) (b := 2560) (by omega) (by omega) (by omega) (by omega)
  have hcx2 := mul_wide (x := a2 - b2) (y := a3 - b3 - (a1 - b1)) (a := 1280) (b := 2560) (by omega) (by omega) (by omega) (by omega)
  have hce : crOf (a1 - b1) (a2 - b2) (a3 - b3) (a4 - b4) = (a1 - b1) * (a4 - b4 - (a2 - b2)) - (a2 - b2) * (a3 - b3 - (a1 - b1)) := rfl
  have hse : sqL a3 a4 b3 b4 = (a3 - b3) * (a3 - b3) + (a4 - b4) * (a4 - b4) := rfl
  have hbeg := lp_begin (px := a1 - b1) (py := a2 - b2) (qx := a3 - b3) (qy := a4 - b4)
  have hend := lp_end (px := a1 - b1) (py := a2 - b2) (qx := a3 - b3) (qy := a4 - b4)
  have hmid := lp_mid (px := a1 - b1) (py := a2 - b2) (qx := a3 - b3) (qy := a4 - b4)
  have hT : lpT (a1 - b1) (a2 - b2) (a3 - b3) (a4 - b4) = if inMid (a1 - b1) (a2 - b2) (a3 - b3) (a4 - b4) = true then tmA (crOf (a1 - b1) (a2 - b2) (a3 - b3) (a4 - b4) * crOf (a1 - b1) (a2 - b2) (a3 - b3) (a4 - b4)) (szOf (a1 - b1) (a2 - b2) (a3 - b3) (a4 - b4)) else min ((a1 - b1) * (a1 - b1) + (a2 - b2) * (a2 - b2)) ((a3 - b3) * (a3 - b3) + (a4 - b4) * (a4 - b4)) := rfl
  have hU : lpB (a1 - b1) (a2 - b2) (a3 - b3) (a4 - b4) = if inMid (a1 - b1) (a2 - b2) (a3 - b3) (a4 - b4) = true then tmB (crOf (a1 - b1) (a2 - b2) (a3 - b3) (a4 - b4) * crOf (a1 - b1) (a2 - b2) (a3 - b3) (a4 - b4)) (szOf (a1 - b1) (a2 - b2) (a3 - b3) (a4 - b4)) else 1 := rfl
  obtain ⟨T, eT⟩ : ∃ x, lpT (a1 - b1) (a2 - b2) (a3 - b3) (a4 - b4) = x := ⟨_, rfl⟩
  obtain ⟨U, eU⟩ : ∃ x, lpB (a1 - b1) (a2 - b2) (a3 - b3) (a4 - b4) = x := ⟨_, rfl⟩
  obtain ⟨dt, edt⟩ : ∃ x, dtOf (a1 - b1) (a2 - b2) (a3 - b3) (a4 - b4) = x := ⟨_, rfl⟩
  obtain ⟨sz, esz⟩ : ∃ x, szOf (a1 - b1) (a2 - b2) (a3 - b3) (a4 - b4) = x := ⟨_, rfl⟩
  obtain ⟨cr, ecr⟩ : ∃ x, crOf (a1 - b1) (a2 - b2) (a3 - b3) (a4 - b4) = x := ⟨_, rfl⟩
  obtain ⟨sq, esq⟩ : ∃ x, sqL a3 a4 b3 b4 = x := ⟨_, rfl⟩
  rw [eT] at hT
  rw [eU] at hU
  rw [edt] at P d1 d2 hbeg hend hmid
  rw [esz] at P d3 d6 hend hmid hT hU
  rw [ecr] at d4 d5 hcr hcr0 hce hT hU
  rw [esq] at PS hse
  rw [eT, eU]
  clear eT eU edt esz ecr esq hw1 hw2
  have K0 := Blk.new w 30 #[.int .i64 a1, .int .i64 a2, .int .i64 a3, .int .i64 a4, .int .i64 a5]
  replace K0 := K0.alloc (.cells #[.int .i64 b1, .int .i64 b2, .int .i64 b3, .int .i64 b4, .int .i64 b5] 30)
  have K1 := Blk.new2 w (.cells #[.int .i64 a1, .int .i64 a2, .int .i64 a3, .int .i64 a4, .int .i64 a5] 30) 30 #[.int .i64 b1, .int .i64 b2, .int .i64 b3, .int .i64 b4, .int .i64 b5]
  have HB0 := Lib.hid (below_new (below_new (Below.refl w.heap.size w) (.cells #[.int .i64 a1, .int .i64 a2, .int .i64 a3, .int .i64 a4, .int .i64 a5] 30)) (.cells #[.int .i64 b1, .int .i64 b2, .int .i64 b3, .int .i64 b4, .int .i64 b5] 30))
  replace K0 := Lib.hid K0
  replace K1 := Lib.hid K1
  have HP := Lib.hid P
  have HS := Lib.hid PS
  clear P PS
  by_cases c1 : 0 ≤ dt
  · have hf := Lib.hid (show T = (a1 - b1) * (a1 - b1) + (a2 - b2) * (a2 - b2) ∧ U = 1 by
      have := hbeg c1
      rw [this.1] at hT hU
      rw [hT, hU, this.2]; exact ⟨rfl, rfl⟩)
    clear hbeg hend hmid hT hU hce hse hcr hcr0 hcx1 hcx2
    go_enter Try.func51, Try.ntmps51
    go_wp2_with fail
    refine (HP.out _).mono ?_
    rintro e w1 ⟨rfl, r1⟩
    have HB1 := Lib.hid (HB0.out.trans (r1.mono HB0.out.size))
    clear r1
    go_wp2_with fail
    go_ret2
    exact ⟨by rw [hf.out.1, hf.out.2]; rfl, below_new (below_new HB1.out _) _⟩
  · by_cases c2 : sz ≤ -dt
    · have hf := Lib.hid (show T = sq ∧ U = 1 by
        have := hend (by omega) c2
        rw [this.1] at hT hU
        rw [hT, hU, this.2, hse]; exact ⟨rfl, rfl⟩)
      clear hbeg hend hmid hT hU hce hse hcr hcr0 hcx1 hcx2 hsq1 hsq2
      go_enter Try.func51, Try.ntmps51
      go_wp2_with fail
      refine (HP.out _).mono ?_
      rintro e w1 ⟨rfl, r1⟩
      have HB1 := Lib.hid (HB0.out.trans (r1.mono HB0.out.size))
      obtain ⟨p0, p1, p2, p3, p4⟩ := (((K0.out.on r1).alloc (.cells #[.int .i64 (a1 - b1), .int .i64 (a2 - b2)] 28)).alloc (.cells #[.int .i64 (a3 - b3 - (a1 - b1)), .int .i64 (a4 - b4 - (a2 - b2))] 28)).c5
      obtain ⟨q0, q1, q2, q3, q4⟩ := (((K1.out.on r1).alloc (.cells #[.int .i64 (a1 - b1), .int .i64 (a2 - b2)] 28)).alloc (.cells #[.int .i64 (a3 - b3 - (a1 - b1)), .int .i64 (a4 - b4 - (a2 - b2))] 28)).c5
      clear r1
      go_wp2_with fail
      refine (HS.out _).mono ?_
      rintro e w2 ⟨rfl, r2⟩
      have HB2 := Lib.hid (below_on (below_new (below_new HB1.out _) _) r2)
      clear r2
      go_wp2_with fail
      go_ret2
      exact ⟨by rw [hf.out.1, hf.out.2]; rfl, HB2.out⟩
    · have hf := Lib.hid (show T = tmA (cr * cr) sz ∧ U = tmB (cr * cr) sz by
        rw [hmid (by omega) (by omega)] at hT hU
        rw [hT, hU]; exact ⟨rfl, rfl⟩)
      have PL := Lib.hid (fun W => lowestTerms_any (cr * cr) sz W hcr0 (by omega) (by omega) (by omega))
      have HCE := hce.symm
      clear hbeg hend hmid hT hU hse hsq1 hsq2 hce
      go_enter Try.func51, Try.ntmps51
      go_wp2_with fail
      refine (HP.out _).mono ?_
      rintro e w1 ⟨rfl, r1⟩
      have HB1 := Lib.hid (HB0.out.trans (r1.mono HB0.out.size))
      clear r1
      go_wp2_with fail
      refine (PL.out _).mono ?_
      rintro e w2 ⟨rfl, r2⟩
      have HB2 := Lib.hid (below_on (below_new (below_new HB1.out _) _) r2)
      clear r2
      go_wp2_with fail
      go_ret2
      exact ⟨by rw [hf.out.1, hf.out.2]; rfl, HB2.out⟩
end Go.Proofs.Ytpikhkdgohapeaa
