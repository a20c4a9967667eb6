/- Contracts of the test whether two moves stay apart, and of the reference's least square of two moves. Condition: moves on the field. -/
import Derived.Test.YtpikhkdgohapeaaNear
namespace Go.Proofs.Ytpikhkdgohapeaa
open Go.RowKit

theorem lp_bounds {a1 a2 a3 a4 b1 b2 b3 b4 : Int} (ha : okM a1 a2 a3 a4) (hb : okM b1 b2 b3 b4) :
    0 ≤ lpT (a1 - b1) (a2 - b2) (a3 - b3) (a4 - b4) ∧ lpT (a1 - b1) (a2 - b2) (a3 - b3) (a4 - b4) ≤ 42949672960000 ∧ 1 ≤ lpB (a1 - b1) (a2 - b2) (a3 - b3) (a4 - b4) ∧ lpB (a1 - b1) (a2 - b2) (a3 - b3) (a4 - b4) ≤ 13107200 := by
  obtain ⟨⟨h1, h2⟩, ⟨h3, h4⟩, ⟨h5, h6⟩, h7, h8⟩ := ha
  obtain ⟨⟨k1, k2⟩, ⟨k3, k4⟩, ⟨k5, k6⟩, k7, k8⟩ := hb
  have hw1 : wide 1280 (a1 - b1) (a2 - b2) := ⟨by omega, by omega, by omega, by omega⟩
  have hw2 : wide 1280 (a3 - b3) (a4 - b4) := ⟨by omega, by omega, by omega, by omega⟩
  obtain ⟨d1, d2, d3, d4, d5⟩ := dt_in hw1 hw2
  have d6 := sz0 (a1 - b1) (a2 - b2) (a3 - b3) (a4 - b4)
  have hcr := mul_wide (x := crOf (a1 - b1) (a2 - b2) (a3 - b3) (a4 - b4)) (y := crOf (a1 - b1) (a2 - b2) (a3 - b3) (a4 - b4)) (a := 6553600) (b := 6553600) (by omega) (by omega) (by omega) (by omega)
  have hcr0 := sq0 (crOf (a1 - b1) (a2 - b2) (a3 - b3) (a4 - b4))
  have hsq1 := mul_wide (x := a1 - b1) (y := a1 - b1) (a := 1280) (b := 1280) (by omega) (by omega) (by omega) (by omega)
  have hsq2 := mul_wide (x := a2 - b2) (y := a2 - b2) (a := 1280) (b := 1280) (by omega) (by omega) (by omega) (by omega)
  have g1 := sq0 (a1 - b1)
  have g2 := sq0 (a2 - b2)
  have g3 := sq0 (a3 - b3)
  have g4 := sq0 (a4 - b4)
  unfold lpT lpB
  split
  · rename_i hm
    have := mid_yes hm
    have := tm_bounds (a := crOf (a1 - b1) (a2 - b2) (a3 - b3) (a4 - b4) * crOf (a1 - b1) (a2 - b2) (a3 - b3) (a4 - b4)) (b := szOf (a1 - b1) (a2 - b2) (a3 - b3) (a4 - b4)) hcr0 (by omega)
    omega
  · omega
def saB (a1 a2 a3 a4 b1 b2 b3 b4 L : Int) : Bool := decide (L * L * lpB (a1 - b1) (a2 - b2) (a3 - b3) (a4 - b4) ≤ lpT (a1 - b1) (a2 - b2) (a3 - b3) (a4 - b4))
set_option maxHeartbeats 1000000 in
theorem stayApart_any (a1 a2 a3 a4 a5 b1 b2 b3 b4 b5 L : Int) (w : World) (ha : okM a1 a2 a3 a4) (hb : okM b1 b2 b3 b4) (hL0 : 0 ≤ L) (hL : L ≤ 80) :
    Calls Try.prog 102 #[(Value.agg #[Value.int .i64 a1, Value.int .i64 a2, Value.int .i64 a3, Value.int .i64 a4, Value.int .i64 a5]), (Value.agg #[Value.int .i64 b1, Value.int .i64 b2, Value.int .i64 b3, Value.int .i64 b4, Value.int .i64 b5]), .int .i64 L] w fun e w' => e = .returned (.bool (saB a1 a2 a3 a4 b1 b2 b3 b4 L)) ∧ Below w.heap.size w w' := by
  have P := fun W => leastApart_any a1 a2 a3 a4 a5 b1 b2 b3 b4 b5 W ha hb
  have hl := lp_bounds ha hb
  have hS : saB a1 a2 a3 a4 b1 b2 b3 b4 L = decide (L * L * lpB (a1 - b1) (a2 - b2) (a3 - b3) (a4 - b4) ≤ lpT (a1 - b1) (a2 - b2) (a3 - b3) (a4 - b4)) := rfl
  obtain ⟨T, eT⟩ : ∃ x, lpT (a1 - b1) (a2 - b2) (a3 - b3) (a4 - b4) = x := ⟨_, rfl⟩
  obtain ⟨U, eU⟩ : ∃ x, lpB (a1 - b1) (a2 - b2) (a3 - b3) (a4 - b4) = x := ⟨_, rfl⟩
  rw [eT, eU] at P hl hS
  have HS := Lib.hid hS
  have HP := Lib.hid P
  obtain ⟨l1, l2, l3, l4⟩ := hl
  have m1 := mul_wide (x := L) (y := L) (a := 80) (b := 80) (by omega) (by omega) (by omega) (by omega)
  have m2 := mul_wide (x := L * L) (y := U) (a := 6400) (b := 13107200) (by omega) (by omega) (by omega) (by omega)
  have HB0 := Lib.hid (below_new (below_new (Below.refl w.heap.size w) (.cells #[.int .i64 a1, .int .i64 a2, .int .i64 a3, .int .i64 a4, .int .i64 a5] 30)) (.cells #[.int .i64 b1, .int .i64 b2, .int .i64 b3, .int .i64 b4, .int .i64 b5] 30))
  clear P hS eT eU ha hb
  by_cases hle : L * L * U ≤ T
  · have hf := Lib.hid (HS.out.trans (decide_eq_true hle))
    have hd : decide (L * L * U ≤ T) = true := decide_eq_true hle
    go_enter Try.func102, Try.ntmps102
    go_wp2_with fail
    refine (HP.out _).mono ?_
    rintro e w1 ⟨rfl, r1⟩
    have HB1 := Lib.hid (HB0.out.trans (r1.mono HB0.out.size))
    clear r1
    go_wp2_with fail
    go_ret
    exact ⟨by rw [hf.out]; rfl, HB1.out⟩
  · have hf := Lib.hid (HS.out.trans (decide_eq_false hle))
    have hd : decide (L * L * U ≤ T) = false := decide_eq_false hle
    go_enter Try.func102, Try.ntmps102
    go_wp2_with fail
    refine (HP.out _).mono ?_
    rintro e w1 ⟨rfl, r1⟩
    have HB1 := Lib.hid (HB0.out.trans (r1.mono HB0.out.size))
    clear r1
    go_wp2_with fail
    go_ret
    exact ⟨by rw [hf.out]; rfl, HB1.out⟩
set_option maxRecDepth 100000 in
set_option maxHeartbeats 1000000 in
theorem apEnds_any (a1 a2 a3 a4 a5 b1 b2 b3 b4 b5 : Int) (w : World) (ha : okM a1 a2 a3 a4) (hb : okM b1 b2 b3 b4) :
    Calls Try.prog 97 #[(Value.agg #[Value.int .i64 a1, Value.int .i64 a2, Value.int .i64 a3, Value.int .i64 a4, Value.int .i64 a5]), (Value.agg #[Value.int .i64 b1, Value.int .i64 b2, Value.int .i64 b3, Value.int .i64 b4, Value.int .i64 b5])] w fun e w' =>
      e = .returned (.tuple #[.int .i64 (a1 - b1), .int .i64 (a2 - b2), .int .i64 (a3 - b3), .int .i64 (a4 - b4)]) ∧ Below w.heap.size w w' := by
  obtain ⟨⟨h1, h2⟩, ⟨h3, h4⟩, ⟨h5, h6⟩, h7, h8⟩ := ha
  obtain ⟨⟨k1, k2⟩, ⟨k3, k4⟩, ⟨k5, k6⟩, k7, k8⟩ := hb
  have HB0 := Lib.hid (below_new (below_new (Below.refl w.heap.size w) (.cells #[.int .i64 a1, .int .i64 a2, .int .i64 a3, .int .i64 a4, .int .i64 a5] 30)) (.cells #[.int .i64 b1, .int .i64 b2, .int .i64 b3, .int .i64 b4, .int .i64 b5] 30))
  go_enter Try.func97, Try.ntmps97
  go_wp2_with fail
  go_quiet (fail)
  go_wp2_with fail
  exact bodyPost_ret (v := .tuple #[.int .i64 (a1 - b1), .int .i64 (a2 - b2), .int .i64 (a3 - b3), .int .i64 (a4 - b4)]) (by simp [results, Try.results97, go_sem]) rfl ⟨rfl, below_drewN HB0.out _⟩
/-- The part of the time at which two moves are closest, if that is between their ends; else 0 and 0. -/
def inT (px py qx qy : Int) : Int := if inMid px py qx qy = true then -dtOf px py qx qy else 0
def inU (px py qx qy : Int) : Int := if inMid px py qx qy = true then szOf px py qx qy else 0
set_option maxRecDepth 100000 in
set_option maxHeartbeats 2000000 in
theorem apInner_any (a1 a2 a3 a4 a5 b1 b2 b3 b4 b5 : Int) (w : World) (ha : okM a1 a2 a3 a4) (hb : okM b1 b2 b3 b4) :
    Calls Try.prog 98 #[(Value.agg #[Value.int .i64 a1, Value.int .i64 a2, Value.int .i64 a3, Value.int .i64 a4, Value.int .i64 a5]), (Value.agg #[Value.int .i64 b1, Value.int .i64 b2, Value.int .i64 b3, Value.int .i64 b4, Value.int .i64 b5])] w fun e w' =>
      e = .returned (.tuple #[.int .i64 (inT (a1 - b1) (a2 - b2) (a3 - b3) (a4 - b4)), .int .i64 (inU (a1 - b1) (a2 - b2) (a3 - b3) (a4 - b4))]) ∧ Below w.heap.size w w' := by
  have P := fun W => apEnds_any a1 a2 a3 a4 a5 b1 b2 b3 b4 b5 W ha hb
  obtain ⟨⟨h1, h2⟩, ⟨h3, h4⟩, ⟨h5, h6⟩, h7, h8⟩ := ha
  obtain ⟨⟨k1, k2⟩, ⟨k3, k4⟩, ⟨k5, k6⟩, k7, k8⟩ := hb
  have hw1 : wide 1280 (a1 - b1) (a2 - b2) := ⟨by omega, by omega, by omega, by omega⟩
  have hw2 : wide 1280 (a3 - b3) (a4 - b4) := ⟨by omega, by omega, by omega, by omega⟩
  obtain ⟨d1, d2, d3, d4, d5⟩ := dt_in hw1 hw2
  have d6 := sz0 (a1 - b1) (a2 - b2) (a3 - b3) (a4 - b4)
  have hcr := mul_wide (x := crOf (a1 - b1) (a2 - b2) (a3 - b3) (a4 - b4)) (y := crOf (a1 - b1) (a2 - b2) (a3 - b3) (a4 - b4)) (a := 6553600) (b := 6553600) (by omega) (by omega) (by omega) (by omega)
  have hcr0 := sq0 (crOf (a1 - b1) (a2 - b2) (a3 - b3) (a4 - b4))
  have m1 := mul_wide (x := a1 - b1) (y := a3 - b3 - (a1 - b1)) (a := 1280) (b := 2560) (by omega) (by omega) (by omega) (by omega)
  have m2 := mul_wide (x := a2 - b2) (y := a4 - b4 - (a2 - b2)) (a := 1280) (b := 2560) (by omega) (by omega) (by omega) (by omega)
  have m3 := mul_wide (x := a3 - b3 - (a1 - b1)) (y := a3 - b3 - (a1 - b1)) (a := 2560) (b := 2560) (by omega) (by omega) (by omega) (by omega)
  have m4 := mul_wide (x := a4 - b4 - (a2 - b2)) (y := a4 - b4 - (a2 - b2)) (a := 2560) (b := 2560) (by omega) (by omega) (by omega) (by omega)
  have hd : dtOf (a1 - b1) (a2 - b2) (a3 - b3) (a4 - b4) = (a1 - b1) * (a3 - b3 - (a1 - b1)) + (a2 - b2) * (a4 - b4 - (a2 - b2)) := rfl
  have hz : szOf (a1 - b1) (a2 - b2) (a3 - b3) (a4 - b4) = (a3 - b3 - (a1 - b1)) * (a3 - b3 - (a1 - b1)) + (a4 - b4 - (a2 - b2)) * (a4 - b4 - (a2 - b2)) := rfl
  have hI : inT (a1 - b1) (a2 - b2) (a3 - b3) (a4 - b4) = if decide (dtOf (a1 - b1) (a2 - b2) (a3 - b3) (a4 - b4) < 0 ∧ -dtOf (a1 - b1) (a2 - b2) (a3 - b3) (a4 - b4) < szOf (a1 - b1) (a2 - b2) (a3 - b3) (a4 - b4)) = true then -dtOf (a1 - b1) (a2 - b2) (a3 - b3) (a4 - b4) else 0 := rfl
  have hJ : inU (a1 - b1) (a2 - b2) (a3 - b3) (a4 - b4) = if decide (dtOf (a1 - b1) (a2 - b2) (a3 - b3) (a4 - b4) < 0 ∧ -dtOf (a1 - b1) (a2 - b2) (a3 - b3) (a4 - b4) < szOf (a1 - b1) (a2 - b2) (a3 - b3) (a4 - b4)) = true then szOf (a1 - b1) (a2 - b2) (a3 - b3) (a4 - b4) else 0 := rfl
  rw [hd, hz] at hI hJ
  obtain ⟨p, ep⟩ : ∃ x, a1 - b1 = x := ⟨_, rfl⟩
  obtain ⟨q, eq⟩ : ∃ x, a2 - b2 = x := ⟨_, rfl⟩
  obtain ⟨r, er⟩ : ∃ x, a3 - b3 = x := ⟨_, rfl⟩
  obtain ⟨s, es⟩ : ∃ x, a4 - b4 = x := ⟨_, rfl⟩
  have rp : -1280 ≤ p ∧ p ≤ 1280 := by omega
  have rq : -1280 ≤ q ∧ q ≤ 1280 := by omega
  have rr : -1280 ≤ r ∧ r ≤ 1280 := by omega
  have rs : -1280 ≤ s ∧ s ≤ 1280 := by omega
  clear hd hz hcr hcr0 d1 d2 d3 d4 d5 d6 hw1 hw2
  rw [ep, eq, er, es] at P hI hJ
  rw [ep, er] at m1 m3
  rw [eq, es] at m2 m4
  rw [ep, eq, er, es]
  clear ep eq er es
  obtain ⟨I, eI⟩ : ∃ x, inT p q r s = x := ⟨_, rfl⟩
  obtain ⟨J, eJ⟩ : ∃ x, inU p q r s = x := ⟨_, rfl⟩
  rw [eI] at hI
  rw [eJ] at hJ
  rw [eI, eJ]
  have HP := Lib.hid P
  have HI := Lib.hid hI
  have HJ := Lib.hid hJ
  have HB0 := Lib.hid (below_new (below_new (Below.refl w.heap.size w) (.cells #[.int .i64 a1, .int .i64 a2, .int .i64 a3, .int .i64 a4, .int .i64 a5] 30)) (.cells #[.int .i64 b1, .int .i64 b2, .int .i64 b3, .int .i64 b4, .int .i64 b5] 30))
  clear P hI hJ eI eJ
  by_cases c1 : -(p * (r - p) + q * (s - q)) ≤ 0
  · have hf := Lib.hid (show I = 0 ∧ J = 0 by
      rw [HI.out, HJ.out, decide_eq_false (by omega)]; exact ⟨rfl, rfl⟩)
    have hd1 : decide (-(p * (r - p) + q * (s - q)) ≤ 0) = true := decide_eq_true c1
    go_enter Try.func98, Try.ntmps98
    go_wp2_with fail
    refine (HP.out _).mono ?_
    rintro e w1 ⟨rfl, r1⟩
    have HB1 := Lib.hid (HB0.out.trans (r1.mono HB0.out.size))
    clear r1
    go_wp2_with fail
    go_ret2
    exact ⟨by rw [hf.out.1, hf.out.2]; rfl, HB1.out⟩
  · have hd1 : decide (-(p * (r - p) + q * (s - q)) ≤ 0) = false := decide_eq_false c1
    by_cases c2 : (r - p) * (r - p) + (s - q) * (s - q) ≤ -(p * (r - p) + q * (s - q))
    · have hf := Lib.hid (show I = 0 ∧ J = 0 by
        rw [HI.out, HJ.out, decide_eq_false (by omega)]; exact ⟨rfl, rfl⟩)
      have hd2 : decide ((r - p) * (r - p) + (s - q) * (s - q) ≤ -(p * (r - p) + q * (s - q))) = true := decide_eq_true c2
      go_enter Try.func98, Try.ntmps98
      go_wp2_with fail
      refine (HP.out _).mono ?_
      rintro e w1 ⟨rfl, r1⟩
      have HB1 := Lib.hid (HB0.out.trans (r1.mono HB0.out.size))
      clear r1
      go_wp2_with fail
      go_ret2
      exact ⟨by rw [hf.out.1, hf.out.2]; rfl, HB1.out⟩
    · have hf := Lib.hid (show I = -(p * (r - p) + q * (s - q)) ∧ J = (r - p) * (r - p) + (s - q) * (s - q) by
        rw [HI.out, HJ.out, decide_eq_true (by omega)]; exact ⟨rfl, rfl⟩)
      have hd2 : decide ((r - p) * (r - p) + (s - q) * (s - q) ≤ -(p * (r - p) + q * (s - q))) = false := decide_eq_false c2
      go_enter Try.func98, Try.ntmps98
      go_wp2_with fail
      refine (HP.out _).mono ?_
      rintro e w1 ⟨rfl, r1⟩
      have HB1 := Lib.hid (HB0.out.trans (r1.mono HB0.out.size))
      clear r1
      go_wp2_with fail
      go_ret2
      exact ⟨by rw [hf.out.1, hf.out.2]; rfl, HB1.out⟩
set_option maxRecDepth 100000 in
set_option maxHeartbeats 2000000 in
theorem apLeast_any (a1 a2 a3 a4 a5 b1 b2 b3 b4 b5 : Int) (w : World) (ha : okM a1 a2 a3 a4) (hb : okM b1 b2 b3 b4) :
    Calls Try.prog 78 #[(Value.agg #[Value.int .i64 a1, Value.int .i64 a2, Value.int .i64 a3, Value.int .i64 a4, Value.int .i64 a5]), (Value.agg #[Value.int .i64 b1, Value.int .i64 b2, Value.int .i64 b3, Value.int .i64 b4, Value.int .i64 b5])] w fun e w' =>
      e = .returned (.tuple #[.int .i64 (lpT (a1 - b1) (a2 - b2) (a3 - b3) (a4 - b4)), .int .i64 (lpB (a1 - b1) (a2 - b2) (a3 - b3) (a4 - b4))]) ∧ Below w.heap.size w w' := by
  have P := fun W => apEnds_any a1 a2 a3 a4 a5 b1 b2 b3 b4 b5 W ha hb
  have Q := fun W => apInner_any a1 a2 a3 a4 a5 b1 b2 b3 b4 b5 W ha hb
  obtain ⟨⟨h1, h2⟩, ⟨h3, h4⟩, ⟨h5, h6⟩, h7, h8⟩ := ha
  obtain ⟨⟨k1, k2⟩, ⟨k3, k4⟩, ⟨k5, k6⟩, k7, k8⟩ := hb
  have hw1 : wide 1280 (a1 - b1) (a2 - b2) := ⟨by omega, by omega, by omega, by omega⟩
  have hw2 : wide 1280 (a3 - b3) (a4 - b4) := ⟨by omega, by omega, by omega, by omega⟩
  obtain ⟨d1, d2, d3, d4, d5⟩ := dt_in hw1 hw2
  have d6 := sz0 (a1 - b1) (a2 - b2) (a3 - b3) (a4 - b4)
  have hcr := mul_wide (x := crOf (a1 - b1) (a2 - b2) (a3 - b3) (a4 - b4)) (y := crOf (a1 - b1) (a2 - b2) (a3 - b3) (a4 - b4)) (a := 6553600) (b := 6553600) (by omega) (by omega) (by omega) (by omega)
  have hcr0 := sq0 (crOf (a1 - b1) (a2 - b2) (a3 - b3) (a4 - b4))
  have hI : inT (a1 - b1) (a2 - b2) (a3 - b3) (a4 - b4) = if inMid (a1 - b1) (a2 - b2) (a3 - b3) (a4 - b4) = true then -dtOf (a1 - b1) (a2 - b2) (a3 - b3) (a4 - b4) else 0 := rfl
  have hJ : inU (a1 - b1) (a2 - b2) (a3 - b3) (a4 - b4) = if inMid (a1 - b1) (a2 - b2) (a3 - b3) (a4 - b4) = true then szOf (a1 - b1) (a2 - b2) (a3 - b3) (a4 - b4) else 0 := rfl
  have hT : lpT (a1 - b1) (a2 - b2) (a3 - b3) (a4 - b4) = if inMid (a1 - b1) (a2 - b2) (a3 - b3) (a4 - b4) = true then tmA (crOf (a1 - b1) (a2 - b2) (a3 - b3) (a4 - b4) * crOf (a1 - b1) (a2 - b2) (a3 - b3) (a4 - b4)) (szOf (a1 - b1) (a2 - b2) (a3 - b3) (a4 - b4)) else min ((a1 - b1) * (a1 - b1) + (a2 - b2) * (a2 - b2)) ((a3 - b3) * (a3 - b3) + (a4 - b4) * (a4 - b4)) := rfl
  have hU : lpB (a1 - b1) (a2 - b2) (a3 - b3) (a4 - b4) = if inMid (a1 - b1) (a2 - b2) (a3 - b3) (a4 - b4) = true then tmB (crOf (a1 - b1) (a2 - b2) (a3 - b3) (a4 - b4) * crOf (a1 - b1) (a2 - b2) (a3 - b3) (a4 - b4)) (szOf (a1 - b1) (a2 - b2) (a3 - b3) (a4 - b4)) else 1 := rfl
  have hce := cr_eq (a1 - b1) (a2 - b2) (a3 - b3) (a4 - b4)
  have hmy := mid_yes (px := a1 - b1) (py := a2 - b2) (qx := a3 - b3) (qy := a4 - b4)
  have m1 := mul_wide (x := a1 - b1) (y := a4 - b4) (a := 1280) (b := 1280) (by omega) (by omega) (by omega) (by omega)
  have m2 := mul_wide (x := a2 - b2) (y := a3 - b3) (a := 1280) (b := 1280) (by omega) (by omega) (by omega) (by omega)
  have m3 := mul_wide (x := a1 - b1) (y := a1 - b1) (a := 1280) (b := 1280) (by omega) (by omega) (by omega) (by omega)
  have m4 := mul_wide (x := a2 - b2) (y := a2 - b2) (a := 1280) (b := 1280) (by omega) (by omega) (by omega) (by omega)
  have m5 := mul_wide (x := a3 - b3) (y := a3 - b3) (a := 1280) (b := 1280) (by omega) (by omega) (by omega) (by omega)
  have m6 := mul_wide (x := a4 - b4) (y := a4 - b4) (a := 1280) (b := 1280) (by omega) (by omega) (by omega) (by omega)
  obtain ⟨T, eT⟩ : ∃ x, lpT (a1 - b1) (a2 - b2) (a3 - b3) (a4 - b4) = x := ⟨_, rfl⟩
  obtain ⟨U, eU⟩ : ∃ x, lpB (a1 - b1) (a2 - b2) (a3 - b3) (a4 - b4) = x := ⟨_, rfl⟩
  obtain ⟨I, eI⟩ : ∃ x, inT (a1 - b1) (a2 - b2) (a3 - b3) (a4 - b4) = x := ⟨_, rfl⟩
  obtain ⟨J, eJ⟩ : ∃ x, inU (a1 - b1) (a2 - b2) (a3 - b3) (a4 - b4) = x := ⟨_, rfl⟩
  obtain ⟨M, eM⟩ : ∃ x, inMid (a1 - b1) (a2 - b2) (a3 - b3) (a4 - b4) = x := ⟨_, rfl⟩
  obtain ⟨dt, edt⟩ : ∃ x, dtOf (a1 - b1) (a2 - b2) (a3 - b3) (a4 - b4) = x := ⟨_, rfl⟩
  obtain ⟨sz, esz⟩ : ∃ x, szOf (a1 - b1) (a2 - b2) (a3 - b3) (a4 - b4) = x := ⟨_, rfl⟩
  obtain ⟨cr, ecr⟩ : ∃ x, crOf (a1 - b1) (a2 - b2) (a3 - b3) (a4 - b4) = x := ⟨_, rfl⟩
  rw [eT, eM, ecr, esz] at hT
  rw [eU, eM, ecr, esz] at hU
  rw [eI, eM, edt] at hI
  rw [eJ, eM, esz] at hJ
  rw [eI, eJ] at Q
  rw [ecr] at hce hcr hcr0
  rw [eM, edt, esz] at hmy
  rw [esz] at d3 d6
  rw [edt] at d1 d2
  rw [eT, eU]
  obtain ⟨p, ep⟩ : ∃ x, a1 - b1 = x := ⟨_, rfl⟩
  obtain ⟨q, eq⟩ : ∃ x, a2 - b2 = x := ⟨_, rfl⟩
  obtain ⟨r, er⟩ : ∃ x, a3 - b3 = x := ⟨_, rfl⟩
  obtain ⟨s, es⟩ : ∃ x, a4 - b4 = x := ⟨_, rfl⟩
  clear d4 d5 hw1 hw2 eT eU eI eJ eM edt esz ecr
  rw [ep, eq, er, es] at P hT hce
  rw [ep] at m1 m3
  rw [eq] at m2 m4
  rw [er] at m2 m5
  rw [es] at m1 m6
  clear ep eq er es
  have HP := Lib.hid P
  have HQ := Lib.hid Q
  have K0 := Blk.new w 30 #[.int .i64 a1, .int .i64 a2, .int .i64 a3, .int .i64 a4, .int .i64 a5]
  replace K0 := K0.alloc (.cells #[.int .i64 b1, .int .i64 b2, .int .i64 b3, .int .i64 b4, .int .i64 b5] 30)
  have K1 := Blk.new2 w (.cells #[.int .i64 a1, .int .i64 a2, .int .i64 a3, .int .i64 a4, .int .i64 a5] 30) 30 #[.int .i64 b1, .int .i64 b2, .int .i64 b3, .int .i64 b4, .int .i64 b5]
  have HB0 := Lib.hid (below_new (below_new (Below.refl w.heap.size w) (.cells #[.int .i64 a1, .int .i64 a2, .int .i64 a3, .int .i64 a4, .int .i64 a5] 30)) (.cells #[.int .i64 b1, .int .i64 b2, .int .i64 b3, .int .i64 b4, .int .i64 b5] 30))
  replace K0 := Lib.hid K0
  replace K1 := Lib.hid K1
  clear P Q h1 h2 h3 h4 h5 h6 h7 h8 k1 k2 k3 k4 k5 k6 k7 k8
  cases M with
  | true =>
    have hmm := hmy rfl
    have hJ2 : J = sz := hJ
    subst hJ2
    have hJ0 : 0 < J := by omega
    have hf := Lib.hid (show T = tmA (cr * cr) J ∧ U = tmB (cr * cr) J from ⟨hT, hU⟩)
    have PL := Lib.hid (fun W => mvPart_any (cr * cr) J W hcr0 (by omega) hJ0 (by omega))
    clear hT hU hI hJ hmy hmm
    go_enter Try.func78, Try.ntmps78
    go_wp2_with fail
    refine (HP.out _).mono ?_
    rintro e w1 ⟨rfl, r1⟩
    have HB1 := Lib.hid (HB0.out.trans (r1.mono HB0.out.size))
    obtain ⟨p0, p1, p2, p3, p4⟩ := (K0.out.on r1).c5
    obtain ⟨q0, q1, q2, q3, q4⟩ := (K1.out.on r1).c5
    clear r1
    go_wp2_with fail
    refine (HQ.out _).mono ?_
    rintro e w2 ⟨rfl, r2⟩
    have HB2 := Lib.hid (below_on HB1.out r2)
    clear r2
    go_wp2_with fail
    refine (PL.out _).mono ?_
    rintro e w3 ⟨rfl, r3⟩
    have HB3 := Lib.hid (below_on HB2.out r3)
    clear r3
    go_wp2_with fail
    go_ret2
    exact ⟨by rw [hf.out.1, hf.out.2]; rfl, HB3.out⟩
  | false =>
    have hJ2 : J = 0 := hJ
    subst hJ2
    have hf := Lib.hid (show T = min (p * p + q * q) (r * r + s * s) ∧ U = 1 from ⟨hT, hU⟩)
    have PL := Lib.hid (fun W => l1Least_any (p * p + q * q) (r * r + s * s) W)
    clear hT hU hI hJ hmy
    go_enter Try.func78, Try.ntmps78
    go_wp2_with fail
    refine (HP.out _).mono ?_
    rintro e w1 ⟨rfl, r1⟩
    have HB1 := Lib.hid (HB0.out.trans (r1.mono HB0.out.size))
    obtain ⟨p0, p1, p2, p3, p4⟩ := (K0.out.on r1).c5
    obtain ⟨q0, q1, q2, q3, q4⟩ := (K1.out.on r1).c5
    clear r1
    go_wp2_with fail
    refine (HQ.out _).mono ?_
    rintro e w2 ⟨rfl, r2⟩
    have HB2 := Lib.hid (below_on HB1.out r2)
    clear r2
    go_wp2_with fail
    refine (PL.out _).mono ?_
    rintro e w3 ⟨rfl, rfl⟩
    go_wp2_with fail
    go_ret2
    exact ⟨by rw [hf.out.1, hf.out.2]; rfl, HB2.out⟩
set_option maxHeartbeats 1000000 in
theorem apStay_any (a1 a2 a3 a4 a5 b1 b2 b3 b4 b5 L : Int) (w : World) (ha : okM a1 a2 a3 a4) (hb : okM b1 b2 b3 b4) (hL0 : 0 ≤ L) (hL : L ≤ 80) :
    Calls Try.prog 101 #[(Value.agg #[Value.int .i64 a1, Value.int .i64 a2, Value.int .i64 a3, Value.int .i64 a4, Value.int .i64 a5]), (Value.agg #[Value.int .i64 b1, Value.int .i64 b2, Value.int .i64 b3, Value.int .i64 b4, Value.int .i64 b5]), .int .i64 L] w fun e w' => e = .returned (.bool (saB a1 a2 a3 a4 b1 b2 b3 b4 L)) ∧ Below w.heap.size w w' := by
  have P := fun W => apLeast_any a1 a2 a3 a4 a5 b1 b2 b3 b4 b5 W ha hb
  have hl := lp_bounds ha hb
  have hS : saB a1 a2 a3 a4 b1 b2 b3 b4 L = decide (L * L * lpB (a1 - b1) (a2 - b2) (a3 - b3) (a4 - b4) ≤ lpT (a1 - b1) (a2 - b2) (a3 - b3) (a4 - b4)) := rfl
  obtain ⟨T, eT⟩ : ∃ x, lpT (a1 - b1) (a2 - b2) (a3 - b3) (a4 - b4) = x := ⟨_, rfl⟩
  obtain ⟨U, eU⟩ : ∃ x, lpB (a1 - b1) (a2 - b2) (a3 - b3) (a4 - b4) = x := ⟨_, rfl⟩
  rw [eT, eU] at P hl hS
  have HS := Lib.hid hS
  have HP := Lib.hid P
  obtain ⟨l1, l2, l3, l4⟩ := hl
  have m1 := mul_wide (x := L) (y := L) (a := 80) (b := 80) (by omega) (by omega) (by omega) (by omega)
  have m2 := mul_wide (x := L * L) (y := U) (a := 6400) (b := 13107200) (by omega) (by omega) (by omega) (by omega)
  have HB0 := Lib.hid (below_new (below_new (Below.refl w.heap.size w) (.cells #[.int .i64 a1, .int .i64 a2, .int .i64 a3, .int .i64 a4, .int .i64 a5] 30)) (.cells #[.int .i64 b1, .int .i64 b2, .int .i64 b3, .int .i64 b4, .int .i64 b5] 30))
  clear P hS eT eU ha hb
  by_cases hle : L * L * U ≤ T
  · have hf := Lib.hid (HS.out.trans (decide_eq_true hle))
    have hd : decide (L * L * U ≤ T) = true := decide_eq_true hle
    go_enter Try.func101, Try.ntmps101
    go_wp2_with fail
    refine (HP.out _).mono ?_
    rintro e w1 ⟨rfl, r1⟩
    have HB1 := Lib.hid (HB0.out.trans (r1.mono HB0.out.size))
    clear r1
    go_wp2_with fail
    go_ret
    exact ⟨by rw [hf.out]; rfl, HB1.out⟩
  · have hf := Lib.hid (HS.out.trans (decide_eq_false hle))
    have hd : decide (L * L * U ≤ T) = false := decide_eq_false hle
    go_enter Try.func101, Try.ntmps101
    go_wp2_with fail
    refine (HP.out _).mono ?_
    rintro e w1 ⟨rfl, r1⟩
    have HB1 := Lib.hid (HB0.out.trans (r1.mono HB0.out.size))
    clear r1
    go_wp2_with fail
    go_ret
    exact ⟨by rw [hf.out]; rfl, HB1.out⟩
end Go.Proofs.Ytpikhkdgohapeaa
