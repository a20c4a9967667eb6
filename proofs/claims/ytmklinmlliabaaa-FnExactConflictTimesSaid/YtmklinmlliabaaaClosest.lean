/- Contracts of whether two moves go together, and of the two ClosestTime. Condition: both moves are good, with the same counts. -/
import Derived.Test.YtmklinmlliabaaaNearSpec
import Derived.Test.YtmklinmlliabaaaMove
import Derived.Test.YtmklinmlliabaaaConfFn
namespace Go.Proofs.Ytmklinmlliabaaa
open Go.RowKit

theorem ok_of {x y z u c : Int} (h : mvB x y z u c = true) : okM x y z u ∧ 1 ≤ c ∧ c ≤ 64 := by
  have := mvB_yes h
  exact ⟨⟨⟨by omega, by omega⟩, ⟨by omega, by omega⟩, ⟨by omega, by omega⟩, by omega, by omega⟩, by omega, by omega⟩
set_option maxHeartbeats 1000000 in
theorem goTogether_any (a1 a2 a3 a4 b1 b2 b3 b4 c : Int) (w : World) (ha : mvB a1 a2 a3 a4 c = true) (hb : mvB b1 b2 b3 b4 c = true) :
    Calls Try.prog 73 #[(Value.agg #[Value.int .i64 a1, Value.int .i64 a2, Value.int .i64 a3, Value.int .i64 a4, Value.int .i64 c]), (Value.agg #[Value.int .i64 b1, Value.int .i64 b2, Value.int .i64 b3, Value.int .i64 b4, Value.int .i64 c])] w fun e w' => e = .returned (.bool true) ∧ Below w.heap.size w w' := by
  have P := fun W => IsMove_any a1 a2 a3 a4 c W
  have Q := fun W => IsMove_any b1 b2 b3 b4 c W
  rw [ha] at P
  rw [hb] at Q
  have HP := Lib.hid P
  have HQ := Lib.hid Q
  have hcc : (c == c) = true := by simp
  clear P Q ha hb
  have K0 := (Blk.new w 62 #[.int .i64 a1, .int .i64 a2, .int .i64 a3, .int .i64 a4, .int .i64 c]).alloc (.cells #[.int .i64 b1, .int .i64 b2, .int .i64 b3, .int .i64 b4, .int .i64 c] 62)
  have K1 := Blk.new2 w (.cells #[.int .i64 a1, .int .i64 a2, .int .i64 a3, .int .i64 a4, .int .i64 c] 62) 62 #[.int .i64 b1, .int .i64 b2, .int .i64 b3, .int .i64 b4, .int .i64 c]
  have HB0 := Lib.hid (below_new (below_new (Below.refl w.heap.size w) (.cells #[.int .i64 a1, .int .i64 a2, .int .i64 a3, .int .i64 a4, .int .i64 c] 62)) (.cells #[.int .i64 b1, .int .i64 b2, .int .i64 b3, .int .i64 b4, .int .i64 c] 62))
  replace K0 := Lib.hid K0
  replace K1 := Lib.hid K1
  obtain ⟨p0, p1, p2, p3, p4⟩ := K0.out.c5
  obtain ⟨q0, q1, q2, q3, q4⟩ := K1.out.c5
  go_enter Try.func73, Try.ntmps73
  go_wp2_with fail
  refine (HP.out _).mono ?_
  rintro e w1 ⟨rfl, r1⟩
  clear p0 p1 p2 p3 p4 q0 q1 q2 q3 q4
  have HB1 := Lib.hid (HB0.out.trans (r1.mono HB0.out.size))
  replace K0 := Lib.hid (K0.out.on r1)
  replace K1 := Lib.hid (K1.out.on r1)
  clear HB0 r1
  have HB0 := HB1
  clear HB1
  obtain ⟨p0, p1, p2, p3, p4⟩ := K0.out.c5
  obtain ⟨q0, q1, q2, q3, q4⟩ := K1.out.c5
  go_wp2_with fail
  refine (HQ.out _).mono ?_
  rintro e w2 ⟨rfl, r1⟩
  clear p0 p1 p2 p3 p4 q0 q1 q2 q3 q4
  have HB1 := Lib.hid (HB0.out.trans (r1.mono HB0.out.size))
  replace K0 := Lib.hid (K0.out.on r1)
  replace K1 := Lib.hid (K1.out.on r1)
  clear HB0 r1
  have HB0 := HB1
  clear HB1
  obtain ⟨p0, p1, p2, p3, p4⟩ := K0.out.c5
  obtain ⟨q0, q1, q2, q3, q4⟩ := K1.out.c5
  go_wp2_with fail
  go_ret
  exact ⟨rfl, HB0.out⟩
set_option maxHeartbeats 1000000 in
theorem apGood_any (a1 a2 a3 a4 b1 b2 b3 b4 c : Int) (w : World) (ha : mvB a1 a2 a3 a4 c = true) (hb : mvB b1 b2 b3 b4 c = true) :
    Calls Try.prog 72 #[(Value.agg #[Value.int .i64 a1, Value.int .i64 a2, Value.int .i64 a3, Value.int .i64 a4, Value.int .i64 c]), (Value.agg #[Value.int .i64 b1, Value.int .i64 b2, Value.int .i64 b3, Value.int .i64 b4, Value.int .i64 c])] w fun e w' => e = .returned (.bool true) ∧ Below w.heap.size w w' := by
  have P := fun W => mvGood_any a1 a2 a3 a4 c W
  have Q := fun W => mvGood_any b1 b2 b3 b4 c W
  rw [ha] at P
  rw [hb] at Q
  have HP := Lib.hid P
  have HQ := Lib.hid Q
  have hcc : (c == c) = true := by simp
  clear P Q ha hb
  have K0 := (Blk.new w 62 #[.int .i64 a1, .int .i64 a2, .int .i64 a3, .int .i64 a4, .int .i64 c]).alloc (.cells #[.int .i64 b1, .int .i64 b2, .int .i64 b3, .int .i64 b4, .int .i64 c] 62)
  have K1 := Blk.new2 w (.cells #[.int .i64 a1, .int .i64 a2, .int .i64 a3, .int .i64 a4, .int .i64 c] 62) 62 #[.int .i64 b1, .int .i64 b2, .int .i64 b3, .int .i64 b4, .int .i64 c]
  have HB0 := Lib.hid (below_new (below_new (Below.refl w.heap.size w) (.cells #[.int .i64 a1, .int .i64 a2, .int .i64 a3, .int .i64 a4, .int .i64 c] 62)) (.cells #[.int .i64 b1, .int .i64 b2, .int .i64 b3, .int .i64 b4, .int .i64 c] 62))
  replace K0 := Lib.hid K0
  replace K1 := Lib.hid K1
  obtain ⟨p0, p1, p2, p3, p4⟩ := K0.out.c5
  obtain ⟨q0, q1, q2, q3, q4⟩ := K1.out.c5
  go_enter Try.func72, Try.ntmps72
  go_wp2_with fail
  refine (HP.out _).mono ?_
  rintro e w1 ⟨rfl, r1⟩
  clear p0 p1 p2 p3 p4 q0 q1 q2 q3 q4
  have HB1 := Lib.hid (HB0.out.trans (r1.mono HB0.out.size))
  replace K0 := Lib.hid (K0.out.on r1)
  replace K1 := Lib.hid (K1.out.on r1)
  clear HB0 r1
  have HB0 := HB1
  clear HB1
  obtain ⟨p0, p1, p2, p3, p4⟩ := K0.out.c5
  obtain ⟨q0, q1, q2, q3, q4⟩ := K1.out.c5
  go_wp2_with fail
  refine (HQ.out _).mono ?_
  rintro e w2 ⟨rfl, r1⟩
  clear p0 p1 p2 p3 p4 q0 q1 q2 q3 q4
  have HB1 := Lib.hid (HB0.out.trans (r1.mono HB0.out.size))
  replace K0 := Lib.hid (K0.out.on r1)
  replace K1 := Lib.hid (K1.out.on r1)
  clear HB0 r1
  have HB0 := HB1
  clear HB1
  obtain ⟨p0, p1, p2, p3, p4⟩ := K0.out.c5
  obtain ⟨q0, q1, q2, q3, q4⟩ := K1.out.c5
  go_wp2_with fail
  go_ret
  exact ⟨rfl, HB0.out⟩
set_option maxRecDepth 100000 in
set_option maxHeartbeats 2000000 in
theorem ClosestTime_any (a1 a2 a3 a4 b1 b2 b3 b4 c : Int) (w : World) (ha : mvB a1 a2 a3 a4 c = true) (hb : mvB b1 b2 b3 b4 c = true) :
    Calls Try.prog 54 #[(Value.agg #[Value.int .i64 a1, Value.int .i64 a2, Value.int .i64 a3, Value.int .i64 a4, Value.int .i64 c]), (Value.agg #[Value.int .i64 b1, Value.int .i64 b2, Value.int .i64 b3, Value.int .i64 b4, Value.int .i64 c])] w fun e w' =>
      e = .returned (.tuple #[.int .i64 (tmT (a1 - b1) (a2 - b2) (a3 - b3) (a4 - b4) c), .int .i64 (tmU (a1 - b1) (a2 - b2) (a3 - b3) (a4 - b4) c), .bool true]) ∧ Below w.heap.size w w' := by
  have P := fun W => goTogether_any a1 a2 a3 a4 b1 b2 b3 b4 c W ha hb
  have hoa := ok_of ha
  have hob := ok_of hb
  have Q := fun W => between_any a1 a2 a3 a4 c b1 b2 b3 b4 c W hoa.1 hob.1
  have R := fun W => between_any a1 a2 a3 a4 c b1 b2 b3 b4 c W hoa.1 hob.1
  obtain ⟨ha, hc0, hc⟩ := hoa
  obtain ⟨hb, _, _⟩ := hob
  obtain ⟨⟨h1, h2⟩, ⟨h3, h4⟩, ⟨h5, h6⟩, h7, h8⟩ := ha
  obtain ⟨⟨k1, k2⟩, ⟨k3, k4⟩, ⟨k5, k6⟩, k7, k8⟩ := hb
  have hw1 : wide 1280 (a1 - b1) (a2 - b2) := ⟨by omega, by omega, by omega, by omega⟩
  have hw2 : wide 1280 (a3 - b3) (a4 - b4) := ⟨by omega, by omega, by omega, by omega⟩
  obtain ⟨d1, d2, d3, d4, d5⟩ := dt_in hw1 hw2
  have d6 := sz0 (a1 - b1) (a2 - b2) (a3 - b3) (a4 - b4)
  have hcr := mul_wide (x := crOf (a1 - b1) (a2 - b2) (a3 - b3) (a4 - b4)) (y := crOf (a1 - b1) (a2 - b2) (a3 - b3) (a4 - b4)) (a := 6553600) (b := 6553600) (by omega) (by omega) (by omega) (by omega)
  have hcr0 := sq0 (crOf (a1 - b1) (a2 - b2) (a3 - b3) (a4 - b4))
  have hes := end_sq (a1 - b1) (a2 - b2) (a3 - b3) (a4 - b4)
  have hmid := lp_mid (px := a1 - b1) (py := a2 - b2) (qx := a3 - b3) (qy := a4 - b4)
  have hmy := mid_yes (px := a1 - b1) (py := a2 - b2) (qx := a3 - b3) (qy := a4 - b4)
  have hT : tmT (a1 - b1) (a2 - b2) (a3 - b3) (a4 - b4) c = if inMid (a1 - b1) (a2 - b2) (a3 - b3) (a4 - b4) = true then tmA (-dtOf (a1 - b1) (a2 - b2) (a3 - b3) (a4 - b4) * c) (szOf (a1 - b1) (a2 - b2) (a3 - b3) (a4 - b4)) else if (a3 - b3) * (a3 - b3) + (a4 - b4) * (a4 - b4) < (a1 - b1) * (a1 - b1) + (a2 - b2) * (a2 - b2) then c else 0 := rfl
  have hU : tmU (a1 - b1) (a2 - b2) (a3 - b3) (a4 - b4) c = if inMid (a1 - b1) (a2 - b2) (a3 - b3) (a4 - b4) = true then tmB (-dtOf (a1 - b1) (a2 - b2) (a3 - b3) (a4 - b4) * c) (szOf (a1 - b1) (a2 - b2) (a3 - b3) (a4 - b4)) else 1 := rfl
  obtain ⟨T, eT⟩ : ∃ x, tmT (a1 - b1) (a2 - b2) (a3 - b3) (a4 - b4) c = x := ⟨_, rfl⟩
  obtain ⟨U, eU⟩ : ∃ x, tmU (a1 - b1) (a2 - b2) (a3 - b3) (a4 - b4) c = x := ⟨_, rfl⟩
  obtain ⟨dt, edt⟩ : ∃ x, dtOf (a1 - b1) (a2 - b2) (a3 - b3) (a4 - b4) = x := ⟨_, rfl⟩
  obtain ⟨sz, esz⟩ : ∃ x, szOf (a1 - b1) (a2 - b2) (a3 - b3) (a4 - b4) = x := ⟨_, rfl⟩
  obtain ⟨M, eM⟩ : ∃ x, inMid (a1 - b1) (a2 - b2) (a3 - b3) (a4 - b4) = x := ⟨_, rfl⟩
  rw [eT, eM, edt, esz] at hT
  rw [eU, eM, edt, esz] at hU
  rw [edt, esz] at Q hmy hmid hes
  rw [eM] at hmy hmid
  rw [esz] at d3 d6
  rw [edt] at d1 d2
  rw [eT, eU]
  have m1 := mul_wide (x := -dt) (y := c) (a := 6553600) (b := 64) (by omega) (by omega) (by omega) (by omega)
  have HP := Lib.hid P
  have HQ := Lib.hid Q
  clear P Q R eT eU eM edt esz d4 d5 hcr hcr0 hw1 hw2
  have K0 := (Blk.new w 62 #[.int .i64 a1, .int .i64 a2, .int .i64 a3, .int .i64 a4, .int .i64 c]).alloc (.cells #[.int .i64 b1, .int .i64 b2, .int .i64 b3, .int .i64 b4, .int .i64 c] 62)
  have K1 := Blk.new2 w (.cells #[.int .i64 a1, .int .i64 a2, .int .i64 a3, .int .i64 a4, .int .i64 c] 62) 62 #[.int .i64 b1, .int .i64 b2, .int .i64 b3, .int .i64 b4, .int .i64 c]
  have HB0 := Lib.hid (below_new (below_new (Below.refl w.heap.size w) (.cells #[.int .i64 a1, .int .i64 a2, .int .i64 a3, .int .i64 a4, .int .i64 c] 62)) (.cells #[.int .i64 b1, .int .i64 b2, .int .i64 b3, .int .i64 b4, .int .i64 c] 62))
  replace K0 := Lib.hid K0
  replace K1 := Lib.hid K1
  obtain ⟨p0, p1, p2, p3, p4⟩ := K0.out.c5
  obtain ⟨q0, q1, q2, q3, q4⟩ := K1.out.c5
  by_cases c1 : 0 ≤ dt
  · have hf := Lib.hid (show T = 0 ∧ U = 1 by
      have hM : M = false := by
        cases M with
        | false => rfl
        | true => have := hmy rfl; omega
      rw [hM] at hT hU
      rw [hT, hU]
      simp only [Bool.false_eq_true, if_false]
      rw [if_neg (by omega)]
      exact ⟨by rfl, by trivial⟩)
    clear hT hU hmy hmid hes
    go_enter Try.func54, Try.ntmps54
    go_wp2_with fail
    refine (HP.out _).mono ?_
    rintro e w1 ⟨rfl, r1⟩
    clear p0 p1 p2 p3 p4 q0 q1 q2 q3 q4
    have HB1 := Lib.hid (HB0.out.trans (r1.mono HB0.out.size))
    replace K0 := Lib.hid (K0.out.on r1)
    replace K1 := Lib.hid (K1.out.on r1)
    clear HB0 r1
    have HB0 := HB1
    clear HB1
    obtain ⟨p0, p1, p2, p3, p4⟩ := K0.out.c5
    obtain ⟨q0, q1, q2, q3, q4⟩ := K1.out.c5
    go_wp2_with fail
    refine (HQ.out _).mono ?_
    rintro e w2 ⟨rfl, r1⟩
    clear p0 p1 p2 p3 p4 q0 q1 q2 q3 q4
    have HB1 := Lib.hid (HB0.out.trans (r1.mono HB0.out.size))
    replace K0 := Lib.hid (K0.out.on r1)
    replace K1 := Lib.hid (K1.out.on r1)
    clear HB0 r1
    have HB0 := HB1
    clear HB1
    go_wp2_with fail
    exact bodyPost_ret (v := .tuple #[.int .i64 0, .int .i64 1, .bool true]) (by simp [results, Try.results54, go_sem]) rfl ⟨by rw [hf.out.1, hf.out.2], below_new (below_new HB0.out _) _⟩
  · by_cases c2 : sz ≤ -dt
    · have hf := Lib.hid (show T = c ∧ U = 1 by
        have hM : M = false := by
          cases M with
          | false => rfl
          | true => have := hmy rfl; omega
        rw [hM] at hT hU
        rw [hT, hU]
        simp only [Bool.false_eq_true, if_false]
        rw [if_pos (by omega)]
        exact ⟨by rfl, by trivial⟩)
      clear hT hU hmy hmid hes
      go_enter Try.func54, Try.ntmps54
      go_wp2_with fail
      refine (HP.out _).mono ?_
      rintro e w1 ⟨rfl, r1⟩
      clear p0 p1 p2 p3 p4 q0 q1 q2 q3 q4
      have HB1 := Lib.hid (HB0.out.trans (r1.mono HB0.out.size))
      replace K0 := Lib.hid (K0.out.on r1)
      replace K1 := Lib.hid (K1.out.on r1)
      clear HB0 r1
      have HB0 := HB1
      clear HB1
      obtain ⟨p0, p1, p2, p3, p4⟩ := K0.out.c5
      obtain ⟨q0, q1, q2, q3, q4⟩ := K1.out.c5
      go_wp2_with fail
      refine (HQ.out _).mono ?_
      rintro e w2 ⟨rfl, r1⟩
      clear p0 p1 p2 p3 p4 q0 q1 q2 q3 q4
      have HB1 := Lib.hid (HB0.out.trans (r1.mono HB0.out.size))
      replace K0 := Lib.hid (K0.out.on r1)
      replace K1 := Lib.hid (K1.out.on r1)
      clear HB0 r1
      have HB0 := HB1
      clear HB1
      obtain ⟨p0, p1, p2, p3, p4⟩ := ((K0.out.alloc (.cells #[.int .i64 (a1 - b1), .int .i64 (a2 - b2)] 60)).alloc (.cells #[.int .i64 (a3 - b3 - (a1 - b1)), .int .i64 (a4 - b4 - (a2 - b2))] 60)).c5
      go_wp2_with fail
      exact bodyPost_ret (v := .tuple #[.int .i64 c, .int .i64 1, .bool true]) (by simp [results, Try.results54, go_sem]) rfl ⟨by rw [hf.out.1, hf.out.2], below_new (below_new HB0.out _) _⟩
    · have hf := Lib.hid (show T = tmA (-dt * c) sz ∧ U = tmB (-dt * c) sz by
        have hM : M = true := hmid (by omega) (by omega)
        rw [hM] at hT hU
        rw [hT, hU]; exact ⟨rfl, rfl⟩)
      have hm0 : 0 ≤ -dt * c := Int.mul_nonneg (by omega) (by omega)
      have PL := Lib.hid (fun W => lowestTerms_any (-dt * c) sz W hm0 (by omega) (by omega) (by omega))
      clear hT hU hmy hmid hes
      go_enter Try.func54, Try.ntmps54
      go_wp2_with fail
      refine (HP.out _).mono ?_
      rintro e w1 ⟨rfl, r1⟩
      clear p0 p1 p2 p3 p4 q0 q1 q2 q3 q4
      have HB1 := Lib.hid (HB0.out.trans (r1.mono HB0.out.size))
      replace K0 := Lib.hid (K0.out.on r1)
      replace K1 := Lib.hid (K1.out.on r1)
      clear HB0 r1
      have HB0 := HB1
      clear HB1
      obtain ⟨p0, p1, p2, p3, p4⟩ := K0.out.c5
      obtain ⟨q0, q1, q2, q3, q4⟩ := K1.out.c5
      go_wp2_with fail
      refine (HQ.out _).mono ?_
      rintro e w2 ⟨rfl, r1⟩
      clear p0 p1 p2 p3 p4 q0 q1 q2 q3 q4
      have HB1 := Lib.hid (HB0.out.trans (r1.mono HB0.out.size))
      replace K0 := Lib.hid (K0.out.on r1)
      replace K1 := Lib.hid (K1.out.on r1)
      clear HB0 r1
      have HB0 := HB1
      clear HB1
      obtain ⟨p0, p1, p2, p3, p4⟩ := ((K0.out.alloc (.cells #[.int .i64 (a1 - b1), .int .i64 (a2 - b2)] 60)).alloc (.cells #[.int .i64 (a3 - b3 - (a1 - b1)), .int .i64 (a4 - b4 - (a2 - b2))] 60)).c5
      go_wp2_with fail
      refine (PL.out _).mono ?_
      rintro e w3 ⟨rfl, r2⟩
      have HB3 := Lib.hid (below_on (below_new (below_new HB0.out _) _) r2)
      clear r2
      go_wp2_with fail
      exact bodyPost_ret (v := .tuple #[.int .i64 (tmA (-dt * c) sz), .int .i64 (tmB (-dt * c) sz), .bool true]) (by simp [results, Try.results54, go_sem]) rfl ⟨by rw [hf.out.1, hf.out.2], HB3.out⟩
set_option maxRecDepth 100000 in
set_option maxHeartbeats 2000000 in
theorem specClosestTime_any (a1 a2 a3 a4 b1 b2 b3 b4 c : Int) (w : World) (ha : mvB a1 a2 a3 a4 c = true) (hb : mvB b1 b2 b3 b4 c = true) :
    Calls Try.prog 53 #[(Value.agg #[Value.int .i64 a1, Value.int .i64 a2, Value.int .i64 a3, Value.int .i64 a4, Value.int .i64 c]), (Value.agg #[Value.int .i64 b1, Value.int .i64 b2, Value.int .i64 b3, Value.int .i64 b4, Value.int .i64 c])] w fun e w' =>
      e = .returned (.tuple #[.int .i64 (tmT (a1 - b1) (a2 - b2) (a3 - b3) (a4 - b4) c), .int .i64 (tmU (a1 - b1) (a2 - b2) (a3 - b3) (a4 - b4) c), .bool true]) ∧ Below w.heap.size w w' := by
  have P := fun W => apGood_any a1 a2 a3 a4 b1 b2 b3 b4 c W ha hb
  have hoa := ok_of ha
  have hob := ok_of hb
  have Q := fun W => apInner_any a1 a2 a3 a4 c b1 b2 b3 b4 c W hoa.1 hob.1
  have R := fun W => apEnds_any a1 a2 a3 a4 c b1 b2 b3 b4 c W hoa.1 hob.1
  obtain ⟨ha, hc0, hc⟩ := hoa
  obtain ⟨hb, _, _⟩ := hob
  obtain ⟨⟨h1, h2⟩, ⟨h3, h4⟩, ⟨h5, h6⟩, h7, h8⟩ := ha
  obtain ⟨⟨k1, k2⟩, ⟨k3, k4⟩, ⟨k5, k6⟩, k7, k8⟩ := hb
  have hw1 : wide 1280 (a1 - b1) (a2 - b2) := ⟨by omega, by omega, by omega, by omega⟩
  have hw2 : wide 1280 (a3 - b3) (a4 - b4) := ⟨by omega, by omega, by omega, by omega⟩
  obtain ⟨d1, d2, d3, d4, d5⟩ := dt_in hw1 hw2
  have d6 := sz0 (a1 - b1) (a2 - b2) (a3 - b3) (a4 - b4)
  have hcr := mul_wide (x := crOf (a1 - b1) (a2 - b2) (a3 - b3) (a4 - b4)) (y := crOf (a1 - b1) (a2 - b2) (a3 - b3) (a4 - b4)) (a := 6553600) (b := 6553600) (by omega) (by omega) (by omega) (by omega)
  have hcr0 := sq0 (crOf (a1 - b1) (a2 - b2) (a3 - b3) (a4 - b4))
  have hes := end_sq (a1 - b1) (a2 - b2) (a3 - b3) (a4 - b4)
  have hmid := lp_mid (px := a1 - b1) (py := a2 - b2) (qx := a3 - b3) (qy := a4 - b4)
  have hmy := mid_yes (px := a1 - b1) (py := a2 - b2) (qx := a3 - b3) (qy := a4 - b4)
  have hT : tmT (a1 - b1) (a2 - b2) (a3 - b3) (a4 - b4) c = if inMid (a1 - b1) (a2 - b2) (a3 - b3) (a4 - b4) = true then tmA (-dtOf (a1 - b1) (a2 - b2) (a3 - b3) (a4 - b4) * c) (szOf (a1 - b1) (a2 - b2) (a3 - b3) (a4 - b4)) else if (a3 - b3) * (a3 - b3) + (a4 - b4) * (a4 - b4) < (a1 - b1) * (a1 - b1) + (a2 - b2) * (a2 - b2) then c else 0 := rfl
  have hU : tmU (a1 - b1) (a2 - b2) (a3 - b3) (a4 - b4) c = if inMid (a1 - b1) (a2 - b2) (a3 - b3) (a4 - b4) = true then tmB (-dtOf (a1 - b1) (a2 - b2) (a3 - b3) (a4 - b4) * c) (szOf (a1 - b1) (a2 - b2) (a3 - b3) (a4 - b4)) else 1 := rfl
  obtain ⟨T, eT⟩ : ∃ x, tmT (a1 - b1) (a2 - b2) (a3 - b3) (a4 - b4) c = x := ⟨_, rfl⟩
  obtain ⟨U, eU⟩ : ∃ x, tmU (a1 - b1) (a2 - b2) (a3 - b3) (a4 - b4) c = x := ⟨_, rfl⟩
  obtain ⟨dt, edt⟩ : ∃ x, dtOf (a1 - b1) (a2 - b2) (a3 - b3) (a4 - b4) = x := ⟨_, rfl⟩
  obtain ⟨sz, esz⟩ : ∃ x, szOf (a1 - b1) (a2 - b2) (a3 - b3) (a4 - b4) = x := ⟨_, rfl⟩
  obtain ⟨M, eM⟩ : ∃ x, inMid (a1 - b1) (a2 - b2) (a3 - b3) (a4 - b4) = x := ⟨_, rfl⟩
  have hI : inT (a1 - b1) (a2 - b2) (a3 - b3) (a4 - b4) = if inMid (a1 - b1) (a2 - b2) (a3 - b3) (a4 - b4) = true then -dtOf (a1 - b1) (a2 - b2) (a3 - b3) (a4 - b4) else 0 := rfl
  have hJ : inU (a1 - b1) (a2 - b2) (a3 - b3) (a4 - b4) = if inMid (a1 - b1) (a2 - b2) (a3 - b3) (a4 - b4) = true then szOf (a1 - b1) (a2 - b2) (a3 - b3) (a4 - b4) else 0 := rfl
  obtain ⟨I, eI⟩ : ∃ x, inT (a1 - b1) (a2 - b2) (a3 - b3) (a4 - b4) = x := ⟨_, rfl⟩
  obtain ⟨J, eJ⟩ : ∃ x, inU (a1 - b1) (a2 - b2) (a3 - b3) (a4 - b4) = x := ⟨_, rfl⟩
  rw [eI, eM, edt] at hI
  rw [eJ, eM, esz] at hJ
  rw [eI, eJ] at Q
  rw [eT, eM, edt, esz] at hT
  rw [eU, eM, edt, esz] at hU
  rw [edt, esz] at hmy
  rw [eM] at hmy
  rw [esz] at d3 d6
  rw [edt] at d1 d2
  rw [eT, eU]
  have n1 := mul_wide (x := a1 - b1) (y := a1 - b1) (a := 1280) (b := 1280) (by omega) (by omega) (by omega) (by omega)
  have n2 := mul_wide (x := a2 - b2) (y := a2 - b2) (a := 1280) (b := 1280) (by omega) (by omega) (by omega) (by omega)
  have n3 := mul_wide (x := a3 - b3) (y := a3 - b3) (a := 1280) (b := 1280) (by omega) (by omega) (by omega) (by omega)
  have n4 := mul_wide (x := a4 - b4) (y := a4 - b4) (a := 1280) (b := 1280) (by omega) (by omega) (by omega) (by omega)
  obtain ⟨p, ep⟩ : ∃ x, a1 - b1 = x := ⟨_, rfl⟩
  obtain ⟨q, eq⟩ : ∃ x, a2 - b2 = x := ⟨_, rfl⟩
  obtain ⟨r, er⟩ : ∃ x, a3 - b3 = x := ⟨_, rfl⟩
  obtain ⟨s, es⟩ : ∃ x, a4 - b4 = x := ⟨_, rfl⟩
  clear d4 d5 hcr hcr0 hw1 hw2 eT eU eM edt esz eI eJ hmid hes
  rw [ep, eq, er, es] at R hT
  rw [ep] at n1
  rw [eq] at n2
  rw [er] at n3
  rw [es] at n4
  clear ep eq er es
  have HP := Lib.hid P
  have HQ := Lib.hid Q
  have HR := Lib.hid R
  clear P Q R h1 h2 h3 h4 h5 h6 h7 h8 k1 k2 k3 k4 k5 k6 k7 k8 ha hb
  have K0 := (Blk.new w 62 #[.int .i64 a1, .int .i64 a2, .int .i64 a3, .int .i64 a4, .int .i64 c]).alloc (.cells #[.int .i64 b1, .int .i64 b2, .int .i64 b3, .int .i64 b4, .int .i64 c] 62)
  have K1 := Blk.new2 w (.cells #[.int .i64 a1, .int .i64 a2, .int .i64 a3, .int .i64 a4, .int .i64 c] 62) 62 #[.int .i64 b1, .int .i64 b2, .int .i64 b3, .int .i64 b4, .int .i64 c]
  have HB0 := Lib.hid (below_new (below_new (Below.refl w.heap.size w) (.cells #[.int .i64 a1, .int .i64 a2, .int .i64 a3, .int .i64 a4, .int .i64 c] 62)) (.cells #[.int .i64 b1, .int .i64 b2, .int .i64 b3, .int .i64 b4, .int .i64 c] 62))
  replace K0 := Lib.hid K0
  replace K1 := Lib.hid K1
  obtain ⟨p0, p1, p2, p3, p4⟩ := K0.out.c5
  obtain ⟨q0, q1, q2, q3, q4⟩ := K1.out.c5
  cases M with
  | true =>
    have hmm := hmy rfl
    have hJ2 : J = sz := hJ
    have hI2 : I = -dt := hI
    subst hJ2
    have hI0 : 0 ≤ I ∧ I ≤ 6553600 := by omega
    have m1 := mul_wide (x := I) (y := c) (a := 6553600) (b := 64) (by omega) (by omega) (by omega) (by omega)
    have hm0 : 0 ≤ I * c := Int.mul_nonneg (by omega) (by omega)
    have hJ0 : 0 < J := by omega
    have hf := Lib.hid (show T = tmA (I * c) J ∧ U = tmB (I * c) J by rw [hI2]; exact ⟨hT, hU⟩)
    have PL := Lib.hid (fun W => mvPart_any (I * c) J W hm0 (by omega) hJ0 (by omega))
    clear hT hU hI hJ hmy hmm hI2
    go_enter Try.func53, Try.ntmps53
    go_wp2_with fail
    refine (HP.out _).mono ?_
    rintro e w1 ⟨rfl, r1⟩
    clear p0 p1 p2 p3 p4 q0 q1 q2 q3 q4
    have HB1 := Lib.hid (HB0.out.trans (r1.mono HB0.out.size))
    replace K0 := Lib.hid (K0.out.on r1)
    replace K1 := Lib.hid (K1.out.on r1)
    clear HB0 r1
    have HB0 := HB1
    clear HB1
    obtain ⟨p0, p1, p2, p3, p4⟩ := K0.out.c5
    obtain ⟨q0, q1, q2, q3, q4⟩ := K1.out.c5
    go_wp2_with fail
    refine (HQ.out _).mono ?_
    rintro e w2 ⟨rfl, r1⟩
    clear p0 p1 p2 p3 p4 q0 q1 q2 q3 q4
    have HB1 := Lib.hid (HB0.out.trans (r1.mono HB0.out.size))
    replace K0 := Lib.hid (K0.out.on r1)
    replace K1 := Lib.hid (K1.out.on r1)
    clear HB0 r1
    have HB0 := HB1
    clear HB1
    obtain ⟨p0, p1, p2, p3, p4⟩ := K0.out.c5
    obtain ⟨q0, q1, q2, q3, q4⟩ := K1.out.c5
    go_wp2_with fail
    refine (PL.out _).mono ?_
    rintro e w3 ⟨rfl, r2⟩
    have HB3 := Lib.hid (below_on HB0.out r2)
    clear r2
    go_wp2_with fail
    exact bodyPost_ret (v := .tuple #[.int .i64 (tmA (I * c) J), .int .i64 (tmB (I * c) J), .bool true]) (by simp [results, Try.results53, go_sem]) rfl ⟨by rw [hf.out.1, hf.out.2], HB3.out⟩
  | false =>
    have hJ2 : J = 0 := hJ
    subst hJ2
    have hT2 : T = if r * r + s * s < p * p + q * q then c else 0 := hT
    have hU2 : U = 1 := hU
    clear hT hU hI hJ hmy
    by_cases hlt : r * r + s * s < p * p + q * q
    · have hf := Lib.hid (show T = c ∧ U = 1 from ⟨hT2.trans (if_pos hlt), hU2⟩)
      have hd : decide (r * r + s * s < p * p + q * q) = true := decide_eq_true hlt
      clear hT2 hU2
      go_enter Try.func53, Try.ntmps53
      go_wp2_with fail
      refine (HP.out _).mono ?_
      rintro e w1 ⟨rfl, r1⟩
      clear p0 p1 p2 p3 p4 q0 q1 q2 q3 q4
      have HB1 := Lib.hid (HB0.out.trans (r1.mono HB0.out.size))
      replace K0 := Lib.hid (K0.out.on r1)
      replace K1 := Lib.hid (K1.out.on r1)
      clear HB0 r1
      have HB0 := HB1
      clear HB1
      obtain ⟨p0, p1, p2, p3, p4⟩ := K0.out.c5
      obtain ⟨q0, q1, q2, q3, q4⟩ := K1.out.c5
      go_wp2_with fail
      refine (HQ.out _).mono ?_
      rintro e w2 ⟨rfl, r1⟩
      clear p0 p1 p2 p3 p4 q0 q1 q2 q3 q4
      have HB1 := Lib.hid (HB0.out.trans (r1.mono HB0.out.size))
      replace K0 := Lib.hid (K0.out.on r1)
      replace K1 := Lib.hid (K1.out.on r1)
      clear HB0 r1
      have HB0 := HB1
      clear HB1
      obtain ⟨p0, p1, p2, p3, p4⟩ := K0.out.c5
      obtain ⟨q0, q1, q2, q3, q4⟩ := K1.out.c5
      go_wp2_with fail
      refine (HR.out _).mono ?_
      rintro e w3 ⟨rfl, r1⟩
      clear p0 p1 p2 p3 p4 q0 q1 q2 q3 q4
      have HB1 := Lib.hid (HB0.out.trans (r1.mono HB0.out.size))
      replace K0 := Lib.hid (K0.out.on r1)
      replace K1 := Lib.hid (K1.out.on r1)
      clear HB0 r1
      have HB0 := HB1
      clear HB1
      obtain ⟨p0, p1, p2, p3, p4⟩ := K0.out.c5
      obtain ⟨q0, q1, q2, q3, q4⟩ := K1.out.c5
      go_wp2_with fail
      exact bodyPost_ret (v := .tuple #[.int .i64 c, .int .i64 1, .bool true]) (by simp [results, Try.results53, go_sem]) rfl ⟨by rw [hf.out.1, hf.out.2], HB0.out⟩
    · have hf := Lib.hid (show T = 0 ∧ U = 1 from ⟨hT2.trans (if_neg hlt), hU2⟩)
      have hd : decide (r * r + s * s < p * p + q * q) = false := decide_eq_false hlt
      clear hT2 hU2
      go_enter Try.func53, Try.ntmps53
      go_wp2_with fail
      refine (HP.out _).mono ?_
      rintro e w1 ⟨rfl, r1⟩
      clear p0 p1 p2 p3 p4 q0 q1 q2 q3 q4
      have HB1 := Lib.hid (HB0.out.trans (r1.mono HB0.out.size))
      replace K0 := Lib.hid (K0.out.on r1)
      replace K1 := Lib.hid (K1.out.on r1)
      clear HB0 r1
      have HB0 := HB1
      clear HB1
      obtain ⟨p0, p1, p2, p3, p4⟩ := K0.out.c5
      obtain ⟨q0, q1, q2, q3, q4⟩ := K1.out.c5
      go_wp2_with fail
      refine (HQ.out _).mono ?_
      rintro e w2 ⟨rfl, r1⟩
      clear p0 p1 p2 p3 p4 q0 q1 q2 q3 q4
      have HB1 := Lib.hid (HB0.out.trans (r1.mono HB0.out.size))
      replace K0 := Lib.hid (K0.out.on r1)
      replace K1 := Lib.hid (K1.out.on r1)
      clear HB0 r1
      have HB0 := HB1
      clear HB1
      obtain ⟨p0, p1, p2, p3, p4⟩ := K0.out.c5
      obtain ⟨q0, q1, q2, q3, q4⟩ := K1.out.c5
      go_wp2_with fail
      refine (HR.out _).mono ?_
      rintro e w3 ⟨rfl, r1⟩
      clear p0 p1 p2 p3 p4 q0 q1 q2 q3 q4
      have HB1 := Lib.hid (HB0.out.trans (r1.mono HB0.out.size))
      replace K0 := Lib.hid (K0.out.on r1)
      replace K1 := Lib.hid (K1.out.on r1)
      clear HB0 r1
      have HB0 := HB1
      clear HB1
      go_wp2_with fail
      exact bodyPost_ret (v := .tuple #[.int .i64 0, .int .i64 1, .bool true]) (by simp [results, Try.results53, go_sem]) rfl ⟨by rw [hf.out.1, hf.out.2], HB0.out⟩
end Go.Proofs.Ytmklinmlliabaaa
